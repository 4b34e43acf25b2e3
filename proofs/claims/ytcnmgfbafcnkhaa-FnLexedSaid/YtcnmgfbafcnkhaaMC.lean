import Derived.Test.YtcnmgfbafcnkhaaMB
import Derived.SizedLaws
import Derived.ProofKit
import Derived.Deep.Slices
/- The value machine, part D: rules for drawn regions, maps, and what is handed over. -/
namespace Go.Proofs.Ytcnmgfbafcnkhaa.V
open Go.RowKit
open Go.Maps (Keyed)
set_option linter.unusedVariables false
set_option linter.unusedSimpArgs false
section
variable {P : Program} {n : Nat} {s : VS} {K : VX → VS → Prop} {k : VS → Prop} {all r : List Oper}
/-- a drawn region: the last operation that writes, a plan of the orders -/
theorem vc_drawn {id : Nat} {l : List Oper} (fin : List Nat) (p : Plan) (hok : regionOk P l.toArray fin p = true) (h : vplan P n l fin p s (K .normal)) : vc P n (.region id l.toArray true) s K := ⟨fin, p, hok, .inl (by simpa using h)⟩
/-- .. each of whose orders ends in what may be said as one state -/
theorem vc_drawnE {id : Nat} {l : List Oper} (S1 : VS) (fin : List Nat) (p : Plan) (hok : regionOk P l.toArray fin p = true) (h : vplan P n l fin p s (fun s' => Ent s' S1)) (h2 : K .normal S1) : vc P n (.region id l.toArray true) s K := ⟨fin, p, hok, .inr ⟨S1, by simpa using h, h2⟩⟩
/-- a state's objects under other numbers: ks, the old ones -/
def MemS (f : Nat → Nat) (m : Nat) (mem : List (Option Ob)) : List Nat → List (Option Ob) → Prop
  | [], [] => True
  | _ :: ks, none :: r => MemS f m mem ks r
  | k :: ks, some ob' :: r => (MemAt f m ob' (mem[k]?) ∨ ShAt f m ob' (mem[k]?)) ∧ MemS f m mem ks r
  | _, _ => False
theorem memS_get {f : Nat → Nat} {m : Nat} {mem : List (Option Ob)} : ∀ {ks : List Nat} {r : List (Option Ob)}, MemS f m mem ks r → r.length = ks.length ∧ ∀ (j : Nat) ob', r[j]? = some (some ob') → ∃ ob, mem[ks.getD j 0]? = some (some ob) ∧ (ObRn f m ob ob' ∨ ShOb f m ob ob')
  | [], [], _ => ⟨rfl, fun j ob h => by simp at h⟩
  | k :: ks, none :: r, h => by
    obtain ⟨h1, h2⟩ := memS_get (ks := ks) (r := r) h
    refine ⟨by simp [h1], fun j ob' hj => ?_⟩
    cases j with
    | zero => simp at hj
    | succ j => exact h2 j ob' (by simpa using hj)
  | k :: ks, some ob0 :: r, h => by
    obtain ⟨h1, h2⟩ := memS_get (ks := ks) (r := r) h.2
    refine ⟨by simp [h1], fun j ob' hj => ?_⟩
    cases j with
    | zero =>
      simp only [List.getElem?_cons_zero, Option.some.injEq] at hj
      subst hj
      show ∃ ob, mem[k]? = some (some ob) ∧ _
      have h3 := h.1
      generalize mem[k]? = y at h3
      match y, h3 with
      | some (some o), h3 => exact ⟨o, rfl, h3⟩
      | some none, h3 => rcases h3 with h3 | h3 <;> exact h3.elim
      | none, h3 => rcases h3 with h3 | h3 <;> exact h3.elim
    | succ j => exact h2 j ob' (by simpa using hj)
  | [], _ :: _, h => h.elim
  | _ :: _, [], h => h.elim
/-- the own objects ks, and they alone, under the numbers 0, 1, .. -/
theorem ent_ks (ks : List Nat) {t t' : List (Nat × AV)} {m m' : List (Option Ob)} {M M' : List (Nat × Mp)} {x : Nat} (hnd : ks.Nodup) (hlt : ∀ k, k ∈ ks → k < m.length) (hx : x ≤ ks.length) (hf : ∀ k, k < x → ks.getD k 0 = k) (hM : MapsLe M M')
    (h1 : TmpsR (fun j => ks.getD j 0) ks.length t t') (h4 : MemS (fun j => ks.getD j 0) ks.length m ks m') : Ent ⟨t, m, M, x⟩ ⟨t', m', M', x⟩ := by
  obtain ⟨hl, h5⟩ := memS_get h4
  rw [← hl] at h1 h5
  refine Ent.of_leS (f := fun j => ks.getD j 0) ⟨⟨rfl, by simp only; omega, hf⟩, mapsLe_get hM, tmpsR_get h1, fun k hk => ?_, fun k k' hk hk' e => ?_, h5⟩
  · have hk' : k < ks.length := by simp only at hk; omega
    simp only [List.getD_eq_getElem?_getD, List.getElem?_eq_getElem hk', Option.getD_some]
    exact hlt _ (List.getElem_mem hk')
  · have l1 : k < ks.length := by simp only at hk; omega
    have l2 : k' < ks.length := by simp only at hk'; omega
    simp only [List.getD_eq_getElem?_getD, List.getElem?_eq_getElem l1, List.getElem?_eq_getElem l2, Option.getD_some] at e
    exact (List.getElem_inj hnd).1 e
def Kplan (P : Program) (n : Nat) (all : List Oper) (fin : List Nat) (p : Plan) (k : VS → Prop) (s : VS) : Prop := vplan P n all fin p s k
@[go_sem] theorem Kplan_ {fin : List Nat} {p : Plan} : Kplan P n all fin p k s = vplan P n all fin p s k := _root_.id rfl
def vplanO (P : Program) (n : Nat) (all : List Oper) (k : VS → Prop) (s : VS) : Option Oper → Prop
  | some o => vops P n all [o] s k
  | none => False
def vplanV (P : Program) (n : Nat) (all : List Oper) (k : VS → Prop) (s : VS) : Option Oper → Prop
  | some o => voneV P n all o s k
  | none => False
def vplanB (P : Program) (n : Nat) (all : List Oper) (k : VS → Prop) (s : VS) (o : Option Oper) : Bool → Prop
  | true => vplanO P n all k s o
  | false => vplanV P n all k s o
@[go_sem] theorem vplan_done {fin : List Nat} : vplan P n all fin .done s k = k s := _root_.id rfl
@[go_sem] theorem vplan_nil {fin : List Nat} : vplan P n all fin .nil s k = True := _root_.id rfl
@[go_sem] theorem vplan_q {fin : List Nat} {i : Nat} {p : Plan} : vplan P n all fin (.q i p) s k = vplanO P n all (Kplan P n all fin p k) s (all[i]?) := by
  simp only [vplan]
  cases all[i]? <;> rfl
@[go_sem] theorem vplan_or {fin : List Nat} {i : Nat} {p q : Plan} : vplan P n all fin (.or i p q) s k = (vplanB P n all (Kplan P n all fin p k) s (all[i]?) (decide (i ∈ fin)) ∧ vplan P n all fin q s k) := by
  simp only [vplan]
  cases all[i]? with
  | none => by_cases h : i ∈ fin <;> simp [h, vplanB, vplanO, vplanV]
  | some o => by_cases h : i ∈ fin <;> simp [h, vplanB, vplanO, vplanV] <;> intro _ <;> rfl
@[go_sem] theorem vplanB_t {o : Option Oper} : vplanB P n all k s o true = vplanO P n all k s o := _root_.id rfl
@[go_sem] theorem vplanB_f {o : Option Oper} : vplanB P n all k s o false = vplanV P n all k s o := _root_.id rfl
@[go_sem] theorem vplanO_s {o : Oper} : vplanO P n all k s (some o) = vops P n all [o] s k := _root_.id rfl
@[go_sem] theorem vplanV_s {o : Oper} : vplanV P n all k s (some o) = voneV P n all o s k := _root_.id rfl
section
variable {d : Option Tmp} {op : Op} {ty : TypeId} {ps : String} {af : Array Edge} {g : Option (Nat × Bool)}
@[go_sem] theorem voneV_n : voneV P n all ⟨d, op, ty, ps, af, none⟩ s k = vstepV P n ⟨d, op, ty, ps, af, none⟩ s k := _root_.id rfl
def vgV (P : Program) (n : Nat) (o : Oper) (s : VS) (k : VS → Prop) (b : Bool) (t : Tmp) : AV → Prop
  | .lit (.bool c) => (c = b → vstepV P n o { s with tmps := (t, .lit (.bool b)) :: s.tmps } k) ∧ (c = !b → putO n o.dst (.lit undef) { s with tmps := (t, .lit (.bool (!b))) :: s.tmps } k)
  | .lit (.tuple _) => putO n o.dst (.lit undef) s k
  | _ => False
def vgVO (P : Program) (n : Nat) (o : Oper) (s : VS) (k : VS → Prop) (b : Bool) : Option Tmp → Prop
  | some t => vgV P n o s k b t (lk s.tmps t)
  | none => False
@[go_sem] theorem voneV_g {i : Nat} {b : Bool} : voneV P n all ⟨d, op, ty, ps, af, some (i, b)⟩ s k = vgVO P n ⟨d, op, ty, ps, af, some (i, b)⟩ s k b (slotOf all i) := by
  simp only [voneV]
  cases slotOf all i with
  | none => rfl
  | some t =>
    simp only [vgVO]
    generalize lk s.tmps t = v
    cases v with
    | lit v => cases v <;> rfl
    | _ => rfl
@[go_sem] theorem vgVO_s {o : Oper} {b : Bool} {t : Tmp} : vgVO P n o s k b (some t) = vgV P n o s k b t (lk s.tmps t) := _root_.id rfl
@[go_sem] theorem vgV_b {o : Oper} {b : Bool} {t : Tmp} {c : Bool} : vgV P n o s k b t (.lit (.bool c)) = ((c = b → vstepV P n o { s with tmps := (t, .lit (.bool b)) :: s.tmps } k) ∧ (c = !b → putO n o.dst (.lit undef) { s with tmps := (t, .lit (.bool (!b))) :: s.tmps } k)) := _root_.id rfl
@[go_sem] theorem vgV_u {o : Oper} {b : Bool} {t : Tmp} : vgV P n o s k b t (.lit undef) = putO n o.dst (.lit undef) s k := _root_.id rfl
@[go_sem] theorem vgV_u' {o : Oper} {b : Bool} {t : Tmp} {q : Array Value} : vgV P n o s k b t (.lit (.tuple q)) = putO n o.dst (.lit undef) s k := _root_.id rfl
@[go_sem 2000] theorem vgV_tt {o : Oper} {t : Tmp} : vgV P n o s k true t (.lit (.bool true)) = vstepV P n o { s with tmps := (t, .lit (.bool true)) :: s.tmps } k := by simp [vgV]
@[go_sem 2000] theorem vgV_ff {o : Oper} {t : Tmp} : vgV P n o s k false t (.lit (.bool false)) = vstepV P n o { s with tmps := (t, .lit (.bool false)) :: s.tmps } k := by simp [vgV]
@[go_sem 2000] theorem vgV_tf {o : Oper} {t : Tmp} : vgV P n o s k true t (.lit (.bool false)) = putO n o.dst (.lit undef) { s with tmps := (t, .lit (.bool false)) :: s.tmps } k := by simp [vgV]
@[go_sem 2000] theorem vgV_ft {o : Oper} {t : Tmp} : vgV P n o s k false t (.lit (.bool true)) = putO n o.dst (.lit undef) { s with tmps := (t, .lit (.bool true)) :: s.tmps } k := by simp [vgV]
@[go_sem] theorem vsV_call {f : FuncId} {args : List Operand} {tys : Array TypeId} : vstepV P n ⟨d, .call { callee := .value (.func f), args := args.toArray, argTypes := tys }, ty, ps, af, g⟩ s k = vcallV P f (args.map (ev s)) s (Kput n d k) := _root_.id rfl
@[go_sem] theorem vsV_alloc {T : TypeId} : vstepV P n ⟨d, .alloc T, ty, ps, af, g⟩ s k = vstep P n ⟨d, .alloc T, ty, ps, af, g⟩ s k := _root_.id rfl
@[go_sem] theorem vsV_lit {T : TypeId} {len : Nat} {parts : Array (Nat × Operand)} : vstepV P n ⟨d, .buildSlice T len parts, ty, ps, af, g⟩ s k = vstep P n ⟨d, .buildSlice T len parts, ty, ps, af, g⟩ s k := _root_.id rfl

def vdynVM (P : Program) (s : VS) (k : AV → VS → Prop) (avs : List AV) : Option FuncId → Prop
  | some f => vcallV P f avs s k
  | none => False
def vinvVA (P : Program) (s : VS) (k : AV → VS → Prop) (name : String) (avs : List AV) : AV → Prop
  | .lit (.iface t v) => vdynVM P s k (.lit v :: avs) (methOf P t name)
  | _ => False
@[go_sem] theorem vsV_move {x : Operand} : vstepV P n ⟨d, .move x, ty, ps, af, g⟩ s k = vstep P n ⟨d, .move x, ty, ps, af, g⟩ s k := by simp [vstepV, vstep, callD, dynOf, callOf, quiet4]
@[go_sem] theorem vsV_pick {x y z : Operand} : vstepV P n ⟨d, .pick x y z, ty, ps, af, g⟩ s k = vstep P n ⟨d, .pick x y z, ty, ps, af, g⟩ s k := by simp [vstepV, vstep, callD, dynOf, callOf, quiet4]
@[go_sem] theorem vsV_load {T : TypeId} {x : Operand} : vstepV P n ⟨d, .load T x, ty, ps, af, g⟩ s k = vstep P n ⟨d, .load T x, ty, ps, af, g⟩ s k := by simp [vstepV, vstep, callD, dynOf, callOf, quiet4]
@[go_sem] theorem vsV_fieldAddr {T : TypeId} {x : Operand} {f : Nat} : vstepV P n ⟨d, .fieldAddr T x f, ty, ps, af, g⟩ s k = vstep P n ⟨d, .fieldAddr T x f, ty, ps, af, g⟩ s k := by simp [vstepV, vstep, callD, dynOf, callOf, quiet4]
@[go_sem] theorem vsV_bin {b : BinOp} {T T2 : TypeId} {x y : Operand} : vstepV P n ⟨d, .binOp b T x y T2, ty, ps, af, g⟩ s k = vstep P n ⟨d, .binOp b T x y T2, ty, ps, af, g⟩ s k := by simp [vstepV, vstep, callD, dynOf, callOf, quiet4]
@[go_sem] theorem vsV_indexAddr {T : TypeId} {x y : Operand} : vstepV P n ⟨d, .indexAddr T x y, ty, ps, af, g⟩ s k = vstep P n ⟨d, .indexAddr T x y, ty, ps, af, g⟩ s k := by simp [vstepV, vstep, callD, dynOf, callOf, quiet4]
@[go_sem] theorem vsV_extract {x : Operand} {i : Nat} : vstepV P n ⟨d, .extract x i, ty, ps, af, g⟩ s k = vstep P n ⟨d, .extract x i, ty, ps, af, g⟩ s k := by simp [vstepV, vstep, callD, dynOf, callOf, quiet4]
@[go_sem] theorem vsV_assign {x : Operand} : vstepV P n ⟨d, .assign x, ty, ps, af, g⟩ s k = vstep P n ⟨d, .assign x, ty, ps, af, g⟩ s k := by simp [vstepV, vstep, callD, dynOf, callOf, quiet4]
@[go_sem] theorem vsV_inv {r : Operand} {name : String} {args : List Operand} {tys : Array TypeId} : vstepV P n ⟨d, .call { callee := .invoke r name, args := args.toArray, argTypes := tys }, ty, ps, af, g⟩ s k = vinvVA P s (Kput n d k) name (args.map (ev s)) (ev s r) := by
  have h0 : (quiet4 P (.call { callee := .invoke r name, args := args.toArray, argTypes := tys }) = true ∧ vop4 P (.call { callee := .invoke r name, args := args.toArray, argTypes := tys }) s (Kput n d k)) = False := by simp [quiet4]
  unfold vstepV callD dynOf callOf
  simp only
  generalize ev s r = ar
  cases ar with
  | lit v =>
    cases v with
    | iface t v =>
      simp only [vinvVA]
      cases methOf P t name with
      | none => exact h0
      | some f => rfl
    | _ => exact h0
  | _ => exact h0
@[go_sem] theorem vinvVA_i {k : AV → VS → Prop} {name : String} {avs : List AV} {t : TypeId} {v : Value} : vinvVA P s k name avs (.lit (.iface t v)) = vdynVM P s k (.lit v :: avs) (methOf P t name) := _root_.id rfl
@[go_sem] theorem vdynVM_s {k : AV → VS → Prop} {avs : List AV} {f : FuncId} : vdynVM P s k avs (some f) = vcallV P f avs s k := _root_.id rfl
/-- a number of another kind -/
@[go_sem] theorem vsV_conv {t1 t2 : TypeId} {x : Operand} : vstepV P n ⟨d, .convert t1 t2 x, ty, ps, af, g⟩ s k = (quiet4 P (.convert t1 t2 x) = true ∧ vstep P n ⟨d, .convert t1 t2 x, ty, ps, af, g⟩ s k) := by simp [vstepV, vstep, callD, dynOf, callOf]
@[go_sem] theorem vsV_mkif {T : TypeId} {x : Operand} : vstepV P n ⟨d, .makeInterface T x, ty, ps, af, g⟩ s k = vstep P n ⟨d, .makeInterface T x, ty, ps, af, g⟩ s k := by simp [vstepV, vstep, callD, dynOf, callOf, quiet4]
@[go_sem] theorem vsV_build {T : TypeId} {parts : Array (Nat × Operand)} : vstepV P n ⟨d, .build T parts, ty, ps, af, g⟩ s k = vstep P n ⟨d, .build T parts, ty, ps, af, g⟩ s k := by simp [vstepV, vstep, callD, dynOf, callOf, quiet4]
@[go_sem] theorem vs_minsert {t : TypeId} {m x v : Operand} : vstep P n ⟨d, .insert t m x v, ty, ps, af, g⟩ s k = vstep P n ⟨d, .mapUpdate t m x v, ty, ps, af, g⟩ s k := _root_.id rfl
/-! maps -/
def vmmakeU (s : VS) (k : AV → VS → Prop) : Option TypeDesc → Prop
  | some (.map kt e) => ∀ b, lkm s.maps b = none → k (.lit (.map (some b))) { s with maps := (b, ⟨kt, []⟩) :: s.maps }
  | _ => False
@[go_sem] theorem vs_mmake {t : TypeId} : vstep P n ⟨d, .makeMap t none, ty, ps, af, g⟩ s k = vmmakeU s (Kput n d k) (P.underlying t) := by
  show vmmake P t s (Kput n d k) = _
  unfold vmmake
  cases P.underlying t with
  | none => rfl
  | some D => cases D <;> rfl
@[go_sem] theorem vmmakeU_s {k : AV → VS → Prop} {kt e : TypeId} : vmmakeU s k (some (.map kt e)) = ∀ b, lkm s.maps b = none → k (.lit (.map (some b))) { s with maps := (b, ⟨kt, []⟩) :: s.maps } := _root_.id rfl
def lookAV (ok : Bool) (v : Option Value) (z : Value) : AV := if ok then .tup [.lit (v.getD z), .lit (.bool v.isSome)] else .lit (v.getD z)
@[go_sem] theorem lookAV_t {v : Option Value} {z : Value} : lookAV true v z = .tup [.lit (v.getD z), .lit (.bool v.isSome)] := _root_.id rfl
@[go_sem] theorem lookAV_f {v : Option Value} {z : Value} : lookAV false v z = .lit (v.getD z) := _root_.id rfl
/-- a look-up: the map's entries, the key, the zero value -/
def vlookK (P : Program) (ok : Bool) (s : VS) (k : AV → VS → Prop) : Option Mp → Option TypeDesc → Option Value → Prop
  | some mp, some (.map kt e), some kv => mp.kt = kt ∧ Keyed P kt ∧ (∃ l, keyOf P kt kv = some l) ∧ ∃ z, zeroIs P e z ∧ k (lookAV ok (mget mp.es kv) z) s
  | _, _, _ => False
def vlookA (P : Program) (t : TypeId) (ok : Bool) (s : VS) (k : AV → VS → Prop) (x : Option Value) : AV → Prop
  | .lit (.map (some b)) => vlookK P ok s k (lkm s.maps b) (P.underlying t) x
  | _ => False
@[go_sem] theorem vs_look {t : TypeId} {m x : Operand} {ok : Bool} : vstep P n ⟨d, .lookup t m x ok, ty, ps, af, g⟩ s k = vlookA P t ok s (Kput n d k) (toVal (ev s x)) (ev s m) := by
  show vlook P t ok s (Kput n d k) (ev s m) (ev s x) = _
  generalize ev s m = u
  generalize ev s x = y
  cases u with
  | lit v =>
    cases v with
    | map b =>
      cases b with
      | none => rfl
      | some b =>
        simp only [vlook, vlookA]
        cases lkm s.maps b with
        | none => rfl
        | some mp =>
          cases P.underlying t with
          | none => rfl
          | some D =>
            cases D <;> first | rfl | (cases toVal y <;> rfl)
    | _ => rfl
  | _ => rfl
@[go_sem] theorem vlookA_m {t : TypeId} {ok : Bool} {k : AV → VS → Prop} {x : Option Value} {b : Nat} : vlookA P t ok s k x (.lit (.map (some b))) = vlookK P ok s k (lkm s.maps b) (P.underlying t) x := _root_.id rfl
theorem vlookK_use {ok : Bool} {k : AV → VS → Prop} {kt e : TypeId} {es : List (Value × Value)} {kv : Value} (K : Keyed P kt) (hk : ∃ l, keyOf P kt kv = some l) (z : Value) (hz : zeroIs P e z) (h : k (lookAV ok (mget es kv) z) s) : vlookK P ok s k (some ⟨kt, es⟩) (some (.map kt e)) (some kv) := ⟨rfl, K, hk, z, hz, h⟩
def vmsetK (P : Program) (s : VS) (k : AV → VS → Prop) (b : Nat) : Option Mp → Option TypeDesc → Option Value → Option Value → Prop
  | some mp, some (.map kt e), some kv, some u => mp.kt = kt ∧ Keyed P kt ∧ (∃ l, keyOf P kt kv = some l) ∧ k .undef { s with maps := setm s.maps b { mp with es := mput mp.es kv u } }
  | _, _, _, _ => False
def vmsetA (P : Program) (t : TypeId) (s : VS) (k : AV → VS → Prop) (x u : Option Value) : AV → Prop
  | .lit (.map (some b)) => vmsetK P s k b (lkm s.maps b) (P.underlying t) x u
  | _ => False
@[go_sem] theorem vs_mset {t : TypeId} {m x v : Operand} : vstep P n ⟨d, .mapUpdate t m x v, ty, ps, af, g⟩ s k = vmsetA P t s (Kput n d k) (toVal (ev s x)) (toVal (ev s v)) (ev s m) := by
  show vmset P t s (Kput n d k) (ev s m) (ev s x) (ev s v) = _
  generalize ev s m = u
  generalize ev s x = y
  generalize ev s v = y2
  cases u with
  | lit v =>
    cases v with
    | map b =>
      cases b with
      | none => rfl
      | some b =>
        simp only [vmset, vmsetA]
        cases lkm s.maps b with
        | none => rfl
        | some mp =>
          cases P.underlying t with
          | none => rfl
          | some D =>
            cases D <;> first | rfl | (cases toVal y <;> first | rfl | (cases toVal y2 <;> rfl))
    | _ => rfl
  | _ => rfl
@[go_sem] theorem vmsetA_m {t : TypeId} {k : AV → VS → Prop} {x u : Option Value} {b : Nat} : vmsetA P t s k x u (.lit (.map (some b))) = vmsetK P s k b (lkm s.maps b) (P.underlying t) x u := _root_.id rfl
theorem vmsetK_use {k : AV → VS → Prop} {b : Nat} {kt e : TypeId} {es : List (Value × Value)} {kv u : Value} (K : Keyed P kt) (hk : ∃ l, keyOf P kt kv = some l) (h : k .undef { s with maps := setm s.maps b ⟨kt, mput es kv u⟩ }) : vmsetK P s k b (some ⟨kt, es⟩) (some (.map kt e)) (some kv) (some u) := ⟨rfl, K, hk, h⟩
def vmlenK (s : VS) (k : AV → VS → Prop) : Option Mp → Option TypeDesc → Prop
  | some mp, some (.map kt e) => k (.lit (.int .i64 mp.es.length)) s
  | _, _ => False
@[go_sem] theorem vmlen_m {t : TypeId} {k : AV → VS → Prop} {b : Nat} : vmlen P t s k (.lit (.map (some b))) = vmlenK s k (lkm s.maps b) (P.underlying t) := by
  simp only [vmlen]
  cases lkm s.maps b with
  | none => rfl
  | some mp =>
    cases P.underlying t with
    | none => rfl
    | some D => cases D <;> rfl
@[go_sem] theorem vmlenK_s {k : AV → VS → Prop} {mp : Mp} {kt e : TypeId} : vmlenK s k (some mp) (some (.map kt e)) = k (.lit (.int .i64 mp.es.length)) s := _root_.id rfl
end

/-! what is handed over -/
/-- a call that is handed the own objects ks and maps -/
theorem vcall_share {f : FuncId} {avs args' : List AV} {k : AV → VS → Prop} {mem0 : List (Option Ob)} {maps0 : List (Nat × Mp)} {R : AV → List (Option Ob) → List (Nat × Mp) → Prop} (ks : List Nat) (h : VProc P f args' mem0 maps0 R) (hnd : ks.Nodup) (ha : CellsRn (fun j => ks.getD j 0) ks.length avs args')
    (hs : ShMem (fun j => ks.getD j 0) ks.length s.mem ks mem0) (hm : MapsLe s.maps maps0)
    (hk : ∀ av mem' maps', R av mem' maps' → k (ren (backN ks s.mem.length) av) { s with mem := mergeM s.mem ks mem', maps := maps' ++ s.maps }) : vcallP P f avs s k :=
  .inr (.inl ⟨ks, args', mem0, maps0, false, hnd, ⟨ArgsX.of_cells ha, .inr ha⟩, hs, mapsLe_get hm, h.mono fun av mem' maps' r => ⟨.inl rfl, hk av mem' maps' r⟩⟩)
/-- one row is left, of words -/
theorem noSl_row {ty sz n : Nat} {f : Nat → List AV} (h : ∀ i, (f i).all flat1 = true) : NoSl [none, some ⟨ty, sz, n, f⟩] := fun k ob hk i _ => by
  match k, hk with
  | 0, hk => simp at hk
  | 1, hk =>
    simp only [List.getElem?_cons_succ, List.getElem?_cons_zero, Option.some.injEq] at hk
    subst hk
    exact h i
  | k + 2, hk => simp at hk
/-- .. where an own row may be read as a borrowed slice -/
theorem vcall_shareX {f : FuncId} {avs args' : List AV} {k : AV → VS → Prop} {mem0 : List (Option Ob)} {maps0 : List (Nat × Mp)} {R : AV → List (Option Ob) → List (Nat × Mp) → Prop} (ks : List Nat) (h : VProc P f args' mem0 maps0 R) (hnd : ks.Nodup) (ha : ArgsX s.mem ks avs args')
    (hs : ShMem (fun j => ks.getD j 0) ks.length s.mem ks mem0) (hm : MapsLe s.maps maps0)
    (hk : ∀ av mem' maps', R av mem' maps' → NoSl mem' ∧ k (ren (backN ks s.mem.length) av) { s with mem := mergeM s.mem ks mem', maps := maps' ++ s.maps }) : vcallP P f avs s k :=
  .inr (.inl ⟨ks, args', mem0, maps0, true, hnd, ⟨ha, .inl rfl⟩, hs, mapsLe_get hm, h.mono fun av mem' maps' r => ⟨.inr (hk av mem' maps' r).1, (hk av mem' maps' r).2⟩⟩)
@[go_sem] theorem argsX_nil {mem : List (Option Ob)} {ks : List Nat} : ArgsX mem ks [] [] = True := _root_.id rfl
@[go_sem] theorem argsX_cons {mem : List (Option Ob)} {ks : List Nat} {a b : AV} {r r' : List AV} : ArgsX mem ks (a :: r) (b :: r') = (ArgX mem ks a b ∧ ArgsX mem ks r r') := _root_.id rfl
/-- a function of the library that gives its one argument back -/
theorem vcall_same {f : FuncId} {av : AV} {k : AV → VS → Prop} (h : sameX P f) (hk : k av s) : vcallP P f [av] s k := .inr (.inr ⟨h, av, rfl, hk⟩)
@[go_sem] theorem shAt_s {f : Nat → Nat} {m : Nat} {ob ob' : Ob} : ShAt f m ob' (some (some ob)) = ShOb f m ob ob' := _root_.id rfl
@[go_sem] theorem rn_ptr {f : Nat → Nat} {m : Nat} {x : AV} {k a b c : Nat} : Rn f m x (.ptr k a b c) = (k < m ∧ x = .ptr (f k) a b c) := propext ⟨fun h => by cases h with
  | ptr _ _ _ _ h => exact ⟨h, rfl⟩
  | closed _ h => (cases h), fun h => by rw [h.2]; exact .ptr k a b c h.1⟩
@[go_sem] theorem rn_agg {f : Nat → Nat} {m : Nat} {cs ds : List AV} : Rn f m (.agg cs) (.agg ds) = CellsRn f m cs ds := propext ⟨fun h => by
  have all : ∀ (cs ds : List AV), cs.length = ds.length → (∀ (j : Nat) a b, cs[j]? = some a → ds[j]? = some b → Rn f m a b) → CellsRn f m cs ds := by
    intro cs
    induction cs with
    | nil => intro ds hl _; cases ds with
      | nil => trivial
      | cons _ _ => simp at hl
    | cons c cs ih =>
      intro ds hl h
      cases ds with
      | nil => simp at hl
      | cons d ds => exact ⟨h 0 c d rfl rfl, ih ds (by simpa using hl) fun j a b h1 h2 => h (j + 1) a b (by simpa using h1) (by simpa using h2)⟩
  cases h with
  | agg _ _ hl h => exact all _ _ hl h
  | closed _ hc => cases hc with
    | agg _ hc => exact all _ _ rfl fun j a b h1 h2 => (by rw [h1] at h2; cases h2; exact .closed _ (hc a (List.mem_of_getElem? h1))), fun h => .agg cs ds (cellsRn_get h).1 (cellsRn_get h).2⟩

/-- the end of a function that was handed objects: which objects go out -/
def OutAt (idx : Nat → Nat) (ks : List Nat) (ob' : Ob) : Option (Option Ob) → Prop
  | some (some ob) => ob.ty = ob'.ty ∧ ob.sz = ob'.sz ∧ ob.n = ob'.n ∧ ∀ i, i < ob'.n → (ob.f i).map (ren1 idx) = ob'.f i ∧ (∀ c, c ∈ ob'.f i → flatC c) ∧ ∀ c, c ∈ ob.f i → ∀ q, q ∈ owns1 c → q ∈ ks
  | _ => False
def MemOut (idx : Nat → Nat) (all : List Nat) (m : List (Option Ob)) : List Nat → List (Option Ob) → Prop
  | [], [] => True
  | k :: ks, none :: r => MemOut idx all m ks r
  | k :: ks, some ob' :: r => OutAt idx all ob' (m[k]?) ∧ MemOut idx all m ks r
  | _, _ => False
theorem memOut_get {idx : Nat → Nat} {all : List Nat} {m : List (Option Ob)} : ∀ {ks : List Nat} {r : List (Option Ob)}, MemOut idx all m ks r → r.length = ks.length ∧ ∀ (j : Nat) ob', r[j]? = some (some ob') → ∃ k ob, ks[j]? = some k ∧ m[k]? = some (some ob) ∧ OutAt idx all ob' (some (some ob))
  | [], [], _ => ⟨rfl, fun j ob h => by simp at h⟩
  | k :: ks, none :: r, h => by
    obtain ⟨h1, h2⟩ := memOut_get (ks := ks) (r := r) h
    refine ⟨by simp [h1], fun j ob' hj => ?_⟩
    cases j with
    | zero => simp at hj
    | succ j => obtain ⟨k, ob, e1, e2⟩ := h2 j ob' (by simpa using hj); exact ⟨k, ob, by simpa using e1, e2⟩
  | k :: ks, some ob0 :: r, h => by
    obtain ⟨h1, h2⟩ := memOut_get (ks := ks) (r := r) h.2
    refine ⟨by simp [h1], fun j ob' hj => ?_⟩
    cases j with
    | zero =>
      simp only [List.getElem?_cons_zero, Option.some.injEq] at hj
      subst hj
      have h3 := h.1
      generalize hy : m[k]? = y at h3
      match y, hy, h3 with
      | some (some o), hy, h3 => exact ⟨k, o, rfl, hy, h3⟩
    | succ j => obtain ⟨k, ob, e1, e2⟩ := h2 j ob' (by simpa using hj); exact ⟨k, ob, by simpa using e1, e2⟩
  | [], _ :: _, h => h.elim
  | _ :: _, [], h => h.elim
def idxOut (fix : Nat) (ex : List Nat) (k : Nat) : Nat := if k < fix then k else fix + ex.idxOf k
def outKs (fix : Nat) (ex : List Nat) : List Nat := List.range fix ++ ex
/-- what such a function hands back -/
def vretP (P : Program) (maps0 : List (Nat × Mp)) (rs : List ResultVar) (R : AV → List (Option Ob) → List (Nat × Mp) → Prop) (s : VS) : Prop :=
  vresL P s rs fun l => flatV (joined l) = true ∧ ∃ ex mem', ex.Nodup ∧ (∀ e, e ∈ ex → s.fix ≤ e ∧ e < s.mem.length) ∧ (∀ q, q ∈ ownsV (joined l) → q ∈ outKs s.fix ex) ∧ MemOut (idxOut s.fix ex) (outKs s.fix ex) s.mem (outKs s.fix ex) mem' ∧
    (∀ b, (lkm maps0 b).isSome = true → (lkm s.maps b).isSome = true) ∧ R (ren (idxOut s.fix ex) (joined l)) mem' s.maps
end
section
variable {P : Program} {n : Nat} {base : Fr} {w0 w : World} {hd : Nat → Value} {s : VS} {a : Act}
theorem vretP_sound {fn : Func} {R : AV → List (Option Ob) → List (Nat × Mp) → Prop} {mem0 : List (Option Ob)} {maps0 : List (Nat × Mp)} {hd0 : Nat → Value} (h : RelH n ⟨P, Sh w0 hd0 mem0 maps0, hd0⟩ w0 hd s a w) (hfix : s.fix = mem0.length) (hv : vretP P maps0 fn.results.toList R s) :
    ∃ v, (results fn a.tmps).run P w = .ok v w ∧ Bel (Sh w0 hd0 mem0 maps0) w0 w ∧ ∃ hd av mem maps, R av mem maps ∧ PostOk mem0 maps0 av mem maps ∧ ((∀ k, k < mem0.length → hd k = hd0 k) ∧ TailEq hd0 hd) ∧ MemRel (Sh w0 hd0 mem0 maps0) w hd mem ∧ MapRel P (Sh w0 hd0 mem0 maps0) w maps ∧ Rep w (okOf mem hd) hd mem.length av v := by
  obtain ⟨v, l, h1, h2, hfl, ex, mem', hnd, hex, hall, hout, hmaps, hR⟩ := results_sound h hv
  obtain ⟨g1, g2⟩ := memOut_get hout
  generalize hks : outKs s.fix ex = ks at *
  have hfixl := h.fixl
  have hlen : ks.length = s.fix + ex.length := by rw [← hks]; simp [outKs]
  have hlow : ∀ j, j < s.fix → ks[j]? = some j := by
    intro j hj
    rw [← hks]; unfold outKs
    rw [List.getElem?_append_left (by simpa using hj)]
    simp [hj]
  have hhigh : ∀ j, s.fix ≤ j → ks[j]? = ex[j - s.fix]? := by
    intro j hj
    rw [← hks]; unfold outKs
    rw [List.getElem?_append_right (by simpa using hj)]
    simp
  have hknd : ks.Nodup := by
    rw [← hks]; unfold outKs
    refine List.nodup_append.2 ⟨List.nodup_range, hnd, fun x hx y hy e => ?_⟩
    have := (hex y hy).1
    simp at hx; omega
  have hkl : ∀ k, k ∈ ks → k < s.mem.length := by
    intro k hk
    rw [← hks] at hk
    simp only [outKs, List.mem_append, List.mem_range] at hk
    rcases hk with hk | hk
    · omega
    · exact (hex k hk).2
  have hidx : ∀ k, k ∈ ks → idxOut s.fix ex k < ks.length ∧ ks[idxOut s.fix ex k]? = some k := by
    intro k hk
    unfold idxOut
    by_cases hlt : k < s.fix
    · rw [if_pos hlt]; exact ⟨by omega, hlow k hlt⟩
    · rw [if_neg hlt]
      have hke : k ∈ ex := by
        rw [← hks] at hk
        simp only [outKs, List.mem_append, List.mem_range] at hk
        exact hk.resolve_left hlt
      have hi := List.idxOf_lt_length_of_mem hke
      refine ⟨by omega, ?_⟩
      rw [hhigh _ (by omega), Nat.add_sub_cancel_left, List.getElem?_eq_getElem hi, List.getElem_idxOf]
  obtain ⟨HD, hHD⟩ : ∃ HD : Nat → Value, HD = fun j => if j < ks.length then hd (ks.getD j 0) else hd j := ⟨_, rfl⟩
  have heqT : TailEq hd HD := ⟨ks.length, fun k hk => by rw [hHD]; exact if_neg (by omega)⟩
  have hHDk : ∀ j k, ks[j]? = some k → HD j = hd k := by
    intro j k hj
    rw [hHD]; simp only [if_pos (List.getElem?_eq_some_iff.1 hj).1, List.getD_eq_getElem?_getD, hj, Option.getD_some]
  have renOk : ∀ q, q ∈ ks → idxOut s.fix ex q < mem'.length ∧ HD (idxOut s.fix ex q) = hd q := by
    intro q hq
    obtain ⟨i1, i2⟩ := hidx q hq
    exact ⟨by omega, hHDk _ _ i2⟩
  refine ⟨v, h1, h.below, HD, _, mem', s.maps, hR, ⟨by omega, ?_, fun j ob' hj i hi => ?_, hmaps⟩, ⟨fun k hk => ?_, h.fix.2.1.trans ⟨ks.length, fun k hk => by rw [hHD]; exact if_neg (by omega)⟩⟩, ⟨fun j ob' hj b hb => ?_, fun j ob' hj => ?_, fun j hj => ?_, fun j j' o o' hj hj' hne => ?_⟩, h.mp, ?_⟩
  · have f1 : ∀ x, flat1 (ren1 (idxOut s.fix ex) x) = flat1 x := by intro x; cases x <;> rfl
    have f2 : ∀ x, flat2 (ren2 (idxOut s.fix ex) x) = flat2 x := by
      intro x
      cases x with
      | agg cs => simp [flat2, ren2, Function.comp_def, f1]
      | _ => rfl
    have f3 : ∀ x, flatV (ren (idxOut s.fix ex) x) = flatV x := by
      intro x
      cases x with
      | tup vs => simp [flatV, ren, Function.comp_def, f2]
      | agg cs => exact f2 (.agg cs)
      | _ => rfl
    exact (f3 _).trans hfl
  · obtain ⟨k, ob, _, _, _, _, _, e⟩ := g2 j ob' hj
    exact (e i hi).2.1
  · rw [hHDk k k (hlow k (by omega)), h.fix.1 k (by omega)]
  · obtain ⟨k, ob, e1, e2, _⟩ := g2 j ob' hj
    rw [hHDk j k e1] at hb
    exact h.me.alw k ob e2 b hb
  · obtain ⟨k, ob, e1, e2, e3, e4, e5, e6⟩ := g2 j ob' hj
    obtain ⟨hs, vals, ho, hr⟩ := h.me.obs k ob e2
    rw [hHDk j k e1]
    refine ⟨by omega, vals, by rw [← e3, ← e4, ← e5]; exact ho, fun i hi => ?_⟩
    obtain ⟨q1, q2⟩ := hr i (by omega)
    obtain ⟨q3, q4, q5⟩ := e6 i hi
    refine ⟨by rw [← q3, List.length_map]; omega, fun c av hc => ?_⟩
    rw [← q3, List.getElem?_map, Option.map_eq_some_iff] at hc
    obtain ⟨a0, hc, rfl⟩ := hc
    obtain ⟨u, r1, r2, r3⟩ := q2 c a0 hc
    refine ⟨u, by rw [← e4]; exact r1, r2, ?_⟩
    have hf : flatC a0 := flatC_ren.1 (q4 (ren1 (idxOut s.fix ex) a0) (by rw [← q3]; exact List.mem_map_of_mem (List.mem_of_getElem? hc)))
    refine r3.renC_ hf (fun ad u h1 h2 => ⟨h2, fun j' ob2 hj2 => ?_, h1.2.eq heqT⟩) fun q hq _ => renOk q (q5 a0 (List.mem_of_getElem? hc) q hq)
    obtain ⟨k2, ob3, e1', e2', _⟩ := g2 j' ob2 hj2
    rw [hHDk j' k2 e1']
    exact h1.1 k2 ob3 e2'
  · have hj' : j < ks.length := by omega
    rw [hHDk j ks[j] (List.getElem?_eq_getElem hj')]
    exact h.me.hds _ (hkl _ (List.getElem_mem hj'))
  · obtain ⟨k, ob, e1, e2, _⟩ := g2 j o hj
    obtain ⟨k', ob2, e1', e2', _⟩ := g2 j' o' hj'
    rw [hHDk j k e1, hHDk j' k' e1']
    refine h.me.apart k k' ob ob2 e2 e2' fun e => hne ?_
    subst e
    obtain ⟨l1a, l1b⟩ := List.getElem?_eq_some_iff.1 e1
    obtain ⟨l2a, l2b⟩ := List.getElem?_eq_some_iff.1 e1'
    exact (List.getElem_inj hknd).1 (l1b.trans l2b.symm)
  · exact h2.ren_ hfl fun q hq _ => renOk q (hall q hq)

/-- the state in which a function begins that is handed objects and maps -/
def startP (args : List AV) (mem0 : List (Option Ob)) (maps0 : List (Nat × Mp)) : VS := ⟨(List.range args.length).map fun j => (j, args.getD j .undef), mem0, maps0, mem0.length⟩
def KfinP (P : Program) (m : Nat) (maps0 : List (Nat × Mp)) (rs : List ResultVar) (R : AV → List (Option Ob) → List (Nat × Mp) → Prop) (e : VX) (s : VS) : Prop := match e with
  | .exit _ => False
  | _ => s.fix = m ∧ vretP P maps0 rs R s
@[go_sem] theorem KfinP_n {m : Nat} {maps0 : List (Nat × Mp)} {rs : List ResultVar} {R : AV → List (Option Ob) → List (Nat × Mp) → Prop} : KfinP P m maps0 rs R .normal s = (s.fix = m ∧ vretP P maps0 rs R s) := _root_.id rfl
@[go_sem] theorem KfinP_r {m : Nat} {maps0 : List (Nat × Mp)} {rs : List ResultVar} {R : AV → List (Option Ob) → List (Nat × Mp) → Prop} : KfinP P m maps0 rs R .ret s = (s.fix = m ∧ vretP P maps0 rs R s) := _root_.id rfl
theorem vproc_start {f : FuncId} {fn : Func} {c : Code} {args : List AV} {mem0 : List (Option Ob)} {maps0 : List (Nat × Mp)} {R : AV → List (Option Ob) → List (Nat × Mp) → Prop} (hf : P.funcs[f]? = some fn) (hn : (fn.name == "runtime.NumGoroutine") = false) (hb : fn.body = some c) (hl : args.length ≤ fn.ntmps)
    (h : vc P fn.ntmps c (startP args mem0 maps0) (KfinP P mem0.length maps0 fn.results.toList R)) : VProc P f args mem0 maps0 R := by
  refine ⟨⟨fn, hf, hn, by rw [hb]; rfl⟩, fun w vs hd0 hlen hrep hm hmp htl => ?_⟩
  refine calls_of_wp hf hb ?_
  have hst : ∀ t, lk (startP args mem0 maps0).tmps t = args.getD t .undef := by
    intro t
    have : ∀ (l : List Nat) (t : Nat), lk (l.map fun j => (j, args.getD j .undef)) t = if t ∈ l then args.getD t .undef else .undef := by
      intro l t
      induction l with
      | nil => rfl
      | cons x l ih =>
        simp only [List.map_cons, lk]
        by_cases e : x = t
        · subst e; simp
        · rw [if_neg e, ih]
          have e' : ¬ t = x := fun h => e h.symm
          simp [e']
    rw [startP, this]
    by_cases ht : t < args.length
    · rw [if_pos (by simpa using ht)]
    · rw [if_neg (by simpa using ht), List.getD_eq_getElem?_getD, List.getElem?_eq_none (by omega)]; rfl
  have hrel : RelH fn.ntmps ⟨P, Sh w hd0 mem0 maps0, hd0⟩ w hd0 (startP args mem0 maps0) { tmps := vs.toArray ++ Array.replicate (fn.ntmps - vs.toArray.size) undef, defers := [] } w := by
    refine ⟨rfl, by simp; omega, Bel.refl _ _, fun b hb => .inl hb, Nat.le_refl _, ⟨fun k hk => rfl, TailEq.refl _, htl⟩, fun b mp hb => ?_, fun t => ?_, ⟨fun k ob hk b hb => .inr (.inl ⟨k, ob, hk, hb⟩), hm.obs, hm.hds, hm.apart⟩⟩
    · obtain ⟨_, es, clock, q1, q2⟩ := hmp b mp hb
      exact ⟨.inr (.inr (by have : lkm maps0 b = some mp := hb; rw [this]; rfl)), es, clock, q1, q2⟩
    · rw [hst]
      by_cases ht : t < args.length
      · have h1 : (vs.toArray ++ Array.replicate (fn.ntmps - vs.toArray.size) undef).getD t undef = vs[t]'(by omega) := by
          rw [Array.getD_eq_getD_getElem?, Array.getElem?_append_left (by simp; omega)]
          simp [show t < vs.length by omega]
        rw [h1, List.getD_eq_getElem?_getD, List.getElem?_eq_getElem ht]
        exact hrep t _ _ (List.getElem?_eq_getElem ht) (List.getElem?_eq_getElem (by omega))
      · rw [List.getD_eq_getElem?_getD, List.getElem?_eq_none (by omega)]; exact .undef _
  refine vc_sound rfl c hrel h fun x hd' s' a' w' h' hk => ?_
  cases x with
  | exit id => exact hk.elim
  | normal =>
    obtain ⟨v, h1, h2⟩ := vretP_sound h' hk.1 hk.2
    exact ⟨h'.defers, v, h1, v, rfl, h2⟩
  | ret =>
    obtain ⟨v, h1, h2⟩ := vretP_sound h' hk.1 hk.2
    exact ⟨h'.defers, v, h1, v, rfl, h2⟩

/-! rules of such an end -/
def vendP (maps0 : List (Nat × Mp)) (R : AV → List (Option Ob) → List (Nat × Mp) → Prop) (s : VS) (av : AV) : Prop := flatV av = true ∧ ∃ ex mem', ex.Nodup ∧ (∀ e, e ∈ ex → s.fix ≤ e ∧ e < s.mem.length) ∧ (∀ q, q ∈ ownsV av → q ∈ outKs s.fix ex) ∧ MemOut (idxOut s.fix ex) (outKs s.fix ex) s.mem (outKs s.fix ex) mem' ∧
    (∀ b, (lkm maps0 b).isSome = true → (lkm s.maps b).isSome = true) ∧ R (ren (idxOut s.fix ex) av) mem' s.maps
def vresP (P : Program) (maps0 : List (Nat × Mp)) (R : AV → List (Option Ob) → List (Nat × Mp) → Prop) (s : VS) : List ResultVar → List AV → Prop
  | [], acc => vendP maps0 R s (joined acc.reverse)
  | .tmp t :: r, acc => vresP P maps0 R s r (lk s.tmps t :: acc)
  | .cell t T :: r, acc => vload P T s (fun av _ => vresP P maps0 R s r (av :: acc)) (lk s.tmps t)
def KresP (P : Program) (maps0 : List (Nat × Mp)) (R : AV → List (Option Ob) → List (Nat × Mp) → Prop) (s : VS) (r : List ResultVar) (acc : List AV) (av : AV) (_ : VS) : Prop := vresP P maps0 R s r (av :: acc)
theorem vresP_eq {maps0 : List (Nat × Mp)} {R : AV → List (Option Ob) → List (Nat × Mp) → Prop} : ∀ (rs : List ResultVar) (acc : List AV), vresL P s rs (fun l => vendP maps0 R s (joined (acc.reverse ++ l))) = vresP P maps0 R s rs acc
  | [], acc => by simp [vresL, vresP]
  | .tmp t :: r, acc => by
    have := vresP_eq (maps0 := maps0) (R := R) r (lk s.tmps t :: acc)
    simpa [vresL, vresP] using this
  | .cell t T :: r, acc => by
    have h : ∀ av, vresL P s r (fun l => vendP maps0 R s (joined (acc.reverse ++ (av :: l)))) = vresP P maps0 R s r (av :: acc) := fun av => by
      have := vresP_eq (maps0 := maps0) (R := R) r (av :: acc)
      simpa using this
    simp only [vresL, vresP, h]
    generalize hk : (fun (av : AV) (_ : VS) => vresP P maps0 R s r (av :: acc)) = k
    show vop P (.load T (.tmp t)) s k = _
    simp only [vop, ev]
    generalize lk s.tmps t = v
    cases v <;> rfl
variable {maps0 : List (Nat × Mp)} {R : AV → List (Option Ob) → List (Nat × Mp) → Prop} {r : List ResultVar} {acc : List AV} {t : Tmp}
@[go_sem] theorem vretP_eq {rs : List ResultVar} : vretP P maps0 rs R s = vresP P maps0 R s rs [] := vresP_eq (R := R) rs []
@[go_sem] theorem vresP_nil : vresP P maps0 R s [] acc = vendP maps0 R s (joined acc.reverse) := _root_.id rfl
@[go_sem] theorem vresP_tmp : vresP P maps0 R s (.tmp t :: r) acc = vresP P maps0 R s r (lk s.tmps t :: acc) := _root_.id rfl
@[go_sem] theorem vresP_cell {T : TypeId} : vresP P maps0 R s (.cell t T :: r) acc = vload P T s (KresP P maps0 R s r acc) (lk s.tmps t) := _root_.id rfl
@[go_sem] theorem KresP_ {s' : VS} {av : AV} : KresP P maps0 R s r acc av s' = vresP P maps0 R s r (av :: acc) := _root_.id rfl
end
attribute [go_sem] MemS startP CellsRn ShMem ShOb setAll mergeM renOb backN MemOut outKs idxOut setm
end Go.Proofs.Ytcnmgfbafcnkhaa.V
/- The value machine, part 13: a law's arguments as abstract values, and the law out of a contract. -/
namespace Go.Proofs.Ytcnmgfbafcnkhaa.V
open Go.RowKit
set_option linter.unusedVariables false
set_option linter.unusedSimpArgs false

/-- cells read as abstract values, none of them the call's own -/
def RepA (w : World) (hd : Nat → Value) (as : List AV) (cs : List Value) : Prop := as.length = cs.length ∧ ∀ (j : Nat) a u, as[j]? = some a → cs[j]? = some u → Rep w (fun _ => True) hd 0 a u
def All2 {α β : Type} (p : α → β → Prop) : List α → List β → Prop
  | [], [] => True
  | a :: r, b :: r' => p a b ∧ All2 p r r'
  | _, _ => False
/-- what cells of a type look like -/
def Shape (P : Program) : Nat → TypeId → List AV → Prop
  | 0, _, _ => True
  | n + 1, t, as => match P.underlying t with
    | some .bool => ∃ b, as = [.lit (.bool b)]
    | some (.int k) => ∃ i, as = [.lit (.int k i)] ∧ (Lit.int k i).wf = true
    | some .string => ∃ s, as = [.lit (.string s)] ∧ s.size ≤ maxLen
    | some (.slice e) => ∃ m f, as = [.sl (P.cellsOf e) m f] ∧ m ≤ maxLen ∧ ∀ i, i < m → (f i).length = P.cellsOf e ∧ Shape P n e (f i)
    | some (.struct fs) => ∃ parts : List (List AV), All2 (fun (f : Field) c => c.length = P.cellsOf f.type ∧ Shape P n f.type c) fs.toList parts ∧ as = parts.flatten
    | _ => True

theorem all2_nil {α β : Type} {p : α → β → Prop} {l : List β} : All2 p [] l ↔ l = [] := by cases l <;> simp [All2]
theorem all2_cons {α β : Type} {p : α → β → Prop} {a : α} {r : List α} {l : List β} : All2 p (a :: r) l ↔ ∃ b l', l = b :: l' ∧ p a b ∧ All2 p r l' := by
  cases l with
  | nil => simp [All2]
  | cons b l => exact ⟨fun h => ⟨b, l, rfl, h⟩, fun ⟨_, _, e, h⟩ => by cases e; exact h⟩
section
variable {P : Program} {n : Nat} {t e : TypeId} {xs : List AV}
theorem shape_bool (hu : P.underlying t = some .bool) (h : Shape P (n + 1) t xs) : ∃ b, xs = [.lit (.bool b)] := by unfold Shape at h; rw [hu] at h; exact h
theorem shape_int {k : IntKind} (hu : P.underlying t = some (.int k)) (h : Shape P (n + 1) t xs) : ∃ i, xs = [.lit (.int k i)] ∧ (Lit.int k i).wf = true := by unfold Shape at h; rw [hu] at h; exact h
theorem shape_string (hu : P.underlying t = some .string) (h : Shape P (n + 1) t xs) : ∃ s, xs = [.lit (.string s)] ∧ s.size ≤ maxLen := by unfold Shape at h; rw [hu] at h; exact h
theorem shape_slice (hu : P.underlying t = some (.slice e)) (h : Shape P (n + 1) t xs) : ∃ m f, xs = [.sl (P.cellsOf e) m f] ∧ m ≤ maxLen ∧ ∀ i, i < m → (f i).length = P.cellsOf e ∧ Shape P n e (f i) := by unfold Shape at h; rw [hu] at h; exact h
theorem shape_struct {fs : Array Field} (hu : P.underlying t = some (.struct fs)) (h : Shape P (n + 1) t xs) : ∃ parts : List (List AV), All2 (fun (f : Field) c => c.length = P.cellsOf f.type ∧ Shape P n f.type c) fs.toList parts ∧ xs = parts.flatten := by unfold Shape at h; rw [hu] at h; exact h
end
section
variable {w : World} {hd : Nat → Value}
theorem RepA.nil : RepA w hd [] [] := ⟨rfl, fun j a u h => by simp at h⟩
theorem RepA.append {a b : List AV} {c d : List Value} (h : RepA w hd a c) (h' : RepA w hd b d) : RepA w hd (a ++ b) (c ++ d) := by
  refine ⟨by simp [h.1, h'.1], fun j x u hx hu => ?_⟩
  by_cases hj : j < a.length
  · rw [List.getElem?_append_left hj] at hx
    rw [List.getElem?_append_left (by rw [← h.1]; exact hj)] at hu
    exact h.2 j x u hx hu
  · rw [List.getElem?_append_right (by omega)] at hx
    rw [List.getElem?_append_right (by rw [← h.1]; omega), ← h.1] at hu
    exact h'.2 _ x u hx hu
theorem RepA.one {a : AV} {u : Value} (h : Rep w (fun _ => True) hd 0 a u) : RepA w hd [a] [u] := by
  refine ⟨rfl, fun j x v hx hv => ?_⟩
  cases j with
  | zero => simp at hx hv; subst hx; subst hv; exact h
  | succ j => simp at hx
theorem RepA.undefs (cs : List Value) : RepA w hd (cs.map fun _ => .undef) cs := by
  refine ⟨by simp, fun j a u hx hu => ?_⟩
  rw [List.getElem?_map, hu] at hx
  simp at hx
  subst hx
  exact .undef u

theorem pieces {cs0 : List Value} (sz : Field → Nat) : ∀ (fs : List Field) (o : Nat), (∀ (j : Nat) f, fs[j]? = some f → f.offset = o + ((fs.take j).map sz).sum) → (cs0.drop o).length = (fs.map sz).sum →
    cs0.drop o = (fs.map fun f => (cs0.drop f.offset).take (sz f)).flatten
  | [], o, _, h => by
    simp only [List.map_nil, List.sum_nil, List.flatten_nil] at h ⊢
    exact List.length_eq_zero_iff.mp h
  | f :: fs, o, ho, h => by
    have e0 : f.offset = o := by simpa using ho 0 f rfl
    have hl : (cs0.drop (o + sz f)).length = (fs.map sz).sum := by
      simp only [List.map_cons, List.sum_cons, List.length_drop] at h ⊢
      omega
    have := pieces sz fs (o + sz f) (fun j g hg => by
      have := ho (j + 1) g (by simpa using hg)
      simp only [List.take_succ_cons, List.map_cons, List.sum_cons] at this
      omega) hl
    simp only [List.map_cons, List.flatten_cons]
    rw [← this, e0, ← List.drop_drop]
    exact (List.take_append_drop _ _).symm

variable {H : Type} {enc : TypeId × Value → H} {P : Program} {sp : Nat → Bool} {held : Bool}

theorem flat_all2 {p : Field → List AV → Prop} {g : Field → List Value} : ∀ (fs : List Field), (∀ f, f ∈ fs → ∃ as, RepA w hd as (g f) ∧ p f as) → ∃ parts, All2 p fs parts ∧ RepA w hd parts.flatten (fs.map g).flatten
  | [], _ => ⟨[], trivial, .nil⟩
  | f :: fs, h => by
    obtain ⟨as, h1, h2⟩ := h f (by simp)
    obtain ⟨parts, h3, h4⟩ := flat_all2 fs fun f hf => h f (by simp [hf])
    exact ⟨as :: parts, ⟨h2, h3⟩, by simpa using h1.append h4⟩

theorem take_sum_le (l : List Nat) (k : Nat) : (l.take k).sum ≤ l.sum := by
  have : (l.take k).sum + (l.drop k).sum = l.sum := by rw [← List.sum_append_nat, List.take_append_drop]
  omega
instance : Inhabited AV := ⟨.undef⟩
theorem open_shape (hl : laidOutB P = true) (hz : ∀ t e, t < P.types.size → P.underlying t = some (.slice e) → 0 < P.cellsOf e) : ∀ (n fuel : Nat) (t : TypeId) (cs : List Value) (x : DataW H × List MemPlace), t < P.types.size →
    DataW.trod enc P w 0 sp held fuel t cs = some x → ∃ as, RepA w hd as cs ∧ Shape P n t as
  | 0, fuel, t, cs, x, ht, h => ⟨_, .undefs cs, trivial⟩
  | n + 1, fuel, t, cs, x, ht, h => by
    unfold Shape
    cases hu : P.underlying t with
    | none => exact ⟨_, .undefs cs, trivial⟩
    | some D =>
      cases D with
      | bool =>
        obtain ⟨b, rfl, _⟩ := DataW.trod_bool hu h
        exact ⟨_, .one (.lit _), b, rfl⟩
      | int k =>
        obtain ⟨i, rfl, _, hw⟩ := DataW.trod_int hu h
        exact ⟨_, .one (.lit _), i, rfl, hw⟩
      | string =>
        obtain ⟨s, rfl, _, hw⟩ := DataW.trod_string hu h
        exact ⟨_, .one (.lit _), s, rfl, hw⟩
      | slice e =>
        have hse := hz t e ht hu
        rcases Go.Deep.open_slice hu h with ⟨rfl, _⟩ | ⟨a, len, cap, m, k, D, Pl, rfl, hb, hlc, hm, hmm, _, hx⟩
        · refine ⟨[.sl (P.cellsOf e) 0 (fun _ => [])], .one (.sl _ _ _ _ _ (fun _ _ => undef) (Nat.le_refl _) (by omega) hse (fun i hi => by omega) (fun h => by omega) (fun i j a hi => by omega)), 0, _, rfl, by simp [maxLen], fun i hi => by omega⟩
        · have hlm : len ≤ m := by rw [hmm]; split <;> omega
          have hmx : len ≤ 9223372036854775807 := by simp only [maxLen] at hm; omega
          have each : ∀ i, i < len → ∃ q : List AV × List Value, w.cells? 0 (a.add (i * P.cellsOf e)) (P.cellsOf e) = some q.2 ∧ RepA w hd q.1 q.2 ∧ Shape P n e q.1 := by
            intro i hi
            obtain ⟨cs', h1, h2⟩ := hx i (by omega)
            obtain ⟨as, h3, h4⟩ := open_shape hl hz n k e cs' _ (kid_slice hl ht hu) h2
            exact ⟨(as, cs'), h1, h3, h4⟩
          obtain ⟨q, hq⟩ := Go.Deep.choose_lt each
          refine ⟨[.sl (P.cellsOf e) len (fun i => (q i).1)], .one (.sl _ _ _ _ _ (fun i j => (q i).2.getD j undef) hlc hmx hse (fun i hi => ?_) (fun _ => ⟨a, rfl, trivial, fun i j hi hj => ?_⟩) (fun i j av hi hav => ?_)), len, _, rfl, by simp only [maxLen] at hm ⊢; omega, fun i hi => ⟨?_, (hq i hi).2.2⟩⟩
          · rw [(hq i hi).2.1.1]; exact (World.cells?_some (hq i hi).1).2.1
          · obtain ⟨_, h2, h3⟩ := World.cells?_some (hq i hi).1
            have := h3 j hj
            rw [Go.Deep.add_add] at this
            rw [this, List.getD_eq_getElem?_getD, List.getElem?_eq_getElem (by omega)]
            rfl
          · have hj : j < (q i).2.length := by rw [← (hq i hi).2.1.1]; exact (List.getElem?_eq_some_iff.mp hav).1
            refine (hq i hi).2.1.2 j av _ hav ?_
            rw [List.getD_eq_getElem?_getD, List.getElem?_eq_getElem hj]
            rfl
          · rw [(hq i hi).2.1.1]; exact (World.cells?_some (hq i hi).1).2.1
      | struct fs =>
        obtain ⟨xs, k, _, _, hlen, hxl, hf⟩ := DataW.trod_struct hu h
        obtain ⟨hk1, hk2, hk3⟩ := kid_struct hl ht hu
        have hp := pieces (cs0 := cs) (fun f => P.cellsOf f.type) fs.toList 0 (fun j f hj => by simpa using hk3 j f hj) (by simpa [hlen] using hk2)
        have each : ∀ f, f ∈ fs.toList → ∃ as, RepA w hd as ((cs.drop f.offset).take (P.cellsOf f.type)) ∧ (as.length = P.cellsOf f.type ∧ Shape P n f.type as) := by
          intro f hfm
          obtain ⟨j, hj, e⟩ := List.mem_iff_getElem.mp hfm
          have hj' : fs[j]? = some f := by rw [← Array.getElem?_toList, List.getElem?_eq_getElem hj, e]
          have h1 := hf j f hj'
          have hjx : j < xs.length := by rw [hxl]; simpa using hj
          rw [List.getElem?_eq_getElem hjx] at h1
          obtain ⟨as, h3, h4⟩ := open_shape hl hz n k f.type _ _ (hk1 f hfm) h1
          refine ⟨as, h3, ?_, h4⟩
          rw [h3.1, List.length_take, List.length_drop]
          have h5 := hk3 j f (by rw [Array.getElem?_toList]; exact hj')
          have h6 : ((fs.toList.take (j + 1)).map fun f => P.cellsOf f.type).sum ≤ (fs.toList.map fun f => P.cellsOf f.type).sum := by
            rw [List.map_take]
            exact take_sum_le _ _
          rw [List.take_add_one, List.getElem?_eq_getElem hj] at h6
          simp only [List.map_append, List.sum_append, e, Option.toList_some, List.map_cons, List.map_nil, List.sum_cons, List.sum_nil] at h6
          omega
        obtain ⟨parts, h1, h2⟩ := flat_all2 fs.toList each
        refine ⟨parts.flatten, ?_, parts, h1, rfl⟩
        rw [← hp] at h2
        simpa using h2
      | _ => exact ⟨_, .undefs cs, trivial⟩

/-- an argument's abstract value, of its cells -/
def avOf (P : Program) (t : TypeId) (as : List AV) : AV := match P.underlying t with
  | some (.struct _) => .agg as
  | some .bool | some (.int _) | some .string | some (.slice _) => as.headD .undef
  | _ => .undef
theorem open_arg (hl : laidOutB P = true) (hz : ∀ t e, t < P.types.size → P.underlying t = some (.slice e) → 0 < P.cellsOf e) (n : Nat) {r : Reach} {b0 : Nat} {t : TypeId} {v : Value} {d : DataW H} {ps : List MemPlace} (ht : t < P.types.size)
    (hval : Value.okWide P w r b0 t v) (h : DataW.Trod enc P w 0 sp held t v d ps) : ∃ as, (as.length = v.cells.size ∧ Shape P n t as) ∧ Rep w (fun _ => True) hd 0 (avOf P t as) v := by
  obtain ⟨fuel, h⟩ := h
  obtain ⟨as, h1, h2⟩ := open_shape (hd := hd) hl hz n fuel t _ _ ht h
  refine ⟨as, ⟨by simpa using h1.1, h2⟩, ?_⟩
  have one : ∀ (hv : v.cells = #[v]), Rep w (fun _ => True) hd 0 (as.headD .undef) v := by
    intro hv
    rw [hv] at h1
    obtain ⟨h3, h4⟩ := h1
    match as, h3 with
    | [a], _ => exact h4 0 a v rfl rfl
  unfold avOf
  unfold Value.okWide at hval
  cases hu : P.underlying t with
  | none => exact .undef v
  | some D =>
    rw [hu] at hval
    cases D with
    | struct fs =>
      obtain ⟨cs, rfl, _, _⟩ := hval
      have := Rep.agg (w := w) (ok := fun _ => True) (hd := hd) (m := 0) as cs.toList (by simpa [Value.cells] using h1.1) (by simpa [Value.cells] using h1.2)
      simpa using this
    | bool => exact one (by cases v <;> first | rfl | (simp [Cell.okWide, Cell.ok, hu] at hval))
    | int k => exact one (by cases v <;> first | rfl | (simp [Cell.okWide, Cell.ok, hu] at hval))
    | string => exact one (by cases v <;> first | rfl | (simp [Cell.okWide, Cell.ok, hu] at hval))
    | slice e => exact one (by cases v <;> first | rfl | (simp [Cell.okWide, Cell.ok, hu] at hval))
    | _ => exact .undef v

theorem open_args (hl : laidOutB P = true) (hz : ∀ t e, t < P.types.size → P.underlying t = some (.slice e) → 0 < P.cellsOf e) (n : Nat) {r : Reach} {b0 : Nat} : ∀ {ts : List TypeId} {vs : List Value} {ds : List (DataW H)} {ps : List MemPlace},
    (∀ t, t ∈ ts → t < P.types.size) → (∀ (j : Nat) t v, ts[j]? = some t → vs[j]? = some v → Value.okWide P w r b0 t v) → DataW.TrodAll enc P w 0 sp held ts vs ds ps →
    ∃ ass : List (List AV), All2 (fun t as => Shape P n t as) ts ass ∧ (List.zipWith (avOf P) ts ass).length = vs.length ∧ ∀ (j : Nat) a u, (List.zipWith (avOf P) ts ass)[j]? = some a → vs[j]? = some u → Rep w (fun _ => True) hd 0 a u
  | [], [], [], ps, _, _, h => ⟨[], trivial, rfl, fun j a u hj => by simp at hj⟩
  | t :: ts, v :: vs, d :: ds, ps, ht, hval, ⟨p, q, h1, h2, _⟩ => by
    obtain ⟨as, h3, h4⟩ := open_arg (hd := hd) hl hz n (ht t (by simp)) (hval 0 t v rfl rfl) h1
    obtain ⟨ass, h5, h6, h7⟩ := open_args hl hz n (fun t h => ht t (by simp [h])) (fun j t v hj hv => hval (j + 1) t v (by simpa using hj) (by simpa using hv)) h2
    refine ⟨as :: ass, ⟨h3.2, h5⟩, by simpa using h6, fun j a u ha hu => ?_⟩
    cases j with
    | zero => simp at ha hu; subst ha; subst hu; exact h4
    | succ j => exact h7 j a u (by simpa using ha) (by simpa using hu)

theorem trodAll_below (hl : laidOutB P = true) {W W' : World} (hb : Below W.heap.size W W') : ∀ {ts : List TypeId} {vs : List Value} {ds : List (DataW H)} {ps : List MemPlace},
    (∀ t, t ∈ ts → t < P.types.size ∧ P.readableRec t = true) → (∀ x ∈ ps, x.block < W.heap.size) → DataW.TrodAll enc P W 0 (fun _ => true) true ts vs ds ps → DataW.TrodAll enc P W' 0 (fun b => decide (b < W.heap.size)) true ts vs ds ps
  | [], [], [], _, _, _, h => h
  | t :: ts, v :: vs, d :: ds, ps, ht, hlt, ⟨p, q, h1, h2, e⟩ =>
    ⟨p, q, Below.trod hl (ht t (by simp)).2 (ht t (by simp)).1 h1 hb (fun x hx => hlt x (by rw [e]; exact List.mem_append_left _ hx)),
      trodAll_below hl hb (fun t h => ht t (by simp [h])) (fun x hx => hlt x (by rw [e]; exact List.mem_append_right _ hx)) h2, e⟩

/-- THE LAW OUT OF A CONTRACT -/
theorem law_of {f : FuncId} {fn : Func} {s : ChangeSpec} {tb : TypeId} (n : Nat) (hl : laidOutB P = true) (hz : ∀ t e, t < P.types.size → P.underlying t = some (.slice e) → 0 < P.cellsOf e) (hvars : s.vars = [])
    (hts : ∀ t, t ∈ fn.params.toList → t < P.types.size ∧ P.readableRec t = true) (hs : ∀ ds : List (DataW H), ds.length = fn.params.size → s.fn H ds = ⟨[.lit (.bool true)], ds, []⟩)
    (hrt : fn.resultTypes = #[tb]) (htb : P.underlying tb = some .bool)
    (hv : ∀ ass : List (List AV), All2 (fun t as => Shape P n t as) fn.params.toList ass → VFun P f (List.zipWith (avOf P) fn.params.toList ass) (fun av _ => av = .lit (.bool true)))
    {W : World} {base : Nat} {args : Array Value} {ds gs : List (DataW H)} {before : List MemPlace}
    (hval : ∀ (j : Nat) t v, fn.params[j]? = some t → args[j]? = some v → Value.okWide P W .any base t v)
    (hW : DataW.Whole enc P fn.params.toList s.vars false W args.toList ds gs before) :
    Calls P f args W fun e W' => ∃ v, e = .returned v ∧ s.post enc P fn false true false false W args v W' := by
  have hW' := hW
  have hlt := hW.lt
  obtain ⟨p, q, hA, hV, rfl, hfz, hnd⟩ := hW
  rw [hvars] at hV
  obtain ⟨rfl, rfl⟩ := Go.ChangeShapes.trodVars_none hV
  obtain ⟨ass, h1, h2, h3⟩ := open_args (hd := fun _ => undef) hl hz n (r := .any) (b0 := base) (fun t h => (hts t h).1) (fun j t v hj hv => hval j t v (by simpa using hj) (by simpa using hv)) hA
  have hlen : ds.length = fn.params.size := by
    have : ∀ {ts : List TypeId} {vs : List Value} {ds : List (DataW H)} {ps : List MemPlace}, DataW.TrodAll enc P W 0 (fun _ => true) true ts vs ds ps → ds.length = ts.length := by
      intro ts
      induction ts with
      | nil => intro vs ds ps h; cases vs <;> cases ds <;> first | rfl | exact h.elim
      | cons t ts ih => intro vs ds ps h; cases vs <;> cases ds <;> first | exact h.elim | (obtain ⟨_, _, _, h, _⟩ := h; simp [ih h])
    simpa using this hA
  have := (hv ass h1).2 W args.toList h2 h3
  simp only [Array.toArray_toList] at this
  refine this.mono fun e W' ⟨v, he, hg, hd, av, obs, hr, _, _, _, hrep⟩ => ⟨v, he, ?_⟩
  subst hr
  have hvb : v = .bool true := by cases hrep; rfl
  subst hvb
  have bel : Below W.heap.size W W' := (Below.refl _ W).grown hg (Nat.le_refl _) (fun k hk => by simp at hk)
  refine ⟨_, _, _, [], p, [], hW', ?_, ?_, ?_, bel.frame _, fun h => by cases h⟩
  · rw [hrt, List.append_nil, hs _ hlen]
    exact Go.ChangeShapes.trodAll_mk1 (shut_bool htb _)
  · rw [List.append_nil, hs _ hlen]
    exact trodAll_below hl bel hts (fun x hx => hlt x (by simpa using hx)) hA
  · rw [List.append_nil, hs _ hlen, hvars]
    rfl
end
end Go.Proofs.Ytcnmgfbafcnkhaa.V
