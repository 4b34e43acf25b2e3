/- The value machine, part M (between A and 8): maps of plain keys and values. -/
import Derived.Test.YtnjnkhmcdkjekaaVA
import Derived.Laws.Small
import Derived.Lib.AppendStr
import Derived.Lib.Builder
namespace Go.Proofs.Ytnjnkhmcdkjekaa.V
open Go.RowKit Go.ChangeMaps
open Go.Maps (Keyed)
set_option linter.unusedVariables false
set_option linter.unusedSimpArgs false
open Classical in
noncomputable def mget : List (Value × Value) → Value → Option Value
  | [], _ => none
  | (k, v) :: r, x => if k = x then some v else mget r x
open Classical in
noncomputable def mput : List (Value × Value) → Value → Value → List (Value × Value)
  | [], x, u => [(x, u)]
  | (k, v) :: r, x, u => if k = x then (k, u) :: r else (k, v) :: mput r x u
def setm : List (Nat × Mp) → Nat → Mp → List (Nat × Mp)
  | [], _, _ => []
  | (c, q) :: r, b, mp => if c = b then (c, mp) :: r else (c, q) :: setm r b mp
theorem lkm_setm : ∀ (l : List (Nat × Mp)) (b c : Nat) (mp : Mp), lkm (setm l b mp) c = if b = c ∧ (lkm l b).isSome then some mp else lkm l c
  | [], b, c, mp => by simp [setm, lkm]
  | (d, q) :: r, b, c, mp => by
    simp only [setm]
    by_cases h : d = b
    · subst h
      simp only [if_true, lkm]
      by_cases h2 : d = c <;> simp [h2]
    · rw [if_neg h]
      simp only [lkm, if_neg h]
      by_cases h2 : d = c
      · subst h2
        have : ¬ b = d := fun e => h e.symm
        simp [this]
      · simp only [if_neg h2]
        exact lkm_setm r b c mp

def zeroIs (P : Program) (e : TypeId) (z : Value) : Prop := ∀ w, (zeroValue e).run P w = .ok z w
def vlook (P : Program) (t : TypeId) (ok : Bool) (s : VS) (k : AV → VS → Prop) : AV → AV → Prop
  | .lit (.map (some b)), x => match lkm s.maps b, P.underlying t, toVal x with
    | some mp, some (.map kt e), some kv => mp.kt = kt ∧ Keyed P kt ∧ (∃ l, keyOf P kt kv = some l) ∧ ∃ z, zeroIs P e z ∧
        k (if ok then .tup [.lit ((mget mp.es kv).getD z), .lit (.bool (mget mp.es kv).isSome)] else .lit ((mget mp.es kv).getD z)) s
    | _, _, _ => False
  | _, _ => False
def vmset (P : Program) (t : TypeId) (s : VS) (k : AV → VS → Prop) : AV → AV → AV → Prop
  | .lit (.map (some b)), x, v => match lkm s.maps b, P.underlying t, toVal x, toVal v with
    | some mp, some (.map kt e), some kv, some u => mp.kt = kt ∧ Keyed P kt ∧ (∃ l, keyOf P kt kv = some l) ∧ k .undef { s with maps := setm s.maps b { mp with es := mput mp.es kv u } }
    | _, _, _, _ => False
  | _, _, _ => False
def vmlen (P : Program) (t : TypeId) (s : VS) (k : AV → VS → Prop) : AV → Prop
  | .lit (.map (some b)) => match lkm s.maps b, P.underlying t with
    | some mp, some (.map kt e) => k (.lit (.int .i64 mp.es.length)) s
    | _, _ => False
  | _ => False
def vmmake (P : Program) (t : TypeId) (s : VS) (k : AV → VS → Prop) : Prop := match P.underlying t with
  | some (.map kt e) => ∀ b, lkm s.maps b = none → k (.lit (.map (some b))) { s with maps := (b, ⟨kt, []⟩) :: s.maps }
  | _ => False
def isMapT (P : Program) (t : TypeId) : Bool := match P.underlying t with
  | some (.map _ _) => true
  | _ => false
def vmin (s : VS) (k : AV → VS → Prop) : AV → AV → Prop
  | .lit (.int q i), .lit (.int _ j) => k (.lit (.int q (if j < i then j else i))) s
  | _, _ => False
/-- a text behind bytes of the call's own -/
def vapps (P : Program) (x : Operand) (z : ByteArray) (t t' : TypeId) (s : VS) (k : AV → VS → Prop) : Prop := match P.underlying t, P.underlying t' with
  | some (.slice e), some .string => tinfo P e = some (.int .u8 0, 1, 1) ∧ ∃ mem m f, ownOf s.mem e 1 (ev s x) = some (mem, m, f) ∧ m + z.size ≤ 140737488355328 ∧
      k (.own s.mem.length) { s with mem := mem ++ [some ⟨e, 1, m + z.size, joinF m f (byteCells z)⟩] }
  | _, _ => False
/-- a pointer held against another -/
def vpres (b : BinOp) (r : Bool) (s : VS) (k : AV → VS → Prop) : Prop := match b with
  | .eql => k (.lit (.bool r)) s
  | .neq => k (.lit (.bool !r)) s
  | _ => False
def isPtrT (P : Program) (t : TypeId) : Bool := match P.underlying t with
  | some (.pointer e) => (tinfo P e).isSome
  | _ => false
def vpeq (P : Program) (b : BinOp) (T : TypeId) (s : VS) (k : AV → VS → Prop) (k0 sz i j : Nat) : AV → Prop
  | .lit (.pointer none) => isPtrT P T = true ∧ vpres b false s k
  | .ptr k1 sz1 i1 j1 => k1 = k0 ∧ i1 * sz1 + j1 = i * sz + j ∧ isPtrT P T = true ∧ vpres b true s k
  | _ => False
/-- *T to unsafe.Pointer and back -/
def vpconv (P : Program) (a b : TypeId) (s : VS) (k : AV → VS → Prop) (k0 sz i j : Nat) : Prop := match s.mem[k0]? with
  | some (some ob) => sz = ob.sz ∧ i < ob.n ∧ j < sz ∧ match P.underlying a, P.underlying b with
    | some (.pointer t), some .unsafePointer => (∃ z q by_, tinfo P t = some (z, q, by_) ∧ q ≠ 0) ∧ k (.ptr k0 sz i j) s
    | some .unsafePointer, some (.pointer t) => t = ob.ty ∧ j = 0 ∧ 0 < P.depth ∧ P.cellsOf t = sz ∧ (tinfo P t).isSome = true ∧ k (.ptr k0 sz i j) s
    | _, _ => False
  | _ => False
def vop4 (P : Program) (op : Op) (s : VS) (k : AV → VS → Prop) : Prop := match op with
  | .makeMap t none => vmmake P t s k
  | .lookup t m x ok => vlook P t ok s k (ev s m) (ev s x)
  | .mapUpdate t m x v => vmset P t s k (ev s m) (ev s x) (ev s v)
  | .call c => match c.callee, c.args.toList, c.argTypes.toList with
    | .builtin .len, [x], [t] => (isMapT P t = true ∧ vmlen P t s k (ev s x)) ∨ (isMapT P t = false ∧ vlen P x t s k)
    | .builtin .min, [x, y], [_, _] => vmin s k (ev s x) (ev s y)
    | .builtin .append, [x, y], [t, t'] => match ev s y with
      | .lit (.string z) => vapps P x z t t' s k
      | _ => vop3 P (.call c) s k
    | _, _, _ => vop3 P (.call c) s k
  | .binOp b T x y T2 => match ev s x with
    | .ptr k0 sz i j => vpeq P b T s k k0 sz i j (ev s y)
    | _ => vop3 P (.binOp b T x y T2) s k
  | .convert a b x => match ev s x with
    | .ptr k0 sz i j => vpconv P a b s k k0 sz i j
    | _ => vop3 P (.convert a b x) s k
  | op => vop3 P op s k

section
variable {P : Program} {n : Nat} {base : Fr} {w0 w : World} {hd : Nat → Value} {s : VS} {a : Act} {k : AV → VS → Prop}
theorem setBlock_grown {w : World} {b : Nat} {es : Array MapEntry} {clock : Nat} {o' : Obj} (h : w.heap[b]? = some (.map es clock)) : w.grownBy (setBlock w b o') (some b) :=
  ⟨rfl, rfl, rfl, by simp [setBlock], fun i _ hi => heap_setBlock_other h _ (fun e => hi (by rw [e]))⟩
/-- other blocks' maps come and go: rows stay -/
theorem RelH.mapTurn (h : RelH n base w0 hd s a w) {b : Nat} {es : Array MapEntry} {clock : Nat} (hb : w.heap[b]? = some (.map es clock)) (hmay : base.may b) {o' : Obj} {maps' : List (Nat × Mp)} (hm : MapRel base.P base.may (setBlock w b o') maps') :
    RelH n base w0 hd { s with maps := maps' } a (setBlock w b o') := by
  have hg : w.grownBy (setBlock w b o') (some b) := setBlock_grown hb
  have ne_cell : ∀ ad u, w.cell? ad = some u → ad.block ≠ b := by
    intro ad u hc e
    unfold World.cell? at hc
    rw [e, hb] at hc
    simp at hc
  have hc : ∀ ad u, okOf s.mem hd ad.block → w.cell? ad = some u → (setBlock w b o').cell? ad = some u ∧ okOf s.mem hd ad.block := fun ad u ho hcell => ⟨cell_same (hg.block _ (World.block_lt_of_cell? w _ hcell) (by simpa using ne_cell ad u hcell)) hcell, ho⟩
  refine ⟨h.defers, h.size, h.below.grown hg (fun q hq => by simp only [Option.some.injEq] at hq; rw [← hq]; exact hmay), h.le, h.fixl, h.fix, hm, fun t => (h.tm t).mono hc (fun _ _ => rfl) (Nat.le_refl _), ⟨h.me.alw, fun k ob hk => ?_, h.me.hds, h.me.apart⟩⟩
  obtain ⟨hs, vals, ho, hr⟩ := h.me.obs k ob hk
  have hne : (hd k).ownBlock ≠ some b := by
    intro e
    rcases ho.2 with ⟨e2, _⟩ | ⟨g, cap, cur, e2, _, hh, _⟩
    · rw [e2] at e; simp [Value.ownBlock] at e
    · rw [e2] at e
      simp only [Value.ownBlock, Option.some.injEq] at e
      rw [e, hb] at hh; simp at hh
  refine ⟨hs, vals, ho.kept hg (by
    cases hq : (hd k).ownBlock with
    | none => exact .inl rfl
    | some c => exact .inr (fun e => hne (by rw [hq]; exact e))), fun i hi => ⟨(hr i hi).1, fun j av hj => ?_⟩⟩
  obtain ⟨u, h1, h2, h3⟩ := (hr i hi).2 j av hj
  exact ⟨u, h1, h2, h3.mono hc (fun _ _ => rfl) (Nat.le_refl _)⟩

theorem mget_not : ∀ {es : List (Value × Value)} {x : Value}, (∀ p, p ∈ es → p.1 ≠ x) → mget es x = none
  | [], _, _ => rfl
  | (k, v) :: r, x, h => by
    have h1 : k ≠ x := h (k, v) (by simp)
    have h2 := mget_not (es := r) (x := x) fun p hp => h p (by simp [hp])
    unfold mget
    rw [if_neg h1]; exact h2
theorem mput_not : ∀ {es : List (Value × Value)} {x u : Value}, (∀ p, p ∈ es → p.1 ≠ x) → mput es x u = es ++ [(x, u)]
  | [], _, _, _ => rfl
  | (k, v) :: r, x, u, h => by
    have h1 : k ≠ x := h (k, v) (by simp)
    have h2 := mput_not (es := r) (x := x) (u := u) fun p hp => h p (by simp [hp])
    unfold mput
    rw [if_neg h1, h2]; rfl
/-- the first entry at a key, where keys are apart from one another before it -/
theorem mget_at : ∀ {es : List (Value × Value)} {x v : Value} {j : Nat}, es[j]? = some (x, v) → (∀ (i : Nat) p, i < j → es[i]? = some p → p.1 ≠ x) → mget es x = some v
  | [], _, _, j, h, _ => by simp at h
  | (k, u) :: r, x, v, j, h, hne => by
    cases j with
    | zero =>
      simp only [List.getElem?_cons_zero, Option.some.injEq, Prod.mk.injEq] at h
      obtain ⟨rfl, rfl⟩ := h
      simp [mget]
    | succ j =>
      have h1 : k ≠ x := hne 0 (k, u) (by omega) rfl
      have h2 := mget_at (es := r) (x := x) (v := v) (j := j) (by simpa using h) fun i p hi hp => hne (i + 1) p (by omega) (by simpa using hp)
      unfold mget
      rw [if_neg h1]; exact h2
theorem mput_at : ∀ {es : List (Value × Value)} {x v u : Value} {j : Nat}, es[j]? = some (x, v) → (∀ (i : Nat) p, i < j → es[i]? = some p → p.1 ≠ x) → mput es x u = es.set j (x, u)
  | [], _, _, _, j, h, _ => by simp at h
  | (k, q) :: r, x, v, u, j, h, hne => by
    cases j with
    | zero =>
      simp only [List.getElem?_cons_zero, Option.some.injEq, Prod.mk.injEq] at h
      obtain ⟨rfl, rfl⟩ := h
      simp [mput]
    | succ j =>
      have h1 : k ≠ x := hne 0 (k, q) (by omega) rfl
      have h2 := mput_at (es := r) (x := x) (v := v) (u := u) (j := j) (by simpa using h) fun i p hi hp => hne (i + 1) p (by omega) (by simpa using hp)
      unfold mput
      rw [if_neg h1, h2]; rfl
theorem pair_first {es : List (Value × Value)} (hp : es.Pairwise (fun p q => p.1 ≠ q.1)) {j : Nat} {x v : Value} (hj : es[j]? = some (x, v)) : ∀ (i : Nat) p, i < j → es[i]? = some p → p.1 ≠ x := by
  intro i p hi hpi
  have h1 := (List.getElem?_eq_some_iff.1 hj)
  have h2 := (List.getElem?_eq_some_iff.1 hpi)
  obtain ⟨l1, e1⟩ := h1
  obtain ⟨l2, e2⟩ := h2
  have := List.pairwise_iff_getElem.1 hp i j l2 l1 hi
  rw [e1, e2] at this
  exact this
theorem set_same {l : List (Value × Value)} {j : Nat} {p : Value × Value} (h : l[j]? = some p) (k : Nat) : ((l.set j (p.1, p.2)).map (·.1)) = l.map (·.1) := by
  congr 1
  obtain ⟨hl, e⟩ := List.getElem?_eq_some_iff.1 h
  rw [show (p.1, p.2) = l[j] from e.symm, List.set_getElem_self]
theorem look_run {t kt e : TypeId} {ok : Bool} {b : Nat} {es : Array MapEntry} {clock : Nat} {mp : Mp} {kv z : Value} (ht : P.underlying t = some (.map kt e)) (hk : mp.kt = kt) (K : Keyed P kt) (hkey : ∃ l, keyOf P kt kv = some l) (hz : zeroIs P e z)
    (hb : w.heap[b]? = some (.map es clock)) (hm : MapIs P mp es) :
    (Instr.lookup t (.map (some b)) kv ok).run P w = .ok (if ok then .tuple #[(mget mp.es kv).getD z, .bool (mget mp.es kv).isSome] else (mget mp.es kv).getD z) w := by
  subst hk
  obtain ⟨l, hl⟩ := hkey
  rcases K.find w hl es.toList hm.key with ⟨h1, h2⟩ | ⟨j, e0, h1, h2, h3⟩
  · have hg : mget mp.es kv = none := mget_not fun p hp => by
      rw [← hm.eq, List.mem_map] at hp
      obtain ⟨x, hx, rfl⟩ := hp
      exact h2 x hx
    rw [hg]
    simp [Instr.lookup, run_underlying ht, MapKept.run_getObj_map hb, K.check w _ hl, h1, hz w, Result.andThen]
  · have hj : mp.es[j]? = some (kv, e0.val) := by rw [← hm.eq, List.getElem?_map, h2]; simp [h3]
    have hg : mget mp.es kv = some e0.val := mget_at hj (pair_first hm.apart hj)
    rw [hg]
    simp [Instr.lookup, run_underlying ht, MapKept.run_getObj_map hb, K.check w _ hl, h1, Result.andThen]
theorem mset_run {t kt e : TypeId} {b : Nat} {es : Array MapEntry} {clock : Nat} {mp : Mp} {kv u : Value} (ht : P.underlying t = some (.map kt e)) (hk : mp.kt = kt) (K : Keyed P kt) (hkey : ∃ l, keyOf P kt kv = some l)
    (hb : w.heap[b]? = some (.map es clock)) (hm : MapIs P mp es) :
    ∃ es' clock', (Instr.mapUpdate t (.map (some b)) kv u).run P w = .ok () (setBlock w b (.map es' clock')) ∧ MapIs P { mp with es := mput mp.es kv u } es' := by
  subst hk
  obtain ⟨l, hl⟩ := hkey
  rcases K.find w hl es.toList hm.key with ⟨h1, h2⟩ | ⟨j, e0, h1, h2, h3⟩
  · have hne : ∀ p, p ∈ mp.es → p.1 ≠ kv := fun p hp => by
      rw [← hm.eq, List.mem_map] at hp
      obtain ⟨x, hx, rfl⟩ := hp
      exact h2 x hx
    refine ⟨es.push ⟨kv, u, clock⟩, clock + 1, ?_, ?_, fun x hx => ?_, ?_⟩
    · simp [Instr.mapUpdate, run_underlying ht, MapKept.run_getObj_map hb, K.check w false hl, h1, MapKept.run_setObj_map _ hb, Result.andThen, setBlock]
    · simp only [mput_not hne, Array.toList_push, List.map_append, hm.eq]; rfl
    · simp only [Array.toList_push, List.mem_append, List.mem_singleton] at hx
      rcases hx with hx | rfl
      · exact hm.key x hx
      · exact ⟨l, hl⟩
    · simp only [mput_not hne]
      refine List.pairwise_append.2 ⟨hm.apart, by simp, fun p hp q hq => ?_⟩
      simp only [List.mem_singleton] at hq
      subst hq
      exact hne p hp
  · have hj : mp.es[j]? = some (kv, e0.val) := by rw [← hm.eq, List.getElem?_map, h2]; simp [h3]
    have hj' : es[j]? = some e0 := by simpa using h2
    have hst : (Instr.keyThatStays e0.key kv).run P w = .ok kv w := by rw [h3]; exact K.stays w hl
    have hput : mput mp.es kv u = mp.es.set j (kv, u) := mput_at hj (pair_first hm.apart hj)
    obtain ⟨hjl, hje⟩ := Array.getElem?_eq_some_iff.1 hj'
    have hmod : (es.modify j fun e => { e with key := kv, val := u }).toList = es.toList.set j { e0 with key := kv, val := u } := by
      apply List.ext_getElem?
      intro i
      rw [Array.getElem?_toList, Array.getElem?_modify, List.getElem?_set, Array.getElem?_toList]
      by_cases h : j = i
      · subst h; simp [hj', hjl, hje]
      · simp [h]
    refine ⟨es.modify j fun e => { e with key := kv, val := u }, clock, ?_, ?_, fun x hx => ?_, ?_⟩
    · simp [Instr.mapUpdate, run_underlying ht, MapKept.run_getObj_map hb, K.check w false hl, h1, hj', hst, MapKept.run_setObj_map _ hb, Result.andThen, setBlock]
    · simp only [hput, hmod, List.map_set, hm.eq]
    · rw [hmod] at hx
      rcases List.mem_or_eq_of_mem_set hx with hx | rfl
      · exact hm.key x hx
      · exact ⟨l, hl⟩
    · simp only [hput]
      refine List.pairwise_iff_getElem.2 fun i i' hi hi' hlt => ?_
      have key : ∀ (i : Nat) (hi : i < (mp.es.set j (kv, u)).length), ((mp.es.set j (kv, u))[i]'hi).1 = (mp.es[i]'(by simpa using hi)).1 := by
        intro i hi
        rw [List.getElem_set]
        split
        · rename_i e
          subst e
          obtain ⟨_, e2⟩ := List.getElem?_eq_some_iff.1 hj
          rw [e2]
        · rfl
      rw [key, key]
      exact List.pairwise_iff_getElem.1 hm.apart i i' (by simpa using hi) (by simpa using hi') hlt

theorem litmap_val (h : RelH n base w0 hd s a w) {x : Operand} {v : Value} (e : ev s x = .lit v) : a.eval x = v := (h.ev_ x).val_ (by rw [e]; rfl)
theorem look_sound (h : RelH n base w0 hd s a w) (hP : base.P = P) {t : TypeId} {m x : Operand} {ok : Bool} {o : Oper} (ho : o.op = .lookup t m x ok) (hv : vlook P t ok s k (ev s m) (ev s x)) : ∃ v av, (∀ w', w.grownBy w' none → (execOp a.eval o).run P w' = .ok (.value v) w') ∧ Rep w (okOf s.mem hd) hd s.mem.length av v ∧ k av s := by
  have hm := fun v => litmap_val h (x := m) (v := v)
  have hx := fun v => (h.ev_ x).val_ (u := v)
  generalize ev s m = am at *
  unfold vlook at hv
  split at hv
  · rename_i _ b
    split at hv
    · rename_i mp kt e kv hmp ht hkv
      obtain ⟨hk, K, hkey, z, hz, hk2⟩ := hv
      obtain ⟨_, es, clock, hb, hmi⟩ := h.mp b mp hmp
      rw [hP] at hmi
      refine ⟨if ok then .tuple #[(mget mp.es kv).getD z, .bool (mget mp.es kv).isSome] else (mget mp.es kv).getD z, _, fun w' hg => ?_, ?_, hk2⟩
      · have hb' : w'.heap[b]? = some (.map es clock) := (hg.block b (Array.getElem?_eq_some_iff.1 hb).1 (by simp)).trans hb
        unfold execOp
        simp only [ho, hm _ rfl, hx _ hkv]
        exact run_v (look_run ht hk K hkey hz hb' hmi)
      · cases ok with
        | true =>
          refine .tup _ [(mget mp.es kv).getD z, .bool (mget mp.es kv).isSome] rfl fun j a u h1 h2 => ?_
          rcases j with _ | _ | j
          · simp at h1 h2; subst h1; subst h2; exact .lit _
          · simp at h1 h2; subst h1; subst h2; exact .lit _
          · simp at h1
        | false => exact .lit _
    · exact hv.elim
  · exact hv.elim
theorem mset_sound (h : RelH n base w0 hd s a w) (hP : base.P = P) {t : TypeId} {m x v : Operand} {o : Oper} (ho : o.op = .mapUpdate t m x v) (hv : vmset P t s k (ev s m) (ev s x) (ev s v)) : Ends P n base w0 a ((execOp a.eval o).run P w) k := by
  have hm := fun v => litmap_val h (x := m) (v := v)
  have hx := fun v => (h.ev_ x).val_ (u := v)
  have hvv := fun u => (h.ev_ v).val_ (u := u)
  generalize ev s m = am at *
  unfold vmset at hv
  split at hv
  · rename_i _ _ b
    split at hv
    · rename_i mp kt e kv u hmp ht hkv hu
      obtain ⟨hk, K, hkey, hk2⟩ := hv
      obtain ⟨hmay, es, clock, hb, hmi⟩ := h.mp b mp hmp
      rw [hP] at hmi
      obtain ⟨es', clock', hrun, hmi'⟩ := mset_run (u := u) ht hk K hkey hb hmi
      have hnew : MapRel base.P base.may (setBlock w b (.map es' clock')) (setm s.maps b { mp with es := mput mp.es kv u }) := by
        intro c mq hc
        rw [lkm_setm] at hc
        split at hc
        · rename_i hcond
          simp only [Option.some.injEq] at hc
          subst hc
          rw [← hcond.1]
          exact ⟨hmay, es', clock', heap_setBlock_same hb _, by rw [hP]; exact hmi'⟩
        · rename_i hcond
          obtain ⟨c1, es2, clock2, c2, c3⟩ := h.mp c mq hc
          have hne : c ≠ b := fun e => hcond ⟨e.symm, by rw [hmp]; rfl⟩
          exact ⟨c1, es2, clock2, (heap_setBlock_other hb _ hne).trans c2, c3⟩
      refine ⟨undef, _, .inr ⟨?_, rfl⟩, hd, _, .undef, h.mapTurn hb hmay hnew, .undef _, hk2⟩
      unfold execOp
      simp only [ho, hm _ rfl, hx _ hkv, hvv _ hu]
      exact run_u hrun
    · exact hv.elim
  · exact hv.elim
theorem mmake_sound (h : RelH n base w0 hd s a w) {t : TypeId} {o : Oper} (ho : o.op = .makeMap t none) (hv : vmmake P t s k) : Ends P n base w0 a ((execOp a.eval o).run P w) k := by
  unfold vmmake at hv
  split at hv
  · rename_i kt e ht
    have hno : lkm s.maps w.heap.size = none := by
      cases hq : lkm s.maps w.heap.size with
      | none => rfl
      | some mp =>
        obtain ⟨_, es, clock, hb, _⟩ := h.mp _ mp hq
        have := (Array.getElem?_eq_some_iff.1 hb).1
        omega
    have hg : w.grownBy (w.alloc (.map #[] 0)) none := World.grownBy_alloc w _ none
    have hR := h.grown hg
    have hm2 : MapRel base.P base.may (w.alloc (.map #[] 0)) ((w.heap.size, ⟨kt, []⟩) :: s.maps) := by
      intro c mq hc
      simp only [lkm] at hc
      split at hc
      · rename_i e
        simp only [Option.some.injEq] at hc
        subst hc; subst e
        exact ⟨h.le _ h.below.size, #[], 0, (MapKept.heap_alloc w _).1, rfl, fun e he => by simp at he, by simp⟩
      · exact hR.mp c mq hc
    refine ⟨.map (some w.heap.size), _, .inl ?_, hd, { s with maps := (w.heap.size, ⟨kt, []⟩) :: s.maps }, _, ⟨hR.defers, hR.size, hR.below, hR.le, hR.fixl, hR.fix, hm2, hR.tm, hR.me⟩, .lit _, hv _ hno⟩
    unfold execOp; simp only [ho]
    refine run_v ?_
    rfl
  · exact hv.elim
theorem mlen_sound (h : RelH n base w0 hd s a w) {x : Operand} {t : TypeId} {c : Call} {o : Oper} (ho : o.op = .call c) (h1 : c.callee = .builtin .len) (h2 : c.args = #[x]) (h3 : c.argTypes = #[t])
    (hv : vmlen P t s k (ev s x)) : ∃ v av, (∀ w', w.grownBy w' none → (execOp a.eval o).run P w' = .ok (.value v) w') ∧ Rep w (okOf s.mem hd) hd s.mem.length av v ∧ k av s := by
  have hm := fun v => litmap_val h (x := x) (v := v)
  generalize ev s x = am at *
  unfold vmlen at hv
  split at hv
  · rename_i b
    split at hv
    · rename_i mp kt e hmp ht
      obtain ⟨_, es, clock, hb, hmi⟩ := h.mp b mp hmp
      refine ⟨.int .i64 mp.es.length, _, fun w' hg => ?_, .lit _, hv⟩
      have hb' : w'.heap[b]? = some (.map es clock) := (hg.block b (Array.getElem?_eq_some_iff.1 hb).1 (by simp)).trans hb
      have hl : mp.es.length = es.size := by rw [← hmi.eq]; simp
      unfold execOp
      simp only [ho]
      simp [h1, h2, h3, resolve, invoke, builtin, Sem.run_bind, hm _ rfl, Builtin.len_, run_underlying ht, MapKept.run_getObj_map hb', goInt, Result.andThen, hl]
    · exact hv.elim
  · exact hv.elim
theorem min_sound (h : RelH n base w0 hd s a w) {x y : Operand} {t t' : TypeId} {o : Oper} (ho : o.op = .call { callee := .builtin .min, args := #[x, y], argTypes := #[t, t'] })
    (hv : vmin s k (ev s x) (ev s y)) : ∃ v av, (∀ w', w.grownBy w' none → (execOp a.eval o).run P w' = .ok (.value v) w') ∧ Rep w (okOf s.mem hd) hd s.mem.length av v ∧ k av s := by
  have hx := fun v => litmap_val h (x := x) (v := v)
  have hy := fun v => litmap_val h (x := y) (v := v)
  generalize ev s x = ax at *
  generalize ev s y = ay at *
  unfold vmin at hv
  split at hv
  · rename_i q i q' j
    refine ⟨_, _, fun w' hg => ?_, .lit _, hv⟩
    unfold execOp
    simp only [ho]
    simp [resolve, invoke, builtin, Sem.run_bind, hx _ rfl, hy _ rfl, run_min_int2, Result.andThen]
  · exact hv.elim
theorem strCells_range (z : ByteArray) : Lib.strCells z = (List.range (z.size * 1)).map fun p => Value.int .u8 (byteAt z (p / 1)) := by
  refine List.ext_getElem (by simp [Lib.strCells_length]) fun i h1 h2 => ?_
  have hi : i < z.size := by rw [Lib.strCells_length] at h1; exact h1
  simp only [Lib.strCells, List.getElem_map, List.getElem_range, Nat.div_one, byteAt, dif_pos hi]
  rfl
theorem append_block {t u ty e : TypeId} {i : TypeInfo} (ht : P.underlying t = some (.slice e)) (hu : P.underlying u = some .string) (hi : P.info? e = some i) (hz : i.zero = some (.int .u8 0)) (hsize : i.size = 1) (hby : i.bytes = 1)
    {v v' : Value} {w' : World} {n B : Nat} {xs : List Value} (hown : w.ownsRow B e 1 v n xs) {z : ByteArray} (h63 : n + z.size ≤ 140737488355328) (hr : (Builtin.append_ #[t, u] ty #[v, .string z]).run P w = .ok v' w') (hnil : v' = .slice none 0 0 ↔ v = .slice none 0 0 ∧ z.size = 0) :
    v'.ownBlock = v.ownBlock ∨ v'.ownBlock = some w.heap.size := by
  rcases hown.2 with ⟨rfl, rfl⟩ | ⟨g, cap, cur, rfl, _, hg, hnc, hcm, hcs, htake⟩
  · by_cases h0 : z.size = 0
    · rw [hnil.2 ⟨rfl, h0⟩]; exact .inl rfl
    · have h := run_append_nil_string (P := P) w t u ty e i (.int .u8 0) ht hu hi hz z (by omega) (by omega) (by rw [hby]; omega)
      rw [hr] at h
      cases h
      exact .inr rfl
  · by_cases hroom : n + z.size ≤ cap
    · have h := Lib.run_append_room_string (P := P) w t u ty e i ht hu hi hsize g n cap cur hg z hroom (by omega)
      rw [hr] at h
      cases h
      exact .inl rfl
    · have hxl : xs.length = n := by simpa using hown.1
      have holds : ∀ j u, xs[j]? = some u → w.cell? ((⟨g, 0, none⟩ : Addr).add j) = some u := hown.cells (g := g) rfl
      have h := Lib.run_append_grow_string (P := P) w t u ty e i (.int .u8 0) ht hu hi hz ⟨g, 0, none⟩ n cap xs (by rw [hsize]; simpa using hxl) holds z (by omega) (by omega) (by rw [hby]; exact growslice_fits (by omega) (by omega))
      rw [hr] at h
      cases h
      exact .inr rfl
theorem apps_sound (h : RelH n base w0 hd s a w) {x y : Operand} {t t' : TypeId} {z : ByteArray} {o : Oper} (ho : o.op = .call { callee := .builtin .append, args := #[x, y], argTypes := #[t, t'] }) (hy : ev s y = .lit (.string z))
    (hv : vapps P x z t t' s k) : Ends P n base w0 a ((execOp a.eval o).run P w) k := by
  unfold vapps at hv
  split at hv
  · rename_i e ht hu
    obtain ⟨hinfo, mem, N, f, hox, hby, hk⟩ := hv
    obtain ⟨ti, hi1, hi2, hi3, hi4⟩ := tinfo_run hinfo
    obtain ⟨vals, hown, hml, hlive, hokx, halw, hf⟩ := ownOf_run h (by omega) hox
    have ey := litmap_val h hy
    obtain ⟨v', w', g1, g2, g3, g4⟩ := Lib.run_append_own_string (P := P) w 0 t t' o.type e ti ht hu hi1 hi2 hi3 hi4 (a.eval x) N vals hown z (by simp only [maxLen]; omega) hby (Nat.zero_le _)
    have g5 := append_block ht hu hi1 hi2 hi3 hi4 hown hby g1 g4
    have hrun : (execOp a.eval o).run P w = .ok (.value v') w' := by
      unfold execOp; simp only [ho]; simp [resolve, invoke, builtin, Sem.run_bind, ey, g1, Result.andThen]
    rw [strCells_range] at g2
    refine app_core (u := fun i _ => .int .u8 (byteAt z i)) h (by omega) hown hml hlive hokx halw hf (fun i hi => ⟨rfl, fun j av hj => ?_⟩) hrun g2 g3 g5 hk
    unfold byteCells at hj
    cases j with
    | zero =>
      simp only [List.getElem?_cons_zero, Option.some.injEq] at hj
      subst hj
      exact ⟨.lit _, rfl⟩
    | succ j => simp at hj
  · exact hv.elim
theorem run_eqGuard_ptr {b : BinOp} {T : TypeId} {x y : Operand} {p q : Option Addr} : (eqGuard b T x y (.pointer p) (.pointer q)).run P w = .ok () w := by
  unfold eqGuard
  split <;> rfl
theorem ptr_info {t : TypeId} (h : isPtrT P t = true) : ∃ e ti, P.underlying t = some (.pointer e) ∧ P.info? e = some ti := by
  unfold isPtrT at h
  split at h
  · rename_i e he
    obtain ⟨⟨z, q, by_⟩, hz⟩ := Option.isSome_iff_exists.1 h
    obtain ⟨ti, h1, _⟩ := tinfo_run hz
    exact ⟨e, ti, he, h1⟩
  · cases h
theorem run_eql_nil {T e : TypeId} (hp : P.underlying T = some (.pointer e)) (ad : Addr) : (binOp .eql T (.pointer (some ad)) (.pointer none)).run P w = .ok (.bool false) w := by
  have h : ∀ d : Nat, (Op.equalIn (d + 1) T (.pointer (some ad)) (.pointer none)).run P w = .ok false w := fun d => by
    simp [Op.equalIn, run_underlying hp]
  simp only [binOp]
  simp [Op.equal, Op.maxDepth, h 9999]
theorem run_neq_nil {T e : TypeId} (hp : P.underlying T = some (.pointer e)) (ad : Addr) : (binOp .neq T (.pointer (some ad)) (.pointer none)).run P w = .ok (.bool true) w := by
  have h : ∀ d : Nat, (Op.equalIn (d + 1) T (.pointer (some ad)) (.pointer none)).run P w = .ok false w := fun d => by
    simp [Op.equalIn, run_underlying hp]
  simp only [binOp]
  simp [Op.equal, Op.maxDepth, h 9999]
theorem ptr_value (h : RelH n base w0 hd s a w) {x : Operand} {k0 sz i j : Nat} (e : ev s x = .ptr k0 sz i j) : ∃ b n' c', hd k0 = .slice (some ⟨b, 0, none⟩) n' c' ∧ a.eval x = .pointer (some ⟨b, i * sz + j, none⟩) := by
  have hx := h.ev_ x
  rw [e] at hx
  generalize a.eval x = v at hx
  cases hx with
  | ptr _ _ _ _ b n' c' hk hh => exact ⟨b, n', c', hh, rfl⟩
theorem peq_sound (h : RelH n base w0 hd s a w) {b : BinOp} {T T2 : TypeId} {x y : Operand} {o : Oper} (ho : o.op = .binOp b T x y T2) {k0 sz i j : Nat} (ex : ev s x = .ptr k0 sz i j) (hv : vpeq P b T s k k0 sz i j (ev s y)) :
    ∃ v av, (∀ w', w.grownBy w' none → (execOp a.eval o).run P w' = .ok (.value v) w') ∧ Rep w (okOf s.mem hd) hd s.mem.length av v ∧ k av s := by
  obtain ⟨bl, n', c', hh, hx⟩ := ptr_value h ex
  have hpres : ∀ r : Bool, (∀ w', (binOp .eql T (a.eval x) (a.eval y)).run P w' = .ok (.bool r) w') → (∀ w', (binOp .neq T (a.eval x) (a.eval y)).run P w' = .ok (.bool !r) w') → (∃ p, a.eval y = .pointer p) → vpres b r s k →
      ∃ v av, (∀ w', w.grownBy w' none → (execOp a.eval o).run P w' = .ok (.value v) w') ∧ Rep w (okOf s.mem hd) hd s.mem.length av v ∧ k av s := by
    intro r h1 h2 ⟨p, hy⟩ hp
    unfold vpres at hp
    split at hp
    · refine ⟨.bool r, _, fun w' hg => ?_, .lit _, hp⟩
      unfold execOp; simp only [ho]
      have := h1 w'
      rw [hx, hy] at this ⊢
      simp [Sem.run_bind, run_eqGuard_ptr, this, Result.andThen]
    · refine ⟨.bool !r, _, fun w' hg => ?_, .lit _, hp⟩
      unfold execOp; simp only [ho]
      have := h2 w'
      rw [hx, hy] at this ⊢
      simp [Sem.run_bind, run_eqGuard_ptr, this, Result.andThen]
    · exact hp.elim
  unfold vpeq at hv
  split at hv
  · rename_i ey
    have hy := litmap_val h ey
    obtain ⟨e, ti, hp, hti⟩ := ptr_info hv.1
    refine hpres false (fun w' => ?_) (fun w' => ?_) ⟨_, hy⟩ hv.2
    · rw [hx, hy]; exact run_eql_nil hp _
    · rw [hx, hy]; exact run_neq_nil hp _
  · rename_i k1 sz1 i1 j1 ey
    obtain ⟨rfl, hij, hpt, hres⟩ := hv
    obtain ⟨bl2, n2, c2, hh2, hy⟩ := ptr_value h ey
    rw [hh] at hh2
    cases hh2
    obtain ⟨e, ti, hp, hti⟩ := ptr_info hpt
    rw [hij] at hy
    refine hpres true (fun w' => ?_) (fun w' => ?_) ⟨_, hy⟩ hres
    · rw [hx, hy]; exact run_eql_ptr_same w' _ hp hti
    · rw [hx, hy]; exact Lib.run_neq_ptr_same w' _ hp hti
  · exact hv.elim
theorem lies_self {T : TypeId} {count i : Nat} (hd : 0 < P.depth) (hc : 0 < P.cellsOf T) (hi : i < count) : liesAt P P.depth T count (i * P.cellsOf T) T 1 = true := by
  obtain ⟨d, hd⟩ : ∃ d, P.depth = d + 1 := ⟨P.depth - 1, by omega⟩
  unfold liesAt
  rw [hd]
  simp only [Bool.or_eq_true]
  left
  unfold rowAt
  have h1 : P.cellsOf T ≠ 0 := by omega
  have h2 : i * P.cellsOf T / P.cellsOf T = i := Nat.mul_div_cancel _ hc
  have h3 : i * P.cellsOf T % P.cellsOf T = 0 := Nat.mul_mod_left _ _
  have h4 : sameLayout P (d + 1) T T = true := by unfold sameLayout; simp
  simp only [if_neg h1, h2, h3]
  simp [h4, show i + 1 ≤ count by omega]
theorem pconv_sound (h : RelH n base w0 hd s a w) {t1 t2 : TypeId} {x : Operand} {o : Oper} (ho : o.op = .convert t1 t2 x) {k0 sz i j : Nat} (ex : ev s x = .ptr k0 sz i j) (hv : vpconv P t1 t2 s k k0 sz i j) :
    Ends P n base w0 a ((execOp a.eval o).run P w) k := by
  obtain ⟨bl, n', c', hh, hx⟩ := ptr_value h ex
  have hrep := h.ev_ x
  unfold vpconv at hv
  split at hv
  · rename_i ob hob
    obtain ⟨rfl, hi, hj, hv⟩ := hv
    obtain ⟨hsz, vals, hown, _⟩ := h.me.obs k0 ob hob
    rw [hh] at hown
    rcases hown.2 with ⟨e, _⟩ | ⟨g, cap, cur, e, _, hg, hnc, hcm, hcs, _⟩
    · cases e
    cases e
    have hsh : w.shape? bl = some (ob.ty, c' * ob.sz) := by simp [World.shape?, hg, hcs]
    have hlt : i * ob.sz + j < c' * ob.sz := by
      have : (i + 1) * ob.sz ≤ c' * ob.sz := Nat.mul_le_mul_right _ (by omega)
      rw [Nat.add_mul] at this; omega
    split at hv
    · rename_i t hu1 hu2
      obtain ⟨⟨z, q, by_, hz, hq⟩, hk⟩ := hv
      obtain ⟨ti, hi1, hi2, hi3, hi4⟩ := tinfo_run hz
      refine Ends.same h (v := a.eval x) (by rw [ex] at hrep; exact hrep) hk ?_
      unfold execOp; simp only [ho]
      refine run_v ?_
      rw [hx]
      exact Lib.run_to_unsafe w ⟨bl, i * ob.sz + j, none⟩ hu1 hu2 hi1 (by omega) hsh hlt
    · rename_i t hu1 hu2
      obtain ⟨rfl, rfl, hdep, hcell, hinf, hk⟩ := hv
      obtain ⟨⟨z, q, by_⟩, hz⟩ := Option.isSome_iff_exists.1 hinf
      obtain ⟨ti, hi1, hi2, hi3, hi4⟩ := tinfo_run hz
      refine Ends.same h (v := a.eval x) (by rw [ex] at hrep; exact hrep) hk ?_
      unfold execOp; simp only [ho]
      refine run_v ?_
      rw [hx]
      refine Lib.run_from_unsafe w ⟨bl, i * ob.sz + 0, none⟩ hu1 hu2 hi1 hsh ?_
      have := lies_self (P := P) (T := ob.ty) (count := c') (i := i) hdep (by omega) (by omega)
      rw [hcell] at this ⊢
      rw [Nat.mul_div_cancel _ hsz]
      exact this
    · exact hv.elim
  · exact hv.elim
end
end Go.Proofs.Ytnjnkhmcdkjekaa.V
