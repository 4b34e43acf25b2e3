/- The value machine, part 11: how its conditions are reckoned (rules for the walk's own set of rules). -/
import Derived.Test.YtnjnkhmcdkjekaaV10
namespace Go.Proofs.Ytnjnkhmcdkjekaa.V
open Go.RowKit
set_option linter.unusedVariables false
set_option linter.unusedSimpArgs false

section
variable {P : Program} {n : Nat} {s : VS}
def Kseq (P : Program) (n : Nat) (y : Code) (K : VX → VS → Prop) (e : VX) (s : VS) : Prop := match e with
  | .normal => vc P n y s K
  | e => K e s
def Kblock (id : Nat) (K : VX → VS → Prop) (e : VX) (s : VS) : Prop := match e with
  | .exit i => if i = id then K .normal s else K (.exit i) s
  | e => K e s
def Kfin (P : Program) (rs : List ResultVar) (R : AV → List Ob → Prop) (e : VX) (s : VS) : Prop := match e with
  | .exit _ => False
  | _ => vret P rs R s
def Kput (n : Nat) (dst : Option Tmp) (k : VS → Prop) (av : AV) (s : VS) : Prop := putO n dst av s k
def Kcall (s : VS) (k : AV → VS → Prop) (av : AV) (obs : List Ob) : Prop := k (ren (· + s.mem.length) av) { s with mem := s.mem ++ obs.map some }
def Kops (P : Program) (n : Nat) (all r : List Oper) (k : VS → Prop) (s : VS) : Prop := vops P n all r s k
/-- a loop's round -/
def Kround {ι : Type} (I : ι → Prop) (μ : ι → Nat) (S : ι → VS) (i : ι) (K : VX → VS → Prop) (e : VX) (s : VS) : Prop := match e with
  | .normal => ∃ j, I j ∧ μ j < μ i ∧ Le s (S j)
  | e => K e s
variable {K : VX → VS → Prop} {k : VS → Prop} {all r : List Oper}
@[go_sem] theorem Kseq_n {y : Code} : Kseq P n y K .normal s = vc P n y s K := _root_.id rfl
@[go_sem] theorem Kseq_e {y : Code} {id : Nat} : Kseq P n y K (.exit id) s = K (.exit id) s := _root_.id rfl
@[go_sem] theorem Kseq_r {y : Code} : Kseq P n y K .ret s = K .ret s := _root_.id rfl
@[go_sem] theorem Kblock_n {id : Nat} : Kblock id K .normal s = K .normal s := _root_.id rfl
@[go_sem] theorem Kblock_r {id : Nat} : Kblock id K .ret s = K .ret s := _root_.id rfl
@[go_sem] theorem Kblock_e {id i : Nat} : Kblock id K (.exit i) s = if i = id then K .normal s else K (.exit i) s := _root_.id rfl
@[go_sem] theorem Kfin_n {rs : List ResultVar} {R : AV → List Ob → Prop} : Kfin P rs R .normal s = vret P rs R s := _root_.id rfl
@[go_sem] theorem Kfin_r {rs : List ResultVar} {R : AV → List Ob → Prop} : Kfin P rs R .ret s = vret P rs R s := _root_.id rfl
@[go_sem] theorem Kround_e {ι : Type} {I : ι → Prop} {μ : ι → Nat} {S : ι → VS} {i : ι} {id : Nat} : Kround I μ S i K (.exit id) s = K (.exit id) s := _root_.id rfl
@[go_sem] theorem Kround_r {ι : Type} {I : ι → Prop} {μ : ι → Nat} {S : ι → VS} {i : ι} : Kround I μ S i K .ret s = K .ret s := _root_.id rfl
@[go_sem] theorem Kround_n {ι : Type} {I : ι → Prop} {μ : ι → Nat} {S : ι → VS} {i : ι} : Kround I μ S i K .normal s = ∃ j, I j ∧ μ j < μ i ∧ Le s (S j) := _root_.id rfl
@[go_sem] theorem Kput_s {t : Tmp} {av : AV} : Kput n (some t) k av s = (t < n ∧ k { s with tmps := (t, av) :: s.tmps }) := _root_.id rfl
@[go_sem] theorem Kput_n {av : AV} : Kput n none k av s = k s := _root_.id rfl
@[go_sem] theorem Kops_ : Kops P n all r k s = vops P n all r s k := _root_.id rfl

@[go_sem] theorem vc_skip : vc P n .skip s K = K .normal s := _root_.id rfl
@[go_sem] theorem vc_region {id : Nat} {l : List Oper} : vc P n (.region id l.toArray false) s K = vops P n l l s (K .normal) := _root_.id rfl
@[go_sem] theorem vc_seq {x y : Code} : vc P n (.seq x y) s K = vc P n x s (Kseq P n y K) := _root_.id rfl
def vcond (P : Program) (n : Nat) (x y : Code) (s : VS) (K : VX → VS → Prop) : AV → Prop
  | .lit (.bool t) => (t = true → vc P n x s K) ∧ (t = false → vc P n y s K)
  | _ => False
@[go_sem] theorem vc_cond {c : Operand} {x y : Code} : vc P n (.cond c x y) s K = vcond P n x y s K (ev s c) := by
  simp only [vc]
  generalize ev s c = v
  cases v with
  | lit v => cases v <;> rfl
  | _ => rfl
@[go_sem] theorem vcond_b {x y : Code} {t : Bool} : vcond P n x y s K (.lit (.bool t)) = ((t = true → vc P n x s K) ∧ (t = false → vc P n y s K)) := _root_.id rfl
@[go_sem 2000] theorem vcond_t {x y : Code} : vcond P n x y s K (.lit (.bool true)) = vc P n x s K := by simp [vcond]
@[go_sem 2000] theorem vcond_f {x y : Code} : vcond P n x y s K (.lit (.bool false)) = vc P n y s K := by simp [vcond]
@[go_sem] theorem vc_block {id : Nat} {x : Code} : vc P n (.block id x) s K = vc P n x s (Kblock id K) := _root_.id rfl
@[go_sem] theorem vc_exit {id : Nat} : vc P n (.exit id) s K = K (.exit id) s := _root_.id rfl
@[go_sem] theorem vc_scope {x : Code} : vc P n (.scope x) s K = vc P n x s K := _root_.id rfl
@[go_sem] theorem vc_label {l : Nat} : vc P n (.label l) s K = K .normal s := _root_.id rfl
@[go_sem] theorem vc_ret : vc P n .ret s K = K .ret s := _root_.id rfl
theorem vc_loop {x : Code} {ι : Type} (I : ι → Prop) (μ : ι → Nat) (S : ι → VS) (h0 : ∃ i, I i ∧ Le s (S i)) (h : ∀ i, I i → vc P n x (S i) (Kround I μ S i K)) : vc P n (.loop x) s K :=
  ⟨ι, I, μ, S, fun _ => .le, h0.imp fun _ h => ⟨h.1, Ent.of_le h.2⟩, h⟩
/-- a loop's round that gives the own objects other numbers -/
def KroundR {ι : Type} (I : ι → Prop) (μ : ι → Nat) (S : ι → VS) (f : Nat → Nat) (i : ι) (K : VX → VS → Prop) (e : VX) (s : VS) : Prop := match e with
  | .normal => ∃ j, I j ∧ μ j < μ i ∧ LeR f s (S j)
  | e => K e s
@[go_sem] theorem KroundR_e {ι : Type} {I : ι → Prop} {μ : ι → Nat} {S : ι → VS} {f : Nat → Nat} {i : ι} {id : Nat} : KroundR I μ S f i K (.exit id) s = K (.exit id) s := _root_.id rfl
@[go_sem] theorem KroundR_r {ι : Type} {I : ι → Prop} {μ : ι → Nat} {S : ι → VS} {f : Nat → Nat} {i : ι} : KroundR I μ S f i K .ret s = K .ret s := _root_.id rfl
@[go_sem] theorem KroundR_n {ι : Type} {I : ι → Prop} {μ : ι → Nat} {S : ι → VS} {f : Nat → Nat} {i : ι} : KroundR I μ S f i K .normal s = ∃ j, I j ∧ μ j < μ i ∧ LeR f s (S j) := _root_.id rfl
theorem vc_loopR {x : Code} {ι : Type} (I : ι → Prop) (μ : ι → Nat) (S : ι → VS) (f : Nat → Nat) (h0 : ∃ i, I i ∧ Le s (S i)) (h : ∀ i, I i → vc P n x (S i) (KroundR I μ S f i K)) : vc P n (.loop x) s K :=
  ⟨ι, I, μ, S, fun _ => .ren f, h0.imp fun _ h => ⟨h.1, Ent.of_le h.2⟩, h⟩
/-- a loop whose rounds end in states that say what the next begins with -/
def KroundE {ι : Type} (I : ι → Prop) (μ : ι → Nat) (S : ι → VS) (i : ι) (K : VX → VS → Prop) (e : VX) (s : VS) : Prop := match e with
  | .normal => ∃ j, I j ∧ μ j < μ i ∧ Ent s (S j)
  | e => K e s
@[go_sem] theorem KroundE_e {ι : Type} {I : ι → Prop} {μ : ι → Nat} {S : ι → VS} {i : ι} {id : Nat} : KroundE I μ S i K (.exit id) s = K (.exit id) s := _root_.id rfl
@[go_sem] theorem KroundE_r {ι : Type} {I : ι → Prop} {μ : ι → Nat} {S : ι → VS} {i : ι} : KroundE I μ S i K .ret s = K .ret s := _root_.id rfl
@[go_sem] theorem KroundE_n {ι : Type} {I : ι → Prop} {μ : ι → Nat} {S : ι → VS} {i : ι} : KroundE I μ S i K .normal s = ∃ j, I j ∧ μ j < μ i ∧ Ent s (S j) := _root_.id rfl
theorem vc_loopE {x : Code} {ι : Type} (I : ι → Prop) (μ : ι → Nat) (S : ι → VS) (h0 : ∃ i, I i ∧ Ent s (S i)) (h : ∀ i, I i → vc P n x (S i) (KroundE I μ S i K)) : vc P n (.loop x) s K :=
  ⟨ι, I, μ, S, fun _ => .ent, h0, h⟩
theorem vfun_start {f : FuncId} {fn : Func} {c : Code} {args : List AV} {R : AV → List Ob → Prop} (hf : P.funcs[f]? = some fn) (hn : (fn.name == "runtime.NumGoroutine") = false) (hb : fn.body = some c) (hl : args.length ≤ fn.ntmps)
    (h : vc P fn.ntmps c (start args) (Kfin P fn.results.toList R)) : VFun P f args R := vfun_intro hf hn hb hl h

/-! lists of operations -/
@[go_sem] theorem vops_nil : vops P n all [] s k = k s := _root_.id rfl
section
variable {d : Option Tmp} {op : Op} {ty : TypeId} {ps : String} {af : Array Edge}
@[go_sem] theorem vops_cons : vops P n all (⟨d, op, ty, ps, af, none⟩ :: r) s k = vstep P n ⟨d, op, ty, ps, af, none⟩ s (Kops P n all r k) := _root_.id rfl
def vguard (P : Program) (n : Nat) (all : List Oper) (o : Oper) (r : List Oper) (s : VS) (k : VS → Prop) (b : Bool) (t : Tmp) : AV → Prop
  | .lit (.bool c) => (c = b → vstep P n o { s with tmps := (t, .lit (.bool b)) :: s.tmps } (Kops P n all r k)) ∧ (c = !b → putO n o.dst (.lit undef) { s with tmps := (t, .lit (.bool (!b))) :: s.tmps } (Kops P n all r k))
  | .lit (.tuple _) => putO n o.dst (.lit undef) s (Kops P n all r k)
  | _ => False
def vguardO (P : Program) (n : Nat) (all : List Oper) (o : Oper) (r : List Oper) (s : VS) (k : VS → Prop) (b : Bool) : Option Tmp → Prop
  | some t => vguard P n all o r s k b t (lk s.tmps t)
  | none => False
@[go_sem] theorem vops_guard {g : Nat} {b : Bool} : vops P n all (⟨d, op, ty, ps, af, some (g, b)⟩ :: r) s k = vguardO P n all ⟨d, op, ty, ps, af, some (g, b)⟩ r s k b (slotOf all g) := by
  simp only [vops]
  cases slotOf all g with
  | none => rfl
  | some t =>
    simp only [vguardO]
    generalize lk s.tmps t = v
    cases v with
    | lit v => cases v <;> rfl
    | _ => rfl
@[go_sem] theorem vguardO_s {o : Oper} {b : Bool} {t : Tmp} : vguardO P n all o r s k b (some t) = vguard P n all o r s k b t (lk s.tmps t) := _root_.id rfl
@[go_sem] theorem vguard_b {o : Oper} {b : Bool} {t : Tmp} {c : Bool} : vguard P n all o r s k b t (.lit (.bool c)) = ((c = b → vstep P n o { s with tmps := (t, .lit (.bool b)) :: s.tmps } (Kops P n all r k)) ∧ (c = !b → putO n o.dst (.lit undef) { s with tmps := (t, .lit (.bool (!b))) :: s.tmps } (Kops P n all r k))) := _root_.id rfl
@[go_sem] theorem vguard_u {o : Oper} {b : Bool} {t : Tmp} : vguard P n all o r s k b t (.lit undef) = putO n o.dst (.lit undef) s (Kops P n all r k) := _root_.id rfl
@[go_sem] theorem vguard_u' {o : Oper} {b : Bool} {t : Tmp} {q : Array Value} : vguard P n all o r s k b t (.lit (.tuple q)) = putO n o.dst (.lit undef) s (Kops P n all r k) := _root_.id rfl
@[go_sem 2000] theorem vguard_tt {o : Oper} {t : Tmp} : vguard P n all o r s k true t (.lit (.bool true)) = vstep P n o { s with tmps := (t, .lit (.bool true)) :: s.tmps } (Kops P n all r k) := by simp [vguard]
@[go_sem 2000] theorem vguard_ff {o : Oper} {t : Tmp} : vguard P n all o r s k false t (.lit (.bool false)) = vstep P n o { s with tmps := (t, .lit (.bool false)) :: s.tmps } (Kops P n all r k) := by simp [vguard]
@[go_sem 2000] theorem vguard_tf {o : Oper} {t : Tmp} : vguard P n all o r s k true t (.lit (.bool false)) = putO n o.dst (.lit undef) { s with tmps := (t, .lit (.bool false)) :: s.tmps } (Kops P n all r k) := by simp [vguard]
@[go_sem 2000] theorem vguard_ft {o : Oper} {t : Tmp} : vguard P n all o r s k false t (.lit (.bool true)) = putO n o.dst (.lit undef) { s with tmps := (t, .lit (.bool true)) :: s.tmps } (Kops P n all r k) := by simp [vguard]
@[go_sem] theorem putO_s {t : Tmp} {av : AV} : putO n (some t) av s k = (t < n ∧ k { s with tmps := (t, av) :: s.tmps }) := _root_.id rfl
@[go_sem] theorem putO_n {av : AV} : putO n none av s k = k s := _root_.id rfl
@[go_sem] theorem lk_cons {u : Nat} {v : AV} {l : List (Nat × AV)} {t : Nat} : lk ((u, v) :: l) t = if u = t then v else lk l t := _root_.id rfl
@[go_sem] theorem lk_nil {t : Nat} : lk [] t = .undef := _root_.id rfl
@[go_sem] theorem ev_tmp {t : Tmp} : ev s (.tmp t) = lk s.tmps t := _root_.id rfl
@[go_sem] theorem ev_const {v : Value} : ev s (.const v) = .lit v := _root_.id rfl
@[go_sem] theorem slotOf_ {g : Nat} : slotOf all g = (all[g]?).bind (·.dst) := _root_.id rfl

/-! single operations -/
variable {g : Option (Nat × Bool)}
@[go_sem] theorem vs_move {x : Operand} : vstep P n ⟨d, .move x, ty, ps, af, g⟩ s k = Kput n d k (ev s x) s := _root_.id rfl
@[go_sem] theorem vs_assign {x : Operand} : vstep P n ⟨d, .assign x, ty, ps, af, g⟩ s k = Kput n d k (ev s x) s := _root_.id rfl
def vpick (s : VS) (a b : Operand) (k : AV → VS → Prop) : AV → Prop
  | .lit (.bool t) => (t = true → k (ev s a) s) ∧ (t = false → k (ev s b) s)
  | _ => False
@[go_sem] theorem vs_pick {c x y : Operand} : vstep P n ⟨d, .pick c x y, ty, ps, af, g⟩ s k = vpick s x y (Kput n d k) (ev s c) := by
  show vop P (.pick c x y) s (Kput n d k) = _
  simp only [vop]
  generalize ev s c = v
  cases v with
  | lit v => cases v <;> rfl
  | _ => rfl
@[go_sem] theorem vpick_b {x y : Operand} {k : AV → VS → Prop} {t : Bool} : vpick s x y k (.lit (.bool t)) = ((t = true → k (ev s x) s) ∧ (t = false → k (ev s y) s)) := _root_.id rfl
@[go_sem 2000] theorem vpick_t {x y : Operand} {k : AV → VS → Prop} : vpick s x y k (.lit (.bool true)) = k (ev s x) s := by simp [vpick]
@[go_sem 2000] theorem vpick_f {x y : Operand} {k : AV → VS → Prop} : vpick s x y k (.lit (.bool false)) = k (ev s y) s := by simp [vpick]
def vbox (P : Program) (T : TypeId) (s : VS) (k : AV → VS → Prop) (sz : Option Nat) (cells : List AV) : Prop := match sz with
  | some n => 0 < n ∧ cells.length = n ∧ cells.all oneAV = true ∧ k (.ptr s.mem.length n 0 0) { s with mem := s.mem ++ [some ⟨T, n, 1, fun _ => cells⟩] }
  | none => False
@[go_sem] theorem vs_box {T : TypeId} {x : Operand} : vstep P n ⟨d, .box T x, ty, ps, af, g⟩ s k = vbox P T s (Kput n d k) (tsz P T) (avCells (ev s x)) := by
  show vop P (.box T x) s (Kput n d k) = _
  simp only [vop]
  cases tsz P T <;> rfl
@[go_sem] theorem vbox_s {T : TypeId} {k : AV → VS → Prop} {m : Nat} {cells : List AV} : vbox P T s k (some m) cells = (0 < m ∧ cells.length = m ∧ cells.all oneAV = true ∧ k (.ptr s.mem.length m 0 0) { s with mem := s.mem ++ [some ⟨T, m, 1, fun _ => cells⟩] }) := _root_.id rfl
@[go_sem] theorem vs_alloc {T : TypeId} : vstep P n ⟨d, .alloc T, ty, ps, af, g⟩ s k = valloc P T s (Kput n d k) := _root_.id rfl
/-- a read -/
def vrd (s : VS) (k : AV → VS → Prop) (agg : Option Bool) (sz : Option Nat) (cs : List AV) (c : Nat) : Prop :=
  match agg, sz with
  | some false, _ => c < cs.length ∧ k (cs.getD c .undef) s
  | some true, some n => c + n ≤ cs.length ∧ k (.agg ((cs.drop c).take n)) s
  | _, _ => False
theorem rd_eq {T : TypeId} {cs : List AV} {c : Nat} {k : AV → VS → Prop} : rd P T cs c (fun av => k av s) = vrd s k (tagg P T) (tsz P T) cs c := rfl
@[go_sem] theorem vrd_f {k : AV → VS → Prop} {sz : Option Nat} {cs : List AV} {c : Nat} : vrd s k (some false) sz cs c = (c < cs.length ∧ k (cs.getD c .undef) s) := by cases sz <;> rfl
@[go_sem] theorem vrd_t {k : AV → VS → Prop} {m : Nat} {cs : List AV} {c : Nat} : vrd s k (some true) (some m) cs c = (c + m ≤ cs.length ∧ k (.agg ((cs.drop c).take m)) s) := _root_.id rfl
def vload (P : Program) (T : TypeId) (s : VS) (k : AV → VS → Prop) : AV → Prop
  | .ptr j sz i c => match s.mem[j]? with
    | some (some ob) => ob.sz = sz ∧ i < ob.n ∧ vrd s k (tagg P T) (tsz P T) (ob.f i) c
    | _ => False
  | .bptr cs => vrd s k (tagg P T) (tsz P T) cs 0
  | _ => False
@[go_sem] theorem vs_load {T : TypeId} {x : Operand} : vstep P n ⟨d, .load T x, ty, ps, af, g⟩ s k = vload P T s (Kput n d k) (ev s x) := by
  show vop P (.load T x) s (Kput n d k) = _
  simp only [vop]
  generalize ev s x = v
  cases v <;> rfl
@[go_sem] theorem vload_b {T : TypeId} {k : AV → VS → Prop} {cs : List AV} : vload P T s k (.bptr cs) = vrd s k (tagg P T) (tsz P T) cs 0 := _root_.id rfl
def vloadO (P : Program) (T : TypeId) (s : VS) (k : AV → VS → Prop) (sz i c : Nat) : Option (Option Ob) → Prop
  | some (some ob) => ob.sz = sz ∧ i < ob.n ∧ vrd s k (tagg P T) (tsz P T) (ob.f i) c
  | _ => False
@[go_sem] theorem vload_p {T : TypeId} {k : AV → VS → Prop} {j sz i c : Nat} : vload P T s k (.ptr j sz i c) = vloadO P T s k sz i c (s.mem[j]?) := by
  simp only [vload]
  generalize s.mem[j]? = v
  cases v with
  | none => rfl
  | some v => cases v <;> rfl
@[go_sem] theorem vloadO_s {T : TypeId} {k : AV → VS → Prop} {sz i c : Nat} {ob : Ob} : vloadO P T s k sz i c (some (some ob)) = (ob.sz = sz ∧ i < ob.n ∧ vrd s k (tagg P T) (tsz P T) (ob.f i) c) := _root_.id rfl
def vstoreO (s : VS) (k : AV → VS → Prop) (n j sz i c : Nat) (cells : List AV) : Option (Option Ob) → Prop
  | some (some ob) => ob.sz = sz ∧ i < ob.n ∧ cells.length = n ∧ 0 < n ∧ c + n ≤ sz ∧ cells.all oneAV = true ∧ k .undef { s with mem := s.mem.set j (some (upd ob i c cells)) }
  | _ => False
def vstore (s : VS) (k : AV → VS → Prop) (sz : Option Nat) (cells : List AV) : AV → Prop
  | .ptr j sz' i c => match sz with
    | some n => vstoreO s k n j sz' i c cells (s.mem[j]?)
    | none => False
  | _ => False
@[go_sem] theorem vs_store {T : TypeId} {p x : Operand} : vstep P n ⟨d, .store T p x, ty, ps, af, g⟩ s k = vstore s (Kput n d k) (tsz P T) (avCells (ev s x)) (ev s p) := by
  show vop P (.store T p x) s (Kput n d k) = _
  simp only [vop]
  generalize ev s p = v
  generalize tsz P T = z
  cases v <;> cases z <;> rfl
@[go_sem] theorem vstore_p {k : AV → VS → Prop} {m : Nat} {cells : List AV} {j sz i c : Nat} : vstore s k (some m) cells (.ptr j sz i c) = vstoreO s k m j sz i c cells (s.mem[j]?) := _root_.id rfl
@[go_sem] theorem vstoreO_s {k : AV → VS → Prop} {m j sz i c : Nat} {cells : List AV} {ob : Ob} : vstoreO s k m j sz i c cells (some (some ob)) = (ob.sz = sz ∧ i < ob.n ∧ cells.length = m ∧ 0 < m ∧ c + m ≤ sz ∧ cells.all oneAV = true ∧ k .undef { s with mem := s.mem.set j (some (upd ob i c cells)) }) := _root_.id rfl
def vfa (P : Program) (s : VS) (k : AV → VS → Prop) : Option (TypeId × Nat) → AV → Prop
  | some (ft, off), .ptr j sz i c => (∃ n, tsz P ft = some n ∧ n ≠ 0) ∧ k (.ptr j sz i (c + off)) s
  | some (ft, off), .bptr cs => (∃ n, tsz P ft = some n ∧ n ≠ 0) ∧ off < cs.length ∧ k (.bptr (cs.drop off)) s
  | _, _ => False
@[go_sem] theorem vs_fa {T : TypeId} {x : Operand} {f : Nat} : vstep P n ⟨d, .fieldAddr T x f, ty, ps, af, g⟩ s k = vfa P s (Kput n d k) (fieldOff P T f) (ev s x) := by
  show vop P (.fieldAddr T x f) s (Kput n d k) = _
  simp only [vop]
  generalize ev s x = v
  cases fieldOff P T f with
  | none => cases v <;> rfl
  | some y => cases v <;> first | rfl | (simp only [vfa]; exact propext ⟨fun h => h.2.elim, fun h => h.elim⟩)
@[go_sem] theorem vfa_p {k : AV → VS → Prop} {ft off j sz i c : Nat} : vfa P s k (some (ft, off)) (.ptr j sz i c) = ((∃ n, tsz P ft = some n ∧ n ≠ 0) ∧ k (.ptr j sz i (c + off)) s) := _root_.id rfl
@[go_sem] theorem vfa_b {k : AV → VS → Prop} {ft off : Nat} {cs : List AV} : vfa P s k (some (ft, off)) (.bptr cs) = ((∃ n, tsz P ft = some n ∧ n ≠ 0) ∧ off < cs.length ∧ k (.bptr (cs.drop off)) s) := _root_.id rfl
def via (s : VS) (k : AV → VS → Prop) (sz : Option Nat) (ix : Option Value) : AV → Prop
  | .sl sz' n f => match sz, ix with
    | some z, some (.int _ i) => sz' = z ∧ 0 ≤ i ∧ i < n ∧ k (.bptr (f i.toNat)) s
    | _, _ => False
  | .own j => match sz, ix, s.mem[j]? with
    | some z, some (.int _ i), some (some ob) => ob.sz = z ∧ 0 ≤ i ∧ i < ob.n ∧ k (.ptr j z i.toNat 0) s
    | _, _, _ => False
  | _ => False
def esz (P : Program) (T : TypeId) : Option Nat := match P.underlying T with
  | some (.slice e) => tsz P e
  | _ => none
@[go_sem] theorem vs_ia {T : TypeId} {x ix : Operand} : vstep P n ⟨d, .indexAddr T x ix, ty, ps, af, g⟩ s k = via s (Kput n d k) (esz P T) (toVal (ev s ix)) (ev s x) := by
  show vop P (.indexAddr T x ix) s (Kput n d k) = _
  simp only [vop]
  unfold esz
  generalize ev s x = v
  generalize toVal (ev s ix) = u
  cases P.underlying T with
  | none => cases v <;> first | rfl | (cases u <;> first | rfl | (rename_i y; cases y <;> rfl))
  | some D =>
    cases D with
    | slice e =>
      simp only
      cases u with
      | none => generalize tsz P e = z; cases z <;> cases v <;> rfl
      | some y =>
        cases y with
        | int q i =>
          simp only
          generalize tsz P e = z
          cases z with
          | none => cases v <;> rfl
          | some z =>
            cases v <;> first | rfl | skip
            rename_i j
            simp only [via]
            generalize s.mem[j]? = y
            cases y with
            | none => rfl
            | some y => cases y <;> rfl
        | _ => generalize tsz P e = z; cases z <;> cases v <;> rfl
    | _ => cases v <;> first | rfl | (cases u <;> first | rfl | (rename_i y; cases y <;> rfl))
@[go_sem] theorem via_s {k : AV → VS → Prop} {z sz' m : Nat} {f : Nat → List AV} {q : IntKind} {i : Int} : via s k (some z) (some (.int q i)) (.sl sz' m f) = (sz' = z ∧ 0 ≤ i ∧ i < m ∧ k (.bptr (f i.toNat)) s) := _root_.id rfl
def viaO (s : VS) (k : AV → VS → Prop) (z j : Nat) (i : Int) : Option (Option Ob) → Prop
  | some (some ob) => ob.sz = z ∧ 0 ≤ i ∧ i < ob.n ∧ k (.ptr j z i.toNat 0) s
  | _ => False
@[go_sem] theorem via_o {k : AV → VS → Prop} {z j : Nat} {q : IntKind} {i : Int} : via s k (some z) (some (.int q i)) (.own j) = viaO s k z j i (s.mem[j]?) := by
  simp only [via]
  generalize s.mem[j]? = v
  cases v with
  | none => rfl
  | some v => cases v <;> rfl
@[go_sem] theorem viaO_s {k : AV → VS → Prop} {z j : Nat} {i : Int} {ob : Ob} : viaO s k z j i (some (some ob)) = (ob.sz = z ∧ 0 ≤ i ∧ i < ob.n ∧ k (.ptr j z i.toNat 0) s) := _root_.id rfl
end
end
end Go.Proofs.Ytnjnkhmcdkjekaa.V
