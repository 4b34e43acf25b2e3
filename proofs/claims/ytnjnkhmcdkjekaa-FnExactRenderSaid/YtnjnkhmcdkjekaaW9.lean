/- Contracts: lists of operators, tables: sizes, copies, comparisons. -/
import Derived.Test.YtnjnkhmcdkjekaaW8
namespace Go.Proofs.Ytnjnkhmcdkjekaa.V
open Go.RowKit
set_option linter.unusedVariables false
set_option linter.unusedSimpArgs false
set_option linter.constructorNameAsVariable false
theorem ba_beq (a b : ByteArray) : (a == b) = decide (a = b) := by
  rw [Bool.eq_iff_iff, decide_eq_true_iff]
  exact MapKept.bytes_beq a b
theorem ba_toList (a b : ByteArray) : a.toList = b.toList ↔ a = b := by
  constructor
  · intro h
    rw [Go.ByteArray.toList_eq, Go.ByteArray.toList_eq] at h
    exact ByteArray.ext (Array.toList_inj.1 h)
  · rintro rfl; rfl
theorem argSl_refl {mem : List (Option Ob)} {sz n : Nat} {f : Nat → List AV} (hsz : 0 < sz) (h : ∀ (i : Nat) c, i < n → c ∈ f i → Closed c) : ArgSl mem (.sl sz n f) sz n f :=
  ⟨hsz, f, by simp [contents], fun i hi => ⟨rfl, fun c hc => h i c hi hc⟩⟩
theorem argSl_own {mem : List (Option Ob)} {k sz n ty : Nat} {f : Nat → List AV} (hk : mem[k]? = some (some ⟨ty, sz, n, f⟩)) (hsz : 0 < sz) (h : ∀ (i : Nat) c, i < n → c ∈ f i → Closed c) : ArgSl mem (.own k) sz n f :=
  ⟨hsz, f, by simp [contents, hk], fun i hi => ⟨rfl, fun c hc => h i c hi hc⟩⟩
instance : Inhabited POp := ⟨⟨⟨#[]⟩, 0, 0, 0⟩⟩
def opCells (l : List POp) (i : Nat) : List AV := (l.getD i default).cells
theorem opClosed (l : List POp) (i : Nat) (c : AV) (h : c ∈ opCells l i) : Closed c := by
  simp [opCells, POp.cells] at h
  rcases h with rfl | rfl | rfl | rfl <;> exact .lit _
theorem opLit (l : List POp) (i : Nat) : (opCells l i).all isLit = true := rfl
def zeroOp : List AV := [.lit (.string ⟨#[]⟩), .lit (.int .i64 0), .lit (.int .i64 0), .lit (.int .i64 0)]
def opFill (l : List POp) (i j : Nat) : List AV := if j < i then opCells l j else zeroOp
theorem opBd (l : List POp) (i j m : Nat) : ∀ c, c ∈ opFill l i j → Bd m c := by
  intro c h
  unfold opFill at h
  split at h
  · exact .closed _ (opClosed l j c h)
  · simp [zeroOp] at h
    rcases h with rfl | rfl <;> exact .closed _ (.lit _)
theorem c_toOpS (l : List POp) (hl : l.length ≤ 1048576) : VFun Try.prog 46 [.sl 4 l.length (opCells l)] (fun av obs => av = .own 0 ∧ obs = [⟨81, 4, l.length, opCells l⟩]) := by
  refine vfun_start Try.func46 (by kernel_rfl) rfl (by simp [Try.ntmps46]) ?_
  simp only [Try.ntmps46, Try.results46]
  simp [go_sem]
  refine ⟨by omega, by omega, by omega, ?_⟩
  refine vc_loop (fun i : Nat => i ≤ l.length) (fun i => l.length - i) (fun i => .of [(0, .sl 4 l.length (opCells l)), (3, .own 0), (4, .lit (.int .i64 i))] [some ⟨81, 4, l.length, opFill l i⟩]) ⟨0, by omega, ?_⟩ (fun i hi => ?_)
  · simp [go_sem, opFill, zeroOp]
    exact fun i c _ h => opClosed l i c h
  · simp [go_sem]
    refine ⟨by omega, fun h => ?_, fun h => ?_⟩
    · rcases ho : l.getD i default with ⟨z, k, lv, sd⟩
      have e : opCells l i = [.lit (.string z), .lit (.int .i64 k), .lit (.int .i64 lv), .lit (.int .i64 sd)] := by unfold opCells; rw [ho]; rfl
      simp only [e]
      refine ⟨h, by simp, vcall_val (c_toOp ⟨z, k, lv, sd⟩) ?_ ?_ ?_⟩
      · simp [go_sem, POp.cells]
      · simp [go_sem, POp.cells]
      · simp [go_sem, POp.cells]
        refine ⟨h, i + 1, by omega, by omega, ⟨fun i c _ h => opClosed l i c h, wrap_succ (by omega)⟩, fun j hj => ?_⟩
        rw [updF_at h hj]
        refine ⟨?_, opBd l _ _ _⟩
        by_cases hji : j = i
        · subst hji
          simp [opFill, e, splice, zeroOp]
        · rw [if_neg hji]
          unfold opFill
          by_cases h2 : j < i
          · rw [if_pos h2, if_pos (by omega)]
          · rw [if_neg h2, if_neg (by omega)]
    · have : i = l.length := by omega
      subst this
      exact obsSame_one.mpr ⟨⟨81, 4, l.length, opCells l⟩, ⟨rfl, rfl, rfl, fun j hj => ⟨by simp only [opFill]; rw [if_pos hj], opLit l j⟩⟩, rfl⟩
theorem c_toTable (l : List POp) (hl : l.length ≤ 1048576) : VFun Try.prog 17 [.agg [.sl 4 l.length (opCells l)]] (fun av obs => av = .agg [.own 0] ∧ obs = [⟨81, 4, l.length, opCells l⟩]) := by
  refine vfun_start Try.func17 (by kernel_rfl) rfl (by simp [Try.ntmps17]) ?_
  simp only [Try.ntmps17, Try.results17]
  simp [go_sem]
  refine vcall_use (c_toOpS l hl) ?_ ?_
  · simp [go_sem]
    exact argSl_refl (by omega) fun i c _ h => opClosed l i c h
  · rintro av obs ⟨rfl, rfl⟩
    simp [go_sem]
    exact obsSame_one.mpr ⟨⟨81, 4, l.length, opCells l⟩, ⟨rfl, rfl, rfl, fun j hj => ⟨rfl, opLit l j⟩⟩, rfl⟩
def opSum (l : List POp) : Nat := (l.map fun o => o.text.size).sum
theorem opSum_take (l : List POp) (i : Nat) (h : i < l.length) : opSum (l.take (i + 1)) = opSum (l.take i) + (l.getD i default).text.size := by
  unfold opSum
  rw [List.take_add_one, List.getElem?_eq_getElem h, List.map_append, List.sum_append_nat, List.getD_eq_getElem?_getD, List.getElem?_eq_getElem h]
  simp only [Option.toList_some, List.map_cons, List.map_nil, List.sum_cons, List.sum_nil, Option.getD_some, Nat.add_zero]
def szRes (left : Int) (n : Nat) (av : AV) : Prop := av = .lit (.int .i64 (-1)) ∨ (0 ≤ left - n ∧ av = .lit (.int .i64 (left - n)))
theorem c_szOpS (l : List POp) (left : Int) (hl : l.length ≤ maxLen) (ho : ∀ i, i < l.length → (l.getD i default).wf) (h0 : 0 ≤ left) (h : left ≤ 1048576) :
    VFun Try.prog 44 [.sl 4 l.length (opCells l), .lit (.int .i64 left)] (fun av obs => obs = [] ∧ szRes left (l.length + opSum l) av) := by
  simp only [maxLen] at hl
  refine vfun_start Try.func44 (by kernel_rfl) rfl (by simp [Try.ntmps44]) ?_
  simp only [Try.ntmps44, Try.results44]
  simp [go_sem]
  rw [wrap_i64 (n := left - l.length) (by omega)]
  refine ⟨by omega, fun _ => .inl rfl, fun h1 => ?_⟩
  refine vc_loop (fun i : Nat => i ≤ l.length ∧ 0 ≤ left - l.length - opSum (l.take i)) (fun i => l.length - i) (fun i => .of [(0, .sl 4 l.length (opCells l)), (1, .lit (.int .i64 (left - l.length - opSum (l.take i)))), (5, .lit (.int .i64 i))] []) ⟨0, ⟨by omega, by simpa [opSum] using h1⟩, ?_⟩ (fun i hi => ?_)
  · simp [go_sem, opSum]
    exact fun i c _ h => opClosed l i c h
  · simp [go_sem]
    refine ⟨by omega, fun h => ?_, fun h => ?_⟩
    · have hw := ho i h
      have hs := opSum_take l i h
      rcases ho : l.getD i default with ⟨z, k, lv, sd⟩
      rw [ho] at hw hs
      have e : opCells l i = [.lit (.string z), .lit (.int .i64 k), .lit (.int .i64 lv), .lit (.int .i64 sd)] := by unfold opCells; rw [ho]; rfl
      simp only [e]
      refine ⟨h, by simp, vcall_pure (c_szOp ⟨z, k, lv, sd⟩ (left - l.length - opSum (l.take i)) hw (by omega) (by omega)) ?_ ?_⟩
      · simp [go_sem, POp.cells]
      · simp [go_sem]
        simp only at hs
        by_cases h2 : left - l.length - opSum (l.take i) - z.size < 0
        · simp only [h2, if_true]
          exact ⟨fun _ => .inl rfl, fun h4 => by omega⟩
        · simp only [h2, if_false]
          exact ⟨fun h4 => h4.elim, fun h4 => ⟨i + 1, ⟨by omega, by omega⟩, by omega, fun i c _ h => opClosed l i c h, by omega, wrap_succ (by omega)⟩⟩
    · have : i = l.length := by omega
      subst this
      simp only [List.take_length] at hi ⊢
      exact .inr ⟨by omega, by congr 2; omega⟩
theorem c_szTable (l : List POp) (left : Int) (hl : l.length ≤ maxLen) (ho : ∀ i, i < l.length → (l.getD i default).wf) (h0 : 0 ≤ left) (h : left ≤ 1048576) :
    VFun Try.prog 15 [.agg [.sl 4 l.length (opCells l)], .lit (.int .i64 left)] (fun av obs => obs = [] ∧ szRes left (l.length + opSum l) av) := by
  refine vfun_start Try.func15 (by kernel_rfl) rfl (by simp [Try.ntmps15]) ?_
  simp only [Try.ntmps15, Try.results15]
  simp [go_sem]
  refine vcall_use (c_szOpS l left hl ho h0 h) ?_ ?_
  · simp [go_sem]
    exact argSl_refl (by omega) fun i c _ h => opClosed l i c h
  · rintro av obs ⟨rfl, h1 | ⟨h1, h2⟩⟩
    · subst h1
      simp [go_sem, szRes]
    · subst h2
      simp [go_sem, szRes]
      omega
/-- operators as they are compared -/
def opEq (a b : POp) : Bool := a.text == b.text && a.kind == b.kind && a.level == b.level && a.side == b.side
theorem c_eqOp (a b : POp) : VFun Try.prog 83 [.agg a.cells, .agg b.cells] (fun av obs => obs = [] ∧ av = .lit (.bool (opEq a b))) := by
  obtain ⟨z, k, l, s⟩ := a
  obtain ⟨z', k', l', s'⟩ := b
  simp only [POp.cells]
  refine vfun_start Try.func83 (by kernel_rfl) rfl (by simp [Try.ntmps83]) ?_
  simp only [Try.ntmps83, Try.results83]
  simp [go_sem]
  simp only [opEq, ba_toList, ba_beq]
  by_cases h1 : z = z' <;> by_cases h2 : k = k' <;> by_cases h3 : l = l' <;> by_cases h4 : s = s' <;> simp [h1, h2, h3, h4]
end Go.Proofs.Ytnjnkhmcdkjekaa.V
