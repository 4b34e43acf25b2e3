/- Contracts: tokens compared, marked, read again. -/
import Derived.Test.YtnjnkhmcdkjekaaW18
namespace Go.Proofs.Ytnjnkhmcdkjekaa.V
open Go.RowKit
set_option linter.unusedVariables false
set_option linter.unusedSimpArgs false
set_option linter.constructorNameAsVariable false
def tokAt (l : List PTok) (i : Nat) : PTok := l.getD i default
theorem tokCells_at (l : List PTok) (i : Nat) : tokCells l i = [.lit (.int .i64 (tokAt l i).kind), .lit (.string (tokAt l i).gap), .lit (.string (tokAt l i).text)] := rfl
def tokEq (a b : PTok) : Bool := a.kind == b.kind && a.gap == b.gap && a.text == b.text
theorem c_eqToken (a b : PTok) : VFun Try.prog 43 [.agg a.cells, .agg b.cells] (fun av obs => obs = [] ∧ av = .lit (.bool (tokEq a b))) := by
  obtain ⟨k, g, z⟩ := a
  obtain ⟨k', g', z'⟩ := b
  simp only [PTok.cells]
  refine vfun_start Try.func43 (by kernel_rfl) rfl (by simp [Try.ntmps43]) ?_
  simp only [Try.ntmps43, Try.results43]
  simp [go_sem]
  simp only [tokEq, ba_toList, ba_beq]
  by_cases h1 : k = k' <;> by_cases h2 : g = g' <;> by_cases h3 : z = z' <;> simp [h1, h2, h3]
def toksEq (a b : List PTok) : Bool := decide (a.length = b.length) && (List.range a.length).all fun i => tokEq (tokAt a i) (tokAt b i)
theorem toksEq_false {a b : List PTok} {i : Nat} (h : i < a.length) (e : tokEq (tokAt a i) (tokAt b i) = false) : toksEq a b = false := by
  simp only [toksEq, Bool.and_eq_false_iff, List.all_eq_false, List.mem_range]
  exact .inr ⟨i, h, by rw [e]; simp⟩
theorem toksEq_true {a b : List PTok} (hl : a.length = b.length) (h : ∀ i, i < a.length → tokEq (tokAt a i) (tokAt b i) = true) : toksEq a b = true := by
  simp only [toksEq, Bool.and_eq_true, decide_eq_true_eq, List.all_eq_true, List.mem_range]
  exact ⟨hl, h⟩
theorem toksEq_refl (a : List PTok) : toksEq a a = true := toksEq_true rfl fun i _ => by simp [tokEq, ba_beq]
theorem c_eqTokenS (a b : List PTok) (ha : a.length ≤ 9223372036854775807) (hb : b.length ≤ 9223372036854775807) : VFun Try.prog 14 [.sl 3 a.length (tokCells a), .sl 3 b.length (tokCells b)] (fun av obs => obs = [] ∧ av = .lit (.bool (toksEq a b))) := by
  refine vfun_start Try.func14 (by kernel_rfl) rfl (by simp [Try.ntmps14]) ?_
  simp only [Try.ntmps14, Try.results14]
  simp [go_sem]
  refine ⟨by omega, by omega, fun h1 => ?_, fun h1 => ?_⟩
  · simp [toksEq]; omega
  · refine vc_loop (fun i : Nat => i ≤ a.length ∧ ∀ j, j < i → tokEq (tokAt a j) (tokAt b j) = true) (fun i => a.length - i) (fun i => .of [(0, .sl 3 a.length (tokCells a)), (1, .sl 3 b.length (tokCells b)), (4, .lit (.bool false)), (5, .lit (.int .i64 i))] []) ⟨0, ⟨by omega, by simp⟩, ?_⟩ (fun i hi => ?_)
    · simp [go_sem]
      exact ⟨fun i c _ h => tokClosed a i c h, fun i c _ h => tokClosed b i c h⟩
    · simp [go_sem]
      refine ⟨by omega, fun h => ?_, fun h => ?_⟩
      · refine vc_drawn 10 (.q 0 <| .q 1 <| .q 2 <| .q 3 <| .q 4 <| .q 5 <| .q 6 <| .q 7 <| .or 8 (.q 9 <| .done) (.nil)) (by kernel_rfl) ?_
        simp [go_sem, tokCells_at]
        refine ⟨h, by omega, vcallV_pure (c_eqToken (tokAt a i) (tokAt b i)) ?_ ?_⟩
        · simp [go_sem, PTok.cells]
        · simp [go_sem]
          refine ⟨fun e => toksEq_false h e, fun e => ⟨i + 1, ⟨by omega, fun j hj => ?_⟩, by omega, ⟨fun i c _ h => tokClosed a i c h, fun i c _ h => tokClosed b i c h, wrap_succ (by omega)⟩⟩⟩
          rcases Nat.lt_succ_iff_lt_or_eq.mp hj with hj | rfl
          · exact hi.2 j hj
          · exact e
      · exact toksEq_true (by omega) fun j hj => hi.2 j (by omega)
/-! marks -/
def markTok (k i : Nat) : PTok := ⟨(k + 3 * i : Nat), mtext (k + 3 * i + 1), mtext (k + 3 * i + 2)⟩
def markTCells (k i : Nat) : List AV := (markTok k i).cells
def markTFill (l : List PTok) (k i j : Nat) : List AV := if j < i then markTCells k j else tokCells l j
theorem markTFill_bd (l : List PTok) (k i j m : Nat) : ∀ c, c ∈ markTFill l k i j → Bd m c := by
  intro c h
  unfold markTFill at h
  split at h
  · simp [markTCells, PTok.cells] at h
    rcases h with rfl | rfl | rfl <;> exact .closed _ (.lit _)
  · exact .closed _ (tokClosed l j c h)
theorem c_markTokenS (l : List PTok) (k : Nat) (hl : l.length ≤ 3000000) (hk : 0 < k ∧ k ≤ 1000000000) : VProc Try.prog 26 [.own 0, .lit (.int .i64 k)] [some ⟨67, 3, l.length, tokCells l⟩] [] (fun av mem maps => av = .lit (.int .i64 (k + 3 * l.length : Nat)) ∧ mem = [some ⟨67, 3, l.length, markTCells k⟩] ∧ maps = []) := by
  refine vproc_start Try.func26 (by kernel_rfl) rfl (by simp [Try.ntmps26]) ?_
  simp only [Try.ntmps26, Try.results26]
  simp [go_sem]
  refine vc_loop (fun i : Nat => i ≤ l.length) (fun i => l.length - i) (fun i => ⟨[(0, .own 0), (1, .lit (.int .i64 (k + 3 * i : Nat))), (5, .lit (.int .i64 i))], [some ⟨67, 3, l.length, markTFill l k i⟩], [], 1⟩) ⟨0, by omega, ?_⟩ (fun i hi => ?_)
  · simp [go_sem, markTFill]
    exact fun i h c hc => .closed _ (tokClosed l i c hc)
  · simp [go_sem]
    have e1 := wrap_i64 (n := (k : Int) + 3 * i + 1) (by omega)
    have e2 := wrap_i64 (n := (k : Int) + 3 * i + 1 + 1) (by omega)
    have e3 := wrap_i64 (n := (k : Int) + 3 * i + 1 + 1 + 1) (by omega)
    refine ⟨by omega, fun h => ⟨h, ?_⟩, fun h => ?_⟩
    · rw [e1]
      refine vcall_pure (c_markText (k + 3 * i + 1) (by omega)) ?_ ?_
      · simp [go_sem]
      · simp [go_sem]
        refine ⟨h, ?_⟩
        rw [e2]
        refine vcall_pure (c_markText (k + 3 * i + 2) (by omega)) ?_ ?_
        · simp [go_sem]
          omega
        · simp [go_sem]
          rw [e3]
          refine ⟨h, i + 1, by omega, by omega, ⟨by omega, wrap_succ (by omega)⟩, fun j hj => ⟨?_, markTFill_bd _ _ _ _ _⟩⟩
          simp only [updF_at h hj, updF_at h h, if_true]
          by_cases hji : j = i
          · subst hji
            simp only [if_true, markTFill, Nat.lt_irrefl, if_false, Nat.lt_succ_self]
            simp [tokCells_at, splice, markTCells, markTok, PTok.cells]
          · simp only [if_neg hji, markTFill]
            by_cases h2 : j < i
            · rw [if_pos h2, if_pos (by omega)]
            · rw [if_neg h2, if_neg (by omega)]
    · have : i = l.length := by omega
      subst this
      refine ⟨rfl, [], [some ⟨67, 3, l.length, markTCells k⟩], by simp, by simp, by simp [go_sem], ?_, by simp [go_sem], ?_⟩
      · simp [go_sem]
        exact outAt_lits (fun i hi => by simp only [markTFill, if_pos hi]) (fun i _ => rfl)
      · simp [go_sem]
@[go_sem] theorem markTCells_ren {g : Nat → Nat} {k i : Nat} : (markTCells k i).map (ren1 g) = markTCells k i := map_lits rfl
@[go_sem] theorem tokCells_ren {g : Nat → Nat} {l : List PTok} {i : Nat} : (tokCells l i).map (ren1 g) = tokCells l i := map_lits rfl
theorem markTClosed (k i : Nat) (c : AV) (h : c ∈ markTCells k i) : Closed c := by
  simp [markTCells, PTok.cells] at h
  rcases h with rfl | rfl | rfl <;> exact .lit _
theorem markTCells_at (k i : Nat) : markTCells k i = [.lit (.int .i64 (k + 3 * i : Nat)), .lit (.string (mtext (k + 3 * i + 1))), .lit (.string (mtext (k + 3 * i + 2)))] := rfl
theorem c_heldTokenS (n k : Nat) (hl : n ≤ 3000000) (hk : 0 < k ∧ k ≤ 1000000000) : VFun Try.prog 27 [.sl 3 n (markTCells k), .lit (.int .i64 k)] (fun av obs => obs = [] ∧ av = .lit (.int .i64 (k + 3 * n : Nat))) := by
  have cl : ∀ (i : Nat) (c : AV), i < n → c ∈ markTCells k i → Closed c := fun i c _ h => markTClosed k i c h
  refine vfun_start Try.func27 (by kernel_rfl) rfl (by simp [Try.ntmps27]) ?_
  simp only [Try.ntmps27, Try.results27]
  simp [go_sem]
  refine vc_loop (fun i : Nat => i ≤ n) (fun i => n - i) (fun i => .of [(0, .sl 3 n (markTCells k)), (1, .lit (.int .i64 (k + 3 * i : Nat))), (5, .lit (.int .i64 i))] []) ⟨0, by omega, ?_⟩ (fun i hi => ?_)
  · simp [go_sem]
    exact cl
  · simp [go_sem, markTCells_at]
    have e1 := wrap_i64 (n := (k : Int) + 3 * i + 1) (by omega)
    have e2 := wrap_i64 (n := (k : Int) + 3 * i + 1 + 1) (by omega)
    have e3 := wrap_i64 (n := (k : Int) + 3 * i + 1 + 1 + 1) (by omega)
    refine ⟨by omega, fun h => ⟨h, ?_⟩, fun h => ?_⟩
    · rw [e1]
      refine vc_drawn 8 (.q 0 <| .q 1 <| .q 2 <| .q 3 <| .q 4 <| .q 5 <| .or 6 (.q 7 <| .done) (.nil)) (by kernel_rfl) ?_
      simp [go_sem, markTCells_at]
      refine ⟨h, vcallV_pure (c_markText (k + 3 * i + 1) (by omega)) ?_ ?_⟩
      · simp [go_sem]
      · simp [go_sem, markTCells_at]
        rw [e2]
        refine vc_drawn 8 (.q 0 <| .q 1 <| .q 2 <| .q 3 <| .q 4 <| .q 5 <| .or 6 (.q 7 <| .done) (.nil)) (by kernel_rfl) ?_
        simp [go_sem, markTCells_at]
        refine ⟨h, vcallV_pure (c_markText (k + 3 * i + 2) (by omega)) ?_ ?_⟩
        · simp [go_sem]
          omega
        · simp [go_sem, markTCells_at]
          rw [e3]
          exact ⟨i + 1, by omega, by omega, fun i c hi hc => cl i c hi (by simp only [markTCells_at]; simpa using hc), by omega, wrap_succ (by omega)⟩
    · omega
end Go.Proofs.Ytnjnkhmcdkjekaa.V
