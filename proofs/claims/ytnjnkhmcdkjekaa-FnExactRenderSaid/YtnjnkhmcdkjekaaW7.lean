/- Contracts: sizes of tokens. -/
import Derived.Test.YtnjnkhmcdkjekaaW6
namespace Go.Proofs.Ytnjnkhmcdkjekaa.V
open Go.RowKit
set_option linter.unusedVariables false
set_option linter.unusedSimpArgs false
set_option linter.constructorNameAsVariable false
def szTok (o : PTok) (left : Int) : Int := if left - o.gap.size < 0 then -1 else if left - o.gap.size - o.text.size < 0 then -1 else left - o.gap.size - o.text.size
theorem c_szToken (o : PTok) (left : Int) (ho : o.wf) (h0 : 0 ≤ left) (h : left ≤ 1048576) : VFun Try.prog 39 [.agg o.cells, .lit (.int .i64 left)] (fun av obs => obs = [] ∧ av = .lit (.int .i64 (szTok o left))) := by
  obtain ⟨k, g, z⟩ := o
  simp only [PTok.cells, PTok.wf, maxLen] at ho ⊢
  refine vfun_start Try.func39 (by kernel_rfl) rfl (by simp [Try.ntmps39]) ?_
  simp only [Try.ntmps39, Try.results39]
  simp [go_sem]
  rw [wrap_i64 (n := left - g.size) (by omega)]
  simp only [szTok]
  refine ⟨fun h1 => by rw [if_pos h1], fun h1 => ?_⟩
  rw [wrap_i64 (n := left - g.size - z.size) (by omega), if_neg (by omega)]
  refine ⟨fun h2 => by rw [if_pos h2], fun h2 => by rw [if_neg (by omega)]⟩
/-- what is left behind the first i tokens -/
def szToks (l : List PTok) (left : Int) : Int := l.foldl (fun r o => if r < 0 then r else szTok o r) (left - l.length)
def tokSize (o : PTok) : Nat := o.gap.size + o.text.size
def tokSum (l : List PTok) : Nat := (l.map tokSize).sum
theorem szTok_le (o : PTok) (left : Int) : szTok o left = -1 ∨ (0 ≤ szTok o left ∧ szTok o left = left - tokSize o) := by
  unfold szTok tokSize
  split
  · exact .inl rfl
  · split
    · exact .inl rfl
    · exact .inr ⟨by omega, by omega⟩
theorem tokSum_take (l : List PTok) (i : Nat) (h : i < l.length) : tokSum (l.take (i + 1)) = tokSum (l.take i) + tokSize (l.getD i default) := by
  unfold tokSum
  rw [List.take_add_one, List.getElem?_eq_getElem h, List.map_append, List.sum_append_nat, List.getD_eq_getElem?_getD, List.getElem?_eq_getElem h]
  simp only [Option.toList_some, List.map_cons, List.map_nil, List.sum_cons, List.sum_nil, Option.getD_some, Nat.add_zero]
/-- the contract: nothing at all, or what is left -/
theorem c_szTokenS (l : List PTok) (left : Int) (hl : l.length ≤ maxLen) (ho : ∀ i, i < l.length → (l.getD i default).wf) (h0 : 0 ≤ left) (h : left ≤ 1048576) :
    VFun Try.prog 10 [.sl 3 l.length (tokCells l), .lit (.int .i64 left)] (fun av obs => obs = [] ∧ (av = .lit (.int .i64 (-1)) ∨ (0 ≤ left - l.length - tokSum l ∧ av = .lit (.int .i64 (left - l.length - tokSum l))))) := by
  simp only [maxLen] at hl
  refine vfun_start Try.func10 (by kernel_rfl) rfl (by simp [Try.ntmps10]) ?_
  simp only [Try.ntmps10, Try.results10]
  simp [go_sem]
  rw [wrap_i64 (n := left - l.length) (by omega)]
  refine ⟨by omega, fun h1 => ?_⟩
  refine vc_loop (fun i : Nat => i ≤ l.length ∧ 0 ≤ left - l.length - tokSum (l.take i)) (fun i => l.length - i) (fun i => .of [(0, .sl 3 l.length (tokCells l)), (1, .lit (.int .i64 (left - l.length - tokSum (l.take i)))), (5, .lit (.int .i64 i))] []) ⟨0, ⟨by omega, by simpa [tokSum] using h1⟩, ?_⟩ (fun i hi => ?_)
  · simp [go_sem, tokSum]
    exact fun i c _ h => tokClosed l i c h
  · simp [go_sem]
    refine ⟨by omega, fun h => ?_, fun h => ?_⟩
    · have hw := ho i h
      have hs := tokSum_take l i h
      rcases ho : l.getD i default with ⟨k, g, z⟩
      rw [ho] at hw hs
      have e : tokCells l i = [.lit (.int .i64 k), .lit (.string g), .lit (.string z)] := by unfold tokCells; rw [ho]; rfl
      simp only [e]
      refine ⟨h, by simp, vcall_pure (c_szToken ⟨k, g, z⟩ (left - l.length - tokSum (l.take i)) hw (by omega) (by omega)) ?_ ?_⟩
      · simp [go_sem, PTok.cells]
      · simp [go_sem]
        rcases szTok_le ⟨k, g, z⟩ (left - l.length - tokSum (l.take i)) with h2 | ⟨h2, h3⟩
        · rw [h2]
          exact fun h4 => by omega
        · exact fun h4 => ⟨i + 1, ⟨by omega, by omega⟩, by omega, ⟨fun i c _ h => tokClosed l i c h, by rw [h3]; omega, wrap_succ (by omega)⟩⟩
    · have : i = l.length := by omega
      subst this
      simp only [List.take_length] at hi ⊢
      exact .inr ⟨by omega, trivial⟩
end Go.Proofs.Ytnjnkhmcdkjekaa.V
