/- Contracts: rendering. -/
import Derived.Test.YtnjnkhmcdkjekaaW7
namespace Go.Proofs.Ytnjnkhmcdkjekaa.V
open Go.RowKit
set_option linter.unusedVariables false
set_option linter.unusedSimpArgs false
set_option linter.constructorNameAsVariable false
theorem byteAt_app (a b : ByteArray) (i : Nat) (h : i < a.size + b.size) : byteAt (a ++ b) i = if i < a.size then byteAt a i else byteAt b (i - a.size) := by
  have hs : i < (a ++ b).size := by rw [ByteArray.size_append]; exact h
  unfold byteAt
  rw [dif_pos hs]
  by_cases h1 : i < a.size
  · rw [if_pos h1, dif_pos h1, ByteArray.getElem_append_left h1]
  · rw [if_neg h1, dif_pos (by omega), ByteArray.getElem_append_right (by omega)]
theorem join_bytes (a b : ByteArray) (i : Nat) (h : i < a.size + b.size) : joinF a.size (byteCells a) (byteCells b) i = byteCells (a ++ b) i := by
  unfold joinF byteCells
  rw [byteAt_app a b i h]
  by_cases h1 : i < a.size <;> simp [h1]
theorem byteOne (z : ByteArray) (i : Nat) : (byteCells z i).all oneAV = true := rfl
theorem byteClosed (z : ByteArray) (i : Nat) (c : AV) (h : c ∈ byteCells z i) : Closed c := by
  simp [byteCells] at h
  subst h
  exact .lit _
/-- the text of tokens -/
def rend (l : List PTok) : ByteArray := l.foldl (fun b o => b ++ o.gap ++ o.text) ByteArray.empty
theorem rend_take (l : List PTok) (i : Nat) (h : i < l.length) : rend (l.take (i + 1)) = rend (l.take i) ++ (l.getD i default).gap ++ (l.getD i default).text := by
  unfold rend
  rw [List.take_add_one, List.getElem?_eq_getElem h, List.foldl_append, List.getD_eq_getElem?_getD, List.getElem?_eq_getElem h]
  rfl
theorem rend_size_from (l : List PTok) : ∀ b : ByteArray, (l.foldl (fun b o => b ++ o.gap ++ o.text) b).size = b.size + tokSum l := by
  induction l with
  | nil => intro b; simp [tokSum]
  | cons o l ih =>
    intro b
    simp only [List.foldl_cons]
    rw [ih]
    simp only [ByteArray.size_append, tokSum, List.map_cons, List.sum_cons, tokSize]
    omega
theorem rend_size (l : List PTok) : (rend l).size = tokSum l := by
  unfold rend
  rw [rend_size_from]
  simp
theorem tokSum_take_le (l : List PTok) (i : Nat) : tokSum (l.take i) ≤ tokSum l := by
  unfold tokSum
  rw [List.map_take]
  exact take_sum_le _ _
theorem c_specRender (l : List PTok) (hl : l.length + tokSum l ≤ 1048576) : VFun Try.prog 11 [.sl 3 l.length (tokCells l)] (fun av obs => obs = [] ∧ av = .lit (.string (rend l))) := by
  refine vfun_start Try.func11 (by kernel_rfl) rfl (by simp [Try.ntmps11]) ?_
  simp only [Try.ntmps11, Try.results11]
  simp [go_sem]
  refine vc_loopR (fun i : Nat => i ≤ l.length) (fun i => l.length - i) (fun i => .of [(0, .sl 3 l.length (tokCells l)), (3, .own 0), (4, .lit (.int .i64 i))] [some ⟨5, 1, (rend (l.take i)).size, byteCells (rend (l.take i))⟩]) (fun _ => 2) ⟨0, by omega, ?_⟩ (fun i hi => ?_)
  · simp [go_sem, rend]
    exact fun i c _ h => tokClosed l i c h
  · simp [go_sem]
    refine ⟨by omega, fun h => ?_, fun h => ?_⟩
    · have hs := tokSum_take l i h
      rcases ho : l.getD i default with ⟨k, g, z⟩
      rw [ho] at hs
      have e : tokCells l i = [.lit (.int .i64 k), .lit (.string g), .lit (.string z)] := by unfold tokCells; rw [ho]; rfl
      have hr := rend_take l i h
      have hz := rend_size (l.take i)
      have hz2 := tokSum_take_le l (i + 1)
      rw [ho] at hr
      simp only at hr
      simp only [tokSize] at hs
      simp [go_sem, e, -List.all_eq_true, byteOne]
      refine ⟨h, by omega, by omega, by omega, h, by omega, by omega, by omega, i + 1, by omega, by omega, ?_⟩
      refine leR_one (K := 2) ?_ ?_ ?_
      · simp [go_sem]
        exact ⟨fun i c _ h => tokClosed l i c h, wrap_succ (by omega)⟩
      · simp
      · simp [go_sem, hr]
        refine fun j hj => ⟨?_, byteClosed _ _⟩
        rw [← join_bytes (rend (l.take i) ++ g) z j (by simpa using hj)]
        unfold joinF
        rw [ByteArray.size_append]
        by_cases h1 : j < (rend (l.take i)).size + g.size
        · rw [if_pos h1, if_pos h1]
          exact join_bytes _ _ _ h1
        · rw [if_neg h1, if_neg h1]
    · have e2 : l.take i = l := List.take_of_length_le h
      rw [e2]
      exact ⟨rfl, fun _ _ => rfl⟩
end Go.Proofs.Ytnjnkhmcdkjekaa.V
