/- Contracts: package strings' Builder: WriteString; rendering by the program. -/
import Derived.Test.YtnjnkhmcdkjekaaW34
import Derived.Test.YtnjnkhmcdkjekaaW25
namespace Go.Proofs.Ytnjnkhmcdkjekaa.V
open Go.RowKit
set_option linter.unusedVariables false
set_option linter.unusedSimpArgs false
set_option linter.constructorNameAsVariable false
def bp (u : Bool) : AV := if u then .ptr 0 2 0 0 else .lit (.pointer none)
theorem coBuilder : Try.prog.cellsOf 71 = 2 := by kernel_rfl
@[go_sem] theorem byteCells_ren {g : Nat → Nat} {z : ByteArray} {i : Nat} : (byteCells z i).map (ren1 g) = byteCells z i := map_lits rfl
theorem same_NoEscape : sameX Try.prog 107 := ⟨_, Try.func107, by kernel_rfl, by kernel_rfl, by kernel_rfl, by kernel_rfl⟩
theorem c_copyCheck (u : Bool) (z : ByteArray) : VProc Try.prog 80 [.ptr 0 2 0 0] [some ⟨71, 2, 1, fun _ => [bp u, .own 1]⟩, some ⟨5, 1, z.size, byteCells z⟩] [] (fun av mem maps => av = .tup [] ∧ mem = [some ⟨71, 2, 1, fun _ => [.ptr 0 2 0 0, .own 1]⟩, some ⟨5, 1, z.size, byteCells z⟩] ∧ maps = []) := by
  refine vproc_start Try.func80 (by kernel_rfl) rfl (by simp [Try.ntmps80]) ?_
  simp only [Try.ntmps80, Try.results80]
  simp [go_sem]
  have fin : ∀ t, vendP [] (fun av mem maps => av = .tup [] ∧ mem = [some ⟨71, 2, 1, fun _ => [.ptr 0 2 0 0, .own 1]⟩, some ⟨5, 1, z.size, byteCells z⟩] ∧ maps = []) ⟨t, [some ⟨71, 2, 1, fun _ => [.ptr 0 2 0 0, .own 1]⟩, some ⟨5, 1, z.size, byteCells z⟩], [], 2⟩ (.tup []) := by
    intro t
    refine ⟨rfl, [], [some ⟨71, 2, 1, fun _ => [.ptr 0 2 0 0, .own 1]⟩, some ⟨5, 1, z.size, byteCells z⟩], by simp, by simp, by simp [go_sem], ?_, by simp [go_sem], ?_⟩
    · simp [go_sem]
      exact ⟨⟨rfl, rfl, rfl, fun i hi => ⟨rfl, rfl, fun c hc q hq => by simp at hc; rcases hc with rfl | rfl <;> simp [owns1] at hq <;> simp [hq]⟩⟩, outAt_lits (fun i _ => rfl) (fun i _ => rfl)⟩
    · simp [go_sem]
  cases u with
  | true =>
    simp [go_sem, bp]
    exact fin _
  | false =>
    simp [go_sem, bp]
    refine ⟨⟨_, _, ⟨rfl, rfl⟩, by decide⟩, vcall_same same_NoEscape ?_⟩
    simp [go_sem, coBuilder]
    exact fin _
theorem c_WriteString (u : Bool) (z t : ByteArray) (h : z.size + t.size ≤ 140737488355328) : VProc Try.prog 41 [.ptr 0 2 0 0, .lit (.string t)] [some ⟨71, 2, 1, fun _ => [bp u, .own 1]⟩, some ⟨5, 1, z.size, byteCells z⟩] [] (fun av mem maps => av = .tup [.lit (.int .i64 t.size), .lit .nilIface] ∧ mem = [some ⟨71, 2, 1, fun _ => [.ptr 0 2 0 0, .own 2]⟩, none, some ⟨5, 1, z.size + t.size, byteCells (z ++ t)⟩] ∧ maps = []) := by
  refine vproc_start Try.func41 (by kernel_rfl) rfl (by simp [Try.ntmps41]) ?_
  simp only [Try.ntmps41, Try.results41]
  simp [go_sem]
  refine vcall_share [0, 1] (c_copyCheck u z) (by simp) ?_ ?_ trivial ?_
  · simp [go_sem]
  · simp [go_sem]
    refine ⟨?_, fun i _ => cellsRn_lits rfl⟩
    cases u
    · exact .closed _ (.lit _)
    · exact .ptr 0 2 0 0 (by omega)
  · rintro av mem maps ⟨rfl, rfl, rfl⟩
    simp [go_sem]
    refine ⟨h, rfl, [2], [some ⟨71, 2, 1, fun _ => [.ptr 0 2 0 0, .own 2]⟩, none, some ⟨5, 1, z.size + t.size, byteCells (z ++ t)⟩], by simp, by simp, by simp [go_sem], ?_, by simp [go_sem], ?_⟩
    · simp [go_sem]
      exact ⟨⟨rfl, rfl, rfl, fun i hi => ⟨rfl, rfl, fun c hc q hq => by simp at hc; rcases hc with rfl | rfl <;> simp [owns1] at hq <;> simp [hq]⟩⟩, outAt_lits (fun i hi => join_bytes z t i hi) (fun i _ => rfl)⟩
    · simp [go_sem]
theorem c_Render (l : List PTok) (hl : l.length + tokSum l ≤ 1048576) : VFun Try.prog 13 [.sl 3 l.length (tokCells l)] (fun av obs => obs = [] ∧ av = .lit (.string (rend l))) := by
  have cl : ∀ (i : Nat) (c : AV), i < l.length → c ∈ tokCells l i → Closed c := fun i c _ h => tokClosed l i c h
  refine vfun_start Try.func13 (by kernel_rfl) rfl (by simp [Try.ntmps13]) ?_
  simp only [Try.ntmps13, Try.results13]
  simp [go_sem]
  refine ⟨by omega, ?_⟩
  refine vc_loopE (fun p : Nat × Bool => p.1 ≤ l.length) (fun p => l.length - p.1) (fun p => .of [(3, .ptr 0 2 0 0), (6, .sl 3 l.length (tokCells l)), (7, .lit (.int .i64 l.length)), (8, .lit (.int .i64 p.1))] [some ⟨71, 2, 1, fun _ => [bp p.2, .own 1]⟩, some ⟨5, 1, (rend (l.take p.1)).size, byteCells (rend (l.take p.1))⟩]) ⟨(0, false), by omega, ?_⟩ (fun p hp => ?_)
  · refine (Ent.adopt (j := 0) (c := 1) rfl rfl rfl 5 1 (by omega) (fun _ => [])).trans ?_
    refine ent_ks [0, 1] (by simp) (by simp) (by simp) (by simp) trivial ?_ ?_
    · simp [go_sem]
      exact cl
    · simp [go_sem, rend, bp]
  · obtain ⟨i, u⟩ := p
    simp only at hp
    have bpr : ∀ g : Nat → Nat, g 0 = 0 → ren1 g (bp u) = bp u := fun g h => by cases u <;> simp [bp, ren1, h]
    have bpc : ∀ f : Nat → Nat, ∀ m, 0 < m → f 0 = 0 → Rn f m (bp u) (bp u) := fun f m h1 h2 => by
      cases u
      · exact .closed _ (.lit _)
      · have := Rn.ptr (f := f) (m := m) 0 2 0 0 h1
        rw [h2] at this
        exact this
    simp [go_sem]
    refine ⟨fun h => ?_, fun h => ?_⟩
    · have hs := tokSum_take l i h
      rcases ho : l.getD i default with ⟨k, g, z⟩
      rw [ho] at hs
      have e : tokCells l i = [.lit (.int .i64 k), .lit (.string g), .lit (.string z)] := by unfold tokCells; rw [ho]; rfl
      have hr := rend_take l i h
      have hz := rend_size (l.take i)
      have hz2 := tokSum_take_le l (i + 1)
      rw [ho] at hr
      simp only at hr
      simp only [tokSize] at hs
      simp [go_sem, e]
      refine ⟨h, ?_⟩
      refine vcall_share [0, 1] (c_WriteString u (rend (l.take i)) g (by omega)) (by simp) ?_ ?_ trivial ?_
      · simp [go_sem]
      · simp [go_sem]
        exact ⟨bpc _ _ (by omega) rfl, fun i _ => cellsRn_lits rfl⟩
      · rintro av mem maps ⟨rfl, rfl, rfl⟩
        simp [go_sem]
        refine vcall_share [0, 3] (c_WriteString true (rend (l.take i) ++ g) z (by rw [ByteArray.size_append]; omega)) (by simp) ?_ ?_ trivial ?_
        · simp [go_sem]
        · simp [go_sem, bp]
          exact fun i _ => cellsRn_lits rfl
        · rintro av mem maps ⟨rfl, rfl, rfl⟩
          simp [go_sem]
          refine ⟨i + 1, by omega, by omega, .inr ?_⟩
          refine ent_ks [0, 4] (by simp) (by simp) (by simp) (by simp) trivial ?_ ?_
          · simp [go_sem]
            exact ⟨cl, wrap_succ (by omega)⟩
          · simp [go_sem, hr, bp]
            exact .inl fun j hj => byteClosed _ _
    · have e2 : l.take i = l := List.take_of_length_le h
      rw [e2]
      refine vcall_share [0, 1] (c_String (bp u) (rend l)) (by simp) ?_ ?_ trivial ?_
      · simp [go_sem]
      · simp [go_sem]
        exact ⟨bpc _ _ (by omega) rfl, fun i _ => cellsRn_lits rfl⟩
      · rintro av mem maps ⟨rfl, rfl, rfl⟩
        simp [go_sem]
end Go.Proofs.Ytnjnkhmcdkjekaa.V
