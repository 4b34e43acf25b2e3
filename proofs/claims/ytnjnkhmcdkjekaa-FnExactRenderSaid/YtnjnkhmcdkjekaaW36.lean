/- Contracts: the law of Render. -/
import Derived.Test.YtnjnkhmcdkjekaaW35
namespace Go.Proofs.Ytnjnkhmcdkjekaa.V
open Go.RowKit
set_option linter.unusedVariables false
set_option linter.unusedSimpArgs false
set_option linter.constructorNameAsVariable false
theorem c_FnExactRender (l : List PTok) (hl : l.length ≤ maxLen) (hw : ∀ i, i < l.length → (l.getD i default).wf) : VFun Try.prog 3 [.sl 3 l.length (tokCells l)] (fun av _ => av = .lit (.bool true)) := by
  have cl : ∀ (i : Nat) (c : AV), i < l.length → c ∈ tokCells l i → Closed c := fun i c _ h => tokClosed l i c h
  refine vfun_start Try.func3 (by kernel_rfl) rfl (by simp [Try.ntmps3]) ?_
  simp only [Try.ntmps3, Try.results3]
  simp [go_sem]
  refine vcall_use (c_szTokenS l 1048576 hl hw (by decide) (by decide)) ?_ ?_
  · simp [go_sem]
    exact argSl_refl (by omega) cl
  · rintro av obs ⟨rfl, rfl | ⟨h0, rfl⟩⟩
    · simp [go_sem]
    · simp [go_sem]
      refine fun h1 => ?_
      have hsa : l.length + tokSum l ≤ 1048576 := by omega
      refine vcall_use (c_toTokenS l (by omega)) ?_ ?_
      · simp [go_sem]
        exact argSl_refl (by omega) cl
      · rintro av obs ⟨rfl, rfl⟩
        simp [go_sem]
        refine vcall_pure (c_specRender l hsa) ?_ ?_
        · simp [go_sem]
          exact argSl_own (k := 0) rfl (by omega) cl
        · simp [go_sem]
          refine vcall_use (c_toTokenS l (by omega)) ?_ ?_
          · simp [go_sem]
            exact argSl_refl (by omega) cl
          · rintro av obs ⟨rfl, rfl⟩
            simp [go_sem]
            refine vcall_pure (c_Render l hsa) ?_ ?_
            · simp [go_sem]
              exact argSl_own (k := 1) rfl (by omega) cl
            · simp [go_sem]
              refine vcall_use (c_toTokenS l (by omega)) ?_ ?_
              · simp [go_sem]
                exact argSl_refl (by omega) cl
              · rintro av obs ⟨rfl, rfl⟩
                simp [go_sem]
                refine vcall_pure (c_eqTokenS l l (by omega) (by omega)) ?_ ?_
                · simp [go_sem]
                  exact ⟨argSl_own (k := 1) rfl (by omega) cl, argSl_own (k := 2) rfl (by omega) cl⟩
                · simp [go_sem, toksEq_refl]
set_option maxRecDepth 100000 in
theorem shape_tok (n : Nat) (xs : List AV) (h : Shape Try.prog (n + 2) 66 xs) : ∃ o : PTok, o.wf ∧ xs = o.cells := by
  obtain ⟨parts, h0, rfl⟩ := shape_struct Try.underlying66 h
  clear h
  simp only [List.toList_toArray, all2_cons, all2_nil] at h0
  obtain ⟨_, _, rfl, ⟨_, h1⟩, _, _, rfl, ⟨_, h2⟩, _, _, rfl, ⟨_, h3⟩, rfl⟩ := h0
  obtain ⟨k, rfl, hk⟩ := shape_int Try.underlying3 h1
  obtain ⟨g, rfl, hg⟩ := shape_string Try.underlying9 h2
  obtain ⟨z, rfl, hz⟩ := shape_string Try.underlying9 h3
  exact ⟨⟨k, g, z⟩, ⟨hg, hz⟩, rfl⟩
set_option maxRecDepth 100000 in
theorem shape_toks (n : Nat) (xs : List AV) (h : Shape Try.prog (n + 3) 22 xs) : ∃ l : List PTok, l.length ≤ maxLen ∧ (∀ i, i < l.length → (l.getD i default).wf) ∧ ∃ f, xs = [.sl 3 l.length f] ∧ ∀ i, i < l.length → f i = tokCells l i := by
  obtain ⟨m, f, rfl, hm, hf⟩ := shape_slice Try.underlying22 h
  have hc : Try.prog.cellsOf 66 = 3 := by kernel_rfl
  obtain ⟨l, rfl, h2, h3⟩ := rows_of PTok.cells PTok.wf fun i hi => shape_tok n (f i) (hf i hi).2
  exact ⟨l, hm, h2, f, by rw [hc], h3⟩
end Go.Proofs.Ytnjnkhmcdkjekaa.V
