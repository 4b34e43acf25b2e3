/- Contracts: the law of Union. -/
import Derived.Test.YtnjnkhmcdkjekaaW22
namespace Go.Proofs.Ytnjnkhmcdkjekaa.V
open Go.RowKit
set_option linter.unusedVariables false
set_option linter.unusedSimpArgs false
set_option linter.constructorNameAsVariable false
theorem c_FnExactUnion (a b : List POp) (hla : a.length ≤ maxLen) (hlb : b.length ≤ maxLen) (hwa : opsWf a) (hwb : opsWf b) (hra : opsRng a) (hrb : opsRng b) : VFun Try.prog 4 [.agg [.sl 4 a.length (opCells a)], .agg [.sl 4 b.length (opCells b)]] (fun av _ => av = .lit (.bool true)) := by
  have cla : ∀ (i : Nat) (c : AV), i < a.length → c ∈ opCells a i → Closed c := fun i c _ h => opClosed a i c h
  have clb : ∀ (i : Nat) (c : AV), i < b.length → c ∈ opCells b i → Closed c := fun i c _ h => opClosed b i c h
  have clo : ∀ (l : List POp) (i : Nat) (c : AV), i < l.length → c ∈ opCells l i → Closed c := fun l i c _ h => opClosed l i c h
  refine vfun_start Try.func4 (by kernel_rfl) rfl (by simp [Try.ntmps4]) ?_
  simp only [Try.ntmps4, Try.results4]
  simp [go_sem]
  refine vcall_use (c_szTable a 1048576 hla hwa (by decide) (by decide)) ?_ ?_
  · simp [go_sem]
    exact argSl_refl (by omega) cla
  · rintro av obs ⟨rfl, rfl | ⟨h0, rfl⟩⟩
    · simp [go_sem]
    · simp [go_sem]
      refine fun h1 => vcall_use (c_szTable b _ hlb hwb h0 (by omega)) ?_ ?_
      · simp [go_sem]
        exact argSl_refl (by omega) clb
      · rintro av obs ⟨rfl, rfl | ⟨h2, rfl⟩⟩
        · simp [go_sem]
        · simp [go_sem]
          refine fun h3 => ?_
          have hsa : a.length ≤ 1048576 := by omega
          have hsb : b.length ≤ 1048576 := by omega
          have hab : a.length + b.length ≤ 1048576 := by omega
          have hun : (union a b).length ≤ a.length + b.length := uniq_len _ _
          have clu := clo (union a b)
          refine vc_drawnE (.of [(2, .ptr 0 1 0 0), (3, .ptr 1 1 0 0), (6, .ptr 2 1 0 0)] [some ⟨31, 1, 1, fun _ => [.sl 4 a.length (opCells a)]⟩, some ⟨31, 1, 1, fun _ => [.sl 4 b.length (opCells b)]⟩, some ⟨35, 1, 1, fun _ => [.own 3]⟩, some ⟨81, 4, (union a b).length, opCells (union a b)⟩]) 6 (.q 0 <| .q 2 <| .or 1 (.or 3 (.or 4 (.or 5 (.or 6 (.done) (.nil)) (.nil)) (.or 5 (.or 4 (.or 6 (.done) (.nil)) (.nil)) (.nil))) (.or 5 (.or 3 (.or 4 (.or 6 (.done) (.nil)) (.nil)) (.nil)) (.nil))) (.or 5 (.or 1 (.or 3 (.or 4 (.or 6 (.done) (.nil)) (.nil)) (.nil)) (.nil)) (.nil))) (by kernel_rfl) ?_ ?_
          · simp [go_sem]
            refine ⟨vcallV_use (c_toTable a hsa) ?_ ?_, vcallV_use (c_toTable a hsa) ?_ ?_⟩
            · simp [go_sem]
              exact argSl_refl (by omega) cla
            · rintro av obs ⟨rfl, rfl⟩
              simp [go_sem]
              refine ⟨vcallV_use (c_toTable b hsb) ?_ ?_, vcallV_use (c_toTable b hsb) ?_ ?_⟩
              · simp [go_sem]
                exact argSl_refl (by omega) clb
              · rintro av obs ⟨rfl, rfl⟩
                simp [go_sem]
                refine ⟨vcallV_use (c_specUnion a b hab) ?_ ?_, vcallV_use (c_specUnion a b hab) ?_ ?_⟩
                · simp [go_sem]
                  exact ⟨argSl_own (k := 2) rfl (by omega) cla, argSl_own (k := 3) rfl (by omega) clb⟩
                · rintro av obs ⟨rfl, rfl⟩
                  simp [go_sem]
                  refine ent_ks [0, 1, 5, 4] (by simp) (by simp) (by simp) (by simp) (by simp [go_sem]) ?_ ?_
                  · simp [go_sem]
                  · simp [go_sem]
                    exact ⟨cla, clb, .inl fun i _ => opClosed _ _⟩
                · simp [go_sem]
                  exact ⟨argSl_own (k := 2) rfl (by omega) cla, argSl_own (k := 3) rfl (by omega) clb⟩
                · rintro av obs ⟨rfl, rfl⟩
                  simp [go_sem]
                  refine ent_ks [0, 1, 4, 5] (by simp) (by simp) (by simp) (by simp) (by simp [go_sem]) ?_ ?_
                  · simp [go_sem]
                  · simp [go_sem]
                    exact ⟨cla, clb, .inl fun i _ => opClosed _ _⟩
              · simp [go_sem]
                exact argSl_refl (by omega) clb
              · rintro av obs ⟨rfl, rfl⟩
                simp [go_sem]
                refine vcallV_use (c_specUnion a b hab) ?_ ?_
                · simp [go_sem]
                  exact ⟨argSl_own (k := 2) rfl (by omega) cla, argSl_own (k := 4) rfl (by omega) clb⟩
                · rintro av obs ⟨rfl, rfl⟩
                  simp [go_sem]
                  refine ent_ks [0, 1, 3, 5] (by simp) (by simp) (by simp) (by simp) (by simp [go_sem]) ?_ ?_
                  · simp [go_sem]
                  · simp [go_sem]
                    exact ⟨cla, clb, .inl fun i _ => opClosed _ _⟩
            · simp [go_sem]
              exact argSl_refl (by omega) cla
            · rintro av obs ⟨rfl, rfl⟩
              simp [go_sem]
              refine vcallV_use (c_toTable b hsb) ?_ ?_
              · simp [go_sem]
                exact argSl_refl (by omega) clb
              · rintro av obs ⟨rfl, rfl⟩
                simp [go_sem]
                refine vcallV_use (c_specUnion a b hab) ?_ ?_
                · simp [go_sem]
                  exact ⟨argSl_own (k := 3) rfl (by omega) cla, argSl_own (k := 4) rfl (by omega) clb⟩
                · rintro av obs ⟨rfl, rfl⟩
                  simp [go_sem]
                  refine ent_ks [0, 1, 2, 5] (by simp) (by simp) (by simp) (by simp) (by simp [go_sem]) ?_ ?_
                  · simp [go_sem]
                  · simp [go_sem]
                    exact ⟨cla, clb, .inl fun i _ => opClosed _ _⟩
          · simp [go_sem]
            refine vcall_use (c_toTable a hsa) ?_ ?_
            · simp [go_sem]
              exact argSl_refl (by omega) cla
            · rintro av obs ⟨rfl, rfl⟩
              simp [go_sem]
              refine vcall_use (c_toTable b hsb) ?_ ?_
              · simp [go_sem]
                exact argSl_refl (by omega) clb
              · rintro av obs ⟨rfl, rfl⟩
                simp [go_sem]
                refine vcall_use (c_Union a b hab hwa hwb hra hrb) ?_ ?_
                · simp [go_sem]
                  exact ⟨argSl_own (k := 4) rfl (by omega) cla, argSl_own (k := 6) rfl (by omega) clb⟩
                · rintro av obs ⟨rfl, rfl⟩
                  simp [go_sem]
                  refine vcall_pure (c_eqTable (union a b) (union a b) (by omega) (by omega)) ?_ ?_
                  · simp [go_sem]
                    exact ⟨argSl_own (k := 8) rfl (by omega) clu, argSl_own (k := 3) rfl (by omega) clu⟩
                  · simp [go_sem, opsEq_refl]
                    refine vc_drawn 5 (.q 0 <| .q 1 <| .or 2 (.or 3 (.q 4 <| .done) (.nil)) (.nil)) (by kernel_rfl) ?_
                    simp [go_sem]
                    refine vcallV_use (c_toTable a hsa) ?_ ?_
                    · simp [go_sem]
                      exact argSl_refl (by omega) cla
                    · rintro av obs ⟨rfl, rfl⟩
                      simp [go_sem]
                      refine vcallV_pure (c_eqTable a a (by omega) (by omega)) ?_ ?_
                      · simp [go_sem]
                        exact ⟨argSl_own (k := 4) rfl (by omega) cla, argSl_own (k := 10) rfl (by omega) cla⟩
                      · simp [go_sem, opsEq_refl]
                        refine vc_drawn 5 (.q 0 <| .q 1 <| .or 2 (.or 3 (.q 4 <| .done) (.nil)) (.nil)) (by kernel_rfl) ?_
                        simp [go_sem]
                        refine vcallV_use (c_toTable b hsb) ?_ ?_
                        · simp [go_sem]
                          exact argSl_refl (by omega) clb
                        · rintro av obs ⟨rfl, rfl⟩
                          simp [go_sem]
                          refine vcallV_pure (c_eqTable b b (by omega) (by omega)) ?_ ?_
                          · simp [go_sem]
                            exact ⟨argSl_own (k := 6) rfl (by omega) clb, argSl_own (k := 11) rfl (by omega) clb⟩
                          · simp [go_sem, opsEq_refl]
                            refine vcall_share [4] (c_markTable a 1 hsa (by omega)) (by simp) ?_ ?_ trivial ?_
                            · simp [go_sem]
                            · simp [go_sem]
                              exact fun i _ => cellsRn_lits rfl
                            · rintro av mem maps ⟨rfl, rfl, rfl⟩
                              simp [go_sem]
                              refine vcall_share [6] (c_markTable b (1 + 4 * a.length) hsb (by omega)) (by simp) ?_ ?_ trivial ?_
                              · simp [go_sem]
                              · simp [go_sem]
                                exact fun i _ => cellsRn_lits rfl
                              · rintro av mem maps ⟨rfl, rfl, rfl⟩
                                simp [go_sem]
                                refine ⟨fun _ => ?_, by omega⟩
                                refine vcall_pure (c_eqTable (union a b) (union a b) (by omega) (by omega)) ?_ ?_
                                · simp [go_sem]
                                  exact ⟨argSl_own (k := 8) rfl (by omega) clu, argSl_own (k := 3) rfl (by omega) clu⟩
                                · simp [go_sem, opsEq_refl]
                                  refine vcall_share [8] (c_markTable (union a b) 1 (by omega) (by omega)) (by simp) ?_ ?_ trivial ?_
                                  · simp [go_sem]
                                  · simp [go_sem]
                                    exact fun i _ => cellsRn_lits rfl
                                  · rintro av mem maps ⟨rfl, rfl, rfl⟩
                                    simp [go_sem]
                                    refine vcall_pure (c_heldTable (union a b).length 1 (by omega) (by omega)) ?_ ?_
                                    · simp [go_sem]
                                      exact argSl_own (k := 8) rfl (by omega) fun i c _ hc => markClosed 1 i c hc
                                    · simp [go_sem]
                                      refine ⟨by omega, fun _ => ?_⟩
                                      refine vc_drawnE (.of [(2, .ptr 0 1 0 0), (3, .ptr 1 1 0 0), (6, .ptr 2 1 0 0), (9, .ptr 4 1 0 0), (11, .lit (.int .i64 (1 + 4 * (union a b).length : Nat))), (13, .ptr 6 1 0 0)] [some ⟨31, 1, 1, fun _ => [.sl 4 a.length (opCells a)]⟩, some ⟨31, 1, 1, fun _ => [.sl 4 b.length (opCells b)]⟩, some ⟨35, 1, 1, fun _ => [.own 3]⟩, some ⟨81, 4, (union a b).length, opCells (union a b)⟩, some ⟨35, 1, 1, fun _ => [.own 5]⟩, some ⟨81, 4, (union a b).length, markCells 1⟩, some ⟨35, 1, 1, fun _ => [.own 7]⟩, some ⟨81, 4, (union a b).length, opCells (union a b)⟩]) 6 (.q 0 <| .q 2 <| .or 1 (.or 3 (.or 4 (.or 5 (.or 6 (.done) (.nil)) (.nil)) (.or 5 (.or 4 (.or 6 (.done) (.nil)) (.nil)) (.nil))) (.or 5 (.or 3 (.or 4 (.or 6 (.done) (.nil)) (.nil)) (.nil)) (.nil))) (.or 5 (.or 1 (.or 3 (.or 4 (.or 6 (.done) (.nil)) (.nil)) (.nil)) (.nil)) (.nil))) (by kernel_rfl) ?_ ?_
                                      · simp [go_sem]
                                        refine ⟨vcallV_use (c_toTable a hsa) ?_ ?_, vcallV_use (c_toTable a hsa) ?_ ?_⟩
                                        · simp [go_sem]
                                          exact argSl_refl (by omega) cla
                                        · rintro av obs ⟨rfl, rfl⟩
                                          simp [go_sem]
                                          refine ⟨vcallV_use (c_toTable b hsb) ?_ ?_, vcallV_use (c_toTable b hsb) ?_ ?_⟩
                                          · simp [go_sem]
                                            exact argSl_refl (by omega) clb
                                          · rintro av obs ⟨rfl, rfl⟩
                                            simp [go_sem]
                                            refine ⟨vcallV_use (c_Union a b hab hwa hwb hra hrb) ?_ ?_, vcallV_use (c_Union a b hab hwa hwb hra hrb) ?_ ?_⟩
                                            · simp [go_sem]
                                              exact ⟨argSl_own (k := 12) rfl (by omega) cla, argSl_own (k := 13) rfl (by omega) clb⟩
                                            · rintro av obs ⟨rfl, rfl⟩
                                              simp [go_sem]
                                              refine ent_ks [0, 1, 2, 3, 9, 8, 15, 14] (by simp) (by simp) (by simp) (by simp) (by simp [go_sem]) ?_ ?_
                                              · simp [go_sem]
                                              · simp [go_sem]
                                                exact ⟨cla, clb, .inl fun i _ => opClosed _ _, .inl fun i _ => markClosed _ _, .inl fun i _ => opClosed _ _⟩
                                            · simp [go_sem]
                                              exact ⟨argSl_own (k := 12) rfl (by omega) cla, argSl_own (k := 13) rfl (by omega) clb⟩
                                            · rintro av obs ⟨rfl, rfl⟩
                                              simp [go_sem]
                                              refine ent_ks [0, 1, 2, 3, 9, 8, 14, 15] (by simp) (by simp) (by simp) (by simp) (by simp [go_sem]) ?_ ?_
                                              · simp [go_sem]
                                              · simp [go_sem]
                                                exact ⟨cla, clb, .inl fun i _ => opClosed _ _, .inl fun i _ => markClosed _ _, .inl fun i _ => opClosed _ _⟩
                                          · simp [go_sem]
                                            exact argSl_refl (by omega) clb
                                          · rintro av obs ⟨rfl, rfl⟩
                                            simp [go_sem]
                                            refine vcallV_use (c_Union a b hab hwa hwb hra hrb) ?_ ?_
                                            · simp [go_sem]
                                              exact ⟨argSl_own (k := 12) rfl (by omega) cla, argSl_own (k := 14) rfl (by omega) clb⟩
                                            · rintro av obs ⟨rfl, rfl⟩
                                              simp [go_sem]
                                              refine ent_ks [0, 1, 2, 3, 9, 8, 13, 15] (by simp) (by simp) (by simp) (by simp) (by simp [go_sem]) ?_ ?_
                                              · simp [go_sem]
                                              · simp [go_sem]
                                                exact ⟨cla, clb, .inl fun i _ => opClosed _ _, .inl fun i _ => markClosed _ _, .inl fun i _ => opClosed _ _⟩
                                        · simp [go_sem]
                                          exact argSl_refl (by omega) cla
                                        · rintro av obs ⟨rfl, rfl⟩
                                          simp [go_sem]
                                          refine vcallV_use (c_toTable b hsb) ?_ ?_
                                          · simp [go_sem]
                                            exact argSl_refl (by omega) clb
                                          · rintro av obs ⟨rfl, rfl⟩
                                            simp [go_sem]
                                            refine vcallV_use (c_Union a b hab hwa hwb hra hrb) ?_ ?_
                                            · simp [go_sem]
                                              exact ⟨argSl_own (k := 13) rfl (by omega) cla, argSl_own (k := 14) rfl (by omega) clb⟩
                                            · rintro av obs ⟨rfl, rfl⟩
                                              simp [go_sem]
                                              refine ent_ks [0, 1, 2, 3, 9, 8, 12, 15] (by simp) (by simp) (by simp) (by simp) (by simp [go_sem]) ?_ ?_
                                              · simp [go_sem]
                                              · simp [go_sem]
                                                exact ⟨cla, clb, .inl fun i _ => opClosed _ _, .inl fun i _ => markClosed _ _, .inl fun i _ => opClosed _ _⟩
                                      · simp [go_sem]
                                        refine vcall_pure (c_eqTable (union a b) (union a b) (by omega) (by omega)) ?_ ?_
                                        · simp [go_sem]
                                          exact ⟨argSl_own (k := 7) rfl (by omega) clu, argSl_own (k := 3) rfl (by omega) clu⟩
                                        · simp [go_sem, opsEq_refl]
                                          refine vcall_pure (c_heldTable (union a b).length 1 (by omega) (by omega)) ?_ ?_
                                          · simp [go_sem]
                                            exact argSl_own (k := 5) rfl (by omega) fun i c _ hc => markClosed 1 i c hc
                                          · simp [go_sem]
                                            omega
theorem wf_i64 {n : Int} (h : (Lit.int .i64 n).wf = true) : i64 n := by
  simp only [Lit.wf, IntKind.min, IntKind.max, IntKind.bits, IntKind.signed, decide_eq_true_eq, Bool.and_eq_true] at h
  exact h
set_option maxRecDepth 100000 in
theorem shape_opR (n : Nat) (xs : List AV) (h : Shape Try.prog (n + 2) 134 xs) : ∃ o : POp, (o.wf ∧ o.rng) ∧ xs = o.cells := by
  obtain ⟨parts, h0, rfl⟩ := shape_struct Try.underlying134 h
  clear h
  simp only [List.toList_toArray, all2_cons, all2_nil] at h0
  obtain ⟨_, _, rfl, ⟨_, h1⟩, _, _, rfl, ⟨_, h2⟩, _, _, rfl, ⟨_, h3⟩, _, _, rfl, ⟨_, h4⟩, rfl⟩ := h0
  obtain ⟨z, rfl, hz⟩ := shape_string Try.underlying9 h1
  obtain ⟨k, rfl, hk⟩ := shape_int Try.underlying3 h2
  obtain ⟨l, rfl, hl⟩ := shape_int Try.underlying3 h3
  obtain ⟨s, rfl, hs⟩ := shape_int Try.underlying3 h4
  exact ⟨⟨z, k, l, s⟩, ⟨hz, wf_i64 hk, wf_i64 hl, wf_i64 hs⟩, rfl⟩
set_option maxRecDepth 100000 in
theorem shape_tableR (n : Nat) (xs : List AV) (h : Shape Try.prog (n + 4) 31 xs) : ∃ l : List POp, l.length ≤ maxLen ∧ opsWf l ∧ opsRng l ∧ ∃ f, xs = [.sl 4 l.length f] ∧ ∀ i, i < l.length → f i = opCells l i := by
  obtain ⟨parts, h0, rfl⟩ := shape_struct Try.underlying31 h
  clear h
  simp only [List.toList_toArray, all2_cons, all2_nil] at h0
  obtain ⟨_, _, rfl, ⟨_, h1⟩, rfl⟩ := h0
  obtain ⟨m, f, rfl, hm, hf⟩ := shape_slice Try.underlying29 h1
  have hc : Try.prog.cellsOf 134 = 4 := by kernel_rfl
  obtain ⟨l, rfl, h2, h3⟩ := rows_of POp.cells (fun o => o.wf ∧ o.rng) fun i hi => shape_opR n (f i) (hf i hi).2
  exact ⟨l, hm, fun i hi => (h2 i hi).1, fun i hi => (h2 i hi).2, f, by rw [hc]; rfl, h3⟩
end Go.Proofs.Ytnjnkhmcdkjekaa.V
