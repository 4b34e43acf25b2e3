import Derived.Test.YtbjkgfooangjhaaDoorME
/- Contracts: Builder.WriteByte; printing by the program. -/
namespace Go.Proofs.YtbjkgfooangjhaaDoor.V
open Go.RowKit
open Go.Proofs.YtbjkgfooangjhaaDoor.Ops (Tr)
set_option linter.unusedVariables false
set_option linter.unusedSimpArgs false
set_option linter.constructorNameAsVariable false
theorem c_WriteByte (u : Bool) (z : ByteArray) (h : z.size + 1 ≤ 140737488355328) : VProc Tryd.prog 47 [.ptr 0 2 0 0, .lit (.int .u8 32)] [some ⟨90, 2, 1, fun _ => [bp u, .own 1]⟩, some ⟨5, 1, z.size, byteCells z⟩] [] (fun av mem maps => av = .lit .nilIface ∧ mem = [some ⟨90, 2, 1, fun _ => [.ptr 0 2 0 0, .own 2]⟩, none, some ⟨5, 1, z.size + 1, byteCells (z ++ ⟨#[32]⟩)⟩] ∧ maps = []) := by
  refine vproc_start Tryd.func47 (by kernel_rfl) rfl (by simp [Tryd.ntmps47]) ?_; simp only [Tryd.ntmps47, Tryd.results47]; simp [go_sem]
  refine vcall_share [0, 1] (c_copyCheck u z) (by simp) ?_ ?_ trivial ?_
  · simp [go_sem]
  · simp [go_sem]
    refine ⟨?_, fun i _ => cellsRn_lits rfl⟩
    cases u
    · exact .closed _ (.lit _)
    · exact .ptr 0 2 0 0 (by omega)
  · rintro av mem maps ⟨rfl, rfl, rfl⟩
    simp [go_sem]
    refine ⟨by omega, by omega, rfl, [3], [some ⟨90, 2, 1, fun _ => [.ptr 0 2 0 0, .own 2]⟩, none, some ⟨5, 1, z.size + 1, byteCells (z ++ ⟨#[32]⟩)⟩], by simp, by simp, by simp [go_sem], ?_, by simp [go_sem], ?_⟩
    · simp [go_sem]
      exact ⟨⟨rfl, rfl, rfl, fun i hi => ⟨rfl, rfl, fun c hc q hq => by simp at hc; rcases hc with rfl | rfl <;> simp [owns1] at hq <;> simp [hq]⟩⟩, outAt_lits (fun i hi => spc_bytes z rfl i hi) (fun i _ => rfl)⟩
    · simp [go_sem]
theorem sh0B {idx : Nat → Nat} {m k : Nat} {c d : ByteArray} (e : d = c) : ∀ j, j < k → CellsRn idx m (byteCells c j) (byteCells d j) := fun j _ => by
  subst e
  exact cellsRn_lits rfl
set_option maxRecDepth 100000 in
set_option maxHeartbeats 2000000 in
theorem c_Print (l : List POp) (hl : l.length ≤ 9223372036854775807) (hw : opsWf l) (t : List PNode) (ht : t.length ≤ 1048576) (hwt : nodsWf t) (hts : ∀ i, i < t.length → (nodAt t i).text.size ≤ 1048576) : VFun Tryd.prog 23 [.agg [.sl 4 l.length (opCells l)], .agg [.sl 4 t.length (nodCells t)]] (fun av obs => obs = [] ∧ av = .tup [.lit (.string (printZ l t)), .lit (.bool (groupOk l t))]) := by
  have cl : ∀ (i : Nat) (c : AV), i < l.length → c ∈ opCells l i → Closed c := fun i c _ h => opClosed l i c h
  have clt : ∀ (i : Nat) (c : AV), i < t.length → c ∈ nodCells t i → Closed c := fun i c _ h => nodClosed t i c h
  refine vfun_start Tryd.func23 (by kernel_rfl) rfl (by simp [Tryd.ntmps23]) ?_; simp only [Tryd.ntmps23, Tryd.results23]; simp [go_sem]
  refine vcall_share [] (c_printed l hl hw t ht hwt) (by simp) ?_ ?_ ?_ ?_
  · simp [go_sem]
    exact ⟨cl, clt⟩
  · simp [go_sem]
  · simp [go_sem]
  · rintro av mem maps (⟨h, rfl, rfl⟩ | ⟨hwf, rfl, b1, b2, rfl⟩)
    · have hgo : groupOk l t = false := by simp [groupOk, h]
      simp [go_sem, printZ, hgo]
      rfl
    · by_cases hs : sizeE (groupE l t) ≤ 20000
      · have hgo : groupOk l t = true := by simp [groupOk, hwf, hs]
        have hyl := yieldW_len (groupE l t)
        have htx := group_tx (by decide : 1 ≤ 1048576) hwf hts
        have hpz : printZ l t = outW (yieldW (groupE l t)) (yieldW (groupE l t)).length := by rw [printZ, hgo]; rfl
        rw [hpz, hgo]
        generalize hWs : yieldW (groupE l t) = W at *
        have hsz := outW_size htx
        simp [go_sem, hs, prOb, nodRow, wdRow]
        refine ⟨by omega, ?_⟩
        refine vc_loopE (fun p : Nat × Bool => p.1 ≤ W.length) (fun p => W.length - p.1) (fun p => .of [(6, .ptr 2 4 0 0), (8, .ptr 0 2 0 0), (23, .own 3), (24, .lit (.int .i64 W.length)), (25, .lit (.int .i64 p.1))] [some ⟨90, 2, 1, fun _ => [bp p.2, .own 1]⟩, some ⟨5, 1, (outW W p.1).size, byteCells (outW W p.1)⟩, some ⟨81, 4, 1, fun _ => [.undef, .undef, .undef, .own 3]⟩, wdRow W]) ⟨(0, false), by omega, ?_⟩ (fun p hp => ?_)
        · refine (Ent.adopt (j := 5) (c := 1) rfl rfl rfl 5 1 (by omega) (fun _ => [])).trans ?_
          refine ent_ks [5, 6, 2, 4] (by simp) (by simp) (by simp) (by simp) trivial ?_ ?_
          · simp [go_sem]
          · simp [go_sem, outW, bp, wdRow]
            exact .inr sh0W
        · obtain ⟨i, u⟩ := p
          simp only at hp
          have bpr : ∀ g : Nat → Nat, g 0 = 0 → ren1 g (bp u) = bp u := fun g h => by cases u <;> simp [bp, ren1, h]
          have bpc : ∀ f : Nat → Nat, ∀ m, 0 < m → f 0 = 0 → Rn f m (bp u) (bp u) := fun f m h1 h2 => by
            cases u
            · exact .closed _ (.lit _)
            · have := Rn.ptr (f := f) (m := m) 0 2 0 0 h1
              rw [h2] at this
              exact this
          have hb2 : (outW W i).size ≤ 41943080000 := Nat.le_trans (hsz i) (by have := Nat.mul_le_mul_right 1048577 (show i ≤ 40000 by omega); omega)
          have ht1 := htx i
          by_cases hlt : i < W.length
          · by_cases hi0 : i = 0
            · subst hi0
              have hW1 : outW W 1 = outW W 0 ++ (wdAt W 0).text := by simp [outW]
              have hsz1 : (outW W 1).size = (outW W 0).size + (wdAt W 0).text.size := by rw [hW1, ByteArray.size_append]
              simp [go_sem, wdRow, wdCells_at, hlt]
              refine vcall_share [0, 1] (c_WriteString u (outW W 0) (wdAt W 0).text (by omega)) (by simp) ?_ ?_ trivial ?_
              · simp [go_sem]
              · simp [go_sem]
                exact ⟨bpc _ _ (by omega) rfl, fun i _ => cellsRn_lits rfl⟩
              · rintro av mem maps ⟨rfl, rfl, rfl⟩
                simp [go_sem]
                refine ⟨1, by omega, by omega, .inr ?_⟩
                refine ent_ks [0, 5, 2, 3] (by simp) (by simp) (by simp) (by simp) trivial ?_ ?_
                · simp [go_sem]
                  exact rfl
                · simp [go_sem, bp, wdRow]
                  exact ⟨.inr ⟨hsz1.symm, sh0B hW1⟩, .inr sh0W⟩
            · have ei : IntKind.i64.wrap ((i : Int) - 1) = ((i - 1 : Nat) : Int) := by rw [wrap_i64 (by omega)]; omega
              have hlt' : i - 1 < W.length := by omega
              have hpos : 0 < i := by omega
              cases hg : gapW (wdAt W (i - 1)) (wdAt W i) with
              | true =>
                have hW1 : outW W (i + 1) = (outW W i ++ ⟨#[32]⟩) ++ (wdAt W i).text := by simp only [outW]; rw [if_pos ⟨hpos, hg⟩]
                have hsz1 : (outW W (i + 1)).size = (outW W i).size + 1 + (wdAt W i).text.size := by rw [hW1, ByteArray.size_append, ByteArray.size_append]; rfl
                cases b1 : (wdAt W i).infix_ <;> cases b2 : (wdAt W (i - 1)).infix_ <;> cases b3 : (wdAt W i).op <;> cases b4 : (wdAt W (i - 1)).op <;> first | (simp [gapW, b1, b2, b3, b4] at hg; done) | skip
                all_goals
                  simp [go_sem, wdRow, wdCells_at, hlt, hlt', hpos, ei, b1, b2, b3, b4]
                  refine vcall_share [0, 1] (c_WriteByte u (outW W i) (by omega)) (by simp) ?_ ?_ trivial ?_
                  · simp [go_sem]
                  · simp [go_sem]
                    exact ⟨bpc _ _ (by omega) rfl, fun i _ => cellsRn_lits rfl⟩
                  · rintro av mem maps ⟨rfl, rfl, rfl⟩
                    simp [go_sem]
                    refine vcall_share [0, 6] (c_WriteString true (outW W i ++ ⟨#[32]⟩) (wdAt W i).text (by rw [ByteArray.size_append, show (⟨#[32]⟩ : ByteArray).size = 1 from rfl]; omega)) (by simp) ?_ ?_ trivial ?_
                    · simp [go_sem]
                    · simp [go_sem, bp]
                      exact fun i _ => cellsRn_lits rfl
                    · rintro av mem maps ⟨rfl, rfl, rfl⟩
                      simp [go_sem]
                      refine ⟨i + 1, by omega, by omega, .inr ?_⟩
                      refine ent_ks [0, 7, 2, 3] (by simp) (by simp) (by simp) (by simp) trivial ?_ ?_
                      · simp [go_sem]
                        exact wrap_succ (by omega)
                      · simp [go_sem, bp, wdRow]
                        exact ⟨.inr ⟨hsz1.symm, sh0B hW1⟩, .inr sh0W⟩
              | false =>
                have hW1 : outW W (i + 1) = outW W i ++ (wdAt W i).text := by simp only [outW]; rw [if_neg (by rw [hg]; simp)]
                have hsz1 : (outW W (i + 1)).size = (outW W i).size + (wdAt W i).text.size := by rw [hW1, ByteArray.size_append]
                cases b1 : (wdAt W i).infix_ <;> cases b2 : (wdAt W (i - 1)).infix_ <;> cases b3 : (wdAt W i).op <;> cases b4 : (wdAt W (i - 1)).op <;> first | (simp [gapW, b1, b2, b3, b4] at hg; done) | skip
                all_goals
                  simp [go_sem, wdRow, wdCells_at, hlt, hlt', hpos, ei, b1, b2, b3, b4]
                  refine vcall_share [0, 1] (c_WriteString u (outW W i) (wdAt W i).text (by omega)) (by simp) ?_ ?_ trivial ?_
                  · simp [go_sem]
                  · simp [go_sem]
                    exact ⟨bpc _ _ (by omega) rfl, fun i _ => cellsRn_lits rfl⟩
                  · rintro av mem maps ⟨rfl, rfl, rfl⟩
                    simp [go_sem]
                    refine ⟨i + 1, by omega, by omega, .inr ?_⟩
                    refine ent_ks [0, 6, 2, 3] (by simp) (by simp) (by simp) (by simp) trivial ?_ ?_
                    · simp [go_sem]
                      exact wrap_succ (by omega)
                    · simp [go_sem, bp, wdRow]
                      exact ⟨.inr ⟨hsz1.symm, sh0B hW1⟩, .inr sh0W⟩
          · have e : i = W.length := by omega
            subst e
            simp [go_sem, wdRow, wdCells_at]
            refine vcall_share [0, 1] (c_String (bp u) (outW W W.length)) (by simp) ?_ ?_ trivial ?_
            · simp [go_sem]
            · simp [go_sem]
              exact ⟨bpc _ _ (by omega) rfl, fun i _ => cellsRn_lits rfl⟩
            · rintro av mem maps ⟨rfl, rfl, rfl⟩
              simp [go_sem]
      · have hgo : groupOk l t = false := by simp [groupOk, hs]
        simp [go_sem, hs, printZ, hgo]
        rfl
end Go.Proofs.YtbjkgfooangjhaaDoor.V
/- Contracts: the law of Print. -/
namespace Go.Proofs.YtbjkgfooangjhaaDoor.V
open Go.RowKit
set_option linter.unusedVariables false
set_option linter.unusedSimpArgs false
set_option linter.constructorNameAsVariable false
theorem nodSum_get (t : List PNode) (i : Nat) (h : i < t.length) : (nodAt t i).text.size ≤ nodSum t := by
  have h1 := nodSum_take t i h
  have h2 : nodSum (t.take (i + 1)) ≤ nodSum t := by
    unfold nodSum
    rw [List.map_take]
    exact take_sum_le _ _
  unfold nodAt
  omega
set_option maxRecDepth 100000 in
theorem c_FnExactPrint (l : List POp) (hl : l.length ≤ maxLen) (hw : opsWf l) (t : List PNode) (htl : t.length ≤ maxLen) (hwt : nodsWf t) : VFun Tryd.prog 6 [.agg [.sl 4 l.length (opCells l)], .agg [.sl 4 t.length (nodCells t)]] (fun av _ => av = .lit (.bool true)) := by
  have cl : ∀ (i : Nat) (c : AV), i < l.length → c ∈ opCells l i → Closed c := fun i c _ h => opClosed l i c h
  have clt : ∀ (i : Nat) (c : AV), i < t.length → c ∈ nodCells t i → Closed c := fun i c _ h => nodClosed t i c h
  have hl' : l.length ≤ 9223372036854775807 := by simpa [maxLen] using hl
  refine vfun_start Tryd.func6 (by kernel_rfl) rfl (by simp [Tryd.ntmps6]) ?_; simp only [Tryd.ntmps6, Tryd.results6]; simp [go_sem]
  refine vcall_use (c_szTable l 1048576 hl hw (by decide) (by decide)) ?_ ?_
  · simp [go_sem]
    exact argSl_refl (by omega) cl
  · rintro av obs ⟨rfl, rfl | ⟨h0, rfl⟩⟩
    · simp [go_sem]
    · simp [go_sem]
      refine fun h1 => vcall_use (c_szTree t _ htl hwt h0 (by omega)) ?_ ?_
      · simp [go_sem]
        exact argSl_refl (by omega) clt
      · rintro av obs ⟨rfl, rfl | ⟨h2, rfl⟩⟩
        · simp [go_sem]
        · simp [go_sem]
          refine fun h3 => ?_
          have hsa : l.length ≤ 1048576 := by omega
          have hst : t.length ≤ 1048576 := by omega
          have hts : ∀ i, i < t.length → (nodAt t i).text.size ≤ 1048576 := fun i hi => by have := nodSum_get t i hi; omega
          refine vc_drawn [] (.q 0 <| .q 2 <| .or 1 (.or 3 (.or 4 (.q 5 <| .q 6 <| .q 7 <| .q 8 <| .q 9 <| .done) (.nil)) (.nil)) (.nil)) (by kernel_rfl) ?_
          simp [go_sem]
          refine vcallV_use (c_toTable l hsa) ?_ ?_
          · simp [go_sem]
            exact argSl_refl (by omega) cl
          rintro av obs ⟨rfl, rfl⟩
          simp [go_sem]
          refine vcallV_use (c_toTree t hst) ?_ ?_
          · simp [go_sem]
            exact argSl_refl (by omega) clt
          rintro av obs ⟨rfl, rfl⟩
          simp [go_sem]
          refine vcallV_use (c_specPrint l hl' hw t hst hwt hts) ?_ ?_
          · simp [go_sem]
            exact ⟨argSl_own (k := 2) rfl (by omega) cl, argSl_own (k := 3) rfl (by omega) clt⟩
          rintro av obs ⟨rfl, rfl⟩
          simp [go_sem]
          refine vcall_use (c_toTable l hsa) ?_ ?_
          · simp [go_sem]
            exact argSl_refl (by omega) cl
          rintro av obs ⟨rfl, rfl⟩
          simp [go_sem]
          refine vcall_use (c_toTree t hst) ?_ ?_
          · simp [go_sem]
            exact argSl_refl (by omega) clt
          rintro av obs ⟨rfl, rfl⟩
          simp [go_sem]
          refine vcall_use (c_Print l hl' hw t hst hwt hts) ?_ ?_
          · simp [go_sem]
            exact ⟨argSl_own (k := 4) rfl (by omega) cl, argSl_own (k := 6) rfl (by omega) clt⟩
          rintro av obs ⟨rfl, rfl⟩
          simp [go_sem]
          refine vc_drawn [] (.q 0 <| .q 1 <| .or 2 (.or 3 (.q 4 <| .done) (.nil)) (.nil)) (by kernel_rfl) ?_
          simp [go_sem]
          refine vcallV_use (c_toTable l hsa) ?_ ?_
          · simp [go_sem]
            exact argSl_refl (by omega) cl
          rintro av obs ⟨rfl, rfl⟩
          simp [go_sem]
          refine vcallV_pure (c_eqTable l l (by omega) (by omega)) ?_ ?_
          · simp [go_sem]
            exact ⟨argSl_own (k := 4) rfl (by omega) cl, argSl_own (k := 8) rfl (by omega) cl⟩
          simp [go_sem, opsEq_refl]
          refine vc_drawn [] (.q 0 <| .q 1 <| .or 2 (.or 3 (.q 4 <| .done) (.nil)) (.nil)) (by kernel_rfl) ?_
          simp [go_sem]
          refine vcallV_use (c_toTree t hst) ?_ ?_
          · simp [go_sem]
            exact argSl_refl (by omega) clt
          rintro av obs ⟨rfl, rfl⟩
          simp [go_sem]
          refine vcallV_pure (c_eqTree t t (by omega) (by omega)) ?_ ?_
          · simp [go_sem]
            exact ⟨argSl_own (k := 6) rfl (by omega) clt, argSl_own (k := 9) rfl (by omega) clt⟩
          simp [go_sem, nodsEq_refl]
end Go.Proofs.YtbjkgfooangjhaaDoor.V
/- Contracts: the law of Render. -/
namespace Go.Proofs.YtbjkgfooangjhaaDoor.V
open Go.RowKit
set_option linter.unusedVariables false
set_option linter.unusedSimpArgs false
set_option linter.constructorNameAsVariable false
end Go.Proofs.YtbjkgfooangjhaaDoor.V
