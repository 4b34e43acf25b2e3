/- Contracts: what a valid table is, by the program: TableOk. -/
import Derived.Test.YtnjnkhmcdkjekaaW12
namespace Go.Proofs.Ytnjnkhmcdkjekaa.V
open Go.RowKit
open Go.Maps (Keyed)
set_option linter.unusedVariables false
set_option linter.unusedSimpArgs false
set_option linter.constructorNameAsVariable false
def placeV (o : POp) : Value := .agg #[.string o.text, .bool (o.kind == 1)]
theorem placeV_fold (o : POp) : Value.agg #[.string o.text, .bool (o.kind == 1)] = placeV o := rfl
theorem placeV_eq {a b : POp} : placeV a = placeV b ↔ clash a b 3 = true := by
  simp only [placeV, clash, if_true, Value.agg.injEq, Bool.and_eq_true, decide_eq_true_eq, Array.mk.injEq, List.cons.injEq, Value.string.injEq, Value.bool.injEq, and_true]
def SeenIs (l : List POp) (i : Nat) (es : List (Value × Value)) : Prop := (∀ j, j < i → (mget es (placeV (opAt l j))).isSome = true) ∧ ∀ x v, mget es x = some v → ∃ j, j < i ∧ x = placeV (opAt l j)
def SortsIs (l : List POp) (i : Nat) (es : List (Value × Value)) : Prop := (∀ j, j < i → mget es (.int .i64 (opAt l j).level) = some (.int .i64 (sortN (opAt l j)))) ∧ ∀ x v, mget es x = some v → ∃ j, j < i ∧ x = .int .i64 (opAt l j).level
theorem c_TableOk (l : List POp) (hl : l.length ≤ 9223372036854775807) (hw : opsWf l) : VFun Try.prog 23 [.agg [.sl 4 l.length (opCells l)]] (fun av obs => obs = [] ∧ av = .lit (.int .i64 (tblOk l))) := by
  have cl : ∀ (i : Nat) (c : AV), i < l.length → c ∈ opCells l i → Closed c := fun i c _ h => opClosed l i c h
  refine vfun_start Try.func23 (by kernel_rfl) rfl (by simp [Try.ntmps23]) ?_
  simp only [Try.ntmps23, Try.results23]
  simp [go_sem]
  refine ⟨by omega, fun h1 => ?_, fun h1 => ?_⟩
  · simp [tblOk]; omega
  · have hmax : ¬ 500 < l.length := by omega
    refine ⟨by omega, ?_⟩
    refine vc_loop (fun i : Nat => i ≤ l.length ∧ ∀ j, j < i → opOk (opAt l j) = true) (fun i => l.length - i) (fun i => .of [(1, .ptr 0 1 0 0), (20, .sl 4 l.length (opCells l)), (21, .lit (.int .i64 l.length)), (22, .lit (.int .i64 i))] [some ⟨35, 1, 1, fun _ => [.sl 4 l.length (opCells l)]⟩]) ⟨0, ⟨by omega, by simp⟩, ?_⟩ (fun i hi => ?_)
    · simp [go_sem]
      exact cl
    · simp [go_sem, opCells_at]
      refine ⟨fun h => ⟨h, vcall_pure (c_opOk (opAt l i) (hw i h)) ?_ ?_⟩, fun h => ?_⟩
      · simp [go_sem, POp.cells]
      · simp [go_sem]
        refine ⟨fun e => ?_, fun e => ⟨i + 1, ⟨by omega, fun j hj => ?_⟩, by omega, ⟨⟨cl, wrap_succ (by omega)⟩, cl⟩⟩⟩
        · have : tblOps l = false := by
            simp only [tblOps, List.all_eq_false, List.mem_range]
            exact ⟨i, h, by rw [e]; simp⟩
          simp only [tblOk, this, if_neg hmax, if_true]
        · rcases Nat.lt_succ_iff_lt_or_eq.mp hj with hj | rfl
          · exact hi.2 j hj
          · exact e
      · have hok : tblOps l = true := by
          simp only [tblOps, List.all_eq_true, List.mem_range]
          exact fun j hj => hi.2 j (by omega)
        have hop : ∀ j, j < l.length → opOk (opAt l j) = true := fun j hj => hi.2 j (by omega)
        clear hi h
        refine fun b => ⟨by omega, ?_⟩
        refine vc_loop (fun p : Nat × List (Value × Value) => p.1 ≤ l.length ∧ SeenIs l p.1 p.2 ∧ ∀ i', i' < p.1 → ∀ j, j < i' → clash (opAt l i') (opAt l j) 3 = false) (fun p => l.length - p.1)
          (fun p => ⟨[(1, .ptr 0 1 0 0), (5, .lit (.map (some b))), (32, .sl 4 l.length (opCells l)), (33, .lit (.int .i64 l.length)), (34, .lit (.int .i64 p.1))], [some ⟨35, 1, 1, fun _ => [.sl 4 l.length (opCells l)]⟩], [(b, ⟨93, p.2⟩)], 0⟩) ⟨(0, []), ⟨by omega, ⟨by simp, by simp [mget]⟩, by simp⟩, ?_⟩ (fun p hp => ?_)
        · simp [go_sem]
          exact cl
        · obtain ⟨i, es⟩ := p
          simp only at hp
          simp [go_sem, opCells_at]
          refine ⟨fun h => ⟨h, vcall_val (c_placeOf (opAt l i)) ?_ ?_ ?_⟩, fun h => ?_⟩
          · simp [go_sem, POp.cells]
          · simp [go_sem]
          · simp [go_sem]
            refine vlookK_use keyedPlace (keyPlace (hw i h)) _ zeroInt ?_
            simp [go_sem]
            simp only [placeV_fold]
            have hno : ∀ (h0 : (mget es (placeV (opAt l i))).isSome = true), tblClash l 3 = true := by
              intro h0
              obtain ⟨v, hv⟩ := Option.isSome_iff_exists.1 h0
              obtain ⟨j, hj, e⟩ := hp.2.1.2 _ v hv
              exact (tblClash_iff l _).2 ⟨i, h, j, hj, placeV_eq.1 e⟩
            refine ⟨fun h0 => ?_, fun h0 => ?_⟩
            · simp only [tblOk, hok, hno h0, if_neg hmax]
              rfl
            · refine vcall_val (c_placeOf (opAt l i)) ?_ ?_ ?_
              · simp [go_sem, POp.cells]
              · simp [go_sem]
              · simp [go_sem]
                refine vmsetK_use keyedPlace (keyPlace (hw i h)) ?_
                simp [go_sem]
                simp only [placeV_fold]
                refine ⟨i + 1, mput es (placeV (opAt l i)) (.int .i64 i), ⟨by omega, ⟨fun j hj => ?_, fun x v hv => ?_⟩, fun i' hi' j hj => ?_⟩, by omega, rfl, ⟨cl, wrap_succ (by omega)⟩, cl⟩
                · rw [mget_mput]
                  split
                  · rfl
                  · rename_i hne
                    rcases Nat.lt_succ_iff_lt_or_eq.mp hj with hj | rfl
                    · exact hp.2.1.1 j hj
                    · exact absurd rfl hne
                · rw [mget_mput] at hv
                  split at hv
                  · rename_i e
                    exact ⟨i, by omega, e.symm⟩
                  · obtain ⟨j, hj, e⟩ := hp.2.1.2 x v hv
                    exact ⟨j, by omega, e⟩
                · rcases Nat.lt_succ_iff_lt_or_eq.mp hi' with hi' | rfl
                  · exact hp.2.2 i' hi' j hj
                  · rw [Bool.eq_false_iff]
                    intro e
                    have h5 := hp.2.1.1 j hj
                    rw [← placeV_eq.2 e, h0] at h5
                    cases h5
          · have hc3 : tblClash l 3 = false := by
              rw [Bool.eq_false_iff]
              intro e
              obtain ⟨i', h4, j', h5, h6⟩ := (tblClash_iff l _).1 e
              rw [hp.2.2 i' (by omega) j' h5] at h6
              cases h6
            clear hp h
            refine fun b2 hb2 => ⟨by omega, ?_⟩
            refine vc_loop (fun p : Nat × List (Value × Value) => p.1 ≤ l.length ∧ SortsIs l p.1 p.2 ∧ ∀ i', i' < p.1 → ∀ j, j < i' → clash (opAt l i') (opAt l j) 4 = false) (fun p => l.length - p.1)
              (fun p => ⟨[(1, .ptr 0 1 0 0), (10, .lit (.map (some b2))), (54, .sl 4 l.length (opCells l)), (55, .lit (.int .i64 l.length)), (56, .lit (.int .i64 p.1))], [some ⟨35, 1, 1, fun _ => [.sl 4 l.length (opCells l)]⟩], [(b2, ⟨3, p.2⟩)], 0⟩) ⟨(0, []), ⟨by omega, ⟨by simp, by simp [mget]⟩, by simp⟩, ?_⟩ (fun p hp => ?_)
            · simp [go_sem]
              exact cl
            · obtain ⟨i, es⟩ := p
              simp only at hp
              simp [go_sem, opCells_at]
              refine ⟨fun h => ⟨h, ?_⟩, fun h => ?_⟩
              · have hlv := opOk_level (hop i h)
                have hki := keyInt (n := (opAt l i).level) (by omega)
                refine vlookK_use keyedInt hki _ zeroInt ?_
                have step : ∀ (h4 : ∀ j, j < i → clash (opAt l i) (opAt l j) 4 = false), SortsIs l (i + 1) (mput es (.int .i64 (opAt l i).level) (.int .i64 (sortN (opAt l i)))) ∧ ∀ i', i' < i + 1 → ∀ j, j < i' → clash (opAt l i') (opAt l j) 4 = false := by
                  intro h4
                  refine ⟨⟨fun j hj => ?_, fun x v hv => ?_⟩, fun i' hi' j hj => ?_⟩
                  · rw [mget_mput]
                    rcases Nat.lt_succ_iff_lt_or_eq.mp hj with hj | rfl
                    · split
                      · rename_i e
                        simp only [Value.int.injEq, true_and] at e
                        have := h4 j hj
                        simp only [clash, e, decide_true, Bool.true_and, show ((4 : Int) = 3) = False by decide, if_false, decide_eq_false_iff_not, ne_eq, Classical.not_not] at this
                        rw [this]
                      · exact hp.2.1.1 j hj
                    · rw [if_pos rfl]
                  · rw [mget_mput] at hv
                    split at hv
                    · rename_i e
                      exact ⟨i, by omega, e.symm⟩
                    · obtain ⟨j, hj, e⟩ := hp.2.1.2 x v hv
                      exact ⟨j, by omega, e⟩
                  · rcases Nat.lt_succ_iff_lt_or_eq.mp hi' with hi' | rfl
                    · exact hp.2.2 i' hi' j hj
                    · exact h4 j hj
                cases hm : mget es (.int .i64 (opAt l i).level) with
                | none =>
                  simp [go_sem]
                  have h4 : ∀ j, j < i → clash (opAt l i) (opAt l j) 4 = false := by
                    intro j hj
                    simp only [clash, show ((4 : Int) = 3) = False by decide, if_false, Bool.and_eq_false_iff, decide_eq_false_iff_not]
                    refine .inl fun e => ?_
                    have := hp.2.1.1 j hj
                    rw [← e, hm] at this
                    cases this
                  refine vc_drawn 5 (.q 0 <| .q 1 <| .q 2 <| .q 3 <| .or 4 (.or 5 (.done) (.nil)) (.nil)) (by kernel_rfl) ?_
                  simp [go_sem]
                  refine vcallV_pure (c_sortOf (opAt l i)) ?_ ?_
                  · simp [go_sem, POp.cells]
                  · simp [go_sem]
                    refine vmsetK_use keyedInt hki ?_
                    simp [go_sem]
                    obtain ⟨s1, s2⟩ := step h4
                    exact ⟨i + 1, _, ⟨by omega, s1, s2⟩, by omega, rfl, ⟨cl, wrap_succ (by omega)⟩, cl⟩
                | some v =>
                  obtain ⟨j, hj, e⟩ := hp.2.1.2 _ v hm
                  simp only [Value.int.injEq, true_and] at e
                  have hv : v = .int .i64 (sortN (opAt l j)) := by
                    have := hp.2.1.1 j hj
                    rw [← e, hm] at this
                    exact Option.some.inj this
                  subst hv
                  simp [go_sem]
                  refine vcall_pure (c_sortOf (opAt l i)) ?_ ?_
                  · simp [go_sem, POp.cells]
                  · simp [go_sem]
                    refine ⟨fun hne => ?_, fun heq => ?_⟩
                    · have hc4 : tblClash l 4 = true := by
                        refine (tblClash_iff l _).2 ⟨i, h, j, hj, ?_⟩
                        simp only [clash, show ((4 : Int) = 3) = False by decide, if_false, Bool.and_eq_true, decide_eq_true_eq]
                        exact ⟨e, fun e2 => hne e2.symm⟩
                      simp only [tblOk, hok, hc3, hc4, if_neg hmax]
                      rfl
                    · have h4 : ∀ j, j < i → clash (opAt l i) (opAt l j) 4 = false := by
                        intro j' hj'
                        simp only [clash, show ((4 : Int) = 3) = False by decide, if_false, Bool.and_eq_false_iff, decide_eq_false_iff_not]
                        by_cases e2 : (opAt l i).level = (opAt l j').level
                        · refine .inr fun h5 => h5 ?_
                          have := hp.2.1.1 j' hj'
                          rw [← e2, hm] at this
                          simp only [Option.some.injEq, Value.int.injEq, true_and] at this
                          rw [← heq, this]
                        · exact .inl e2
                      refine vc_drawn 5 (.q 0 <| .q 1 <| .q 2 <| .q 3 <| .or 4 (.or 5 (.done) (.nil)) (.nil)) (by kernel_rfl) ?_
                      simp [go_sem]
                      refine vcallV_pure (c_sortOf (opAt l i)) ?_ ?_
                      · simp [go_sem, POp.cells]
                      · simp [go_sem]
                        refine vmsetK_use keyedInt hki ?_
                        simp [go_sem]
                        obtain ⟨s1, s2⟩ := step h4
                        exact ⟨i + 1, _, ⟨by omega, s1, s2⟩, by omega, rfl, ⟨cl, wrap_succ (by omega)⟩, cl⟩
              · have hc4 : tblClash l 4 = false := by
                  rw [Bool.eq_false_iff]
                  intro e
                  obtain ⟨i', h4, j', h5, h6⟩ := (tblClash_iff l _).1 e
                  rw [hp.2.2 i' (by omega) j' h5] at h6
                  cases h6
                simp only [tblOk, hok, hc3, hc4, if_neg hmax]
                rfl
end Go.Proofs.Ytnjnkhmcdkjekaa.V
