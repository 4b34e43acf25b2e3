/- Contracts: what a valid table is, by the specification. -/
import Derived.Test.YtnjnkhmcdkjekaaW10
namespace Go.Proofs.Ytnjnkhmcdkjekaa.V
open Go.RowKit
set_option linter.unusedVariables false
set_option linter.unusedSimpArgs false
set_option linter.constructorNameAsVariable false
def sortN (o : POp) : Int := if o.kind = 1 then 2 else if o.kind = 3 then 1 else o.side
theorem c_l1Sort (o : POp) : VFun Try.prog 85 [.agg o.cells] (fun av obs => obs = [] ∧ av = .lit (.int .i64 (sortN o))) := by
  obtain ⟨z, kind, level, side⟩ := o
  simp only [POp.cells]
  refine vfun_start Try.func85 (by kernel_rfl) rfl (by simp [Try.ntmps85]) ?_
  simp only [Try.ntmps85, Try.results85]
  simp [go_sem]
  simp only [sortN, int_beq, decide_eq_true_eq, decide_eq_false_iff_not]
  by_cases h1 : kind = 1 <;> by_cases h2 : kind = 3 <;> simp [h1, h2]
theorem c_sortOf (o : POp) : VFun Try.prog 55 [.agg o.cells] (fun av obs => obs = [] ∧ av = .lit (.int .i64 (sortN o))) := by
  obtain ⟨z, kind, level, side⟩ := o
  simp only [POp.cells]
  refine vfun_start Try.func55 (by kernel_rfl) rfl (by simp [Try.ntmps55]) ?_
  simp only [Try.ntmps55, Try.results55]
  simp [go_sem]
  simp only [sortN, int_beq, decide_eq_true_eq, decide_eq_false_iff_not]
  by_cases h1 : kind = 1 <;> by_cases h2 : kind = 3 <;> simp [h1, h2]
theorem c_placeOf (o : POp) : VFun Try.prog 54 [.agg o.cells] (fun av obs => obs = [] ∧ av = .agg [.lit (.string o.text), .lit (.bool (o.kind == 1))]) := by
  obtain ⟨z, kind, level, side⟩ := o
  simp only [POp.cells]
  refine vfun_start Try.func54 (by kernel_rfl) rfl (by simp [Try.ntmps54]) ?_
  simp only [Try.ntmps54, Try.results54]
  simp [go_sem]
def clash (a b : POp) (code : Int) : Bool := if code = 3 then decide (a.text = b.text) && decide ((a.kind == 1) = (b.kind == 1)) else decide (a.level = b.level) && decide (sortN a ≠ sortN b)
theorem c_l1Clash (a b : POp) (code : Int) : VFun Try.prog 52 [.agg a.cells, .agg b.cells, .lit (.int .i64 code)] (fun av obs => obs = [] ∧ av = .lit (.bool (clash a b code))) := by
  have ca := c_l1Sort a
  have cb := c_l1Sort b
  obtain ⟨z, k, l, s⟩ := a
  obtain ⟨z', k', l', s'⟩ := b
  simp only [POp.cells] at ca cb ⊢
  refine vfun_start Try.func52 (by kernel_rfl) rfl (by simp [Try.ntmps52]) ?_
  simp only [Try.ntmps52, Try.results52]
  simp [go_sem]
  simp only [ba_toList]
  refine ⟨fun h => ⟨fun h1 => ?_, fun h1 => ?_⟩, fun h => ?_⟩
  · subst h1
    simp only [clash, if_pos h, decide_true, Bool.true_and]
    generalize (k == 1) = x
    generalize (k' == 1) = y
    cases x <;> cases y <;> rfl
  · simp [clash, h, h1]
  · by_cases hl : l = l'
    · subst hl
      refine vc_drawn 13 (.q 0 <| .q 1 <| .q 2 <| .q 3 <| .q 4 <| .q 5 <| .q 6 <| .q 8 <| .or 7 (.or 9 (.q 10 <| .q 11 <| .q 12 <| .done) (.nil)) (.nil)) (by kernel_rfl) ?_
      simp [go_sem]
      refine vcallV_pure ca ?_ ?_
      · simp [go_sem]
      · simp [go_sem]
        refine vcallV_pure cb ?_ ?_
        · simp [go_sem]
        · simp [go_sem, clash, h]
          simp only [int_beq, bne, Bool.not_eq_true', decide_eq_false_iff_not, decide_not]
    · refine vc_drawn 13 (.q 0 <| .q 1 <| .q 2 <| .q 3 <| .q 4 <| .q 5 <| .q 6 <| .q 8 <| .or 7 (.or 9 (.q 10 <| .q 11 <| .q 12 <| .done) (.nil)) (.nil)) (by kernel_rfl) ?_
      have e : (l == l') = false := by simp [hl]
      simp [go_sem, e]
      simp [clash, h, hl]
def tblClash (l : List POp) (code : Int) : Bool := (List.range l.length).any fun i => (List.range i).any fun j => clash (opAt l i) (opAt l j) code
theorem tblClash_iff (l : List POp) (code : Int) : tblClash l code = true ↔ ∃ i, i < l.length ∧ ∃ j, j < i ∧ clash (opAt l i) (opAt l j) code = true := by
  simp [tblClash]
def tblOps (l : List POp) : Bool := (List.range l.length).all fun i => opOk (opAt l i)
/-- what TableOk answers -/
def tblOk (l : List POp) : Int := if 500 < l.length then 1 else if tblOps l = false then 2 else if tblClash l 3 = true then 3 else if tblClash l 4 = true then 4 else 0
def opsWf (l : List POp) : Prop := ∀ i, i < l.length → (opAt l i).wf
theorem c_specTableOk (l : List POp) (hl : l.length ≤ 9223372036854775807) (hw : opsWf l) : VFun Try.prog 22 [.agg [.sl 4 l.length (opCells l)]] (fun av obs => obs = [] ∧ av = .lit (.int .i64 (tblOk l))) := by
  refine vfun_start Try.func22 (by kernel_rfl) rfl (by simp [Try.ntmps22]) ?_
  simp only [Try.ntmps22, Try.results22]
  simp [go_sem]
  refine ⟨by omega, fun h1 => ?_, fun h1 => ?_⟩
  · simp [tblOk]; omega
  · refine vc_loop (fun i : Nat => i ≤ l.length ∧ ∀ j, j < i → opOk (opAt l j) = true) (fun i => l.length - i) (fun i => .of [(1, .ptr 0 1 0 0), (3, .lit (.int .i64 l.length)), (4, .lit (.int .i64 i))] [some ⟨35, 1, 1, fun _ => [.sl 4 l.length (opCells l)]⟩]) ⟨0, ⟨by omega, by simp⟩, ?_⟩ (fun i hi => ?_)
    · simp [go_sem]
      exact fun i c _ h => opClosed l i c h
    · simp [go_sem, opCells_at]
      have cl : ∀ (i : Nat) (c : AV), i < l.length → c ∈ opCells l i → Closed c := fun i c _ h => opClosed l i c h
      refine ⟨fun h => ⟨h, vcall_pure (c_l1OpOk (opAt l i) (hw i h)) ?_ ?_⟩, fun h => ?_⟩
      · simp [go_sem, POp.cells]
      · simp [go_sem]
        refine ⟨fun e => ?_, fun e => ⟨i + 1, ⟨by omega, fun j hj => ?_⟩, by omega, wrap_succ (by omega), cl⟩⟩
        · have : tblOps l = false := by
            simp only [tblOps, List.all_eq_false, List.mem_range]
            exact ⟨i, h, by rw [e]; simp⟩
          simp only [tblOk, this, if_neg (show ¬ 500 < l.length by omega), if_true]
        · rcases Nat.lt_succ_iff_lt_or_eq.mp hj with hj | rfl
          · exact hi.2 j hj
          · exact e
      · have hok : tblOps l = true := by
          simp only [tblOps, List.all_eq_true, List.mem_range]
          exact fun j hj => hi.2 j (by omega)
        clear hi h
        refine vc_loop (fun c : Nat => c ≤ 2 ∧ ∀ q : Nat, q < c → tblClash l (3 + q) = false) (fun c => 2 - c) (fun c => .of [(1, .ptr 0 1 0 0), (3, .lit (.int .i64 l.length)), (5, .lit (.int .i64 (3 + c)))] [some ⟨35, 1, 1, fun _ => [.sl 4 l.length (opCells l)]⟩]) ⟨0, ⟨by omega, by simp⟩, ?_⟩ (fun c hc => ?_)
        · simp [go_sem]
          exact cl
        · simp [go_sem]
          refine ⟨fun h => ?_, fun h => ?_⟩
          · refine vc_loop (fun i : Nat => i ≤ l.length ∧ ∀ i', i' < i → ∀ j, j < i' → clash (opAt l i') (opAt l j) (3 + c) = false) (fun i => l.length - i) (fun i => .of [(1, .ptr 0 1 0 0), (3, .lit (.int .i64 l.length)), (5, .lit (.int .i64 (3 + c))), (6, .lit (.int .i64 i))] [some ⟨35, 1, 1, fun _ => [.sl 4 l.length (opCells l)]⟩]) ⟨0, ⟨by omega, by simp⟩, ?_⟩ (fun i hi => ?_)
            · simp [go_sem]
              exact cl
            · simp [go_sem]
              refine ⟨fun h2 => ?_, fun h2 => ?_⟩
              · refine vc_loop (fun j : Nat => j ≤ i ∧ ∀ j', j' < j → clash (opAt l i) (opAt l j') (3 + c) = false) (fun j => i - j) (fun j => .of [(1, .ptr 0 1 0 0), (3, .lit (.int .i64 l.length)), (5, .lit (.int .i64 (3 + c))), (6, .lit (.int .i64 i)), (7, .lit (.int .i64 j))] [some ⟨35, 1, 1, fun _ => [.sl 4 l.length (opCells l)]⟩]) ⟨0, ⟨by omega, by simp⟩, ?_⟩ (fun j hj => ?_)
                · simp [go_sem]
                  exact cl
                · simp [go_sem]
                  refine ⟨fun h3 => ?_, fun h3 => ?_⟩
                  · refine vc_drawn 12 (.q 0 <| .q 1 <| .q 2 <| .q 3 <| .q 4 <| .q 5 <| .q 6 <| .q 7 <| .q 8 <| .q 9 <| .q 10 <| .or 11 (.done) (.nil)) (by kernel_rfl) ?_
                    simp [go_sem, opCells_at]
                    refine ⟨h2, by omega, vcallV_pure (c_l1Clash (opAt l i) (opAt l j) (3 + c)) ?_ ?_⟩
                    · simp [go_sem, POp.cells]
                    · simp [go_sem]
                      refine ⟨fun e => ?_, fun e => ⟨j + 1, ⟨by omega, fun j' hj' => ?_⟩, by omega, wrap_succ (by omega), cl⟩⟩
                      · have hcl : tblClash l (3 + c) = true := (tblClash_iff l _).2 ⟨i, h2, j, h3, e⟩
                        rcases (by omega : c = 0 ∨ c = 1) with rfl | rfl
                        · have h4 : tblClash l 3 = true := hcl
                          simp only [tblOk, hok, h4, if_neg (show ¬ 500 < l.length by omega)]
                          rfl
                        · have h4 : tblClash l 4 = true := hcl
                          have h5 : tblClash l 3 = false := hc.2 0 (by omega)
                          simp only [tblOk, hok, h4, h5, if_neg (show ¬ 500 < l.length by omega)]
                          rfl
                      · rcases Nat.lt_succ_iff_lt_or_eq.mp hj' with hj' | rfl
                        · exact hj.2 j' hj'
                        · exact e
                  · refine ⟨i + 1, ⟨by omega, fun i' hi' j' hj' => ?_⟩, by omega, wrap_succ (by omega), cl⟩
                    rcases Nat.lt_succ_iff_lt_or_eq.mp hi' with hi' | rfl
                    · exact hi.2 i' hi' j' hj'
                    · exact hj.2 j' (by omega)
              · refine ⟨c + 1, ⟨by omega, fun q hq => ?_⟩, by omega, ?_, cl⟩
                · rcases Nat.lt_succ_iff_lt_or_eq.mp hq with hq | rfl
                  · exact hc.2 q hq
                  · rw [Bool.eq_false_iff]
                    intro e
                    obtain ⟨i', h4, j', h5, h6⟩ := (tblClash_iff l _).1 e
                    rw [hi.2 i' (by omega) j' h5] at h6
                    cases h6
                · rw [wrap_i64 (by omega)]; omega
          · have : c = 2 := by omega
            subst this
            have h4 : tblClash l 3 = false := hc.2 0 (by omega)
            have h5 : tblClash l 4 = false := hc.2 1 (by omega)
            simp only [tblOk, hok, h4, h5, if_neg (show ¬ 500 < l.length by omega)]
            rfl
end Go.Proofs.Ytnjnkhmcdkjekaa.V
