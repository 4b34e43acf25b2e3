/- Contracts: the program's Union: its set. -/
import Derived.Test.YtnjnkhmcdkjekaaW20
namespace Go.Proofs.Ytnjnkhmcdkjekaa.V
open Go.RowKit
open Go.Maps (Keyed)
set_option linter.unusedVariables false
set_option linter.unusedSimpArgs false
set_option linter.constructorNameAsVariable false
def i64 (n : Int) : Prop := -9223372036854775808 ≤ n ∧ n ≤ 9223372036854775807
def POp.rng (o : POp) : Prop := i64 o.kind ∧ i64 o.level ∧ i64 o.side
def opV (o : POp) : Value := .agg #[.string o.text, .int .i64 o.kind, .int .i64 o.level, .int .i64 o.side]
theorem opV_fold (o : POp) : Value.agg #[.string o.text, .int .i64 o.kind, .int .i64 o.level, .int .i64 o.side] = opV o := rfl
theorem opV_eq {a b : POp} : opV a = opV b ↔ opEq a b = true := by
  simp only [opV, opEq, ba_beq, int_beq, Value.agg.injEq, Array.mk.injEq, List.cons.injEq, Value.string.injEq, Value.int.injEq, true_and, and_true, Bool.and_eq_true, decide_eq_true_eq]
  exact ⟨fun ⟨h1, h2, h3, h4⟩ => ⟨⟨⟨h1, h2⟩, h3⟩, h4⟩, fun ⟨⟨⟨h1, h2⟩, h3⟩, h4⟩ => ⟨h1, h2, h3, h4⟩⟩
theorem rowOp : (81 : TypeId) < Try.prog.types.size := of_decide_eq_true (by kernel_rfl)
theorem co_op : Try.prog.cellsOf 81 = 4 := by kernel_rfl
theorem keyedOp : Keyed Try.prog 81 := Keyed.of_law (deep_law_laid laidOut (m := 2) (by omega) rowOp (by kernel_rfl) (by kernel_rfl))
theorem keyOp {o : POp} (h : o.wf) (hr : o.rng) : ∃ l, keyOf Try.prog 81 (opV o) = some l := by
  obtain ⟨z, k, lv, sd⟩ := o
  obtain ⟨h1, h2, h3⟩ := hr
  refine keyOf_struct Try.underlying81 (by kernel_rfl) co_op.symm (by kernel_rfl) size1 fun d => ?_
  simp only [List.mapM_cons, List.mapM_nil, co_string, co_int, List.drop_zero, List.take_succ_cons, List.take_zero, List.drop_succ_cons, keyLits_str Try.underlying9 h, keyLits_int Try.underlying3 h1, keyLits_int Try.underlying3 h2, keyLits_int Try.underlying3 h3]
  exact ⟨_, rfl⟩
/-- what the set holds behind an operator -/
noncomputable def addEs (es : List (Value × Value)) (o : POp) : List (Value × Value) := if (mget es (opV o)).isSome then es else mput es (opV o) (.int .i64 es.length)
theorem c_add (b : Nat) (es : List (Value × Value)) (o : POp) (ho : o.wf) (hr : o.rng) : VProc Try.prog 47 [.lit (.map (some b)), .agg o.cells] [] [(b, ⟨81, es⟩)] (fun av mem maps => av = .lit (.bool !(mget es (opV o)).isSome) ∧ mem = [] ∧ maps = [(b, ⟨81, addEs es o⟩)]) := by
  have hk := keyOp ho hr
  obtain ⟨z, kd, lv, sd⟩ := o
  simp only [POp.cells]
  refine vproc_start Try.func47 (by kernel_rfl) rfl (by simp [Try.ntmps47]) ?_
  simp only [Try.ntmps47, Try.results47]
  simp [go_sem]
  refine vlookK_use keyedOp hk _ zeroInt ?_
  have hf : Value.agg #[.string z, .int .i64 kd, .int .i64 lv, .int .i64 sd] = opV ⟨z, kd, lv, sd⟩ := rfl
  simp only [hf]
  cases hm : mget es (opV ⟨z, kd, lv, sd⟩) with
  | some v =>
    simp [go_sem]
    refine ⟨rfl, [], [], by simp, by simp, by simp [go_sem], by simp [go_sem], by simp [go_sem], ?_⟩
    simp [go_sem, addEs, hm]
  | none =>
    simp [go_sem]
    refine vmsetK_use keyedOp hk ?_
    simp only [hf]
    simp [go_sem]
    refine ⟨rfl, [], [], by simp, by simp, by simp [go_sem], by simp [go_sem], by simp [go_sem], ?_⟩
    simp [go_sem, addEs, hm]
end Go.Proofs.Ytnjnkhmcdkjekaa.V
