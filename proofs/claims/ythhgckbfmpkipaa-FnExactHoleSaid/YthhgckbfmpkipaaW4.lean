/- Contracts, conversions. -/
import Derived.Test.YthhgckbfmpkipaaW3
namespace Go.Proofs.Ythhgckbfmpkipaa.V
open Go.RowKit
set_option linter.unusedVariables false
set_option linter.unusedSimpArgs false
set_option linter.constructorNameAsVariable false

theorem c_toOp (o : POp) : VFun Try.prog 14 [.agg o.cells] (fun av obs => obs = [] ∧ av = .agg o.cells) := by
  obtain ⟨z, kind, level, side⟩ := o
  simp only [POp.cells]
  refine vfun_start Try.func14 (by kernel_rfl) rfl (by simp [Try.ntmps14]) ?_
  simp only [Try.ntmps14, Try.results14]
  simp [go_sem]
theorem vcall_val {P : Program} {s : VS} {f : FuncId} {avs args' : List AV} {k : AV → VS → Prop} {x : AV} (h : VFun P f args' (fun av obs => obs = [] ∧ av = x)) (ha : ArgsOk s.mem avs args') (hr : ren (· + s.mem.length) x = x) (hk : k x s) : vcallP P f avs s k :=
  vcall_use h ha (by rintro av obs ⟨rfl, rfl⟩; simpa [Kcall, hr] using hk)
set_option maxRecDepth 100000 in
theorem shape_op (n : Nat) (xs : List AV) (h : Shape Try.prog (n + 2) 24 xs) : ∃ o : POp, o.wf ∧ xs = o.cells := by
  obtain ⟨parts, h0, rfl⟩ := shape_struct Try.underlying24 h
  clear h
  simp only [List.toList_toArray, all2_cons, all2_nil] at h0
  obtain ⟨_, _, rfl, ⟨_, h1⟩, _, _, rfl, ⟨_, h2⟩, _, _, rfl, ⟨_, h3⟩, _, _, rfl, ⟨_, h4⟩, rfl⟩ := h0
  obtain ⟨z, rfl, hz⟩ := shape_string Try.underlying9 h1
  obtain ⟨k, rfl, _⟩ := shape_int Try.underlying3 h2
  obtain ⟨l, rfl, _⟩ := shape_int Try.underlying3 h3
  obtain ⟨s, rfl, _⟩ := shape_int Try.underlying3 h4
  exact ⟨⟨z, k, l, s⟩, hz, rfl⟩
theorem c_FnExactHole (o : POp) (ho : o.wf) (b : Bool) : VFun Try.prog 4 [.agg o.cells, .lit (.bool b)] (fun av _ => av = .lit (.bool true)) := by
  have c1 := c_szOp o 1048576 ho (by decide) (by decide)
  have c2 := c_toOp o
  have c3 := c_l1Hole o ho b
  have c4 := c_Hole o ho b
  obtain ⟨z, kind, level, side⟩ := o
  simp only [POp.cells] at c1 c2 c3 c4 ⊢
  refine vfun_start Try.func4 (by kernel_rfl) rfl (by simp [Try.ntmps4]) ?_
  simp only [Try.ntmps4, Try.results4]
  simp [go_sem]
  refine vcall_pure c1 ?_ ?_
  · simp [go_sem]
  · simp [go_sem]
    refine fun h => vcall_val c2 ?_ ?_ ?_
    · simp [go_sem]
    · simp [go_sem]
    · simp [go_sem]
      refine vcall_pure c3 ?_ ?_
      · simp [go_sem]
      · simp [go_sem]
        refine vcall_val c2 ?_ ?_ ?_
        · simp [go_sem]
        · simp [go_sem]
        · simp [go_sem]
          refine vcall_pure c4 ?_ ?_
          · simp [go_sem]
          · simp [go_sem]
end Go.Proofs.Ythhgckbfmpkipaa.V
