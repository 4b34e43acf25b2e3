/- Contracts: marks written into tables, and read again. -/
import Derived.Test.YtnjnkhmcdkjekaaW16
namespace Go.Proofs.Ytnjnkhmcdkjekaa.V
open Go.RowKit
set_option linter.unusedVariables false
set_option linter.unusedSimpArgs false
set_option linter.constructorNameAsVariable false
theorem map_lits {g : Nat → Nat} : ∀ {l : List AV}, l.all isLit = true → l.map (ren1 g) = l
  | [], _ => rfl
  | a :: r, h => by
    simp only [List.all_cons, Bool.and_eq_true] at h
    simp only [List.map_cons, map_lits h.2]
    cases a <;> simp [isLit] at h
    rfl
theorem flat_lits : ∀ {l : List AV}, l.all isLit = true → l.all flat1 = true
  | [], _ => rfl
  | a :: r, h => by
    simp only [List.all_cons, Bool.and_eq_true] at h ⊢
    refine ⟨?_, flat_lits h.2⟩
    cases a <;> simp [isLit] at h
    rfl
theorem outAt_lits {idx : Nat → Nat} {ks : List Nat} {ty sz n : Nat} {f f' : Nat → List AV} (h : ∀ i, i < n → f i = f' i) (hl : ∀ i, i < n → (f' i).all isLit = true) : OutAt idx ks ⟨ty, sz, n, f'⟩ (some (some ⟨ty, sz, n, f⟩)) := by
  refine ⟨rfl, rfl, rfl, fun i hi => ⟨?_, flat_lits (hl i hi), fun c hc q hq => ?_⟩⟩
  · simp only
    rw [h i hi]; exact map_lits (hl i hi)
  · simp only at hc
    rw [h i hi] at hc
    have := List.all_eq_true.1 (hl i hi) c hc
    cases c <;> simp [isLit] at this
    simp [owns1] at hq
theorem renOb_lits {g : Nat → Nat} {ty sz n : Nat} {f : Nat → List AV} (h : ∀ i, (f i).all isLit = true) : renOb g ⟨ty, sz, n, f⟩ = ⟨ty, sz, n, f⟩ := by
  simp only [renOb]
  congr 1
  funext i
  exact map_lits (h i)
def markRow (k i : Nat) : POp := ⟨mtext (k + 4 * i), (k + 4 * i + 1 : Nat), (k + 4 * i + 2 : Nat), (k + 4 * i + 3 : Nat)⟩
def markCells (k i : Nat) : List AV := (markRow k i).cells
def markFill (l : List POp) (k i j : Nat) : List AV := if j < i then markCells k j else opCells l j
theorem markFill_bd (l : List POp) (k i j m : Nat) : ∀ c, c ∈ markFill l k i j → Bd m c := by
  intro c h
  unfold markFill at h
  split at h
  · simp [markCells, POp.cells] at h
    rcases h with rfl | rfl | rfl | rfl <;> exact .closed _ (.lit _)
  · exact .closed _ (opClosed l j c h)
theorem c_markOpS (l : List POp) (k : Nat) (hl : l.length ≤ 1048576) (hk : 0 < k ∧ k ≤ 1000000000) : VProc Try.prog 49 [.own 0, .lit (.int .i64 k)] [some ⟨81, 4, l.length, opCells l⟩] [] (fun av mem maps => av = .lit (.int .i64 (k + 4 * l.length : Nat)) ∧ mem = [some ⟨81, 4, l.length, markCells k⟩] ∧ maps = []) := by
  refine vproc_start Try.func49 (by kernel_rfl) rfl (by simp [Try.ntmps49]) ?_
  simp only [Try.ntmps49, Try.results49]
  simp [go_sem]
  refine vc_loop (fun i : Nat => i ≤ l.length) (fun i => l.length - i) (fun i => ⟨[(0, .own 0), (1, .lit (.int .i64 (k + 4 * i : Nat))), (5, .lit (.int .i64 i))], [some ⟨81, 4, l.length, markFill l k i⟩], [], 1⟩) ⟨0, by omega, ?_⟩ (fun i hi => ?_)
  · simp [go_sem, markFill]
    exact fun i h c hc => .closed _ (opClosed l i c hc)
  · simp [go_sem]
    refine ⟨by omega, fun h => vcall_pure (c_markText (k + 4 * i) (by omega)) ?_ ?_, fun h => ?_⟩
    · simp [go_sem]
    · simp [go_sem]
      simp only [wrap_i64 (n := (k : Int) + 4 * i + 1) (by omega), wrap_i64 (n := (k : Int) + 4 * i + 1 + 1) (by omega), wrap_i64 (n := (k : Int) + 4 * i + 1 + 1 + 1) (by omega), wrap_i64 (n := (k : Int) + 4 * i + 1 + 1 + 1 + 1) (by omega)]
      refine ⟨h, i + 1, by omega, by omega, ⟨by omega, wrap_succ (by omega)⟩, fun j hj => ⟨?_, markFill_bd _ _ _ _ _⟩⟩
      simp only [updF_at h hj, updF_at h h, if_true]
      by_cases hji : j = i
      · subst hji
        simp only [if_true, markFill, Nat.lt_irrefl, if_false, Nat.lt_succ_self]
        simp [opCells_at, splice, markCells, markRow, POp.cells, Nat.add_assoc]
        omega
      · simp only [if_neg hji, markFill]
        by_cases h2 : j < i
        · rw [if_pos h2, if_pos (by omega)]
        · rw [if_neg h2, if_neg (by omega)]
    · have : i = l.length := by omega
      subst this
      refine ⟨rfl, [], [some ⟨81, 4, l.length, markCells k⟩], by simp, by simp, by simp [go_sem], ?_, by simp [go_sem], ?_⟩
      · simp [go_sem]
        exact outAt_lits (fun i hi => by simp only [markFill, if_pos hi]) (fun i _ => rfl)
      · simp [go_sem]
@[go_sem] theorem markCells_ren {g : Nat → Nat} {k i : Nat} : (markCells k i).map (ren1 g) = markCells k i := map_lits rfl
@[go_sem] theorem opCells_ren {g : Nat → Nat} {l : List POp} {i : Nat} : (opCells l i).map (ren1 g) = opCells l i := map_lits rfl
theorem cellsRn_lits {f : Nat → Nat} {m : Nat} : ∀ {l : List AV}, l.all isLit = true → CellsRn f m l l
  | [], _ => trivial
  | a :: r, h => by
    simp only [List.all_cons, Bool.and_eq_true] at h
    exact ⟨.closed _ (.of_lit h.1), cellsRn_lits h.2⟩
theorem c_markTable (l : List POp) (k : Nat) (hl : l.length ≤ 1048576) (hk : 0 < k ∧ k ≤ 1000000000) : VProc Try.prog 20 [.agg [.own 0], .lit (.int .i64 k)] [some ⟨81, 4, l.length, opCells l⟩] [] (fun av mem maps => av = .lit (.int .i64 (k + 4 * l.length : Nat)) ∧ mem = [some ⟨81, 4, l.length, markCells k⟩] ∧ maps = []) := by
  refine vproc_start Try.func20 (by kernel_rfl) rfl (by simp [Try.ntmps20]) ?_
  simp only [Try.ntmps20, Try.results20]
  simp [go_sem]
  refine vcall_share [0] (c_markOpS l k hl hk) (by simp) ?_ ?_ trivial ?_
  · simp [go_sem]
  · simp [go_sem]
    exact fun i _ => cellsRn_lits rfl
  · rintro av mem maps ⟨rfl, rfl, rfl⟩
    simp [go_sem]
    refine ⟨rfl, [], [some ⟨81, 4, l.length, markCells k⟩], by simp, by simp, by simp [go_sem], ?_, by simp [go_sem], ?_⟩
    · simp [go_sem]
      exact outAt_lits (fun i _ => rfl) (fun i _ => rfl)
    · simp [go_sem]
end Go.Proofs.Ytnjnkhmcdkjekaa.V
