/- Contracts: the specification's Union, its loop. -/
import Derived.Test.YtnjnkhmcdkjekaaW19
namespace Go.Proofs.Ytnjnkhmcdkjekaa.V
open Go.RowKit
set_option linter.unusedVariables false
set_option linter.unusedSimpArgs false
set_option linter.constructorNameAsVariable false
theorem argSl_sub {mem : List (Option Ob)} {k sz lo n N ty : Nat} {f f' : Nat → List AV} (hk : mem[k]? = some (some ⟨ty, sz, N, f⟩)) (hsz : 0 < sz) (hn : lo + n ≤ N) (h : ∀ i, i < n → f (lo + i) = f' i ∧ ∀ c, c ∈ f' i → Closed c) : ArgSl mem (.sub k sz lo n) sz n f' :=
  ⟨hsz, fun i => f (lo + i), by simp [contents, hk, hn], h⟩
/-- the first i operators, each but once -/
def uniq (l : List POp) : Nat → List POp
  | 0 => []
  | i + 1 => if opsHas l i (opAt l i) then uniq l i else uniq l i ++ [opAt l i]
def union (a b : List POp) : List POp := uniq (a ++ b) (a.length + b.length)
theorem uniq_len (l : List POp) : ∀ i, (uniq l i).length ≤ i
  | 0 => by simp [uniq]
  | i + 1 => by
    have := uniq_len l i
    simp only [uniq]
    split
    · omega
    · simp; omega
theorem opAt_app (a b : List POp) (i : Nat) : opAt (a ++ b) i = if i < a.length then opAt a i else opAt b (i - a.length) := by
  unfold opAt
  by_cases h : i < a.length
  · rw [if_pos h, List.getD_eq_getElem?_getD, List.getD_eq_getElem?_getD, List.getElem?_append_left h]
  · rw [if_neg h, List.getD_eq_getElem?_getD, List.getD_eq_getElem?_getD, List.getElem?_append_right (by omega)]
theorem opCells_app (a b : List POp) (i : Nat) : opCells (a ++ b) i = joinF a.length (opCells a) (opCells b) i := by
  unfold joinF
  simp only [opCells_at, opAt_app]
  split <;> rfl
theorem opCells_one (l : List POp) (o : POp) (i : Nat) (h : i < l.length + 1) : joinF l.length (opCells l) (fun _ => o.cells) i = opCells (l ++ [o]) i := by
  rw [opCells_app]
  unfold joinF
  split
  · rfl
  · have : i - l.length = 0 := by omega
    rw [this]; rfl
@[go_sem] theorem opOne (l : List POp) (i : Nat) : (opCells l i).all oneAV = true := rfl
theorem c_specUnion (a b : List POp) (h : a.length + b.length ≤ 1048576) : VFun Try.prog 16 [.agg [.sl 4 a.length (opCells a)], .agg [.sl 4 b.length (opCells b)]] (fun av obs => av = .agg [.own 0] ∧ obs = [⟨81, 4, (union a b).length, opCells (union a b)⟩]) := by
  have cla : ∀ (i : Nat) (c : AV), i < a.length → c ∈ opCells a i → Closed c := fun i c _ h => opClosed a i c h
  have clb : ∀ (i : Nat) (c : AV), i < b.length → c ∈ opCells b i → Closed c := fun i c _ h => opClosed b i c h
  refine vfun_start Try.func16 (by kernel_rfl) rfl (by simp [Try.ntmps16]) ?_
  simp only [Try.ntmps16, Try.results16]
  simp [go_sem]
  refine ⟨by omega, by omega, by omega, by omega, ?_⟩
  refine vc_loopE (fun i : Nat => i ≤ a.length + b.length) (fun i => a.length + b.length - i) (fun i => .of [(4, .ptr 0 1 0 0), (5, .own 1), (6, .own 2), (7, .lit (.int .i64 i))] [some ⟨35, 1, 1, fun _ => [.lit (.slice none 0 0)]⟩, some ⟨81, 4, a.length + b.length, opCells (a ++ b)⟩, some ⟨81, 4, (uniq (a ++ b) i).length, opCells (uniq (a ++ b) i)⟩]) ⟨0, by omega, ?_⟩ (fun i hi => ?_)
  · refine ent_ks [2, 5, 6] (by simp) (by simp) (by simp) (by simp) trivial ?_ ?_
    · simp [go_sem]
    · simp [go_sem]
      refine ⟨.inl fun i hi => ⟨?_, opClosed _ _⟩, .inl ⟨rfl, fun i hi => by simp [uniq] at hi⟩⟩
      rw [opCells_app]
      unfold joinF
      simp
  · simp [go_sem]
    refine ⟨by omega, fun h1 => ?_, fun h1 => ?_⟩
    · have hu := uniq_len (a ++ b) i
      refine vc_drawn 9 (.q 0 <| .q 1 <| .q 2 <| .q 3 <| .q 4 <| .q 5 <| .q 6 <| .or 7 (.q 8 <| .done) (.nil)) (by kernel_rfl) ?_
      simp [go_sem, opCells_at]
      refine ⟨by omega, by omega, by omega, vcallV_pure (c_l1Has (a ++ b) i (by omega) (opAt (a ++ b) i)) ?_ ?_⟩
      · simp [go_sem, POp.cells]
        exact argSl_sub (k := 1) rfl (by omega) (by omega) fun j hj => ⟨by rw [Nat.zero_add], opClosed _ _⟩
      · simp [go_sem, opCells_at]
        refine ⟨fun e => ⟨h1, by omega, by omega, by omega, i + 1, by omega, by omega, ?_⟩, fun e => ⟨i + 1, by omega, by omega, ?_⟩⟩
        · refine ent_ks [0, 1, 4] (by simp) (by simp) (by simp) (by simp) trivial ?_ ?_
          · simp [go_sem]
            exact wrap_succ (by omega)
          · have e2 : uniq (a ++ b) (i + 1) = uniq (a ++ b) i ++ [opAt (a ++ b) i] := by simp only [uniq, e]; rfl
            simp [go_sem, e2]
            refine ⟨.inl fun j _ => opClosed _ _, .inl fun j hj => ⟨?_, opClosed _ _⟩⟩
            rw [← opCells_one _ _ _ hj]
            unfold joinF
            split
            · rfl
            · have : j - (uniq (a ++ b) i).length = 0 := by omega
              rw [this]; rfl
        · refine ent_ks [0, 1, 2] (by simp) (by simp) (by simp) (by simp) trivial ?_ ?_
          · simp [go_sem]
            exact wrap_succ (by omega)
          · have e2 : uniq (a ++ b) (i + 1) = uniq (a ++ b) i := by simp only [uniq, e]; rfl
            simp [go_sem, e2]
            exact ⟨.inl fun j _ => opClosed _ _, .inl fun j _ => opClosed _ _⟩
    · have e : i = a.length + b.length := by omega
      subst e
      exact obsSame_one.mpr ⟨⟨81, 4, (union a b).length, opCells (union a b)⟩, ⟨rfl, rfl, rfl, fun j hj => ⟨rfl, rfl⟩⟩, rfl⟩
end Go.Proofs.Ytnjnkhmcdkjekaa.V
