/- Contracts: tokens. -/
import Derived.Test.YtnjnkhmcdkjekaaW4
namespace Go.Proofs.Ytnjnkhmcdkjekaa.V
open Go.RowKit
set_option linter.unusedVariables false
set_option linter.unusedSimpArgs false
set_option linter.constructorNameAsVariable false
/-- a token -/
structure PTok where
  kind : Int
  gap : ByteArray
  text : ByteArray
  deriving Inhabited
def PTok.cells (o : PTok) : List AV := [.lit (.int .i64 o.kind), .lit (.string o.gap), .lit (.string o.text)]
def PTok.wf (o : PTok) : Prop := o.gap.size ≤ maxLen ∧ o.text.size ≤ maxLen
theorem c_toToken (o : PTok) : VFun Try.prog 40 [.agg o.cells] (fun av obs => obs = [] ∧ av = .agg o.cells) := by
  obtain ⟨k, g, z⟩ := o
  simp only [PTok.cells]
  refine vfun_start Try.func40 (by kernel_rfl) rfl (by simp [Try.ntmps40]) ?_
  simp only [Try.ntmps40, Try.results40]
  simp [go_sem]
def tokCells (l : List PTok) (i : Nat) : List AV := (l.getD i default).cells
theorem tokClosed (l : List PTok) (i : Nat) (c : AV) (h : c ∈ tokCells l i) : Closed c := by
  simp [tokCells, PTok.cells] at h
  rcases h with rfl | rfl | rfl <;> exact .lit _
theorem tokLit (l : List PTok) (i : Nat) : (tokCells l i).all isLit = true := rfl
def zeroTok : List AV := [.lit (.int .i64 0), .lit (.string ⟨#[]⟩), .lit (.string ⟨#[]⟩)]
def tokFill (l : List PTok) (i j : Nat) : List AV := if j < i then tokCells l j else zeroTok
theorem tokBd (l : List PTok) (i j m : Nat) : ∀ c, c ∈ tokFill l i j → Bd m c := by
  intro c h
  unfold tokFill at h
  split at h
  · exact .closed _ (tokClosed l j c h)
  · simp [zeroTok] at h
    rcases h with rfl | rfl | rfl <;> exact .closed _ (.lit _)
theorem c_toTokenS (l : List PTok) (hl : l.length ≤ 1048576) : VFun Try.prog 12 [.sl 3 l.length (tokCells l)] (fun av obs => av = .own 0 ∧ obs = [⟨67, 3, l.length, tokCells l⟩]) := by
  refine vfun_start Try.func12 (by kernel_rfl) rfl (by simp [Try.ntmps12]) ?_
  simp only [Try.ntmps12, Try.results12]
  simp [go_sem]
  refine ⟨by omega, by omega, by omega, ?_⟩
  refine vc_loop (fun i : Nat => i ≤ l.length) (fun i => l.length - i) (fun i => .of [(0, .sl 3 l.length (tokCells l)), (3, .own 0), (4, .lit (.int .i64 i))] [some ⟨67, 3, l.length, tokFill l i⟩]) ⟨0, by omega, ?_⟩ (fun i hi => ?_)
  · simp [go_sem, tokFill, zeroTok]
    exact fun i c _ h => tokClosed l i c h
  · simp [go_sem]
    refine ⟨by omega, fun h => ?_, fun h => ?_⟩
    · rcases ho : l.getD i default with ⟨k, g, z⟩
      have e : tokCells l i = [.lit (.int .i64 k), .lit (.string g), .lit (.string z)] := by unfold tokCells; rw [ho]; rfl
      simp only [e]
      refine ⟨h, by simp, vcall_val (c_toToken ⟨k, g, z⟩) ?_ ?_ ?_⟩
      · simp [go_sem, PTok.cells]
      · simp [go_sem, PTok.cells]
      · simp [go_sem, PTok.cells]
        refine ⟨h, i + 1, by omega, by omega, ⟨fun i c _ h => tokClosed l i c h, wrap_succ (by omega)⟩, fun j hj => ?_⟩
        rw [updF_at h hj]
        refine ⟨?_, tokBd l _ _ _⟩
        by_cases hji : j = i
        · subst hji
          simp [tokFill, e, splice, zeroTok]
        · rw [if_neg hji]
          unfold tokFill
          by_cases h2 : j < i
          · rw [if_pos h2, if_pos (by omega)]
          · rw [if_neg h2, if_neg (by omega)]
    · have : i = l.length := by omega
      subst this
      exact obsSame_one.mpr ⟨⟨67, 3, l.length, tokCells l⟩, ⟨rfl, rfl, rfl, fun j hj => ⟨by simp only [tokFill]; rw [if_pos hj], tokLit l j⟩⟩, rfl⟩
end Go.Proofs.Ytnjnkhmcdkjekaa.V
