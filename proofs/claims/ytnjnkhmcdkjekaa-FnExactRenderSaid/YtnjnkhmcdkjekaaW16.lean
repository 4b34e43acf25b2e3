/- Contracts: marks. -/
import Derived.Test.YtnjnkhmcdkjekaaW14
namespace Go.Proofs.Ytnjnkhmcdkjekaa.V
open Go.RowKit
set_option linter.unusedVariables false
set_option linter.unusedSimpArgs false
set_option linter.constructorNameAsVariable false
/-- a digit's text -/
def digB (d : Nat) : ByteArray := ⟨#[(48 + d).toUInt8]⟩
theorem digB_cells (d : Nat) (h : d < 10) : [.lit (.int .u8 (48 + d))] = byteCells (digB d) 0 := by
  have e : byteAt (digB d) 0 = 48 + d := by
    have h1 : 0 < (digB d).size := by show 0 < 1; omega
    unfold byteAt
    rw [dif_pos h1]
    have : ((digB d)[0]'h1) = (48 + d).toUInt8 := rfl
    rw [this]
    simp [Nat.toUInt8]
    omega
  simp only [byteCells, e]
/-- the digits of a number ahead of a text -/
def digs (k : Nat) (acc : ByteArray) : ByteArray := if h : k = 0 then acc else digs (k / 10) (digB (k % 10) ++ acc)
termination_by k
decreasing_by omega
theorem digs_zero (acc : ByteArray) : digs 0 acc = acc := by rw [digs]; simp
theorem digs_pos {k : Nat} (h : 0 < k) (acc : ByteArray) : digs k acc = digs (k / 10) (digB (k % 10) ++ acc) := by
  conv => lhs; rw [digs]
  rw [dif_neg (by omega)]
def mtext (k : Nat) : ByteArray := ⟨#[109]⟩ ++ digs k ⟨#[]⟩
theorem u8_small {n : Int} (h : 0 ≤ n ∧ n < 256) : IntKind.u8.wrap n = n := by
  simp only [IntKind.wrap, IntKind.bits, IntKind.signed]
  simp
  omega
theorem c_markText (k : Nat) (h : 0 < k ∧ k ≤ 9223372036854775000) : VFun Try.prog 61 [.lit (.int .i64 k)] (fun av obs => obs = [] ∧ av = .lit (.string (mtext k))) := by
  refine vfun_start Try.func61 (by kernel_rfl) rfl (by simp [Try.ntmps61]) ?_
  simp only [Try.ntmps61, Try.results61]
  simp [go_sem]
  refine ⟨by omega, fun _ => ?_⟩
  refine vc_loop (fun p : Nat × ByteArray => digs p.1 p.2 = digs k ⟨#[]⟩ ∧ p.2.size + p.1 ≤ k) (fun p => p.1) (fun p => .of [(0, .lit (.int .i64 p.1)), (3, .lit (.string p.2))] []) ⟨(k, ⟨#[]⟩), ⟨rfl, by show 0 + k ≤ k; omega⟩, ?_⟩ (fun p hp => ?_)
  · simp [go_sem]
  · obtain ⟨q, out⟩ := p
    simp only at hp
    simp [go_sem]
    refine ⟨fun h1 => ?_, fun h1 w => ?_⟩
    · refine ⟨digB (q % 10), rfl, ?_, ?_⟩
      · have e : (q : Int).tmod 10 = ((q % 10 : Nat) : Int) := by rw [Int.tmod_eq_emod_of_nonneg (by omega)]; omega
        rw [e, wrap_i64 (by omega), u8_small (by omega)]
        exact digB_cells (q % 10) (by omega)
      · refine ⟨_, fun w => if_neg ?_, q / 10, _, ⟨?_, ?_⟩, by omega, ?_, rfl⟩
        · have : (digB (q % 10)).size = 1 := rfl
          omega
        · rw [← digs_pos h1]; exact hp.1
        · have : (digB (q % 10)).size = 1 := rfl
          rw [ByteArray.size_append]
          omega
        · rw [wrap_i64 (by omega)]; omega
    · subst h1
      rw [if_neg (by omega)]
      have h2 := hp.1
      rw [digs_zero] at h2
      rw [h2]; rfl
end Go.Proofs.Ytnjnkhmcdkjekaa.V
