/- Contracts: signs, operators, holes. -/
import Derived.Test.YtnjnkhmcdkjekaaVT
import Derived.Test.YtnjnkhmcdkjekaaV13
import Derived.Test.YtnjnkhmcdkjekaaShelf
namespace Go.Proofs.Ytnjnkhmcdkjekaa.V
open Go.RowKit
set_option linter.unusedVariables false
set_option linter.unusedSimpArgs false

theorem vfun_lit {P : Program} {f : FuncId} {vs : List Value} {v : Value} (hf : FnOk P f) (h : ∀ w, Calls P f vs.toArray w fun e w' => e = .returned v ∧ w' = w) : VFun P f (vs.map .lit) (fun av obs => obs = [] ∧ av = .lit v) := by
  refine ⟨hf, fun w us hl hu => ?_⟩
  have e : us = vs := by
    have hl' : vs.length = us.length := by simpa using hl
    apply List.ext_getElem hl'.symm
    intro j h1 h2
    have := hu j (.lit vs[j]) us[j] (by simp [h2]) (List.getElem?_eq_getElem h1)
    generalize us[j] = x at this
    generalize vs[j] = y at this
    cases this
    rfl
  subst e
  refine (h w).mono fun e w' ⟨he, hw⟩ => ?_
  subst he; subst hw
  exact ⟨v, rfl, World.grownBy.refl _ _, fun _ => undef, .lit v, [], ⟨rfl, rfl⟩, rfl, fun ob h => by simp at h, ⟨fun k ob h => by simp at h, fun k ob h => by simp at h, fun k h => by simp at h, fun k k' ob ob' h => by simp at h⟩, .lit v⟩

theorem wrap_i64 {n : Int} (h : -9223372036854775808 ≤ n ∧ n ≤ 9223372036854775807) : IntKind.i64.wrap n = n := by
  rw [IntKind.wrap_i64]; omega
theorem wrap_succ {i : Nat} (h : i < 9223372036854775807) : IntKind.i64.wrap ((i : Int) + 1) = ((i + 1 : Nat) : Int) := by
  rw [wrap_i64 (by omega)]; omega

def signBytes : ByteArray := { data := #[43, 45, 42, 47, 60, 62, 61, 33, 38, 124, 94, 126, 63, 58, 64, 37, 36, 46] }
def isSg (c : Int) : Bool := (List.range 18).any fun i => byteAt signBytes i = c
theorem signSize : signBytes.size = 18 := rfl
theorem isSg_false {c : Int} (h : ∀ j, j < 18 → ¬byteAt signBytes j = c) : isSg c = false := by simpa [isSg] using h
theorem isSg_true {c : Int} {i : Nat} (h : i < 18) (e : byteAt signBytes i = c) : isSg c = true := by simpa [isSg] using ⟨i, h, e⟩

theorem c_l1IsSign (c : Int) : VFun Try.prog 108 [.lit (.int .u8 c)] (fun av obs => obs = [] ∧ av = .lit (.bool (isSg c))) := by
  refine vfun_start Try.func108 (by kernel_rfl) rfl (by simp [Try.ntmps108]) ?_
  simp only [Try.ntmps108, Try.results108]
  simp [go_sem]
  refine vc_loop (fun i : Nat => i ≤ 18 ∧ ∀ j, j < i → ¬byteAt signBytes j = c) (fun i => 18 - i) (fun i => .of [(0, .lit (.int .u8 c)), (2, .lit (.bool false)), (3, .lit (.string signBytes)), (4, .lit (.int .i64 i))] []) ⟨0, ?_, ?_⟩ (fun i hi => ?_)
  · simp
  · simp [go_sem, signBytes]
  · simp [go_sem, signSize]
    refine ⟨fun h => ⟨h, fun e => isSg_true (by omega) e, fun e => ⟨i + 1, ⟨⟨by omega, fun j hj => ?_⟩, by omega, wrap_succ (by omega)⟩⟩⟩, fun h => isSg_false fun j hj => hi.2 j (by omega)⟩
    rcases Nat.lt_succ_iff_lt_or_eq.mp hj with hj | rfl
    · exact hi.2 j hj
    · exact e

theorem byteAt_range (z : ByteArray) (i : Nat) : 0 ≤ byteAt z i ∧ byteAt z i < 256 := by
  unfold byteAt
  split
  · rename_i h
    have := (z[i]'h).toNat_lt
    omega
  · omega
theorem signKey : (List.range 256).all (fun n => decide (0 ≤ Lib.indexByte signBytes.data.toList n.toUInt8) == isSg n) = true := by kernel_rfl
theorem indexSign (c : Int) (h : 0 ≤ c ∧ c < 256) : decide (0 ≤ Lib.indexByte signBytes.data.toList c.toNat.toUInt8) = isSg c := by
  have := List.all_eq_true.mp signKey c.toNat (List.mem_range.mpr (by omega))
  have e : ((c.toNat : Nat) : Int) = c := by omega
  rw [beq_iff_eq, e] at this
  exact this
theorem c_isSign (c : Int) (h : 0 ≤ c ∧ c < 256) : VFun Try.prog 109 [.lit (.int .u8 c)] (fun av obs => obs = [] ∧ av = .lit (.bool (isSg c))) := by
  refine vfun_start Try.func109 (by kernel_rfl) rfl (by simp [Try.ntmps109]) ?_
  simp only [Try.ntmps109, Try.results109]
  simp [go_sem]
  refine vcall_pure (vfun_lit (vs := [.string signBytes, .int .u8 c]) ⟨_, Try.func119, rfl, rfl⟩ (fun w => Try.strings_IndexByte signBytes c w)) ?_ ?_
  · simp [go_sem, signBytes]
  · simp [go_sem]
    exact indexSign c h

/-- a text's bytes are all signs -/
def sgAll (z : ByteArray) : Bool := (List.range z.size).all fun i => isSg (byteAt z i)
def sgOk (z : ByteArray) : Bool := sgAll z && decide (1 ≤ z.size) && decide (z.size ≤ 16)
theorem sgAll_false {z : ByteArray} {i : Nat} (h : i < z.size) (e : isSg (byteAt z i) = false) : sgAll z = false := by
  simp [sgAll]; exact ⟨i, h, e⟩
theorem sgAll_true {z : ByteArray} (h : ∀ i, i < z.size → isSg (byteAt z i) = true) : sgAll z = true := by simpa [sgAll] using h
theorem c_l1Signs (z : ByteArray) (hz : z.size ≤ maxLen) : VFun Try.prog 84 [.lit (.string z)] (fun av obs => obs = [] ∧ av = .lit (.bool (sgOk z))) := by
  refine vfun_start Try.func84 (by kernel_rfl) rfl (by simp [Try.ntmps84]) ?_
  simp only [Try.ntmps84, Try.results84]
  simp [go_sem]
  simp only [maxLen] at hz
  refine vc_loop (fun i : Nat => i ≤ z.size ∧ ∀ j, j < i → isSg (byteAt z j) = true) (fun i => z.size - i) (fun i => .of [(0, .lit (.string z)), (2, .lit (.bool false)), (3, .lit (.int .i64 i))] []) ⟨0, ?_, ?_⟩ (fun i hi => ?_)
  · simp
  · simp [go_sem]
  · simp [go_sem]
    refine ⟨fun h => ⟨h, vcall_pure (c_l1IsSign (byteAt z i)) ?_ ?_⟩, fun h => ?_⟩
    · simp [go_sem]
    · simp [go_sem]
      refine ⟨fun e => ?_, fun e => ⟨i + 1, ⟨⟨by omega, fun j hj => ?_⟩, by omega, wrap_succ (by omega)⟩⟩⟩
      · simp [sgOk, sgAll_false h e]
      · rcases Nat.lt_succ_iff_lt_or_eq.mp hj with hj | rfl
        · exact hi.2 j hj
        · exact e
    · have e := sgAll_true (z := z) fun j hj => hi.2 j (by omega)
      have h2 : ((z.size : Int) ≤ 16) ↔ z.size ≤ 16 := by omega
      simp [sgOk, e, h2]
      refine ⟨fun h => ?_, fun h => by omega⟩
      have h1 : 1 ≤ z.size := by omega
      simp [h1]

theorem c_signsOk (z : ByteArray) (hz : z.size ≤ maxLen) : VFun Try.prog 86 [.lit (.string z)] (fun av obs => obs = [] ∧ av = .lit (.bool (sgOk z))) := by
  refine vfun_start Try.func86 (by kernel_rfl) rfl (by simp [Try.ntmps86]) ?_
  simp only [Try.ntmps86, Try.results86]
  simp [go_sem]
  simp only [maxLen] at hz
  have h2 : (16 < (z.size : Int)) ↔ 16 < z.size := by omega
  have h1 : ((z.size : Int) < 1) ↔ z.size < 1 := by omega
  simp only [h1, h2]
  refine ⟨fun h3 => ⟨fun h4 => ?_, fun h4 => ?_⟩, fun h3 => ?_⟩
  · simp [sgOk, h4]
  · refine vc_loop (fun i : Nat => i ≤ z.size ∧ ∀ j, j < i → isSg (byteAt z j) = true) (fun i => z.size - i) (fun i => .of [(0, .lit (.string z)), (2, .lit (.bool false)), (13, .lit (.int .i64 z.size)), (14, .lit (.int .i64 i))] []) ⟨0, ?_, ?_⟩ (fun i hi => ?_)
    · simp
    · simp [go_sem]
    · simp [go_sem]
      refine ⟨fun h => ⟨h, vcall_pure (c_isSign (byteAt z i) (byteAt_range z i)) ?_ ?_⟩, fun h => ?_⟩
      · simp [go_sem]
      · simp [go_sem]
        refine ⟨fun e => ?_, fun e => ⟨i + 1, ⟨⟨by omega, fun j hj => ?_⟩, by omega, wrap_succ (by omega)⟩⟩⟩
        · simp [sgOk, sgAll_false h e]
        · rcases Nat.lt_succ_iff_lt_or_eq.mp hj with hj | rfl
          · exact hi.2 j hj
          · exact e
      · have e := sgAll_true (z := z) fun j hj => hi.2 j (by omega)
        simp [sgOk, e]
        omega
  · simp [sgOk]
    omega

end Go.Proofs.Ytnjnkhmcdkjekaa.V
