/- Contracts: kinds of bytes, numbers, names. -/
import Derived.Test.YtnjnkhmcdkjekaaW25
namespace Go.Proofs.Ytnjnkhmcdkjekaa.V
open Go.RowKit
set_option linter.unusedVariables false
set_option linter.unusedSimpArgs false
set_option linter.constructorNameAsVariable false
def isDg (c : Int) : Bool := decide (48 ≤ c) && decide (c ≤ 57)
def isLt (c : Int) : Bool := decide ((97 ≤ c ∧ c ≤ 122) ∨ (65 ≤ c ∧ c ≤ 90) ∨ c = 95)
def isBl (c : Int) : Bool := decide (c = 32 ∨ c = 9 ∨ c = 10)
theorem c_l2Digit (c : Int) : VFun Try.prog 111 [.lit (.int .u8 c)] (fun av obs => obs = [] ∧ av = .lit (.bool (isDg c))) := by
  refine vfun_start Try.func111 (by kernel_rfl) rfl (by simp [Try.ntmps111]) ?_
  simp only [Try.ntmps111, Try.results111]
  simp [go_sem]
  by_cases h1 : 48 ≤ c <;> by_cases h2 : c ≤ 57 <;> simp [isDg, h1, h2] <;> omega
theorem c_isDigit (c : Int) : VFun Try.prog 91 [.lit (.int .u8 c)] (fun av obs => obs = [] ∧ av = .lit (.bool (isDg c))) := by
  refine vfun_start Try.func91 (by kernel_rfl) rfl (by simp [Try.ntmps91]) ?_
  simp only [Try.ntmps91, Try.results91]
  simp [go_sem]
  by_cases h1 : 48 ≤ c <;> by_cases h2 : c ≤ 57 <;> simp [isDg, h1, h2] <;> omega
theorem c_l2Letter (c : Int) : VFun Try.prog 110 [.lit (.int .u8 c)] (fun av obs => obs = [] ∧ av = .lit (.bool (isLt c))) := by
  refine vfun_start Try.func110 (by kernel_rfl) rfl (by simp [Try.ntmps110]) ?_
  simp only [Try.ntmps110, Try.results110]
  simp [go_sem]
  simp only [isLt, int_beq, decide_eq_decide, decide_eq_true_eq]
  omega
theorem c_isLetter (c : Int) : VFun Try.prog 92 [.lit (.int .u8 c)] (fun av obs => obs = [] ∧ av = .lit (.bool (isLt c))) := by
  refine vfun_start Try.func92 (by kernel_rfl) rfl (by simp [Try.ntmps92]) ?_
  simp only [Try.ntmps92, Try.results92]
  simp [go_sem]
  simp only [isLt, int_beq, decide_eq_decide, decide_eq_true_eq]
  omega
theorem c_l2Blank (c : Int) : VFun Try.prog 56 [.lit (.int .u8 c)] (fun av obs => obs = [] ∧ av = .lit (.bool (isBl c))) := by
  refine vfun_start Try.func56 (by kernel_rfl) rfl (by simp [Try.ntmps56]) ?_
  simp only [Try.ntmps56, Try.results56]
  simp [go_sem]
  simp only [isBl, int_beq, decide_eq_decide, decide_eq_true_eq]
  omega
/-! texts that are numbers, names -/
def numZ (z : ByteArray) : Bool := ((List.range z.size).all fun i => isDg (byteAt z i)) && decide (0 < z.size)
def namAt (z : ByteArray) (i : Nat) : Bool := isLt (byteAt z i) || (decide (i ≠ 0) && isDg (byteAt z i))
def namZ (z : ByteArray) : Bool := ((List.range z.size).all fun i => namAt z i) && decide (0 < z.size)
theorem all_false {p : Nat → Bool} {n i : Nat} (h : i < n) (e : p i = false) : (List.range n).all p = false := by
  simp only [List.all_eq_false, List.mem_range]
  exact ⟨i, h, by rw [e]; simp⟩
theorem all_true {p : Nat → Bool} {n : Nat} (h : ∀ i, i < n → p i = true) : (List.range n).all p = true := by
  simp only [List.all_eq_true, List.mem_range]
  exact h
theorem c_l2IsNumber (z : ByteArray) (hz : z.size ≤ 9223372036854775807) : VFun Try.prog 88 [.lit (.string z)] (fun av obs => obs = [] ∧ av = .lit (.bool (numZ z))) := by
  refine vfun_start Try.func88 (by kernel_rfl) rfl (by simp [Try.ntmps88]) ?_
  simp only [Try.ntmps88, Try.results88]
  simp [go_sem]
  refine vc_loop (fun i : Nat => i ≤ z.size ∧ ∀ j, j < i → isDg (byteAt z j) = true) (fun i => z.size - i) (fun i => .of [(0, .lit (.string z)), (3, .lit (.int .i64 i))] []) ⟨0, ⟨by omega, by simp⟩, ?_⟩ (fun i hi => ?_)
  · simp [go_sem]
  · simp [go_sem]
    refine ⟨fun h => ⟨h, vcall_pure (c_l2Digit (byteAt z i)) ?_ ?_⟩, fun h => ?_⟩
    · simp [go_sem]
    · simp [go_sem]
      refine ⟨fun e => ?_, fun e => ⟨i + 1, ⟨by omega, fun j hj => ?_⟩, by omega, wrap_succ (by omega)⟩⟩
      · simp only [numZ, all_false (p := fun i => isDg (byteAt z i)) h e, Bool.false_and]
      · rcases Nat.lt_succ_iff_lt_or_eq.mp hj with hj | rfl
        · exact hi.2 j hj
        · exact e
    · simp only [numZ, all_true (p := fun i => isDg (byteAt z i)) (n := z.size) fun j hj => hi.2 j (by omega), Bool.true_and]
theorem c_l2IsName (z : ByteArray) (hz : z.size ≤ 9223372036854775807) : VFun Try.prog 89 [.lit (.string z)] (fun av obs => obs = [] ∧ av = .lit (.bool (namZ z))) := by
  refine vfun_start Try.func89 (by kernel_rfl) rfl (by simp [Try.ntmps89]) ?_
  simp only [Try.ntmps89, Try.results89]
  simp [go_sem]
  refine vc_loop (fun i : Nat => i ≤ z.size ∧ ∀ j, j < i → namAt z j = true) (fun i => z.size - i) (fun i => .of [(0, .lit (.string z)), (3, .lit (.int .i64 i))] []) ⟨0, ⟨by omega, by simp⟩, ?_⟩ (fun i hi => ?_)
  · simp [go_sem]
  · simp [go_sem]
    refine ⟨fun h => ⟨h, vcall_pure (c_l2Letter (byteAt z i)) ?_ ?_⟩, fun h => ?_⟩
    · simp [go_sem]
    · have step : namAt z i = true → ∃ j : Nat, (j ≤ z.size ∧ ∀ q, q < j → namAt z q = true) ∧ z.size - j < z.size - i ∧ IntKind.i64.wrap ((i : Int) + 1) = j := fun e => ⟨i + 1, ⟨by omega, fun j hj => by
        rcases Nat.lt_succ_iff_lt_or_eq.mp hj with hj | rfl
        · exact hi.2 j hj
        · exact e⟩, by omega, wrap_succ (by omega)⟩
      have bad : namAt z i = false → namZ z = false := fun e => by simp only [namZ, all_false (p := fun i => namAt z i) h e, Bool.false_and]
      simp [go_sem]
      refine ⟨fun e1 => ⟨fun h0 => ⟨h, vcall_pure (c_l2Digit (byteAt z i)) ?_ ?_⟩, fun h0 => bad (by subst h0; simp [namAt, e1])⟩, fun e1 => step (by simp [namAt, e1])⟩
      · simp [go_sem]
      · simp [go_sem]
        exact ⟨fun e2 => bad (by simp [namAt, e1, e2]), fun e2 => step (by simp [namAt, e1, e2, h0])⟩
    · simp only [namZ, all_true (p := fun i => namAt z i) (n := z.size) fun j hj => hi.2 j (by omega), Bool.true_and]
/-! operators by their texts -/
def opHas (l : List POp) (z : ByteArray) (kd : Int) : Bool := (List.range l.length).any fun i => decide ((opAt l i).text = z) && decide ((opAt l i).kind = kd)
theorem c_l2Find (l : List POp) (hl : l.length ≤ 9223372036854775807) (z : ByteArray) (kd : Int) : VFun Try.prog 93 [.agg [.sl 4 l.length (opCells l)], .lit (.string z), .lit (.int .i64 kd)] (fun av obs => obs = [] ∧ ∃ r : Int, av = .lit (.int .i64 r) ∧ (0 ≤ r ↔ opHas l z kd = true)) := by
  have cl : ∀ (i : Nat) (c : AV), i < l.length → c ∈ opCells l i → Closed c := fun i c _ h => opClosed l i c h
  refine vfun_start Try.func93 (by kernel_rfl) rfl (by simp [Try.ntmps93]) ?_
  simp only [Try.ntmps93, Try.results93]
  simp [go_sem]
  refine vc_loop (fun i : Nat => i ≤ l.length ∧ ∀ j, j < i → ¬ ((opAt l j).text = z ∧ (opAt l j).kind = kd)) (fun i => l.length - i) (fun i => .of [(1, .lit (.string z)), (2, .lit (.int .i64 kd)), (3, .ptr 0 1 0 0), (7, .lit (.int .i64 i))] [some ⟨35, 1, 1, fun _ => [.sl 4 l.length (opCells l)]⟩]) ⟨0, ⟨by omega, by simp⟩, ?_⟩ (fun i hi => ?_)
  · simp [go_sem]
    exact cl
  · simp [go_sem, opCells_at, ba_toList]
    have step : ¬ ((opAt l i).text = z ∧ (opAt l i).kind = kd) → ∀ j, j < i + 1 → ¬ ((opAt l j).text = z ∧ (opAt l j).kind = kd) := fun e j hj => by
      rcases Nat.lt_succ_iff_lt_or_eq.mp hj with hj | rfl
      · exact hi.2 j hj
      · exact e
    refine ⟨by omega, fun h => ?_, fun h => ?_⟩
    · have cl2 : ∀ (i : Nat) (c : AV), i < l.length → c = AV.lit (Value.string (opAt l i).text) ∨ c = AV.lit (Value.int IntKind.i64 (opAt l i).kind) ∨ c = AV.lit (Value.int IntKind.i64 (opAt l i).level) ∨ c = AV.lit (Value.int IntKind.i64 (opAt l i).side) → Closed c := by
        rintro i c _ (rfl | rfl | rfl | rfl) <;> exact .lit _
      refine ⟨h, fun e1 => ⟨h, fun e2 => ?_, fun e2 => ⟨i + 1, ⟨by omega, fun j hj e3 e4 => step (fun e5 => e2 e5.2) j hj ⟨e3, e4⟩⟩, by omega, wrap_succ (by omega), cl2⟩⟩, fun e1 => ⟨i + 1, ⟨by omega, fun j hj e3 e4 => step (fun e5 => e1 e5.1) j hj ⟨e3, e4⟩⟩, by omega, wrap_succ (by omega), cl2⟩⟩
      simp only [opHas, List.any_eq_true, List.mem_range]
      exact ⟨i, h, by simp [e1, e2]⟩
    · simp only [opHas, List.any_eq_false, List.mem_range]
      exact fun j hj => by
        have := hi.2 j (by omega)
        simp only [Bool.and_eq_true, decide_eq_true_eq]
        exact this
end Go.Proofs.Ytnjnkhmcdkjekaa.V
