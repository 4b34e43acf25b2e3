/- Contracts: the kind of a token, how far one reaches, the longest. -/
import Derived.Test.YtnjnkhmcdkjekaaW26
namespace Go.Proofs.Ytnjnkhmcdkjekaa.V
open Go.RowKit
set_option linter.unusedVariables false
set_option linter.unusedSimpArgs false
set_option linter.constructorNameAsVariable false
def isOpZ (l : List POp) (z : ByteArray) : Bool := opHas l z 1 || opHas l z 2 || opHas l z 3
theorem c_l2IsOp (l : List POp) (hl : l.length ≤ 9223372036854775807) (z : ByteArray) : VFun Try.prog 90 [.agg [.sl 4 l.length (opCells l)], .lit (.string z)] (fun av obs => obs = [] ∧ av = .lit (.bool (isOpZ l z))) := by
  have cl : ∀ (i : Nat) (c : AV), i < l.length → c ∈ opCells l i → Closed c := fun i c _ h => opClosed l i c h
  have dec : ∀ (r : Int) (b : Bool), (0 ≤ r ↔ b = true) → decide (0 ≤ r) = b := fun r b h => by cases b <;> simp_all
  refine vfun_start Try.func90 (by kernel_rfl) rfl (by simp [Try.ntmps90]) ?_
  simp only [Try.ntmps90, Try.results90]
  simp [go_sem]
  refine vcall_use (c_l2Find l hl z 1) ?_ ?_
  · simp [go_sem]
    exact argSl_refl (by omega) cl
  · rintro av obs ⟨rfl, r, rfl, hr⟩
    simp [go_sem]
    refine ⟨fun e1 => vcall_use (c_l2Find l hl z 2) ?_ ?_, fun e1 => by simp [isOpZ, hr.1 e1]⟩
    · simp [go_sem]
      exact argSl_refl (by omega) cl
    · have n1 : opHas l z 1 = false := by rw [Bool.eq_false_iff]; exact fun e => by have := hr.2 e; omega
      rintro av obs ⟨rfl, r2, rfl, hr2⟩
      simp [go_sem]
      refine ⟨fun e2 => vcall_use (c_l2Find l hl z 3) ?_ ?_, fun e2 => by simp [isOpZ, hr2.1 e2]⟩
      · simp [go_sem]
        exact argSl_refl (by omega) cl
      · have n2 : opHas l z 2 = false := by rw [Bool.eq_false_iff]; exact fun e => by have := hr2.2 e; omega
        rintro av obs ⟨rfl, r3, rfl, hr3⟩
        simp [go_sem, isOpZ, n1, n2, dec r3 _ hr3]
def kindZ (l : List POp) (z : ByteArray) : Int := if numZ z then 1 else if namZ z then 2 else if z = ⟨#[40]⟩ then 4 else if z = ⟨#[41]⟩ then 5 else if isOpZ l z then 3 else 6
theorem c_l2Kind (l : List POp) (hl : l.length ≤ 9223372036854775807) (z : ByteArray) (hz : z.size ≤ 9223372036854775807) : VFun Try.prog 58 [.agg [.sl 4 l.length (opCells l)], .lit (.string z)] (fun av obs => obs = [] ∧ av = .lit (.int .i64 (kindZ l z))) := by
  have cl : ∀ (i : Nat) (c : AV), i < l.length → c ∈ opCells l i → Closed c := fun i c _ h => opClosed l i c h
  refine vfun_start Try.func58 (by kernel_rfl) rfl (by simp [Try.ntmps58]) ?_
  simp only [Try.ntmps58, Try.results58]
  simp [go_sem]
  refine vcall_pure (c_l2IsNumber z hz) ?_ ?_
  · simp [go_sem]
  · simp [go_sem]
    refine ⟨fun e1 => by simp [kindZ, e1], fun e1 => vcall_pure (c_l2IsName z hz) ?_ ?_⟩
    · simp [go_sem]
    · simp [go_sem]
      have b1 : z.toList = [40] ↔ z = ⟨#[40]⟩ := by have := ba_toList z ⟨#[40]⟩; simpa using this
      have b2 : z.toList = [41] ↔ z = ⟨#[41]⟩ := by have := ba_toList z ⟨#[41]⟩; simpa using this
      refine ⟨fun e2 => by simp [kindZ, e1, e2], fun e2 => ⟨fun e3 => by rw [b1] at e3; simp only [kindZ, e1, e2, if_pos e3]; rfl, fun e3 => ⟨fun e4 => by rw [b1] at e3; rw [b2] at e4; simp only [kindZ, e1, e2, if_neg e3, if_pos e4]; rfl, fun e4 => vcall_pure (c_l2IsOp l hl z) ?_ ?_⟩⟩⟩
      · simp [go_sem]
        exact argSl_refl (by omega) cl
      · rw [b1] at e3
        rw [b2] at e4
        simp [go_sem]
        simp only [kindZ, e1, e2, if_neg e3, if_neg e4]
        refine ⟨fun e5 => ?_, fun e5 => ?_⟩ <;> rw [e5] <;> rfl
/-! how far a token reaches -/
def alnum (c : Int) : Bool := isLt c || isDg c
def run (p : Int → Bool) (z : ByteArray) (j : Nat) : Nat := if h : j < z.size then if p (byteAt z j) then 1 + run p z (j + 1) else 0 else 0
termination_by z.size - j
theorem run_end {p : Int → Bool} {z : ByteArray} {j : Nat} (h : z.size ≤ j) : run p z j = 0 := by rw [run, dif_neg (by omega)]
theorem run_yes {p : Int → Bool} {z : ByteArray} {j : Nat} (h : j < z.size) (e : p (byteAt z j) = true) : run p z j = 1 + run p z (j + 1) := by
  conv => lhs; rw [run]
  rw [dif_pos h, if_pos e]
theorem run_no {p : Int → Bool} {z : ByteArray} {j : Nat} (h : j < z.size) (e : p (byteAt z j) = false) : run p z j = 0 := by rw [run, dif_pos h, if_neg (by rw [e]; simp)]
theorem run_le (p : Int → Bool) (z : ByteArray) (j : Nat) (h : j ≤ z.size) : j + run p z j ≤ z.size := by
  rcases Nat.lt_or_ge j z.size with h1 | h1
  · cases e : p (byteAt z j)
    · rw [run_no h1 e]; omega
    · have := run_le p z (j + 1) (by omega)
      rw [run_yes h1 e]; omega
  · rw [run_end h1]; omega
termination_by z.size - j
def reachZ (z : ByteArray) (i : Nat) : Nat := if isSg (byteAt z i) then (if z.size - i < 16 then z.size - i else 16) else if alnum (byteAt z i) then 1 + run alnum z (i + 1) else 1
theorem c_l2Reach (z : ByteArray) (hz : z.size ≤ 1048576) (i : Nat) (hi : i < z.size) : VFun Try.prog 87 [.lit (.string z), .lit (.int .i64 i)] (fun av obs => obs = [] ∧ av = .lit (.int .i64 (reachZ z i))) := by
  refine vfun_start Try.func87 (by kernel_rfl) rfl (by simp [Try.ntmps87]) ?_
  simp only [Try.ntmps87, Try.results87]
  simp [go_sem]
  refine ⟨hi, vcall_pure (c_l1IsSign (byteAt z i)) ?_ ?_⟩
  · simp [go_sem]
  · simp [go_sem]
    rw [wrap_i64 (by omega)]
    refine ⟨fun e0 => ⟨fun h => ?_, fun h => ?_⟩, fun e0 => ?_⟩
    · simp only [reachZ, e0, if_true]
      rw [if_pos (by omega)]; omega
    · simp only [reachZ, e0, if_true]
      rw [if_neg (by omega)]; rfl
    · refine vc_loop (fun n : Nat => 1 ≤ n ∧ i + n ≤ z.size ∧ reachZ z i = if alnum (byteAt z i) then n + run alnum z (i + n) else n) (fun n => z.size - n) (fun n => .of [(0, .lit (.string z)), (1, .lit (.int .i64 i)), (5, .lit (.int .i64 n))] []) ⟨1, ⟨by omega, by omega, ?_⟩, ?_⟩ (fun n hn => ?_)
      · simp only [reachZ, e0]
        simp
      · simp [go_sem]
      · obtain ⟨h1, h2, h3⟩ := hn
        simp [go_sem]
        rw [wrap_i64 (n := (i : Int) + n) (by omega)]
        have ex : z.size ≤ i + n → (n : Int) = reachZ z i := fun h => by
          rw [h3, run_end h]; simp
        refine ⟨fun h => ⟨hi, vcall_pure (c_l2Letter (byteAt z i)) ?_ ?_⟩, fun h => ex (by omega)⟩
        · simp [go_sem]
        · have hlt : ((i : Int) + n < z.size) = True := by simp; omega
          cases eL : isLt (byteAt z i) with
          | true =>
            have al : alnum (byteAt z i) = true := by simp [alnum, eL]
            rw [al, if_pos rfl] at h3
            have stop : alnum (byteAt z (i + n)) = false → (n : Int) = reachZ z i := fun e => by rw [h3, run_no (by omega) e]; simp
            have go_ : alnum (byteAt z (i + n)) = true → 1 ≤ n + 1 ∧ i + (n + 1) ≤ z.size ∧ reachZ z i = if alnum (byteAt z i) then n + 1 + run alnum z (i + (n + 1)) else n + 1 := fun e => ⟨by omega, by omega, by rw [al, if_pos rfl, h3, run_yes (by omega) e, show i + (n + 1) = i + n + 1 by omega]; omega⟩
            simp [go_sem]
            simp only [wrap_i64 (n := (i : Int) + n) (by omega), show ((i : Int) + n).toNat = i + n by omega]
            refine ⟨by omega, by omega, vcall_pure (c_l2Letter (byteAt z (i + n))) ?_ ?_⟩
            · simp [go_sem]
            · have done_ : alnum (byteAt z (i + n)) = true → ∃ j : Nat, (1 ≤ j ∧ i + j ≤ z.size ∧ reachZ z i = if alnum (byteAt z i) = true then j + run alnum z (i + j) else j) ∧ z.size - j < z.size - n ∧ IntKind.i64.wrap ((n : Int) + 1) = j := fun e => ⟨n + 1, go_ e, by omega, wrap_succ (by omega)⟩
              cases fL : isLt (byteAt z (i + n)) with
              | true =>
                simp [go_sem]
                exact done_ (by simp [alnum, fL])
              | false =>
                simp [go_sem]
                simp only [wrap_i64 (n := (i : Int) + n) (by omega), show ((i : Int) + n).toNat = i + n by omega]
                refine ⟨by omega, by omega, vcall_pure (c_l2Digit (byteAt z (i + n))) ?_ ?_⟩
                · simp [go_sem]
                · simp [go_sem]
                  exact ⟨fun e => done_ (by simp [alnum, e]), fun e => stop (by simp [alnum, fL, e])⟩
          | false =>
            simp [go_sem]
            refine ⟨hi, vcall_pure (c_l2Digit (byteAt z i)) ?_ ?_⟩
            · simp [go_sem]
            · cases eD : isDg (byteAt z i) with
              | true =>
                have al : alnum (byteAt z i) = true := by simp [alnum, eL, eD]
                rw [al, if_pos rfl] at h3
                have stop : alnum (byteAt z (i + n)) = false → (n : Int) = reachZ z i := fun e => by rw [h3, run_no (by omega) e]; simp
                have go_ : alnum (byteAt z (i + n)) = true → 1 ≤ n + 1 ∧ i + (n + 1) ≤ z.size ∧ reachZ z i = if alnum (byteAt z i) then n + 1 + run alnum z (i + (n + 1)) else n + 1 := fun e => ⟨by omega, by omega, by rw [al, if_pos rfl, h3, run_yes (by omega) e, show i + (n + 1) = i + n + 1 by omega]; omega⟩
                simp [go_sem]
                simp only [wrap_i64 (n := (i : Int) + n) (by omega), show ((i : Int) + n).toNat = i + n by omega]
                refine ⟨by omega, by omega, vcall_pure (c_l2Letter (byteAt z (i + n))) ?_ ?_⟩
                · simp [go_sem]
                · have done_ : alnum (byteAt z (i + n)) = true → ∃ j : Nat, (1 ≤ j ∧ i + j ≤ z.size ∧ reachZ z i = if alnum (byteAt z i) = true then j + run alnum z (i + j) else j) ∧ z.size - j < z.size - n ∧ IntKind.i64.wrap ((n : Int) + 1) = j := fun e => ⟨n + 1, go_ e, by omega, wrap_succ (by omega)⟩
                  cases fL : isLt (byteAt z (i + n)) with
                  | true =>
                    simp [go_sem]
                    exact done_ (by simp [alnum, fL])
                  | false =>
                    simp [go_sem]
                    simp only [wrap_i64 (n := (i : Int) + n) (by omega), show ((i : Int) + n).toNat = i + n by omega]
                    refine ⟨by omega, by omega, vcall_pure (c_l2Digit (byteAt z (i + n))) ?_ ?_⟩
                    · simp [go_sem]
                    · simp [go_sem]
                      exact ⟨fun e => done_ (by simp [alnum, e]), fun e => stop (by simp [alnum, fL, e])⟩
              | false =>
                simp [go_sem]
                have al : alnum (byteAt z i) = false := by simp [alnum, eL, eD]
                rw [al] at h3
                rw [h3]; simp
def longF (l : List POp) (z : ByteArray) (i : Nat) : Nat → Nat
  | 0 => 1
  | n + 1 => if n = 0 then 1 else if kindZ l (z.extract i (i + (n + 1))) ≠ 6 then n + 1 else longF l z i n
def longest (l : List POp) (z : ByteArray) (i : Nat) : Nat := longF l z i (reachZ z i)
theorem reachZ_le (z : ByteArray) (i : Nat) (hi : i < z.size) : 1 ≤ reachZ z i ∧ i + reachZ z i ≤ z.size := by
  unfold reachZ
  split
  · split <;> omega
  · split
    · have := run_le alnum z (i + 1) (by omega)
      omega
    · omega
theorem c_l2Longest (l : List POp) (hl : l.length ≤ 9223372036854775807) (z : ByteArray) (hz : z.size ≤ 1048576) (i : Nat) (hi : i < z.size) : VFun Try.prog 57 [.agg [.sl 4 l.length (opCells l)], .lit (.string z), .lit (.int .i64 i)] (fun av obs => obs = [] ∧ av = .lit (.int .i64 (longest l z i))) := by
  have cl : ∀ (i : Nat) (c : AV), i < l.length → c ∈ opCells l i → Closed c := fun i c _ h => opClosed l i c h
  have hr := reachZ_le z i hi
  refine vfun_start Try.func57 (by kernel_rfl) rfl (by simp [Try.ntmps57]) ?_
  simp only [Try.ntmps57, Try.results57]
  simp [go_sem]
  refine vcall_pure (c_l2Reach z hz i hi) ?_ ?_
  · simp [go_sem]
  · simp [go_sem]
    refine vc_loop (fun n : Nat => 1 ≤ n ∧ i + n ≤ z.size ∧ longest l z i = longF l z i n) (fun n => n) (fun n => .of [(1, .lit (.string z)), (2, .lit (.int .i64 i)), (3, .ptr 0 1 0 0), (7, .lit (.int .i64 n))] [some ⟨35, 1, 1, fun _ => [.sl 4 l.length (opCells l)]⟩]) ⟨reachZ z i, ⟨by omega, by omega, rfl⟩, ?_⟩ (fun n hn => ?_)
    · simp [go_sem]
      exact cl
    · simp [go_sem]
      refine ⟨fun h => ?_, fun h => ?_⟩
      · refine vc_drawn 9 (.q 0 <| .q 1 <| .q 2 <| .q 3 <| .q 4 <| .q 5 <| .q 6 <| .or 7 (.q 8 <| .done) (.nil)) (by kernel_rfl) ?_
        simp [go_sem]
        simp only [wrap_i64 (n := (i : Int) + n) (by omega), show ((i : Int) + n).toNat = i + n by omega]
        refine ⟨by omega, by omega, vcallV_pure (c_l2Kind l hl (z.extract i (i + n)) (by rw [ByteArray.size_extract]; omega)) ?_ ?_⟩
        · simp [go_sem]
          exact argSl_refl (by omega) cl
        · obtain ⟨h1, h2, h3⟩ := hn
          obtain ⟨m, rfl⟩ : ∃ m, n = m + 1 := ⟨n - 1, by omega⟩
          simp [go_sem]
          refine ⟨fun e => ?_, fun e => ?_⟩
          · rw [h3, longF, if_neg (by omega), if_pos (by simpa using e)]
            omega
          · rw [h3, longF, if_neg (by omega), if_neg (by simpa using e)]
            exact ⟨m, ⟨by omega, by omega, rfl⟩, by omega, wrap_i64 (by omega), cl⟩
      · have e : n = 1 := by omega
        rw [hn.2.2, e]; rfl
end Go.Proofs.Ytnjnkhmcdkjekaa.V
