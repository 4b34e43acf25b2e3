/- Plain law: what stands in front of a text is its longest token. -/
import Derived.Test.YtnjnkhmcdkjekaaW28
namespace Go.Proofs.Ytnjnkhmcdkjekaa.V
open Go.RowKit
set_option linter.unusedVariables false
set_option linter.unusedSimpArgs false
set_option linter.constructorNameAsVariable false
def textHas (l : List POp) (z : ByteArray) : Bool := (List.range l.length).any fun j => decide ((opAt l j).text = z)
def opFront (l : List POp) (z : ByteArray) : Nat → Int × Nat
  | 0 => (6, 1)
  | k + 1 => if textHas l (z.extract 0 (k + 1)) then (3, k + 1) else opFront l z k
def front (l : List POp) (z : ByteArray) : Int × Nat :=
  if isDg (byteAt z 0) then (1, 1 + run isDg z 1) else if isLt (byteAt z 0) then (2, 1 + run alnum z 1) else if byteAt z 0 = 40 then (4, 1) else if byteAt z 0 = 41 then (5, 1) else opFront l z (if z.size < 16 then z.size else 16)

theorem byteAt_extract {z : ByteArray} {i e j : Nat} (he : e ≤ z.size) (hj : i + j < e) : byteAt (z.extract i e) j = byteAt z (i + j) := by
  unfold byteAt
  have h1 : j < (z.extract i e).size := by rw [ByteArray.size_extract]; omega
  rw [dif_pos h1, dif_pos (show i + j < z.size by omega)]
  rw [ByteArray.getElem_extract]
theorem extract_extract0 (z : ByteArray) (i k : Nat) (h : i + k ≤ z.size) : (z.extract i z.size).extract 0 k = z.extract i (i + k) := by
  rw [ByteArray.extract_extract]
  congr 1
  omega
theorem size_ext {z : ByteArray} {i n : Nat} (h : i + n ≤ z.size) : (z.extract i (i + n)).size = n := by rw [ByteArray.size_extract]; omega
theorem run_extract (p : Int → Bool) (z : ByteArray) (i : Nat) (j : Nat) : run p (z.extract i z.size) j = run p z (i + j) := by
  by_cases h : i + j < z.size
  · have h1 : j < (z.extract i z.size).size := by rw [ByteArray.size_extract]; omega
    have e := byteAt_extract (z := z) (i := i) (e := z.size) (j := j) (by omega) h
    cases hp : p (byteAt z (i + j))
    · rw [run_no h1 (by rw [e]; exact hp), run_no h hp]
    · rw [run_yes h1 (by rw [e]; exact hp), run_yes h hp, run_extract p z i (j + 1)]; rfl
  · rw [run_end (by rw [ByteArray.size_extract]; omega), run_end (by omega)]
termination_by z.size - (i + j)
theorem run_all (p : Int → Bool) (z : ByteArray) (j : Nat) (k : Nat) (h : k < run p z j) : p (byteAt z (j + k)) = true := by
  by_cases h1 : j < z.size
  · cases hp : p (byteAt z j)
    · rw [run_no h1 hp] at h; omega
    · cases k with
      | zero => exact hp
      | succ k =>
        rw [run_yes h1 hp] at h
        have := run_all p z (j + 1) k (by omega)
        rw [show j + (k + 1) = j + 1 + k by omega]; exact this
  · rw [run_end (by omega)] at h; omega
termination_by z.size - j
theorem run_stop (p : Int → Bool) (z : ByteArray) (j : Nat) (h : j + run p z j < z.size) : p (byteAt z (j + run p z j)) = false := by
  have h1 : j < z.size := by omega
  cases hp : p (byteAt z j)
  · rw [run_no h1 hp]; exact hp
  · rw [run_yes h1 hp] at h ⊢
    have := run_stop p z (j + 1) (by omega)
    rw [show j + (1 + run p z (j + 1)) = j + 1 + run p z (j + 1) by omega]; exact this
termination_by z.size - j
theorem run_mono {p q : Int → Bool} (hpq : ∀ c, p c = true → q c = true) (z : ByteArray) (j : Nat) : run p z j ≤ run q z j := by
  by_cases h1 : j < z.size
  · cases hp : p (byteAt z j)
    · rw [run_no h1 hp]; omega
    · rw [run_yes h1 hp, run_yes h1 (hpq _ hp)]
      have := run_mono hpq z (j + 1)
      omega
  · rw [run_end (by omega)]; omega
termination_by z.size - j
theorem sign_apart : (List.range 256).all (fun n => !isSg n || !(isDg n || isLt n || (n : Int) == 40 || (n : Int) == 41)) = true := by kernel_rfl
theorem digit_apart : (List.range 256).all (fun n => !isDg n || !(isLt n || (n : Int) == 40 || (n : Int) == 41)) = true := by kernel_rfl
theorem letter_apart : (List.range 256).all (fun n => !isLt n || !((n : Int) == 40 || (n : Int) == 41)) = true := by kernel_rfl
theorem of_range {f : Int → Bool} (h : (List.range 256).all (fun n => f n) = true) {c : Int} (hc : 0 ≤ c ∧ c < 256) : f c = true := by
  obtain ⟨n, rfl⟩ : ∃ n : Nat, c = n := ⟨c.toNat, by omega⟩
  exact List.all_eq_true.1 h n (List.mem_range.2 (by omega))
theorem isSg_no {c : Int} (hc : 0 ≤ c ∧ c < 256) (h : isDg c = true ∨ isLt c = true ∨ c = 40 ∨ c = 41) : isSg c = false := by
  have := of_range (f := fun n => !isSg n || !(isDg n || isLt n || n == 40 || n == 41)) sign_apart hc
  simp at this
  rcases h with h | h | rfl | rfl <;> simp_all
theorem isDg_no {c : Int} (hc : 0 ≤ c ∧ c < 256) (h : isDg c = true) : isLt c = false ∧ c ≠ 40 ∧ c ≠ 41 := by
  have := of_range (f := fun n => !isDg n || !(isLt n || n == 40 || n == 41)) digit_apart hc
  simp [h] at this
  exact ⟨this.1.1, this.1.2, this.2⟩
theorem isLt_no {c : Int} (hc : 0 ≤ c ∧ c < 256) (h : isLt c = true) : c ≠ 40 ∧ c ≠ 41 := by
  have := of_range (f := fun n => !isLt n || !(n == 40 || n == 41)) letter_apart hc
  simp [h] at this
  exact this
/-! the kinds of texts by their first byte -/
theorem numZ_no {s : ByteArray} (h0 : 0 < s.size) (h : isDg (byteAt s 0) = false) : numZ s = false := by
  unfold numZ; rw [all_false h0 h]; rfl
theorem namZ_no {s : ByteArray} (h0 : 0 < s.size) (h : isLt (byteAt s 0) = false) : namZ s = false := by
  unfold namZ; rw [all_false h0 (by simp [namAt, h])]; rfl
theorem byte_ne {s : ByteArray} {b : UInt8} (h : byteAt s 0 ≠ b.toNat) : s ≠ ⟨#[b]⟩ := by
  rintro rfl
  exact h rfl
theorem byte_one {s : ByteArray} {b : UInt8} (h1 : s.size = 1) (h : byteAt s 0 = b.toNat) : s = ⟨#[b]⟩ := by
  obtain ⟨⟨l⟩⟩ := s
  match l, h1 with
  | [x], _ =>
    have h2 : ((x.toNat : Nat) : Int) = b.toNat := h
    have h3 : x = b := UInt8.toNat_inj.1 (by omega)
    rw [h3]
theorem isOpZ_has {l : List POp} (hok : tblOps l = true) (s : ByteArray) : isOpZ l s = textHas l s := by
  have hop : ∀ j, j < l.length → opOk (opAt l j) = true := by simpa [tblOps] using hok
  rw [Bool.eq_iff_iff]
  simp only [isOpZ, opHas, textHas, Bool.or_eq_true, List.any_eq_true, List.mem_range, Bool.and_eq_true, decide_eq_true_eq]
  constructor
  · rintro ((⟨j, h1, h2, _⟩ | ⟨j, h1, h2, _⟩) | ⟨j, h1, h2, _⟩) <;> exact ⟨j, h1, h2⟩
  · rintro ⟨j, h1, h2⟩
    have hk : (opAt l j).kind = 1 ∨ (opAt l j).kind = 2 ∨ (opAt l j).kind = 3 := by
      have := hop j h1
      simp [opOk] at this
      omega
    rcases hk with h | h | h
    · exact .inl (.inl ⟨j, h1, h2, h⟩)
    · exact .inl (.inr ⟨j, h1, h2, h⟩)
    · exact .inr ⟨j, h1, h2, h⟩
theorem textHas_no {l : List POp} (hok : tblOps l = true) {s : ByteArray} (h0 : 0 < s.size) (h : isSg (byteAt s 0) = false) : textHas l s = false := by
  have hop : ∀ j, j < l.length → opOk (opAt l j) = true := by simpa [tblOps] using hok
  simp only [textHas, List.any_eq_false, List.mem_range, decide_eq_true_eq]
  rintro j hj rfl
  have := hop j hj
  simp only [opOk, sgOk, sgAll, Bool.and_eq_true, List.all_eq_true, List.mem_range] at this
  have := this.1.1.1 0 h0
  rw [h] at this
  cases this
theorem textHas_none {l : List POp} (hok : tblOps l = true) {s : ByteArray} (h0 : s.size = 0) : textHas l s = false := by
  have hop : ∀ j, j < l.length → opOk (opAt l j) = true := by simpa [tblOps] using hok
  simp only [textHas, List.any_eq_false, List.mem_range, decide_eq_true_eq]
  rintro j hj rfl
  have := hop j hj
  simp only [opOk, sgOk, Bool.and_eq_true, decide_eq_true_eq] at this
  omega
theorem longF_eq {l : List POp} {z : ByteArray} {i m : Nat} (h1 : 1 ≤ m) (hm : m = 1 ∨ kindZ l (z.extract i (i + m)) ≠ 6) : ∀ N, m ≤ N → (∀ n, m < n → n ≤ N → kindZ l (z.extract i (i + n)) = 6) → longF l z i N = m
  | 0, h, _ => by omega
  | N + 1, h, h2 => by
    unfold longF
    by_cases e : m = N + 1
    · subst e
      split
      · omega
      · rename_i hN
        rw [if_pos (hm.resolve_left (by omega))]
    · rw [if_neg (by omega), if_neg (by rw [h2 (N + 1) (by omega) (by omega)]; simp)]
      exact longF_eq h1 hm N (by omega) fun n a b => h2 n a (by omega)
theorem opFront_none {l : List POp} {s : ByteArray} : ∀ K, (∀ k, k ≤ K → textHas l (s.extract 0 k) = false) → opFront l s K = (6, 1)
  | 0, _ => rfl
  | K + 1, h => by
    unfold opFront
    rw [if_neg (by rw [h (K + 1) (by omega)]; simp)]
    exact opFront_none K fun k hk => h k (by omega)
theorem opFront_long {l : List POp} {z : ByteArray} {i : Nat} (hk : ∀ n, 1 ≤ n → i + n ≤ z.size → kindZ l (z.extract i (i + n)) = if textHas l (z.extract i (i + n)) then 3 else 6) : ∀ N, i + (N + 1) ≤ z.size → opFront l (z.extract i z.size) (N + 1) = (kindZ l (z.extract i (i + longF l z i (N + 1))), longF l z i (N + 1))
  | 0, h => by
    have e : longF l z i (0 + 1) = 1 := by simp [longF]
    rw [e, hk 1 (by omega) (by omega)]
    simp only [opFront, extract_extract0 z i (0 + 1) (by omega)]
    cases textHas l (z.extract i (i + (0 + 1))) <;> rfl
  | N + 1, h => by
    have ih := opFront_long hk N (by omega)
    have h1 := hk (N + 1 + 1) (by omega) (by omega)
    unfold opFront
    rw [extract_extract0 z i (N + 1 + 1) (by omega)]
    cases ht : textHas l (z.extract i (i + (N + 1 + 1)))
    · rw [ht] at h1
      have e : longF l z i (N + 1 + 1) = longF l z i (N + 1) := by
        conv => lhs; unfold longF
        rw [if_neg (by omega), if_neg (by rw [h1]; simp)]
      rw [e, ← ih]; rfl
    · rw [ht] at h1
      have e : longF l z i (N + 1 + 1) = N + 1 + 1 := by
        conv => lhs; unfold longF
        rw [if_neg (by omega), if_pos (by rw [h1]; decide)]
      rw [e, h1]; rfl
theorem front_eq (l : List POp) (hok : tblOps l = true) (z : ByteArray) (i : Nat) (hi : i < z.size) : front l (z.extract i z.size) = (kindZ l (z.extract i (i + longest l z i)), longest l z i) := by
  have hr := byteAt_range z i
  have e0 : byteAt (z.extract i z.size) 0 = byteAt z i := byteAt_extract (by omega) (by omega)
  have b0 : ∀ n, 1 ≤ n → i + n ≤ z.size → byteAt (z.extract i (i + n)) 0 = byteAt z i := fun n h1 h2 => byteAt_extract (by omega) (by omega)
  have hs : (z.extract i z.size).size = z.size - i := by rw [ByteArray.size_extract]; omega
  unfold front
  rw [e0, run_extract, run_extract, hs]
  cases hd : isDg (byteAt z i) with
  | true =>
    obtain ⟨a1, a2, a3⟩ := isDg_no hr hd
    have a4 := isSg_no hr (.inl hd)
    have hN : reachZ z i = 1 + run alnum z (i + 1) := by simp [reachZ, a4, alnum, hd]
    have hle := run_mono (p := isDg) (q := alnum) (fun c h => by simp [alnum, h]) z (i + 1)
    have hrl := reachZ_le z i hi
    have kd : ∀ n, 1 ≤ n → i + n ≤ z.size → kindZ l (z.extract i (i + n)) = if numZ (z.extract i (i + n)) then 1 else 6 := by
      intro n h1 h2
      have hsz := size_ext h2
      have q1 : namZ (z.extract i (i + n)) = false := namZ_no (by omega) (by rw [b0 n h1 h2]; exact a1)
      have q2 : z.extract i (i + n) ≠ ⟨#[40]⟩ := byte_ne (by rw [b0 n h1 h2]; exact a2)
      have q3 : z.extract i (i + n) ≠ ⟨#[41]⟩ := byte_ne (by rw [b0 n h1 h2]; exact a3)
      have q4 : isOpZ l (z.extract i (i + n)) = false := by rw [isOpZ_has hok]; exact textHas_no hok (by omega) (by rw [b0 n h1 h2]; exact a4)
      simp only [kindZ, q1, q4, if_neg q2, if_neg q3]
      rfl
    have hlong : longest l z i = 1 + run isDg z (i + 1) := by
      unfold longest
      have hnum : kindZ l (z.extract i (i + (1 + run isDg z (i + 1)))) = 1 := by
        rw [kd _ (by omega) (by omega), if_pos]
        have hsz := size_ext (z := z) (i := i) (n := 1 + run isDg z (i + 1)) (by omega)
        simp only [numZ, Bool.and_eq_true, decide_eq_true_eq]
        refine ⟨all_true fun j hj => ?_, by omega⟩
        rw [hsz] at hj
        rw [byteAt_extract (by omega) (by omega)]
        cases j with
        | zero => exact hd
        | succ j =>
          have := run_all isDg z (i + 1) j (by omega)
          rw [show i + (j + 1) = i + 1 + j by omega]; exact this
      refine longF_eq (by omega) (.inr (by rw [hnum]; decide)) _ (by omega) fun n h1 h2 => ?_
      rw [kd n (by omega) (by omega), if_neg]
      have hst := run_stop isDg z (i + 1) (by omega)
      have hsz := size_ext (z := z) (i := i) (n := n) (by omega)
      unfold numZ
      rw [all_false (i := 1 + run isDg z (i + 1)) (by omega) (by rw [byteAt_extract (by omega) (by omega), show i + (1 + run isDg z (i + 1)) = i + 1 + run isDg z (i + 1) by omega]; exact hst)]
      simp
    rw [if_pos rfl, hlong]
    refine Prod.ext ?_ rfl
    rw [kd _ (by omega) (by omega), if_pos]
    have hsz := size_ext (z := z) (i := i) (n := 1 + run isDg z (i + 1)) (by omega)
    simp only [numZ, Bool.and_eq_true, decide_eq_true_eq]
    refine ⟨all_true fun j hj => ?_, by omega⟩
    rw [hsz] at hj
    rw [byteAt_extract (by omega) (by omega)]
    cases j with
    | zero => exact hd
    | succ j =>
      have := run_all isDg z (i + 1) j (by omega)
      rw [show i + (j + 1) = i + 1 + j by omega]; exact this
  | false =>
    rw [if_neg (by simp)]
    cases hl : isLt (byteAt z i) with
    | true =>
      obtain ⟨a2, a3⟩ := isLt_no hr hl
      have a4 := isSg_no hr (.inr (.inl hl))
      have hN : reachZ z i = 1 + run alnum z (i + 1) := by simp [reachZ, a4, alnum, hl]
      have hrl := reachZ_le z i hi
      have hk : kindZ l (z.extract i (i + (1 + run alnum z (i + 1)))) = 2 := by
        have hsz := size_ext (z := z) (i := i) (n := 1 + run alnum z (i + 1)) (by omega)
        have q1 : numZ (z.extract i (i + (1 + run alnum z (i + 1)))) = false := numZ_no (by omega) (by rw [b0 _ (by omega) (by omega)]; exact hd)
        have q2 : namZ (z.extract i (i + (1 + run alnum z (i + 1)))) = true := by
          simp only [namZ, Bool.and_eq_true, decide_eq_true_eq]
          refine ⟨all_true fun j hj => ?_, by omega⟩
          rw [hsz] at hj
          unfold namAt
          rw [byteAt_extract (by omega) (by omega)]
          cases j with
          | zero => simp [hl]
          | succ j =>
            have := run_all alnum z (i + 1) j (by omega)
            rw [show i + (j + 1) = i + 1 + j by omega]
            simpa [alnum] using this
        simp only [kindZ, q1, q2]; rfl
      have hlong : longest l z i = 1 + run alnum z (i + 1) := by
        unfold longest
        rw [hN]
        exact longF_eq (by omega) (.inr (by rw [hk]; decide)) _ (by omega) fun n h1 h2 => by omega
      rw [if_pos rfl, hlong, hk]
    | false =>
      rw [if_neg (by simp)]
      have kd : ∀ n, 1 ≤ n → i + n ≤ z.size → kindZ l (z.extract i (i + n)) = if z.extract i (i + n) = ⟨#[40]⟩ then 4 else if z.extract i (i + n) = ⟨#[41]⟩ then 5 else if textHas l (z.extract i (i + n)) then 3 else 6 := by
        intro n h1 h2
        have hsz := size_ext h2
        have q1 : numZ (z.extract i (i + n)) = false := numZ_no (by omega) (by rw [b0 n h1 h2]; exact hd)
        have q2 : namZ (z.extract i (i + n)) = false := namZ_no (by omega) (by rw [b0 n h1 h2]; exact hl)
        simp only [kindZ, q1, q2, isOpZ_has hok]
        rfl
      have reach1 : isSg (byteAt z i) = false → reachZ z i = 1 := fun h => by simp [reachZ, h, alnum, hd, hl]
      have long1 : isSg (byteAt z i) = false → longest l z i = 1 := fun h => by rw [longest, reach1 h]; simp [longF]
      by_cases h40 : byteAt z i = 40
      · rw [if_pos h40, long1 (isSg_no hr (.inr (.inr (.inl h40)))), kd 1 (by omega) (by omega), if_pos (byte_one (size_ext (by omega)) (by rw [b0 1 (by omega) (by omega)]; exact h40))]
      · rw [if_neg h40]
        by_cases h41 : byteAt z i = 41
        · rw [if_pos h41, long1 (isSg_no hr (.inr (.inr (.inr h41)))), kd 1 (by omega) (by omega), if_neg (byte_ne (by rw [b0 1 (by omega) (by omega)]; exact h40)), if_pos (byte_one (size_ext (by omega)) (by rw [b0 1 (by omega) (by omega)]; exact h41))]
        · rw [if_neg h41]
          have kd' : ∀ n, 1 ≤ n → i + n ≤ z.size → kindZ l (z.extract i (i + n)) = if textHas l (z.extract i (i + n)) then 3 else 6 := by
            intro n h1 h2
            rw [kd n h1 h2, if_neg (byte_ne (by rw [b0 n h1 h2]; exact h40)), if_neg (byte_ne (by rw [b0 n h1 h2]; exact h41))]
          cases hsg : isSg (byteAt z i) with
          | true =>
            have hN : reachZ z i = if z.size - i < 16 then z.size - i else 16 := by simp [reachZ, hsg]
            have hrl := reachZ_le z i hi
            unfold longest
            rw [← hN]
            obtain ⟨N, hN2⟩ : ∃ N, reachZ z i = N + 1 := ⟨reachZ z i - 1, by omega⟩
            rw [hN2]
            exact opFront_long kd' N (by omega)
          | false =>
            rw [long1 hsg, kd' 1 (by omega) (by omega), textHas_no hok (by rw [size_ext (by omega)]; omega) (by rw [b0 1 (by omega) (by omega)]; exact hsg)]
            refine opFront_none _ fun k hk => ?_
            have hk2 : k ≤ z.size - i := by split at hk <;> omega
            rw [extract_extract0 z i k (by omega)]
            cases k with
            | zero => exact textHas_none hok (by rw [size_ext (by omega)])
            | succ k => exact textHas_no hok (by rw [size_ext (by omega)]; omega) (by rw [b0 _ (by omega) (by omega)]; exact hsg)
end Go.Proofs.Ytnjnkhmcdkjekaa.V
