import Derived.Test.YtjdmmhcogmepaaaGreatDoorMC
import Derived.Test.YtjdmmhcogmepaaaGreatDoorMA
set_option linter.unusedVariables false
set_option linter.unusedSimpArgs false
set_option linter.constructorNameAsVariable false
namespace Go.Proofs.YtjdmmhcogmepaaaGreatDoor.V
open Go.RowKit
theorem ext_app (z : ByteArray) {f i k : Nat} (h1 : f ≤ i) (h2 : i ≤ k) : z.extract f i ++ z.extract i k = z.extract f k := by
 apply ByteArray.ext
 simp only [ByteArray.data_append, ByteArray.data_extract]
 rw [Array.extract_append_extract]
 congr 1 <;> omega
theorem rend_cons (o : PTok) (l : List PTok) : rend (o :: l) = o.gap ++ o.text ++ rend l := by
 have gen : ∀ (l : List PTok) (b : ByteArray), l.foldl (fun b o => b ++ o.gap ++ o.text) b = b ++ l.foldl (fun b o => b ++ o.gap ++ o.text) ByteArray.empty := by
  intro l
  induction l with
  | nil => intro b; simp
  | cons o l ih =>
   intro b
   simp only [List.foldl_cons]
   rw [ih (b ++ o.gap ++ o.text), ih (ByteArray.empty ++ o.gap ++ o.text)]
   simp [ByteArray.append_assoc]
 unfold rend
 simp only [List.foldl_cons]
 rw [gen]
 simp
theorem rend_lexFrom (l : List POp) (z : ByteArray) (f : Nat) (hf : f ≤ z.size) : rend (lexFrom l z f) = z.extract f z.size := by
 generalize hn : z.size - f = n
 induction n using Nat.strongRecOn generalizing f with
 | ind n ih =>
  have hr := run_le isBl z f hf
  by_cases h : f + run isBl z f < z.size
  ·rw [lexFrom_go rfl h, rend_cons]
   have hg := longest_ge l z (f + run isBl z f)
   have hl := longest_le l z (f + run isBl z f) h
   obtain ⟨i, hi⟩ : ∃ i, i = f + run isBl z f := ⟨_, rfl⟩
   rw [← hi] at hg hl h hr ⊢
   have hfi : f ≤ i := by omega
   obtain ⟨j, hj⟩ : ∃ j, j = i + longest l z i := ⟨_, rfl⟩
   rw [← hj] at hl ⊢
   simp only
   rw [ih (z.size - j) (by omega) j hl rfl, ext_app z hfi (by omega), ext_app z (by omega) hl]
  ·have e : f + run isBl z f = z.size := by omega
   rw [lexFrom_end rfl h, rend_cons, e]
   simp only [rend, List.foldl_nil]
   rw [show (⟨#[]⟩ : ByteArray) = ByteArray.empty from rfl, ByteArray.append_empty, ByteArray.append_empty]
theorem ext_size_leZ (z : ByteArray) (a b : Nat) : (z.extract a b).size ≤ z.size := by
 rw [ByteArray.size_extract]; omega
theorem lexZ_texts {l : List POp} {z : ByteArray} (hz : z.size ≤ 200000) : (lexZ l z).length ≤ 200001 ∧ tokSum (lexZ l z) ≤ 200000 := by
 unfold lexZ
 split
 ·rename_i h
  have h1 := lexFrom_len l z 0 (by omega)
  have h2 := rend_lexFrom l z 0 (by omega)
  have h3 := rend_size (lexFrom l z 0)
  rw [h2] at h3
  have h4 := ext_size_leZ z 0 z.size
  exact ⟨by omega, by omega⟩
 ·exact ⟨by simp, by simp [tokSum]⟩
theorem tok_le {l : List PTok} {i : Nat} (hi : i < l.length) : tokSize (tokAt l i) ≤ tokSum l := by
 induction l generalizing i with
 | nil => simp at hi
 | cons o l ih =>
  unfold tokSum at *
  cases i with
  | zero => simp [tokAt]
  | succ i =>
   have := ih (i := i) (by simpa using hi)
   simp only [List.map_cons, List.sum_cons]
   have e : tokAt (o :: l) (i + 1) = tokAt l i := by simp [tokAt]
   rw [e]
   omega
theorem byteAt_ext {z : ByteArray} {p q i : Nat} (h : p + i < q) (hq : q ≤ z.size) : byteAt (z.extract p q) i = byteAt z (p + i) := by
 have h1 : i < (z.extract p q).size := by rw [ByteArray.size_extract]; omega
 have h2 : p + i < z.size := by omega
 unfold byteAt
 rw [dif_pos h1, dif_pos h2, ByteArray.getElem_extract]
theorem byteAt_app1 {a b : ByteArray} {i : Nat} (h : i < a.size) : byteAt (a ++ b) i = byteAt a i := by
 have h1 : i < (a ++ b).size := by rw [ByteArray.size_append]; omega
 unfold byteAt
 rw [dif_pos h1, dif_pos h, ByteArray.getElem_append_left h]
theorem byteAt_app2 {a b : ByteArray} {i : Nat} (h : i < b.size) : byteAt (a ++ b) (a.size + i) = byteAt b i := by
 have h1 : a.size + i < (a ++ b).size := by rw [ByteArray.size_append]; omega
 unfold byteAt
 rw [dif_pos h1, dif_pos h, ByteArray.getElem_append_right (by omega)]
 simp
theorem ext_mid (a b c : ByteArray) : (a ++ b ++ c).extract a.size (a.size + b.size) = b := by
 apply ByteArray.ext
 simp only [ByteArray.data_extract, ByteArray.data_append]
 apply Array.toList_inj.1
 simp [← ByteArray.size_data]
theorem sg_not {c : Int} (h : isSg c = true) : isDg c = false ∧ isLt c = false ∧ isBl c = false ∧ c ≠ 40 ∧ c ≠ 41 := by
 simp only [isSg, List.any_eq_true, List.mem_range, decide_eq_true_eq] at h
 obtain ⟨i, hi, rfl⟩ := h
 rcases (by omega : i = 0 ∨ i = 1 ∨ i = 2 ∨ i = 3 ∨ i = 4 ∨ i = 5 ∨ i = 6 ∨ i = 7 ∨ i = 8 ∨ i = 9 ∨ i = 10 ∨ i = 11 ∨ i = 12 ∨ i = 13 ∨ i = 14 ∨ i = 15 ∨ i = 16 ∨ i = 17) with h | h | h | h | h | h | h | h | h | h | h | h | h | h | h | h | h | h <;> subst h <;> decide
theorem al_not {c : Int} (h : alnum c = true) : isSg c = false ∧ isBl c = false ∧ c ≠ 40 ∧ c ≠ 41 := by
 refine ⟨?_, ?_⟩
 ·cases e : isSg c with
  | false => rfl
  | true =>
   obtain ⟨h1, h2, _⟩ := sg_not e
   simp [alnum, h1, h2] at h
 ·simp only [alnum, isDg, isLt, Bool.or_eq_true, Bool.and_eq_true, decide_eq_true_eq] at h
  simp only [isBl, decide_eq_false_iff_not]
  omega
def Signs (w : ByteArray) : Prop := ∀ i, i < w.size → isSg (byteAt w i) = true
def Alnum (w : ByteArray) : Prop := ∀ i, i < w.size → alnum (byteAt w i) = true
theorem num_al {w : ByteArray} (h : numZ w = true) : Alnum w ∧ 0 < w.size := by
 simp only [numZ, Bool.and_eq_true, List.all_eq_true, List.mem_range, decide_eq_true_eq] at h
 exact ⟨fun i hi => by simp [alnum, h.1 i hi], h.2⟩
theorem nam_al {w : ByteArray} (h : namZ w = true) : Alnum w ∧ 0 < w.size := by
 simp only [namZ, Bool.and_eq_true, List.all_eq_true, List.mem_range, decide_eq_true_eq, namAt, Bool.or_eq_true] at h
 refine ⟨fun i hi => ?_, h.2⟩
 rcases h.1 i hi with e | ⟨_, e⟩ <;> simp [alnum, e]
theorem sg_signs {w : ByteArray} (h : sgOk w = true) : Signs w ∧ 0 < w.size ∧ w.size ≤ 16 := by
 simp only [sgOk, sgAll, Bool.and_eq_true, List.all_eq_true, List.mem_range, decide_eq_true_eq] at h
 exact ⟨h.1.1, h.1.2, h.2⟩
theorem opOk_signs {o : POp} (h : opOk o = true) : sgOk o.text = true := by
 simp only [opOk, Bool.and_eq_true] at h
 exact h.1
theorem isOp_signs {l : List POp} (hok : ∀ j, j < l.length → opOk (opAt l j) = true) {w : ByteArray} (h : isOpZ l w = true) : sgOk w = true := by
 simp only [isOpZ, Bool.or_eq_true, opHas_iff] at h
 rcases h with (⟨j, hj, e, _⟩ | ⟨j, hj, e, _⟩) | ⟨j, hj, e, _⟩ <;> (rw [← e]; exact opOk_signs (hok j hj))
inductive WordOk (l : List POp) (w : ByteArray) : Prop where
 | op (h : Signs w) (h0 : 0 < w.size) (h1 : w.size ≤ 16) (k : kindZ l w = 3)
 | al (h : Alnum w) (h0 : 0 < w.size) (k : kindZ l w = 1 ∨ kindZ l w = 2)
 | opn (h : w = ⟨#[40]⟩) (k : kindZ l w = 4)
 | cls (h : w = ⟨#[41]⟩) (k : kindZ l w = 5)
theorem word_ok {l : List POp} (hok : ∀ j, j < l.length → opOk (opAt l j) = true) {w : ByteArray} (h : kindZ l w ≠ 6) : WordOk l w := by
 by_cases h1 : numZ w = true
 ·exact .al (num_al h1).1 (num_al h1).2 (by simp [kindZ, h1])
 ·by_cases h2 : namZ w = true
  ·exact .al (nam_al h2).1 (nam_al h2).2 (by simp [kindZ, h1, h2])
  ·by_cases h3 : w = ⟨#[40]⟩
   ·refine .opn h3 ?_
    simp only [kindZ, h1, h2]
    simp [h3]
   ·by_cases h4 : w = ⟨#[41]⟩
    ·refine .cls h4 ?_
     simp only [kindZ, h1, h2, h3]
     simp [h4]
    ·by_cases h5 : isOpZ l w = true
     ·obtain ⟨g1, g2, g3⟩ := sg_signs (isOp_signs hok h5)
      exact .op g1 g2 g3 (by simp [kindZ, h1, h2, h3, h4, h5])
     ·exact absurd (by simp [kindZ, h1, h2, h3, h4, h5]) h
theorem kind_mixed {l : List POp} (hok : ∀ j, j < l.length → opOk (opAt l j) = true) {w : ByteArray} (h0 : 0 < w.size) (hs : isSg (byteAt w 0) = true) {j : Nat} (hj : j < w.size) (hn : isSg (byteAt w j) = false) : kindZ l w = 6 := by
 refine Decidable.byContradiction fun hk => ?_
 obtain ⟨s1, s2, s3, s4, s5⟩ := sg_not hs
 cases word_ok hok hk with
 | op h => rw [h j hj] at hn; cases hn
 | al h => have := h 0 h0; simp [alnum, s1, s2] at this
 | opn h => subst h; exact s4 rfl
 | cls h => subst h; exact s5 rfl
theorem longF_stop {l : List POp} {z : ByteArray} {i : Nat} {m : Nat} (hm : 1 ≤ m) (hk : m = 1 ∨ kindZ l (z.extract i (i + m)) ≠ 6) : ∀ n, m ≤ n → (∀ k, m < k → k ≤ n → kindZ l (z.extract i (i + k)) = 6) → longF l z i n = m
 | 0, h, _ => by omega
 | n + 1, h, h6 => by
  unfold longF
  by_cases e : m = n + 1
  ·by_cases e0 : n = 0
   ·rw [if_pos e0]; omega
   ·rw [if_neg e0]
    rcases hk with hk | hk
    ·omega
    ·rw [← e, if_pos hk]
  ·rw [if_neg (by omega), if_neg (by rw [h6 (n + 1) (by omega) (by omega)]; simp)]
   exact longF_stop hm hk n (by omega) fun k h1 h2 => h6 k h1 (by omega)
theorem run_eq {p : Int → Bool} {z : ByteArray} : ∀ (n f : Nat), f + n ≤ z.size → (∀ j, j < n → p (byteAt z (f + j)) = true) → (f + n = z.size ∨ p (byteAt z (f + n)) = false) → run p z f = n
 | 0, f, h, _, hs => by
  rcases hs with hs | hs
  ·exact run_end (by omega)
  ·by_cases e : f < z.size
   ·exact run_no e (by simpa using hs)
   ·exact run_end (by omega)
 | n + 1, f, h, ha, hs => by
  have h0 := ha 0 (by omega)
  rw [run_yes (by omega) (by simpa using h0), run_eq n (f + 1) (by omega) (fun j hj => by have := ha (j + 1) (by omega); rwa [show f + (j + 1) = f + 1 + j by omega] at this) (by rwa [show f + 1 + n = f + (n + 1) by omega])]
  omega
def Apart (w : ByteArray) (c : Int) : Prop := (isSg (byteAt w 0) = true → isSg c = false) ∧ (alnum (byteAt w 0) = true → alnum c = false)
theorem longest_eq {l : List POp} (hok : ∀ j, j < l.length → opOk (opAt l j) = true) {z : ByteArray} {p q : Nat} (hpq : p < q) (hq : q ≤ z.size) (hw : WordOk l (z.extract p q)) (hs : q = z.size ∨ Apart (z.extract p q) (byteAt z q)) : longest l z p = q - p := by
 have hsz : (z.extract p q).size = q - p := by rw [ByteArray.size_extract]; omega
 have hb0 : byteAt (z.extract p q) 0 = byteAt z p := by rw [byteAt_ext (by omega) hq]; rfl
 have hext : p + (q - p) = q := by omega
 unfold longest
 have hr := reachZ_le z p (by omega)
 cases hw with
 | op h h0 h1 k =>
  have hf : isSg (byteAt z p) = true := by rw [← hb0]; exact h 0 h0
  rw [hsz] at h1
  refine longF_stop (by omega) (.inr (by rw [hext, k]; decide)) _ (by unfold reachZ; rw [if_pos hf]; split <;> omega) fun n hn1 hn2 => ?_
  rcases hs with hs | hs
  ·omega
  ·have hx : (z.extract p (p + n)).size = n := by rw [ByteArray.size_extract]; omega
   refine kind_mixed hok (by omega) (by rw [byteAt_ext (by omega) (by omega)]; exact hf) (j := q - p) (by omega) ?_
   rw [byteAt_ext (by omega) (by omega), hext]
   exact hs.1 (by rw [hb0]; exact hf)
 | al h h0 k =>
  have hf : alnum (byteAt z p) = true := by rw [← hb0]; exact h 0 h0
  have hrn : 1 + run alnum z (p + 1) = q - p := by
   rw [run_eq (p := alnum) (q - p - 1) (p + 1) (by omega) (fun j hj => by
    have := h (j + 1) (by omega)
    rw [byteAt_ext (by omega) hq] at this
    rwa [show p + 1 + j = p + (j + 1) by omega]) ?_]
   ·omega
   ·rw [show p + 1 + (q - p - 1) = q by omega]
    rcases hs with hs | hs
    ·exact .inl hs
    ·exact .inr (hs.2 (by rw [hb0]; exact hf))
  have hre : reachZ z p = q - p := by
   unfold reachZ
   rw [if_neg (by rw [(al_not hf).1]; simp), if_pos hf, hrn]
  rw [hre]
  refine longF_stop (by omega) (.inr ?_) _ (Nat.le_refl _) fun n hn1 hn2 => by omega
  rw [hext]; omega
 | opn h k =>
  have e1 : q - p = 1 := by rw [← hsz, h]; rfl
  have hf : byteAt z p = 40 := by rw [← hb0, h]; rfl
  have hre : reachZ z p = 1 := by
   unfold reachZ
   rw [hf, if_neg (by decide), if_neg (by decide)]
  rw [hre, e1]
  exact longF_stop (by omega) (.inl rfl) 1 (by omega) fun n hn1 hn2 => by omega
 | cls h k =>
  have e1 : q - p = 1 := by rw [← hsz, h]; rfl
  have hf : byteAt z p = 41 := by rw [← hb0, h]; rfl
  have hre : reachZ z p = 1 := by
   unfold reachZ
   rw [hf, if_neg (by decide), if_neg (by decide)]
  rw [hre, e1]
  exact longF_stop (by omega) (.inl rfl) 1 (by omega) fun n hn1 hn2 => by omega
theorem word_begin {l : List POp} {w : ByteArray} (h : WordOk l w) : 0 < w.size ∧ isBl (byteAt w 0) = false := by
 cases h with
 | op h h0 h1 k => exact ⟨h0, (sg_not (h 0 h0)).2.2.1⟩
 | al h h0 k => exact ⟨h0, (al_not (h 0 h0)).2.1⟩
 | opn h k => subst h; exact ⟨by decide, by decide⟩
 | cls h k => subst h; exact ⟨by decide, by decide⟩
theorem lex_word {l : List POp} (hok : ∀ j, j < l.length → opOk (opAt l j) = true) {z : ByteArray} {f p q : Nat} (hfp : f ≤ p) (hpq : p < q) (hq : q ≤ z.size) (hg : ∀ j, f ≤ j → j < p → isBl (byteAt z j) = true) (hw : WordOk l (z.extract p q)) (hs : q = z.size ∨ Apart (z.extract p q) (byteAt z q)) :
  lexFrom l z f = ⟨kindZ l (z.extract p q), z.extract f p, z.extract p q⟩ :: lexFrom l z q := by
 have hr : run isBl z f = p - f := by
  refine run_eq (p - f) f (by omega) (fun j hj => hg _ (by omega) (by omega)) (.inr ?_)
  have := (word_begin hw).2
  rw [byteAt_ext (by omega) hq] at this
  rw [show f + (p - f) = p by omega]; exact this
 have hl := longest_eq hok hpq hq hw hs
 rw [lexFrom_go (i := p) (by omega) (by omega), hl, show p + (q - p) = q by omega]
theorem lex_end {l : List POp} {z : ByteArray} {f : Nat} (hf : f ≤ z.size) (hg : ∀ j, f ≤ j → j < z.size → isBl (byteAt z j) = true) : lexFrom l z f = [⟨7, z.extract f z.size, ⟨#[]⟩⟩] := by
 have hr : run isBl z f = z.size - f := run_eq (z.size - f) f (by omega) (fun j hj => hg _ (by omega) (by omega)) (.inl (by omega))
 rw [lexFrom_end (i := z.size) (by omega) (by omega)]
def Blanks (g : ByteArray) : Prop := ∀ i, i < g.size → isBl (byteAt g i) = true
def joinW : List (ByteArray × ByteArray) → ByteArray → ByteArray
 | [], g => g
 | x :: r, g => x.1 ++ x.2 ++ joinW r g
def JoinOk (l : List POp) : List (ByteArray × ByteArray) → ByteArray → Prop
 | [], g => Blanks g
 | x :: r, g => Blanks x.1 ∧ WordOk l x.2 ∧ (match r with | [] => True | y :: _ => 0 < y.1.size ∨ Apart x.2 (byteAt y.2 0)) ∧ JoinOk l r g
theorem join_begin {l : List POp} : ∀ (r : List (ByteArray × ByteArray)) (g : ByteArray), JoinOk l r g → (joinW r g).size = 0 ∨ (0 < (joinW r g).size ∧ ((isBl (byteAt (joinW r g) 0) = true) ∨ ∃ y s, r = y :: s ∧ y.1.size = 0 ∧ byteAt (joinW r g) 0 = byteAt y.2 0))
 | [], g, h => by
  by_cases e : g.size = 0
  ·exact .inl e
  ·exact .inr ⟨by simp only [joinW]; omega, .inl (h 0 (by omega))⟩
 | y :: s, g, h => by
  have hw := word_begin h.2.1
  refine .inr ⟨by simp only [joinW, ByteArray.size_append]; omega, ?_⟩
  by_cases e : y.1.size = 0
  ·refine .inr ⟨y, s, rfl, e, ?_⟩
   simp only [joinW]
   rw [byteAt_app1 (by rw [ByteArray.size_append]; omega)]
   have := byteAt_app2 (a := y.1) (b := y.2) (i := 0) hw.1
   rwa [e] at this
  ·refine .inl ?_
   simp only [joinW]
   rw [byteAt_app1 (by rw [ByteArray.size_append]; omega), byteAt_app1 (by omega)]
   exact h.1 0 (by omega)
theorem apart_blank {w : ByteArray} {c : Int} (h : isBl c = true) : Apart w c := by
 refine ⟨fun _ => ?_, fun _ => ?_⟩
 ·cases e : isSg c with
  | false => rfl
  | true => rw [(sg_not e).2.2.1] at h; cases h
 ·cases e : alnum c with
  | false => rfl
  | true => rw [(al_not e).2.1] at h; cases h
theorem lex_join {l : List POp} (hok : ∀ j, j < l.length → opOk (opAt l j) = true) : ∀ (r : List (ByteArray × ByteArray)) (g pre : ByteArray), JoinOk l r g → lexFrom l (pre ++ joinW r g) pre.size = r.map (fun x => ⟨kindZ l x.2, x.1, x.2⟩) ++ [⟨7, g, ⟨#[]⟩⟩]
 | [], g, pre, h => by
  simp only [joinW, List.map_nil, List.nil_append]
  rw [lex_end (by rw [ByteArray.size_append]; omega) fun j h1 h2 => ?_]
  ·have := ext_mid pre g ByteArray.empty
   rw [ByteArray.append_empty] at this
   rw [ByteArray.size_append, this]
  ·rw [ByteArray.size_append] at h2
   rw [show j = pre.size + (j - pre.size) by omega, byteAt_app2 (by omega)]
   exact h _ (by omega)
 | x :: r, g, pre, h => by
  obtain ⟨hb, hw, hn, hr⟩ := h
  obtain ⟨z, hz⟩ : ∃ z, z = pre ++ joinW (x :: r) g := ⟨_, rfl⟩
  have hzs : z.size = pre.size + x.1.size + x.2.size + (joinW r g).size := by rw [hz]; simp only [joinW, ByteArray.size_append]; omega
  have e1 : z = pre ++ x.1 ++ (x.2 ++ joinW r g) := by rw [hz]; simp [joinW, ByteArray.append_assoc]
  have e2 : z = (pre ++ x.1) ++ x.2 ++ joinW r g := by rw [hz]; simp [joinW, ByteArray.append_assoc]
  have x1 : z.extract pre.size (pre.size + x.1.size) = x.1 := by rw [e1]; exact ext_mid _ _ _
  have x2 : z.extract (pre.size + x.1.size) (pre.size + x.1.size + x.2.size) = x.2 := by
   have := ext_mid (pre ++ x.1) x.2 (joinW r g)
   rw [ByteArray.size_append] at this
   rw [e2]; exact this
  have hpos := (word_begin hw).1
  rw [← hz]
  have hword := lex_word hok (z := z) (f := pre.size) (p := pre.size + x.1.size) (q := pre.size + x.1.size + x.2.size) (by omega) (by omega) (by omega) (fun j h1 h2 => by
   rw [e1, byteAt_app1 (by rw [ByteArray.size_append]; omega), show j = pre.size + (j - pre.size) by omega, byteAt_app2 (by omega)]
   exact hb _ (by omega)) (by rw [x2]; exact hw) (by
   rw [x2]
   rcases join_begin r g hr with e | ⟨e, e3⟩
   ·exact .inl (by omega)
   ·refine .inr ?_
    have hc : byteAt z (pre.size + x.1.size + x.2.size) = byteAt (joinW r g) 0 := by
     have := byteAt_app2 (a := (pre ++ x.1) ++ x.2) (b := joinW r g) (i := 0) e
     rw [← e2] at this
     simp only [ByteArray.size_append, Nat.add_zero] at this
     exact this
    rw [hc]
    rcases e3 with e3 | ⟨y, s, rfl, e4, e5⟩
    ·exact apart_blank e3
    ·rcases hn with hn | hn
     ·omega
     ·rw [e5]; exact hn)
  rw [hword, x1, x2]
  have ih := lex_join hok r g ((pre ++ x.1) ++ x.2) hr
  rw [← e2] at ih
  simp only [ByteArray.size_append] at ih
  rw [ih]
  rfl
open Go.Maps (Keyed)
def opIs (z : ByteArray) (k : Int) (o : POp) : Bool := decide (o.text = z) && decide (o.kind = k)
def opOf (l : List POp) (z : ByteArray) (k : Int) : POp := (l.find? (opIs z k)).getD noOp
theorem find_at {l : List POp} {z : ByteArray} {k : Int} : ∀ {i : Nat}, i < l.length → opIs z k (opAt l i) = true → (∀ j, j < i → opIs z k (opAt l j) = false) → l.find? (opIs z k) = some (opAt l i) := by
 induction l with
 | nil => intro i h; simp at h
 | cons a r ih =>
  intro i h h1 h2
  cases i with
  | zero =>
   have e : opAt (a :: r) 0 = a := rfl
   rw [e] at h1 ⊢
   simp [List.find?_cons, h1]
  | succ i =>
   have e0 := h2 0 (by omega)
   have e : opAt (a :: r) 0 = a := rfl
   have es : ∀ j, opAt (a :: r) (j + 1) = opAt r j := fun j => rfl
   rw [e] at e0
   rw [List.find?_cons, e0]
   simp only [es] at h1 ⊢
   exact ih (by simpa using h) h1 fun j hj => by
    have := h2 (j + 1) (by omega)
    rw [es] at this; exact this
theorem opOf_at {l : List POp} {z : ByteArray} {k : Int} {i : Nat} (h : i < l.length) (h1 : opIs z k (opAt l i) = true) (h2 : ∀ j, j < i → opIs z k (opAt l j) = false) : opOf l z k = opAt l i := by
 unfold opOf; rw [find_at h h1 h2]; rfl
theorem opHas_has {l : List POp} {z : ByteArray} {k : Int} (h : opHas l z k = true) : ∃ i, i < l.length ∧ opOf l z k = opAt l i ∧ (opAt l i).text = z ∧ (opAt l i).kind = k := by
 obtain ⟨j, hj, e1, e2⟩ := (opHas_iff l z k).1 h
 have key : ∀ n, (∃ j, j < n ∧ j < l.length ∧ opIs z k (opAt l j) = true) → ∃ i, i < l.length ∧ opIs z k (opAt l i) = true ∧ ∀ j, j < i → opIs z k (opAt l j) = false := by
  intro n
  induction n with
  | zero => rintro ⟨j, hj, _⟩; omega
  | succ n ih =>
   rintro ⟨j, hj, hl, h⟩
   by_cases hx : ∃ j, j < n ∧ j < l.length ∧ opIs z k (opAt l j) = true
   ·exact ih hx
   ·refine ⟨j, hl, h, fun q hq => ?_⟩
    cases e : opIs z k (opAt l q) with
    | false => rfl
    | true => exact absurd ⟨q, by omega, by omega, e⟩ hx
 obtain ⟨i, hi, g1, g2⟩ := key (j + 1) ⟨j, by omega, hj, by simp [opIs, e1, e2]⟩
 simp only [opIs, Bool.and_eq_true, decide_eq_true_eq] at g1
 exact ⟨i, hi, opOf_at hi (by simp [opIs, g1]) g2, g1.1, g1.2⟩
theorem c_l2FindS (l : List POp) (hl : l.length ≤ 9223372036854775807) (z : ByteArray) (kd : Int) : VFun Tryz.prog 82 [.agg [.sl 4 l.length (opCells l)], .lit (.string z), .lit (.int .i64 kd)] (fun av obs => obs = [] ∧ ((av = .lit (.int .i64 (-1)) ∧ opHas l z kd = false) ∨ ∃ i : Nat, av = .lit (.int .i64 i) ∧ i < l.length ∧ opHas l z kd = true ∧ opOf l z kd = opAt l i)) := by
 have cl : ∀ (i : Nat) (c : AV), i < l.length → c ∈ opCells l i → Closed c := fun i c _ h => opClosed l i c h
 refine vfun_start Tryz.func82 (by kernel_rfl) rfl (by simp [Tryz.ntmps82]) ?_; simp only [Tryz.ntmps82, Tryz.results82]; simp [go_sem]
 refine vc_loop (fun i : Nat => i ≤ l.length ∧ ∀ j, j < i → ¬ ((opAt l j).text = z ∧ (opAt l j).kind = kd)) (fun i => l.length - i) (fun i => .of [(1, .lit (.string z)), (2, .lit (.int .i64 kd)), (3, .ptr 0 1 0 0), (7, .lit (.int .i64 i))] [some ⟨30, 1, 1, fun _ => [.sl 4 l.length (opCells l)]⟩]) ⟨0, ⟨by omega, by simp⟩, ?_⟩ (fun i hi => ?_)
 ·simp [go_sem]
  exact cl
 ·simp [go_sem, opCells_at, ba_toList]
  have step : ¬ ((opAt l i).text = z ∧ (opAt l i).kind = kd) → ∀ j, j < i + 1 → ¬ ((opAt l j).text = z ∧ (opAt l j).kind = kd) := fun e j hj => by
   rcases Nat.lt_succ_iff_lt_or_eq.mp hj with hj | rfl
   ·exact hi.2 j hj
   ·exact e
  refine ⟨by omega, fun h => ?_, fun h => ?_⟩
  ·have cl2 : ∀ (i : Nat) (c : AV), i < l.length → c = AV.lit (Value.string (opAt l i).text) ∨ c = AV.lit (Value.int IntKind.i64 (opAt l i).kind) ∨ c = AV.lit (Value.int IntKind.i64 (opAt l i).level) ∨ c = AV.lit (Value.int IntKind.i64 (opAt l i).side) → Closed c := by
    rintro i c _ (rfl | rfl | rfl | rfl) <;> exact .lit _
   refine ⟨h, fun e1 => ⟨h, fun e2 => ?_, fun e2 => ⟨i + 1, ⟨by omega, fun j hj e3 e4 => step (fun e5 => e2 e5.2) j hj ⟨e3, e4⟩⟩, by omega, wrap_succ (by omega), cl2⟩⟩, fun e1 => ⟨i + 1, ⟨by omega, fun j hj e3 e4 => step (fun e5 => e1 e5.1) j hj ⟨e3, e4⟩⟩, by omega, wrap_succ (by omega), cl2⟩⟩
   refine ⟨i, rfl, h, (opHas_iff l z kd).2 ⟨i, h, e1, e2⟩, opOf_at h (by simp [opIs, e1, e2]) fun j hj => ?_⟩
   have := hi.2 j hj
   simpa [opIs] using this
  ·simp only [opHas, List.any_eq_false, List.mem_range]
   exact fun j hj => by
    have := hi.2 j (by omega)
    simp only [Bool.and_eq_true, decide_eq_true_eq]
    exact this
def isOpN (o : PNode) : Bool := decide (3 ≤ o.kind ∧ o.kind ≤ 5)
def ndOp (l : List POp) (n : PNode) : POp := opOf l n.text (n.kind - 2)
def lvlN (l : List POp) (n : PNode) : Int := if isOpN n then (ndOp l n).level else 1001
def fitsN (l : List POp) (t : List PNode) (i : Nat) : Bool := !isOpN (nodAt t i) || (decide (hole (ndOp l (nodAt t i)) false ≤ lvlN l (nodAt t (nodAt t i).a.toNat)) && (decide (kidsN (nodAt t i).kind = 1) || decide (hole (ndOp l (nodAt t i)) true ≤ lvlN l (nodAt t (nodAt t i).b.toNat))))
def opdAll (l : List POp) (t : List PNode) : Bool := (List.range t.length).all fun i => !isOpN (nodAt t i) || opHas l (nodAt t i).text ((nodAt t i).kind - 2)
def wellF (l : List POp) (t : List PNode) : Bool := decide (tblOk l = 0) && inOrd t && opdAll l t
def treeOk (l : List POp) (t : List PNode) : Int := if tblOk l ≠ 0 then 1 else if wellF l t = false then 2 else if (List.range t.length).all (fun i => fitsN l t i) then 0 else 3
theorem inOrd_kid {t : List PNode} (h : inOrd t = true) {i : Nat} (hi : i < t.length) : txtOk (nodAt t i) = true ∧ (1 ≤ (nodAt t i).kind ∧ (nodAt t i).kind ≤ 6) ∧ (kidsN (nodAt t i).kind ≠ 0 → 0 ≤ (nodAt t i).a ∧ (nodAt t i).a < i) ∧ (kidsN (nodAt t i).kind = 2 → 0 ≤ (nodAt t i).b ∧ (nodAt t i).b < i) := by
 simp only [inOrd, Bool.and_eq_true, decide_eq_true_eq] at h
 obtain ⟨⟨h1, h2⟩, h3⟩ := h
 have hx := List.all_eq_true.1 h3 i (List.mem_range.2 hi)
 have e1 : (t.length : Int) - 1 = ((t.length - 1 : Nat) : Int) := by omega
 rw [e1] at h2
 have h0 := fromZ_all t (t.length - 1) i (by omega) (by omega) (by omega)
 rw [fromZ_eq] at h0
 have hk : 1 ≤ (nodAt t i).kind ∧ (nodAt t i).kind ≤ 6 := Decidable.byContradiction fun hn => by rw [txtOk_range hn] at hx; cases hx
 refine ⟨hx, hk, fun hk0 => ?_, fun hk2 => ?_⟩
 ·rw [if_neg hk0] at h0
  split at h0
  ·split at h0
   ·omega
   ·rename_i hn
    by_cases hz : i = 0
    ·subst hz; rw [fromZ_neg t (by omega)] at h0; omega
    ·omega
  ·split at h0
   ·omega
   ·split at h0
    ·omega
    ·rename_i hb hn
     have := fromZ_le t (i := (i : Int) - 1)
     by_cases hz : i = 0
     ·subst hz; rw [fromZ_neg t (by omega)] at hn; omega
     ·have := this (by omega)
      omega
 ·rw [if_neg (by omega), if_neg (by omega)] at h0
  split at h0
  ·omega
  ·split at h0
   ·omega
   ·rename_i hb hn
    by_cases hz : i = 0
    ·subst hz; rw [fromZ_neg t (by omega)] at hn; omega
    ·omega
theorem opAt_wf {l : List POp} (hw : opsWf l) {z : ByteArray} {k : Int} (h : opHas l z k = true) : (opOf l z k).wf := by
 obtain ⟨i, hi, e, _⟩ := opHas_has h
 rw [e]; exact hw i hi
theorem c_l3IsOp (o : PNode) : VFun Tryz.prog 81 [.agg o.cells] (fun av obs => obs = [] ∧ av = .lit (.bool (isOpN o))) := by
 obtain ⟨z, k, x, y⟩ := o
 simp only [PNode.cells]
 refine vfun_start Tryz.func81 (by kernel_rfl) rfl (by simp [Tryz.ntmps81]) ?_; simp only [Tryz.ntmps81, Tryz.results81]; simp [go_sem]
 simp [isOpN]
 omega
theorem c_l3OpOf (l : List POp) (hl : l.length ≤ 9223372036854775807) (n : PNode) (hk : isOpN n = true) (h : opHas l n.text (n.kind - 2) = true) : VFun Tryz.prog 83 [.agg [.sl 4 l.length (opCells l)], .agg n.cells] (fun av obs => obs = [] ∧ av = .agg (ndOp l n).cells) := by
 have cl : ∀ (i : Nat) (c : AV), i < l.length → c ∈ opCells l i → Closed c := fun i c _ h => opClosed l i c h
 obtain ⟨z, k, x, y⟩ := n
 simp only [isOpN, decide_eq_true_eq] at hk
 simp only [PNode.cells] at h ⊢
 have e1 : IntKind.i64.wrap (k - 2) = k - 2 := wrap_i64 (by omega)
 refine vfun_start Tryz.func83 (by kernel_rfl) rfl (by simp [Tryz.ntmps83]) ?_; simp only [Tryz.ntmps83, Tryz.results83]; simp [go_sem]
 refine vc_drawn [11] (.q 0 <| .q 1 <| .q 2 <| .q 3 <| .q 4 <| .q 5 <| .q 6 <| .q 7 <| .or 8 (.q 9 <| .q 10 <| .or 11 (.done) (.nil)) (.nil)) (by kernel_rfl) ?_
 simp [go_sem, e1]
 refine vcallV_use (c_l2FindS l hl z (k - 2)) ?_ ?_
 ·simp [go_sem]
  exact argSl_refl (by omega) cl
 ·rintro av obs ⟨rfl, ⟨rfl, hn⟩ | ⟨i, rfl, hi, _, he⟩⟩
  ·rw [h] at hn; cases hn
  ·simp [go_sem, opCells_at]
   refine ⟨hi, ?_⟩
   simp [ndOp, he, POp.cells]
theorem c_l3Level (l : List POp) (hl : l.length ≤ 9223372036854775807) (n : PNode) (h : isOpN n = true → opHas l n.text (n.kind - 2) = true) : VFun Tryz.prog 84 [.agg [.sl 4 l.length (opCells l)], .agg n.cells] (fun av obs => obs = [] ∧ av = .lit (.int .i64 (lvlN l n))) := by
 have cl : ∀ (i : Nat) (c : AV), i < l.length → c ∈ opCells l i → Closed c := fun i c _ h => opClosed l i c h
 have c1 := c_l3IsOp n
 have c2 := c_l3OpOf l hl n
 simp only [PNode.cells, POp.cells] at c1 c2 ⊢
 refine vfun_start Tryz.func84 (by kernel_rfl) rfl (by simp [Tryz.ntmps84]) ?_; simp only [Tryz.ntmps84, Tryz.results84]; simp [go_sem]
 refine vcall_pure c1 ?_ ?_
 ·simp [go_sem]
 ·cases hk : isOpN n with
  | true =>
   simp [go_sem]
   refine vcall_val (c2 hk (h hk)) ?_ ?_ ?_
   ·simp [go_sem]
    exact argSl_refl (by omega) cl
   ·simp [go_sem]
   ·simp [go_sem, lvlN, hk]
  | false => simp [go_sem, lvlN, hk]
theorem c_l3Fits (l : List POp) (hl : l.length ≤ 9223372036854775807) (hw : opsWf l) (t : List PNode) (ht : t.length ≤ 9223372036854775807) (i : Nat) (hi : i < t.length) (ha : isOpN (nodAt t i) = true → opHas l (nodAt t i).text ((nodAt t i).kind - 2) = true ∧ (0 ≤ (nodAt t i).a ∧ (nodAt t i).a < t.length) ∧ (isOpN (nodAt t (nodAt t i).a.toNat) = true → opHas l (nodAt t (nodAt t i).a.toNat).text ((nodAt t (nodAt t i).a.toNat).kind - 2) = true) ∧
  (kidsN (nodAt t i).kind ≠ 1 → (0 ≤ (nodAt t i).b ∧ (nodAt t i).b < t.length) ∧ (isOpN (nodAt t (nodAt t i).b.toNat) = true → opHas l (nodAt t (nodAt t i).b.toNat).text ((nodAt t (nodAt t i).b.toNat).kind - 2) = true))) :
  VFun Tryz.prog 41 [.agg [.sl 4 l.length (opCells l)], .sl 4 t.length (nodCells t), .lit (.int .i64 i)] (fun av obs => obs = [] ∧ av = .lit (.bool (fitsN l t i))) := by
 have cl : ∀ (i : Nat) (c : AV), i < l.length → c ∈ opCells l i → Closed c := fun i c _ h => opClosed l i c h
 have c1 := c_l3IsOp (nodAt t i)
 have c2 := c_l3OpOf l hl (nodAt t i)
 simp only [PNode.cells, POp.cells] at c1 c2
 refine vfun_start Tryz.func41 (by kernel_rfl) rfl (by simp [Tryz.ntmps41]) ?_; simp only [Tryz.ntmps41, Tryz.results41]; simp [go_sem]
 simp [go_sem, nodCells_at]
 refine ⟨hi, vcall_pure c1 ?_ ?_⟩
 ·simp [go_sem]
 ·cases hk : isOpN (nodAt t i) with
  | false => simp [go_sem, fitsN, hk]
  | true =>
   obtain ⟨h1, h2, h3, h4⟩ := ha hk
   have howf : (ndOp l (nodAt t i)).wf := opAt_wf hw h1
   simp [go_sem]
   refine vcall_val (c2 hk h1) ?_ ?_ ?_
   ·simp [go_sem]
    exact argSl_refl (by omega) cl
   ·simp [go_sem]
   ·simp [go_sem]
    refine vc_drawn [] (.q 0 <| .q 1 <| .q 2 <| .q 3 <| .q 4 <| .q 5 <| .q 7 <| .or 6 (.or 8 (.q 9 <| .done) (.nil)) (.nil)) (by kernel_rfl) ?_
    simp [go_sem, nodCells_at]
    have c3 := c_l3Level l hl (nodAt t (nodAt t i).a.toNat) h3
    have c4 := c_l1Hole (ndOp l (nodAt t i)) howf
    simp only [PNode.cells, POp.cells] at c3 c4
    refine ⟨h2.1, h2.2, vcallV_pure c3 ?_ ?_⟩
    ·simp [go_sem]
     exact argSl_refl (by omega) cl
    ·simp [go_sem]
     refine vcallV_pure (c4 false) ?_ ?_
     ·simp [go_sem]
     ·simp [go_sem]
      refine ⟨fun h5 => by simp [fitsN, hk]; omega, fun h5 => vc_drawn [] (.q 0 <| .q 1 <| .or 2 (.q 3 <| .q 4 <| .q 5 <| .q 6 <| .q 7 <| .q 8 <| .q 9 <| .q 10 <| .q 12 <| .or 11 (.or 13 (.q 14 <| .q 15 <| .q 16 <| .done) (.nil)) (.nil)) (.nil)) (by kernel_rfl) ?_⟩
      simp [go_sem]
      refine vcallV_pure (c_l3Kids (nodAt t i).kind) ?_ ?_
      ·simp [go_sem]
      ·by_cases hk1 : kidsN (nodAt t i).kind = 1
       ·simp [go_sem, hk1, fitsN, hk, h5]
       ·obtain ⟨h6, h7⟩ := h4 hk1
        have c5 := c_l3Level l hl (nodAt t (nodAt t i).b.toNat) h7
        simp only [PNode.cells] at c5
        simp [go_sem, hk1, nodCells_at]
        refine ⟨h6.1, h6.2, vcallV_pure c5 ?_ ?_⟩
        ·simp [go_sem]
         exact argSl_refl (by omega) cl
        ·simp [go_sem]
         refine vcallV_pure (c4 true) ?_ ?_
         ·simp [go_sem]
         ·simp [go_sem, fitsN, hk, h5, hk1]
theorem c_l3WellFormed (l : List POp) (hl : l.length ≤ 9223372036854775807) (hw : opsWf l) (t : List PNode) (ht : t.length ≤ 9223372036854775807) (hwt : ∀ i, i < t.length → (nodAt t i).wf) : VFun Tryz.prog 40 [.agg [.sl 4 l.length (opCells l)], .agg [.sl 4 t.length (nodCells t)]] (fun av obs => obs = [] ∧ av = .lit (.bool (wellF l t))) := by
 have cl : ∀ (i : Nat) (c : AV), i < l.length → c ∈ opCells l i → Closed c := fun i c _ h => opClosed l i c h
 have clt : ∀ (i : Nat) (c : AV), i < t.length → c ∈ nodCells t i → Closed c := fun i c _ h => nodClosed t i c h
 refine vfun_start Tryz.func40 (by kernel_rfl) rfl (by simp [Tryz.ntmps40]) ?_; simp only [Tryz.ntmps40, Tryz.results40]; simp [go_sem]
 refine vcall_pure (c_specTableOk l hl hw) ?_ ?_
 ·simp [go_sem]
  exact argSl_refl (by omega) cl
 ·simp [go_sem]
  refine ⟨fun h0 => ?_, fun h0 => by simp [wellF, h0]⟩
  refine vcall_pure (c_l3InOrder t ht hwt) ?_ ?_
  ·simp [go_sem]
   exact argSl_refl (by omega) clt
  ·simp [go_sem]
   refine ⟨fun h1 => by simp [wellF, h1], fun h1 => ?_⟩
   refine vc_loop (fun i : Nat => i ≤ t.length ∧ ∀ j, j < i → isOpN (nodAt t j) = true → opHas l (nodAt t j).text ((nodAt t j).kind - 2) = true) (fun i => t.length - i)
    (fun i => .of [(2, .ptr 0 1 0 0), (3, .ptr 1 1 0 0), (5, .lit (.int .i64 i))] [some ⟨30, 1, 1, fun _ => [.sl 4 l.length (opCells l)]⟩, some ⟨37, 1, 1, fun _ => [.sl 4 t.length (nodCells t)]⟩]) ⟨0, ⟨by omega, by simp⟩, ?_⟩ (fun i hi => ?_)
   ·simp [go_sem]
    exact ⟨cl, clt⟩
   ·simp [go_sem, nodCells_at]
    have c1 := c_l3IsOp (nodAt t i)
    simp only [PNode.cells] at c1
    have next : i < t.length → (isOpN (nodAt t i) = true → opHas l (nodAt t i).text ((nodAt t i).kind - 2) = true) → i + 1 ≤ t.length ∧ ∀ j, j < i + 1 → isOpN (nodAt t j) = true → opHas l (nodAt t j).text ((nodAt t j).kind - 2) = true := fun h e => ⟨by omega, fun j hj => by
     rcases Nat.lt_succ_iff_lt_or_eq.mp hj with hj | rfl
     ·exact hi.2 j hj
     ·exact e⟩
    refine ⟨by omega, fun h => ⟨h, vcall_pure c1 ?_ ?_⟩, fun h => ?_⟩
    ·simp [go_sem]
    ·cases hk : isOpN (nodAt t i) with
     | false =>
      simp [go_sem]
      exact ⟨i + 1, next h (fun e => by rw [hk] at e; cases e), by omega, wrap_succ (by omega), cl, clt⟩
     | true =>
      have hk' := hk
      simp only [isOpN, decide_eq_true_eq] at hk'
      have e1 : IntKind.i64.wrap ((nodAt t i).kind - 2) = (nodAt t i).kind - 2 := wrap_i64 (by omega)
      simp [go_sem, e1]
      refine vcall_use (c_l2FindS l hl (nodAt t i).text ((nodAt t i).kind - 2)) ?_ ?_
      ·simp [go_sem]
       exact argSl_refl (by omega) cl
      ·rintro av obs ⟨rfl, ⟨rfl, hn⟩ | ⟨q, rfl, hq, hp, he⟩⟩
       ·simp [go_sem]
        simp only [wellF, opdAll, all_false (p := fun i => !isOpN (nodAt t i) || opHas l (nodAt t i).text ((nodAt t i).kind - 2)) h (by simp [hk, hn]), Bool.and_false]
       ·simp [go_sem, show ¬ ((q : Int) < 0) by omega]
        exact ⟨i + 1, next h (fun _ => hp), by omega, wrap_succ (by omega), cl, clt⟩
    ·have hl1 : i = t.length := by omega
     subst hl1
     simp only [wellF, opdAll, all_true (p := fun i => !isOpN (nodAt t i) || opHas l (nodAt t i).text ((nodAt t i).kind - 2)) (n := t.length) fun j hj => by
      cases hk : isOpN (nodAt t j) with
      | false => rfl
      | true => simp [hi.2 j hj hk], h0, h1, decide_true, Bool.and_true]
theorem wellF_fits {l : List POp} {t : List PNode} (h : wellF l t = true) {i : Nat} (hi : i < t.length) (hk : isOpN (nodAt t i) = true) : opHas l (nodAt t i).text ((nodAt t i).kind - 2) = true ∧ (0 ≤ (nodAt t i).a ∧ (nodAt t i).a < t.length) ∧ (isOpN (nodAt t (nodAt t i).a.toNat) = true → opHas l (nodAt t (nodAt t i).a.toNat).text ((nodAt t (nodAt t i).a.toNat).kind - 2) = true) ∧
  (kidsN (nodAt t i).kind ≠ 1 → (0 ≤ (nodAt t i).b ∧ (nodAt t i).b < t.length) ∧ (isOpN (nodAt t (nodAt t i).b.toNat) = true → opHas l (nodAt t (nodAt t i).b.toNat).text ((nodAt t (nodAt t i).b.toNat).kind - 2) = true)) := by
 simp only [wellF, Bool.and_eq_true, opdAll] at h
 obtain ⟨⟨h1, h2⟩, h3⟩ := h
 have has : ∀ j, j < t.length → isOpN (nodAt t j) = true → opHas l (nodAt t j).text ((nodAt t j).kind - 2) = true := fun j hj e => by
  have := List.all_eq_true.1 h3 j (List.mem_range.2 hj)
  simpa [e] using this
 obtain ⟨g1, g2, g3, g4⟩ := inOrd_kid h2 hi
 simp only [isOpN, decide_eq_true_eq] at hk
 have hk3 : kidsN (nodAt t i).kind ≠ 0 := by
  unfold kidsN
  split
  ·decide
  ·split
   ·decide
   ·omega
 have ga := g3 hk3
 refine ⟨has i hi (by simpa [isOpN] using hk), ⟨ga.1, by omega⟩, has _ (by omega), fun hk1 => ?_⟩
 have gb := g4 (by rcases kidsN_cases (nodAt t i).kind with e | e | e <;> omega)
 exact ⟨⟨gb.1, by omega⟩, has _ (by omega)⟩
theorem c_specTreeOk (l : List POp) (hl : l.length ≤ 9223372036854775807) (hw : opsWf l) (t : List PNode) (ht : t.length ≤ 9223372036854775807) (hwt : ∀ i, i < t.length → (nodAt t i).wf) : VFun Tryz.prog 15 [.agg [.sl 4 l.length (opCells l)], .agg [.sl 4 t.length (nodCells t)]] (fun av obs => obs = [] ∧ av = .lit (.int .i64 (treeOk l t))) := by
 have cl : ∀ (i : Nat) (c : AV), i < l.length → c ∈ opCells l i → Closed c := fun i c _ h => opClosed l i c h
 have clt : ∀ (i : Nat) (c : AV), i < t.length → c ∈ nodCells t i → Closed c := fun i c _ h => nodClosed t i c h
 refine vfun_start Tryz.func15 (by kernel_rfl) rfl (by simp [Tryz.ntmps15]) ?_; simp only [Tryz.ntmps15, Tryz.results15]; simp [go_sem]
 refine vcall_pure (c_specTableOk l hl hw) ?_ ?_
 ·simp [go_sem]
  exact argSl_refl (by omega) cl
 ·simp [go_sem]
  refine ⟨fun h0 => by simp [treeOk, h0], fun h0 => ?_⟩
  refine vcall_pure (c_l3WellFormed l hl hw t ht hwt) ?_ ?_
  ·simp [go_sem]
   exact ⟨argSl_refl (by omega) cl, argSl_refl (by omega) clt⟩
  ·simp [go_sem]
   refine ⟨fun h1 => by simp [treeOk, h0, h1], fun h1 => ?_⟩
   refine vc_loop (fun i : Nat => i ≤ t.length ∧ ∀ j, j < i → fitsN l t j = true) (fun i => t.length - i)
    (fun i => .of [(2, .ptr 0 1 0 0), (3, .ptr 1 1 0 0), (5, .lit (.int .i64 i))] [some ⟨30, 1, 1, fun _ => [.sl 4 l.length (opCells l)]⟩, some ⟨37, 1, 1, fun _ => [.sl 4 t.length (nodCells t)]⟩]) ⟨0, ⟨by omega, by simp⟩, ?_⟩ (fun i hi => ?_)
   ·simp [go_sem]
    exact ⟨cl, clt⟩
   ·simp [go_sem]
    refine ⟨by omega, fun h => vcall_pure (c_l3Fits l hl hw t ht i h (wellF_fits h1 h)) ?_ ?_, fun h => ?_⟩
    ·simp [go_sem]
     exact ⟨argSl_refl (by omega) cl, argSl_refl (by omega) clt⟩
    ·simp [go_sem]
     refine ⟨fun e => ?_, fun e => ⟨i + 1, ⟨by omega, fun j hj => ?_⟩, by omega, wrap_succ (by omega), cl, clt⟩⟩
     ·simp only [treeOk, h0, h1, all_false (p := fun i => fitsN l t i) h e]
      simp
     ·rcases Nat.lt_succ_iff_lt_or_eq.mp hj with hj | rfl
      ·exact hi.2 j hj
      ·exact e
    ·simp only [treeOk, h0, h1, all_true (p := fun i => fitsN l t i) (n := t.length) fun j hj => hi.2 j (by omega)]
     simp
end Go.Proofs.YtjdmmhcogmepaaaGreatDoor.V
namespace Go.Proofs.YtjdmmhcogmepaaaGreatDoor.V
open Go.RowKit
open Go.Proofs.YtjdmmhcogmepaaaGreatDoor.Ops (Tr Tk Lv Res Fit)
def roleT : TkP → Int
 | .pre _ => 1
 | .inf _ => 2
 | .post _ => 3
 | _ => 0
theorem op_unique {l : List POp} {o : POp} {z : ByteArray} (hu : Uniq l) (h1 : o.text = z) (hj : ∃ j, j < l.length ∧ opAt l j = o) : opHas l z o.kind = true ∧ opOf l z o.kind = o := by
 obtain ⟨j, hj, rfl⟩ := hj
 have hh : opHas l z (opAt l j).kind = true := (opHas_iff l z _).2 ⟨j, hj, h1, rfl⟩
 obtain ⟨i, hi, e1, e2, e3⟩ := opHas_has hh
 exact ⟨hh, e1.trans (hu i j hi hj (by rw [e2, h1]) (by rw [e3]))⟩
def SegIs (l : List POp) (t : List PTok) (rs : List Int) : Nat → List TkP → Prop
 | _, [] => True
 | i, tk :: r => TokIs l (tokAt t i) tk ∧ intAt rs i = roleT tk ∧ SegIs l t rs (i + 1) r
theorem seg_at {l : List POp} {t : List PTok} {rs : List Int} : ∀ {s : List TkP} {i k : Nat} {tk : TkP}, SegIs l t rs i s → s[k]? = some tk → TokIs l (tokAt t (i + k)) tk ∧ intAt rs (i + k) = roleT tk
 | [], i, k, tk, _, h => by simp at h
 | x :: r, i, 0, tk, hs, h => by
  simp at h; subst h
  exact ⟨hs.1, hs.2.1⟩
 | x :: r, i, k + 1, tk, hs, h => by
  have := seg_at hs.2.2 (by simpa using h)
  rw [show i + (k + 1) = i + 1 + k by omega]; exact this
theorem roles_at {l : List POp} {t : List PTok} {n i : Nat} (h : i < n) : intAt (rolesUp l t n) i = roleAt l t i (stAt l t i) := by
 simp [intAt, rolesUp, List.getD_eq_getElem?_getD, List.getElem?_map, List.getElem?_range h]
theorem seg_of {l : List POp} {t : List PTok} (hu : Uniq l) : ∀ (ts : List TkP) (i d : Nat), ToksAre l t i ts → Fit (!stAt l t i) d ts → (d : Int) = openAt t i → SegIs l t (rolesUp l t t.length) i ts
 | [], _, _, _, _, _ => trivial
 | tk :: r, i, d, ht, hf, hd => by
  have hi : i < t.length := by have := toksAre_len ht; simp only [List.length_cons] at this; omega
  obtain ⟨h1, h2⟩ := ht
  have nxt : ∀ (st : Bool) (d' : Nat), roleAt l t i (stAt l t i) = roleT tk → stAt l t (i + 1) = st → (d' : Int) = openAt t (i + 1) → Fit (!st) d' r → SegIs l t (rolesUp l t t.length) i (tk :: r) := fun st d' hr e1 e2 e3 =>
   ⟨h1, by rw [roles_at hi]; exact hr, seg_of hu r (i + 1) d' h2 (by rw [e1]; exact e3) e2⟩
  have has : ∀ {o : POp}, o.text = (tokAt t i).text → (∃ j, j < l.length ∧ opAt l j = o) → opHas l (tokAt t i).text o.kind = true := fun {o} e ⟨j, hj, e2⟩ => (opHas_iff l _ _).2 ⟨j, hj, by rw [e2]; exact e, by rw [e2]⟩
  have hasno : ∀ {o : POp} {k : Int}, o.text = (tokAt t i).text → (∃ j, j < l.length ∧ opAt l j = o) → o.kind ≠ 1 → k ≠ 1 → o.kind ≠ k → opHas l (tokAt t i).text k = false := fun {o k} e ⟨j, hj, e2⟩ n1 n2 n3 => by
   cases hh : opHas l (tokAt t i).text k with
   | false => rfl
   | true =>
    obtain ⟨j', hj', g1, g2⟩ := (opHas_iff l _ _).1 hh
    have := hu j j' hj hj' (by rw [e2, e, g1]) (by
     rw [e2, g2]
     have a1 : (o.kind == 1) = false := by simpa using n1
     have a2 : (k == 1) = false := by simpa using n2
     rw [a1, a2])
    rw [e2] at this
    rw [← this] at g2
    exact absurd g2 n3
  cases hs : stAt l t i with
  | false =>
   rw [hs] at hf
   cases tk with
   | leaf b =>
    refine nxt true d ?_ ?_ ?_ (by simpa [Fit] using hf)
    ·rw [hs]; rcases h1.1 with e | e <;> simp [roleAt, roleT, e]
    ·rcases h1.1 with e | e <;> simp [stAt, e]
    ·rcases h1.1 with e | e <;> simp [openAt, e, hd]
   | opn =>
    have k4 : (tokAt t i).kind = 4 := h1
    exact nxt false (d + 1) (by rw [hs]; simp [roleAt, roleT, k4]) (by simp [stAt, k4]) (by simp [openAt, k4]; omega) (by simpa [Fit] using hf)
   | pre o =>
    have hh := has h1.2.1 h1.2.2.2
    rw [h1.2.2.1] at hh
    exact nxt false d (by rw [hs]; simp [roleAt, roleT, h1.1, hh]) (by simp [stAt, h1.1, hs]) (by simp [openAt, h1.1, hd]) (by simpa [Fit] using hf)
   | cls => simp [Fit] at hf
   | inf o => simp [Fit] at hf
   | post o => simp [Fit] at hf
  | true =>
   rw [hs] at hf
   cases tk with
   | leaf b => simp [Fit] at hf
   | opn => simp [Fit] at hf
   | pre o => simp [Fit] at hf
   | inf o =>
    have hh := has h1.2.1 h1.2.2.2
    rw [h1.2.2.1] at hh
    have no := hasno (k := 3) h1.2.1 h1.2.2.2 (by rw [h1.2.2.1]; omega) (by omega) (by rw [h1.2.2.1]; omega)
    exact nxt false d (by rw [hs]; simp [roleAt, roleT, h1.1, hh]) (by simp [stAt, h1.1, hs, no]) (by simp [openAt, h1.1, hd]) (by simpa [Fit] using hf)
   | post o =>
    have hh := has h1.2.1 h1.2.2.2
    rw [h1.2.2.1] at hh
    have no := hasno (k := 2) h1.2.1 h1.2.2.2 (by rw [h1.2.2.1]; omega) (by omega) (by rw [h1.2.2.1]; omega)
    exact nxt true d (by rw [hs]; simp [roleAt, roleT, h1.1, hh, no]) (by simp [stAt, h1.1, hs, hh]) (by simp [openAt, h1.1, hd]) (by simpa [Fit] using hf)
   | cls =>
    have k5 : (tokAt t i).kind = 5 := h1
    cases d with
    | zero => simp [Fit] at hf
    | succ d =>
     exact nxt true d (by rw [hs]; simp [roleAt, roleT, k5]; omega) (by simp [stAt, k5]) (by simp [openAt, k5]; omega) (by simpa [Fit] using hf)
def LeavesOk : PT → Prop
 | .leaf b => b.1 = 1 ∨ b.1 = 2
 | .grp e => LeavesOk e
 | .pre _ e => LeavesOk e
 | .post _ e => LeavesOk e
 | .inf _ x y => LeavesOk x ∧ LeavesOk y
theorem last_node {T : List PNode} {nd : PNode} : nodAt (T ++ [nd]) ((T ++ [nd]).length - 1) = nd := by
 simp [nodAt, List.getD_eq_getElem?_getD]
theorem lvl_op {l : List POp} (hu : Uniq l) {o : POp} (hj : InL l o) (hk : 1 ≤ o.kind ∧ o.kind ≤ 3) {nd : PNode} (h1 : nd.text = o.text) (h2 : nd.kind = o.kind + 2) : lvlN l nd = o.level := by
 obtain ⟨g1, g2⟩ := op_unique hu (z := nd.text) h1.symm hj
 have e : nd.kind - 2 = o.kind := by omega
 unfold lvlN
 have hop : isOpN nd = true := by simp [isOpN]; omega
 rw [if_pos hop, ndOp, e, g2]
theorem lvl_last {l : List POp} (hu : Uniq l) (e : PT) (out : List PNode) (h1 : LeavesOk e) (h2 : e.All lvO (InL l)) (h3 : KindsOk e) : lvlN l (nodAt (lay e out) ((lay e out).length - 1)) = e.level lvO := by
 cases e with
 | leaf b =>
  simp only [lay, last_node, Tr.level]
  have : isOpN (⟨b.2, b.1, 0, 0⟩ : PNode) = false := by
   have h1' : b.1 = 1 ∨ b.1 = 2 := h1
   simp [isOpN]; omega
  unfold lvlN
  rw [if_neg (by rw [this]; simp)]
 | grp e =>
  simp only [lay, last_node, Tr.level]
  unfold lvlN
  rw [if_neg (by simp [isOpN])]
 | pre o e =>
  simp only [lay, last_node, Tr.level]
  exact lvl_op hu h2.1 (by have := h3.1; omega) rfl rfl
 | post o e =>
  simp only [lay, last_node, Tr.level]
  exact lvl_op hu h2.1 (by have := h3.1; omega) rfl rfl
 | inf o x y =>
  simp only [lay, last_node, Tr.level]
  exact lvl_op hu h2.1 (by have := h3.1; omega) rfl rfl
theorem nodAt_old {T : List PNode} {nd : PNode} {i : Nat} (h : i < T.length) : nodAt (T ++ [nd]) i = nodAt T i := by
 simp [nodAt, List.getD_eq_getElem?_getD, List.getElem?_append_left h]
theorem nodAt_new {T : List PNode} {nd : PNode} : nodAt (T ++ [nd]) T.length = nd := by
 simp [nodAt, List.getD_eq_getElem?_getD]
theorem fits_pre {l : List POp} (hu : Uniq l) {o : POp} (hj : InL l o) (hok : opOk o = true) (hk : o.kind = 1) (e : PT) (out : List PNode) (h1 : LeavesOk e) (h2 : e.All lvO (InL l)) (h3 : KindsOk e) :
  fitsN l (lay e out ++ [⟨o.text, 3, ((lay e out).length : Int) - 1, 0⟩]) (lay e out).length = decide ((lvO o).h2 ≤ e.level lvO) := by
 have hg := lay_grows e out
 have hl := lvl_last hu e out h1 h2 h3
 obtain ⟨g1, g2⟩ := op_unique hu (z := o.text) rfl hj
 rw [hk] at g2
 have hn : nodAt (lay e out ++ [(⟨o.text, 3, ((lay e out).length : Int) - 1, 0⟩ : PNode)]) (lay e out).length = ⟨o.text, 3, ((lay e out).length : Int) - 1, 0⟩ := nodAt_new
 have ha : (((lay e out).length : Int) - 1).toNat = (lay e out).length - 1 := by omega
 unfold fitsN
 rw [hn]
 simp only [ha]
 rw [nodAt_old (by omega), hl]
 have hd : ndOp l ⟨o.text, 3, ((lay e out).length : Int) - 1, 0⟩ = o := by simp only [ndOp]; exact g2
 rw [hd, hole_h2p hok hk]
 simp [isOpN, kidsN]
theorem fits_post {l : List POp} (hu : Uniq l) {o : POp} (hj : InL l o) (hok : opOk o = true) (hk : o.kind = 3) (e : PT) (out : List PNode) (h1 : LeavesOk e) (h2 : e.All lvO (InL l)) (h3 : KindsOk e) :
  fitsN l (lay e out ++ [⟨o.text, 5, ((lay e out).length : Int) - 1, 0⟩]) (lay e out).length = decide ((lvO o).h1 ≤ e.level lvO) := by
 have hg := lay_grows e out
 have hl := lvl_last hu e out h1 h2 h3
 obtain ⟨g1, g2⟩ := op_unique hu (z := o.text) rfl hj
 rw [hk] at g2
 have hn : nodAt (lay e out ++ [(⟨o.text, 5, ((lay e out).length : Int) - 1, 0⟩ : PNode)]) (lay e out).length = ⟨o.text, 5, ((lay e out).length : Int) - 1, 0⟩ := nodAt_new
 have ha : (((lay e out).length : Int) - 1).toNat = (lay e out).length - 1 := by omega
 unfold fitsN
 rw [hn]
 simp only [ha]
 rw [nodAt_old (by omega), hl]
 have hd : ndOp l ⟨o.text, 5, ((lay e out).length : Int) - 1, 0⟩ = o := by simp only [ndOp]; exact g2
 rw [hd, hole_h1 hok (by omega)]
 simp [isOpN, kidsN]
theorem lay_old : ∀ (e : PT) (out : List PNode) (i : Nat), i < out.length → nodAt (lay e out) i = nodAt out i
 | .leaf b, out, i, h => by simp only [lay]; exact nodAt_old h
 | .grp e, out, i, h => by
  have := lay_grows e out
  simp only [lay]; rw [nodAt_old (by omega)]; exact lay_old e out i h
 | .pre o e, out, i, h => by
  have := lay_grows e out
  simp only [lay]; rw [nodAt_old (by omega)]; exact lay_old e out i h
 | .post o e, out, i, h => by
  have := lay_grows e out
  simp only [lay]; rw [nodAt_old (by omega)]; exact lay_old e out i h
 | .inf o x y, out, i, h => by
  have := lay_grows x out
  have := lay_grows y (lay x out)
  simp only [lay]; rw [nodAt_old (by omega), lay_old y (lay x out) i (by omega)]; exact lay_old x out i h
theorem fits_inf {l : List POp} (hu : Uniq l) {o : POp} (hj : InL l o) (hok : opOk o = true) (hk : o.kind = 2) (x y : PT) (out : List PNode) (h1 : LeavesOk x) (h2 : x.All lvO (InL l)) (h3 : KindsOk x) (q1 : LeavesOk y) (q2 : y.All lvO (InL l)) (q3 : KindsOk y) :
  fitsN l (lay y (lay x out) ++ [⟨o.text, 4, ((lay x out).length : Int) - 1, ((lay y (lay x out)).length : Int) - 1⟩]) (lay y (lay x out)).length = decide ((lvO o).h1 ≤ x.level lvO ∧ (lvO o).h2 ≤ y.level lvO) := by
 have hg := lay_grows x out
 have hg2 := lay_grows y (lay x out)
 have hl := lvl_last hu x out h1 h2 h3
 have hl2 := lvl_last hu y (lay x out) q1 q2 q3
 obtain ⟨g1, g2⟩ := op_unique hu (z := o.text) rfl hj
 rw [hk] at g2
 have hn : nodAt (lay y (lay x out) ++ [(⟨o.text, 4, ((lay x out).length : Int) - 1, ((lay y (lay x out)).length : Int) - 1⟩ : PNode)]) (lay y (lay x out)).length = ⟨o.text, 4, ((lay x out).length : Int) - 1, ((lay y (lay x out)).length : Int) - 1⟩ := nodAt_new
 have ha : (((lay x out).length : Int) - 1).toNat = (lay x out).length - 1 := by omega
 have hb : (((lay y (lay x out)).length : Int) - 1).toNat = (lay y (lay x out)).length - 1 := by omega
 unfold fitsN
 rw [hn]
 simp only [ha, hb]
 rw [nodAt_old (by omega), nodAt_old (by omega), hl2, lay_old y (lay x out) _ (by omega), hl]
 have hd : ndOp l ⟨o.text, 4, ((lay x out).length : Int) - 1, ((lay y (lay x out)).length : Int) - 1⟩ = o := by simp only [ndOp]; exact g2
 rw [hd, hole_h1 hok (by omega), hole_h2i hok hk]
 simp [isOpN, kidsN]
end Go.Proofs.YtjdmmhcogmepaaaGreatDoor.V
namespace Go.Proofs.YtjdmmhcogmepaaaGreatDoor.V
open Go.RowKit
open Go.Proofs.YtjdmmhcogmepaaaGreatDoor.Ops (Tr Tk Lv Res Fit OF)
theorem seg_append {l : List POp} {t : List PTok} {rs : List Int} : ∀ {u w : List TkP} {i : Nat}, SegIs l t rs i (u ++ w) ↔ SegIs l t rs i u ∧ SegIs l t rs (i + u.length) w
 | [], w, i => by simp [SegIs]
 | x :: u, w, i => by
  simp only [List.cons_append, SegIs, List.length_cons, seg_append (u := u), and_assoc]
  rw [show i + (u.length + 1) = i + 1 + u.length by omega]
theorem seg_ok {l : List POp} {t : List PTok} {rs : List Int} : ∀ (e : PT) (i : Nat), SegIs l t rs i e.yield → LeavesOk e ∧ e.All lvO (InL l) ∧ KindsOk e
 | .leaf b, i, h => by
  simp only [Tr.yield, SegIs, TokIs] at h
  refine ⟨?_, trivial, trivial⟩
  have := h.1
  simp only [LeavesOk]
  rw [this.2]; exact this.1
 | .grp e, i, h => by
  simp only [Tr.yield, SegIs] at h
  exact seg_ok e _ (seg_append.1 h.2.2).1
 | .pre o e, i, h => by
  simp only [Tr.yield, SegIs, TokIs] at h
  obtain ⟨⟨_, _, hk, hj⟩, _, h2⟩ := h
  obtain ⟨g0, g1, g2⟩ := seg_ok e _ h2
  exact ⟨g0, ⟨hj, by simp [lvO, sortN, hk], g1⟩, hk, g2⟩
 | .post o e, i, h => by
  simp only [Tr.yield] at h
  obtain ⟨h1, h3⟩ := seg_append.1 h
  obtain ⟨g0, g1, g2⟩ := seg_ok e _ h1
  simp only [SegIs, TokIs] at h3
  obtain ⟨⟨_, _, hk, hj⟩, _⟩ := h3
  exact ⟨g0, ⟨hj, by simp [lvO, sortN, hk], g1⟩, hk, g2⟩
 | .inf o x y, i, h => by
  simp only [Tr.yield] at h
  obtain ⟨h1, h3⟩ := seg_append.1 h
  obtain ⟨g0, g1, g2⟩ := seg_ok x _ h1
  simp only [SegIs, TokIs] at h3
  obtain ⟨⟨_, _, hk, hj⟩, _, h4⟩ := h3
  obtain ⟨q0, q1, q2⟩ := seg_ok y _ h4
  exact ⟨⟨g0, q0⟩, ⟨hj, g1, q1⟩, hk, g2, q2⟩
theorem lay_yield : ∀ (e : PT) (out : List PNode), (lay e out).length ≤ out.length + e.yield.length
 | .leaf _, out => by simp [lay, Tr.yield]
 | .grp e, out => by have := lay_yield e out; simp [lay, Tr.yield]; omega
 | .pre _ e, out => by have := lay_yield e out; simp [lay, Tr.yield]; omega
 | .post _ e, out => by have := lay_yield e out; simp [lay, Tr.yield]; omega
 | .inf _ x y, out => by have := lay_yield x out; have := lay_yield y (lay x out); simp [lay, Tr.yield]; omega
def below (T : List PNode) (H : List Int) (i : Nat) : Int :=
 if kidsN (nodAt T i).kind = 0 then 0 else if kidsN (nodAt T i).kind = 1 then intAt H (nodAt T i).a.toNat else max (intAt H (nodAt T i).a.toNat) (intAt H (nodAt T i).b.toNat)
theorem intAt_old {H : List Int} {h : Int} {i : Nat} (hi : i < H.length) : intAt (H ++ [h]) i = intAt H i := by
 simp [intAt, List.getD_eq_getElem?_getD, List.getElem?_append_left hi]
theorem intAt_new {H : List Int} {h : Int} {i : Nat} (hi : i = H.length) : intAt (H ++ [h]) i = h := by
 subst hi; simp [intAt, List.getD_eq_getElem?_getD]
theorem kids_012 (k : Int) : kidsN k = 0 ∨ kidsN k = 1 ∨ kidsN k = 2 := kidsN_cases k
end Go.Proofs.YtjdmmhcogmepaaaGreatDoor.V
namespace Go.Proofs.YtjdmmhcogmepaaaGreatDoor.V
open Go.RowKit
def offZ (t : List PTok) (i : Nat) : Int := (tokSum (t.take i) + (tokAt t i).gap.size : Nat)
theorem VFun.adoptA {P : Program} {f : FuncId} {args : List AV} {R R' : AV → List Ob → Prop} (h : VFun P f args R) (ty sz : Nat) (hsz : 0 < sz) (g : Nat → List AV)
  (hr : ∀ av obs, R av obs → R' av obs ∨ ∃ xs : List Value, av = .tup (.agg [.lit (.slice none 0 0)] :: xs.map .lit) ∧ obs = [] ∧ R' (.tup (.agg [.own 0] :: xs.map .lit)) [⟨ty, sz, 0, g⟩]) : VFun P f args R' := by
 refine ⟨h.1, fun w vs hl hv => (h.2 w vs hl hv).mono fun e w' ⟨v, e1, gr, hd, av, obs, r, fl, hlit, hm, hrep⟩ => ?_⟩
 rcases hr av obs r with r' | ⟨xs, rfl, rfl, r'⟩
 ·exact ⟨v, e1, gr, hd, av, obs, r', fl, hlit, hm, hrep⟩
 ·refine ⟨v, e1, gr, fun _ => .slice none 0 0, _, _, r', ?_, fun ob ho i hi => ?_, ⟨fun k ob hk b hb => ?_, fun k ob hk => ?_, fun k hk => ⟨none, 0, 0, rfl⟩, fun k k' o o' hk hk' hne => .inl rfl⟩, ?_⟩
  ·simp [flatV, flat2, flat1]
  ·simp only [List.mem_singleton] at ho
   subst ho
   simp at hi
  ·simp [Value.ownBlock] at hb
  ·cases k with
   | zero =>
    simp only [List.map_cons, List.map_nil, List.getElem?_cons_zero, Option.some.injEq] at hk
    subst hk
    exact ⟨hsz, [], ⟨by simp, .inl ⟨rfl, rfl⟩⟩, fun i hi => by simp at hi⟩
   | succ k => simp at hk
  ·cases hrep with
   | tup _ us hl2 hr2 =>
    match us, hl2 with
    | u1 :: us, hl2 =>
     have q1 := hr2 0 _ u1 rfl rfl
     cases q1 with
     | agg _ ws hl3 hr3 =>
      match ws, hl3 with
      | [x], _ =>
       have q2 := hr3 0 _ x rfl rfl
       cases q2
       refine .tup _ (.agg #[.slice none 0 0] :: us) (by simpa using hl2) fun j a u ha hu => ?_
       cases j with
       | zero =>
        simp only [List.getElem?_cons_zero, Option.some.injEq] at ha hu
        subst ha; subst hu
        refine .agg _ [.slice none 0 0] rfl fun j a u ha hu => ?_
        cases j with
        | zero =>
         simp only [List.getElem?_cons_zero, Option.some.injEq] at ha hu
         subst ha; subst hu
         exact .own (hd := fun _ => .slice none 0 0) 0 (by simp)
        | succ j => simp at ha
       | succ j =>
        simp only [List.getElem?_cons_succ] at ha hu
        have := hr2 (j + 1) a u (by simpa using ha) (by simpa using hu)
        rw [List.getElem?_map, Option.map_eq_some_iff] at ha
        obtain ⟨y, hy, rfl⟩ := ha
        cases this
        exact .lit _
theorem Bel.weak {may may' : Nat → Prop} {w w' : World} (h : Bel may w w') (hh : ∀ b, may b → may' b) : Bel may' w w' := ⟨h.os, h.tape, h.output, h.size, fun k hk hm => h.block k hk fun e => hm (hh k e)⟩
theorem VProc.adoptNil {P : Program} {f : FuncId} {u : Value} {maps0 : List (Nat × Mp)} {R : AV → List (Option Ob) → List (Nat × Mp) → Prop} {ty sz : Nat} {g : Nat → List AV} (hsz : 0 < sz)
  (h : VProc P f [.lit u, .own 0] [some ⟨ty, sz, 0, g⟩] maps0 R) : VProc P f [.lit u, .lit (.slice none 0 0)] [] maps0 R := by
 refine ⟨h.1, fun w vs hd0 hl hv hm hmp htl => ?_⟩
 obtain ⟨HD, hHD⟩ : ∃ HD : Nat → Value, HD = fun k => if k = 0 then .slice none 0 0 else hd0 k := ⟨_, rfl⟩
 have h0 : HD 0 = .slice none 0 0 := by rw [hHD]; exact if_pos rfl
 have heqT : TailEq hd0 HD := ⟨1, fun k hk => by rw [hHD]; exact if_neg (by omega)⟩
 have hsh : ∀ b, Sh w HD [some ⟨ty, sz, 0, g⟩] maps0 b → Sh w hd0 [] maps0 b := by
  rintro b (q | ⟨k, o, hk, hb⟩ | q)
  ·exact .inl q
  ·have hkl := (List.getElem?_eq_some_iff.1 hk).1
   obtain rfl : k = 0 := by simpa using hkl
   rw [h0] at hb; simp [Value.ownBlock] at hb
  ·exact .inr (.inr q)
 have htl' : TailNot HD (Sh w HD [some ⟨ty, sz, 0, g⟩] maps0) := by
  obtain ⟨K, hK⟩ := htl
  obtain ⟨M, hM⟩ := heqT
  refine ⟨K + M, fun k hk b hb hs => ?_⟩
  rw [hM k (by omega)] at hb
  exact hK k (by omega) b hb (hsh b hs)
 have hmr : MemRel (fun _ => True) w HD [some ⟨ty, sz, 0, g⟩] := by
  refine ⟨fun _ _ _ _ _ => trivial, fun k ob hk => ?_, fun k hk => ?_, fun k k' o o' hk hk' hne => ?_⟩
  ·have hkl := (List.getElem?_eq_some_iff.1 hk).1
   obtain rfl : k = 0 := by simpa using hkl
   simp only [List.getElem?_cons_zero, Option.some.injEq] at hk
   subst hk
   rw [h0]
   exact ⟨hsz, [], ⟨by simp, .inl ⟨rfl, rfl⟩⟩, fun i hi => by simp at hi⟩
  ·obtain rfl : k = 0 := by simpa using hk
   exact ⟨none, 0, 0, h0⟩
  ·have hkl := (List.getElem?_eq_some_iff.1 hk).1
   have hkl' := (List.getElem?_eq_some_iff.1 hk').1
   simp at hkl hkl'
   omega
 refine (h.2 w vs HD (by simpa using hl) (fun j a x ha hx => ?_) hmr hmp htl').mono fun e w' ⟨v, e1, bel, hd, av, mm, maps, r, po, hfix, hmr, hmap, hrep⟩ => ?_
 ·match j, ha with
  | 0, ha =>
   have := hv 0 (.lit u) x rfl hx
   simp at ha
   subst ha
   cases this
   exact .lit _
  | 1, ha =>
   have := hv 1 (.lit (.slice none 0 0)) x rfl hx
   simp at ha
   subst ha
   cases this
   rw [← h0]
   exact .own 0 (by simp)
  | j + 2, ha => simp at ha
 ·refine ⟨v, e1, bel.weak hsh, hd, av, mm, maps, r, ⟨by simp, po.flat, po.cells, po.maps⟩, ⟨fun k hk => by simp at hk, heqT.trans hfix.2⟩, ⟨fun k o hk b hb => hsh b (hmr.alw k o hk b hb), hmr.obs, hmr.hds, hmr.apart⟩, fun b mp hb => ?_, hrep⟩
  obtain ⟨q1, q2⟩ := hmap b mp hb
  exact ⟨hsh b q1, q2⟩
open Go.Proofs.YtjdmmhcogmepaaaGreatDoor.Ops (Tr Tk Lv Res Fit OF)
def badAt (t : List PTok) : Option Nat := (List.range t.length).find? fun i => decide ((tokAt t i).kind = 6)
theorem badAt_some {t : List PTok} {i : Nat} (hi : i < t.length) (h : ∀ j, j < i → (tokAt t j).kind ≠ 6) (hb : (tokAt t i).kind = 6) : badAt t = some i := by
 unfold badAt
 rw [List.find?_range_eq_some]
 refine ⟨by simpa using hb, by simpa using hi, fun j hj => ?_⟩
 simpa using h j hj
theorem badAt_none {t : List PTok} (h : ∀ j, j < t.length → (tokAt t j).kind ≠ 6) : badAt t = none := by
 unfold badAt
 rw [List.find?_eq_none]
 intro j hj
 simpa using h j (by simpa using hj)
open Classical in
noncomputable def toksZ (l : List POp) (t : List PTok) : List TkP := if h : ∃ ts : List TkP, ToksAre l t 0 ts ∧ Fit true 0 ts then Classical.choose h else []
theorem toksZ_ok {l : List POp} {t : List PTok} (h : ∃ ts : List TkP, ToksAre l t 0 ts ∧ Fit true 0 ts) : ToksAre l t 0 (toksZ l t) ∧ Fit true 0 (toksZ l t) := by
 unfold toksZ
 rw [dif_pos h]
 exact Classical.choose_spec h
noncomputable def partT (l : List POp) (t : List PTok) : Option PT := Ops.build lvO (toksZ l t).length (toksZ l t)
noncomputable def parK (l : List POp) (t : List PTok) : List PNode × Int × Int := match badAt t with
 | some i => ([], 3, offZ t i)
 | none => if 0 ≤ (rolesZ l t).2 then ([], 4, offZ t (rolesZ l t).2.toNat) else match partT l t with
  | none => ([], 5, 0)
  | some e => if highT e ≤ 1000 then (lay e [], 0, 0) else ([], 6, 0)
noncomputable def parZ (l : List POp) (z : ByteArray) : List PNode × Int × Int :=
 if tblOk l ≠ 0 then ([], 1, 0) else if ¬ z.size ≤ 20000 then ([], 2, 0) else parK l (lexZ l z)
theorem parK_bad {l : List POp} {t : List PTok} {i : Nat} (h : badAt t = some i) : parK l t = ([], 3, offZ t i) := by unfold parK; rw [h]
theorem parK_roles {l : List POp} {t : List PTok} (h : badAt t = none) (hr : 0 ≤ (rolesZ l t).2) : parK l t = ([], 4, offZ t (rolesZ l t).2.toNat) := by unfold parK; rw [h]; simp only; rw [if_pos hr]
theorem parK_none {l : List POp} {t : List PTok} (h : badAt t = none) (hr : (rolesZ l t).2 = -1) (hp : partT l t = none) : parK l t = ([], 5, 0) := by unfold parK; rw [h]; simp only; rw [if_neg (by omega), hp]
theorem parK_high {l : List POp} {t : List PTok} {e : PT} (h : badAt t = none) (hr : (rolesZ l t).2 = -1) (hp : partT l t = some e) (he : ¬ highT e ≤ 1000) : parK l t = ([], 6, 0) := by unfold parK; rw [h]; simp only; rw [if_neg (by omega), hp]; simp only; rw [if_neg he]
theorem parK_ok {l : List POp} {t : List PTok} {e : PT} (h : badAt t = none) (hr : (rolesZ l t).2 = -1) (hp : partT l t = some e) (he : highT e ≤ 1000) : parK l t = (lay e [], 0, 0) := by unfold parK; rw [h]; simp only; rw [if_neg (by omega), hp]; simp only; rw [if_pos he]
theorem lexFrom_last {l : List POp} {z : ByteArray} (f : Nat) (hf : f ≤ z.size) : (lexFrom l z f).length ≠ 0 ∧ (tokAt (lexFrom l z f) ((lexFrom l z f).length - 1)).kind = 7 := by
 generalize hn : z.size - f = n
 induction n using Nat.strongRecOn generalizing f with
 | ind n ih =>
  have hr := run_le isBl z f hf
  by_cases h : f + run isBl z f < z.size
  ·have hg := longest_ge l z (f + run isBl z f)
   have hl := longest_le l z (f + run isBl z f) h
   obtain ⟨h1, h2⟩ := ih (z.size - (f + run isBl z f + longest l z (f + run isBl z f))) (by omega) (f + run isBl z f + longest l z (f + run isBl z f)) hl rfl
   rw [lexFrom_go rfl h]
   refine ⟨by simp, ?_⟩
   obtain ⟨q, hq⟩ : ∃ q, q = lexFrom l z (f + run isBl z f + longest l z (f + run isBl z f)) := ⟨_, rfl⟩
   rw [← hq] at h1 h2 ⊢
   rw [← h2]
   simp only [tokAt, List.getD_eq_getElem?_getD, List.length_cons, Nat.add_sub_cancel]
   rw [show q.length = (q.length - 1) + 1 by omega, List.getElem?_cons_succ]
   simp
  ·rw [lexFrom_end rfl h]
   simp [tokAt]
theorem lexZ_ends {l : List POp} {z : ByteArray} (h : lexOk l z = true) : endsOk (lexZ l z) = true := by
 obtain ⟨h1, h2⟩ := lexFrom_last (l := l) (z := z) 0 (by omega)
 rw [lexZ, if_pos h]
 simp only [endsOk, h1, h2, ne_eq, not_false_eq_true, decide_true, Bool.and_self]
theorem roles_two {l : List POp} {t : List PTok} (h0 : tblOk l = 0) (he : endsOk t = true) : ((rolesZ l t).2 = -1 ∧ (rolesZ l t).1 = rolesUp l t t.length) ∨ (0 ≤ (rolesZ l t).2 ∧ (rolesZ l t).2 < t.length) := by
 unfold rolesZ
 rw [if_neg (by omega)]
 split
 ·rename_i i hb
  unfold firstBad at hb
  rw [List.find?_range_eq_some] at hb
  have := hb.2.1
  simp only [List.mem_range] at this
  exact .inr ⟨by simp, by simp; omega⟩
 ·rw [if_pos he]
  exact .inl ⟨rfl, rfl⟩
structure Fits (l : List POp) (t : List PTok) : Prop where
 len : (toksZ l t).length + 1 = t.length
 toks : ToksAre l t 0 (toksZ l t)
 fit : Fit true 0 (toksZ l t)
 seg : SegIs l t (rolesUp l t t.length) 0 (toksZ l t)
 all : ∀ e : PT, e.yield = toksZ l t → e.All lvO (InL l)
theorem fits_of {l : List POp} {t : List PTok} (h0 : tblOk l = 0) (hr : (rolesZ l t).2 = -1) : Fits l t := by
 have hu := uniq_of_ok h0
 obtain ⟨h1, h2⟩ := toksZ_ok (toks_of hu hr)
 have hl := toksAre_len h1
 have hs := seg_of hu _ 0 0 h1 h2 rfl
 exact ⟨by omega, h1, h2, hs, fun e he => by rw [← he] at hs; exact (seg_ok e 0 hs).2.1⟩
theorem partT_ok {l : List POp} {t : List PTok} {e : PT} (F : Fits l t) (h : partT l t = some e) : e.Adm lvO ∧ e.yield = toksZ l t ∧ LeavesOk e ∧ e.All lvO (InL l) ∧ KindsOk e := by
 obtain ⟨h1, h2⟩ := Ops.build_sound lvO _ _ _ (OF.of_fit F.fit) h
 have hs := F.seg
 rw [← h2] at hs
 exact ⟨h1, h2, seg_ok e 0 hs⟩
theorem parZ_len (l : List POp) (z : ByteArray) : (parZ l z).1.length ≤ 300000 := by
 unfold parZ
 split
 ·simp
 ·rename_i h0
  have h0 : tblOk l = 0 := Decidable.byContradiction h0
  split
  ·simp
  ·rename_i h1
   have h1 : z.size ≤ 20000 := Decidable.byContradiction h1
   have hok : lexOk l z = true := by simp [lexOk, h0, h1]
   obtain ⟨hq1, hq2⟩ := lexZ_texts (l := l) (z := z) (by omega)
   cases hb : badAt (lexZ l z) with
   | some i => rw [parK_bad hb]; simp
   | none =>
    rcases roles_two h0 (lexZ_ends hok) with ⟨hr, _⟩ | ⟨hr, _⟩
    ·have F := fits_of h0 hr
     cases hp : partT l (lexZ l z) with
     | none => rw [parK_none hb hr hp]; simp
     | some e =>
      obtain ⟨e1, e2, e3, e4, e5⟩ := partT_ok F hp
      by_cases he : highT e ≤ 1000
      ·rw [parK_ok hb hr hp he]
       have := lay_yield e []
       have := F.len
       rw [e2] at *
       simp only [List.length_nil] at *
       omega
      ·rw [parK_high hb hr hp he]; simp
    ·rw [parK_roles hb hr]; simp
theorem run_of {l : List POp} {t : List PTok} (h0 : tblOk l = 0) (F : Fits l t) : ∃ r : Option (PT × List TkP), Ops.operand lvO (2 * (toksZ l t).length + 2) 0 (toksZ l t) = some r ∧
  (match r with
  | none => partT l t = none
  | some (e, rest) => t.length - 1 - rest.length < t.length ∧ ((partT l t = some e ∧ (tokAt t (t.length - 1 - rest.length)).kind = 7) ∨ (partT l t = none ∧ (tokAt t (t.length - 1 - rest.length)).kind ≠ 7))) := by
 have hof := OF.of_fit F.fit
 have hbe := Ops.build_eq_operand lvO (good_of_ok h0) (toksZ l t) hof F.all
 have hlen := F.len
 obtain ⟨r, hr⟩ := (Ops.fuel_all lvO (2 * (toksZ l t).length + 2)).1 0 (toksZ l t) (by omega)
 refine ⟨r, hr, ?_⟩
 have hno : (∀ e, r ≠ some (e, [])) → partT l t = none := fun h => by
  cases hp : partT l t with
  | none => rfl
  | some e =>
   have := (hbe e).1 hp
   rw [hr] at this
   exact absurd (Option.some.inj this) (h e)
 cases r with
 | none => exact hno fun e => by simp
 | some x =>
  obtain ⟨e, rest⟩ := x
  obtain ⟨h1, h2, _⟩ := (Ops.sound_all lvO _).1 _ _ _ _ hr
  have htk := F.toks
  rw [h1] at htk
  have hl := toksAre_len htk
  have hrest := toksAre_rest htk
  refine ⟨by omega, ?_⟩
  cases rest with
  | nil =>
   refine .inl ⟨(hbe e).2 hr, ?_⟩
   exact hrest.2
  | cons tk r =>
   refine .inr ⟨hno fun e' => by simp, ?_⟩
   have := hrest.1
   cases tk with
   | leaf b => have h := this.1; omega
   | opn => have h : _ = _ := this; omega
   | cls => have h : _ = _ := this; omega
   | pre o => have h := this.1; omega
   | inf o => have h := this.1; omega
   | post o => have h := this.1; omega
def tkW : TkP → ByteArray
 | .leaf b => b.2
 | .opn => ⟨#[40]⟩
 | .cls => ⟨#[41]⟩
 | .pre o => o.text
 | .inf o => o.text
 | .post o => o.text
def TkOk (l : List POp) : TkP → Prop
 | .leaf b => (b.1 = 1 ∧ numZ b.2 = true) ∨ (b.1 = 2 ∧ namZ b.2 = true)
 | .pre o => o.kind = 1 ∧ InL l o
 | .inf o => o.kind = 2 ∧ InL l o
 | .post o => o.kind = 3 ∧ InL l o
 | _ => True
theorem nam_not {w : ByteArray} (h : namZ w = true) : numZ w = false := by
 cases e : numZ w with
 | false => rfl
 | true =>
  simp only [numZ, namZ, namAt, Bool.and_eq_true, List.all_eq_true, List.mem_range, decide_eq_true_eq, Bool.or_eq_true] at h e
  have h1 := h.1 0 h.2
  have h2 := e.1 0 h.2
  simp at h1
  simp only [isDg, isLt, Bool.and_eq_true, decide_eq_true_eq] at h1 h2
  omega
theorem kind_op {l : List POp} (hok : ∀ j, j < l.length → opOk (opAt l j) = true) {o : POp} (h : InL l o) (hk : 1 ≤ o.kind ∧ o.kind ≤ 3) : kindZ l o.text = 3 := by
 obtain ⟨j, hj, rfl⟩ := h
 have hs := opOk_signs (hok j hj)
 obtain ⟨s1, s2, s3⟩ := sg_signs hs
 obtain ⟨n1, n2, n3, n4, n5⟩ := sg_not (s1 0 s2)
 have e1 : numZ (opAt l j).text = false := by
  cases e : numZ (opAt l j).text with
  | false => rfl
  | true =>
   simp only [numZ, Bool.and_eq_true, List.all_eq_true, List.mem_range, decide_eq_true_eq] at e
   rw [e.1 0 s2] at n1; cases n1
 have e2 : namZ (opAt l j).text = false := by
  cases e : namZ (opAt l j).text with
  | false => rfl
  | true =>
   have := (nam_al e).1 0 s2
   simp [alnum, n1, n2] at this
 have e3 : ¬ (opAt l j).text = ⟨#[40]⟩ := fun e => n4 (by rw [e]; rfl)
 have e4 : ¬ (opAt l j).text = ⟨#[41]⟩ := fun e => n5 (by rw [e]; rfl)
 have e5 : isOpZ l (opAt l j).text = true := by
  have hh : opHas l (opAt l j).text (opAt l j).kind = true := (opHas_iff l _ _).2 ⟨j, hj, rfl, rfl⟩
  rcases (by omega : (opAt l j).kind = 1 ∨ (opAt l j).kind = 2 ∨ (opAt l j).kind = 3) with e | e | e <;> rw [e] at hh <;> simp [isOpZ, hh]
 simp [kindZ, e1, e2, e3, e4, e5]
theorem tk_is {l : List POp} (hok : ∀ j, j < l.length → opOk (opAt l j) = true) {tk : TkP} (h : TkOk l tk) (g : ByteArray) : TokIs l ⟨kindZ l (tkW tk), g, tkW tk⟩ tk ∧ WordOk l (tkW tk) := by
 cases tk with
 | leaf b =>
  obtain ⟨k, w⟩ := b
  rcases h with ⟨h1, h2⟩ | ⟨h1, h2⟩
  ·simp only at h1 h2
   subst h1
   have e : kindZ l w = 1 := by simp [kindZ, h2]
   exact ⟨⟨.inl e, by simp only [tkW]; rw [e]⟩, .al (num_al h2).1 (num_al h2).2 (.inl e)⟩
  ·simp only at h1 h2
   subst h1
   have e : kindZ l w = 2 := by simp [kindZ, h2, nam_not h2]
   exact ⟨⟨.inr e, by simp only [tkW]; rw [e]⟩, .al (nam_al h2).1 (nam_al h2).2 (.inr e)⟩
 | opn =>
  have e : kindZ l ⟨#[40]⟩ = 4 := by
   have e1 : numZ ⟨#[40]⟩ = false := by decide
   have e2 : namZ ⟨#[40]⟩ = false := by decide
   simp [kindZ, e1, e2]
  exact ⟨e, .opn rfl e⟩
 | cls =>
  have e : kindZ l ⟨#[41]⟩ = 5 := by
   have e1 : numZ ⟨#[41]⟩ = false := by decide
   have e2 : namZ ⟨#[41]⟩ = false := by decide
   simp [kindZ, e1, e2]
  exact ⟨e, .cls rfl e⟩
 | pre o =>
  have e := kind_op hok h.2 (by have := h.1; omega)
  obtain ⟨j, hj, rfl⟩ := h.2
  have hs := sg_signs (opOk_signs (hok j hj))
  exact ⟨⟨e, rfl, h.1, j, hj, rfl⟩, .op hs.1 hs.2.1 hs.2.2 e⟩
 | inf o =>
  have e := kind_op hok h.2 (by have := h.1; omega)
  obtain ⟨j, hj, rfl⟩ := h.2
  have hs := sg_signs (opOk_signs (hok j hj))
  exact ⟨⟨e, rfl, h.1, j, hj, rfl⟩, .op hs.1 hs.2.1 hs.2.2 e⟩
 | post o =>
  have e := kind_op hok h.2 (by have := h.1; omega)
  obtain ⟨j, hj, rfl⟩ := h.2
  have hs := sg_signs (opOk_signs (hok j hj))
  exact ⟨⟨e, rfl, h.1, j, hj, rfl⟩, .op hs.1 hs.2.1 hs.2.2 e⟩
def tokL (l : List POp) (ps : List (ByteArray × TkP)) (g : ByteArray) : List PTok := ps.map (fun x => ⟨kindZ l (tkW x.2), x.1, tkW x.2⟩) ++ [⟨7, g, ⟨#[]⟩⟩]
theorem toks_tokL {l : List POp} (hok : ∀ j, j < l.length → opOk (opAt l j) = true) (g : ByteArray) : ∀ (ps : List (ByteArray × TkP)) (pre : List PTok), (∀ x, x ∈ ps → TkOk l x.2) → ToksAre l (pre ++ tokL l ps g) pre.length (ps.map (·.2))
 | [], pre, _ => by
  simp only [tokL, List.map_nil, List.nil_append, ToksAre, List.length_append, List.length_singleton, true_and]
  rw [tokAt_app, if_neg (by omega), Nat.sub_self]; rfl
 | x :: r, pre, h => by
  simp only [List.map_cons, ToksAre]
  have e : pre ++ tokL l (x :: r) g = (pre ++ [⟨kindZ l (tkW x.2), x.1, tkW x.2⟩]) ++ tokL l r g := by simp [tokL]
  refine ⟨?_, ?_⟩
  ·have e2 : tokAt (pre ++ tokL l (x :: r) g) pre.length = ⟨kindZ l (tkW x.2), x.1, tkW x.2⟩ := by
    rw [tokAt_app, if_neg (by omega), Nat.sub_self]; rfl
   rw [e2]
   exact (tk_is hok (h x (by simp)) x.1).1
  ·have := toks_tokL hok g r (pre ++ [⟨kindZ l (tkW x.2), x.1, tkW x.2⟩]) fun y hy => h y (by simp [hy])
   rw [← e] at this
   simpa using this
theorem lexZ_join {l : List POp} (h0 : tblOk l = 0) {ps : List (ByteArray × TkP)} {g : ByteArray} (hj : JoinOk l (ps.map fun x => (x.1, tkW x.2)) g) (hz : (joinW (ps.map fun x => (x.1, tkW x.2)) g).size ≤ 20000) : lexZ l (joinW (ps.map fun x => (x.1, tkW x.2)) g) = tokL l ps g := by
 have h1 : lexOk l (joinW (ps.map fun x => (x.1, tkW x.2)) g) = true := by simp [lexOk, h0, hz]
 have := lex_join (ok_of_ok h0) _ g ByteArray.empty hj
 rw [ByteArray.empty_append] at this
 rw [lexZ, if_pos h1]
 refine this.trans ?_
 simp [tokL]
theorem yield_fit : ∀ (e : PT) (d : Nat) (rest : List TkP), Fit false d rest → Fit true d (e.yield ++ rest)
 | .leaf b, d, rest, h => by simpa [Tr.yield, Fit] using h
 | .grp e, d, rest, h => by
  have := yield_fit e (d + 1) (.cls :: rest) (by simpa [Fit] using h)
  simpa [Tr.yield, Fit] using this
 | .pre o e, d, rest, h => by
  have := yield_fit e d rest h
  simpa [Tr.yield, Fit] using this
 | .post o e, d, rest, h => by
  have := yield_fit e d (.post o :: rest) (by simpa [Fit] using h)
  simpa [Tr.yield] using this
 | .inf o x y, d, rest, h => by
  have := yield_fit x d (.inf o :: (y.yield ++ rest)) (by simpa [Fit] using yield_fit y d rest h)
  simpa [Tr.yield] using this
theorem role_ge (tk : TkP) : 0 ≤ roleT tk := by cases tk <;> simp [roleT]
theorem fit_state {l : List POp} {t : List PTok} (hu : Uniq l) : ∀ (ts : List TkP) (i d : Nat), ToksAre l t i ts → Fit (!stAt l t i) d ts → (d : Int) = openAt t i → stAt l t (i + ts.length) = true ∧ openAt t (i + ts.length) = 0
 | [], i, d, _, hf, hd => by
  cases hs : stAt l t i with
  | false => rw [hs] at hf; simp [Fit] at hf
  | true => rw [hs] at hf; simp [Fit] at hf; simp [hs]; omega
 | tk :: r, i, d, ht, hf, hd => by
  obtain ⟨h1, h2⟩ := ht
  have nxt : ∀ (st : Bool) (d' : Nat), stAt l t (i + 1) = st → (d' : Int) = openAt t (i + 1) → Fit (!st) d' r → stAt l t (i + (tk :: r).length) = true ∧ openAt t (i + (tk :: r).length) = 0 := fun st d' e1 e2 e3 => by
   have := fit_state hu r (i + 1) d' h2 (by rw [e1]; exact e3) e2
   simp only [List.length_cons]
   rw [show i + (r.length + 1) = i + 1 + r.length by omega]; exact this
  have has : ∀ {o : POp}, o.text = (tokAt t i).text → (∃ j, j < l.length ∧ opAt l j = o) → opHas l (tokAt t i).text o.kind = true := fun {o} e ⟨j, hj, e2⟩ => (opHas_iff l _ _).2 ⟨j, hj, by rw [e2]; exact e, by rw [e2]⟩
  have hasno : ∀ {o : POp} {k : Int}, o.text = (tokAt t i).text → (∃ j, j < l.length ∧ opAt l j = o) → o.kind ≠ 1 → k ≠ 1 → o.kind ≠ k → opHas l (tokAt t i).text k = false := fun {o k} e ⟨j, hj, e2⟩ n1 n2 n3 => by
   cases hh : opHas l (tokAt t i).text k with
   | false => rfl
   | true =>
    obtain ⟨j', hj', g1, g2⟩ := (opHas_iff l _ _).1 hh
    have := hu j j' hj hj' (by rw [e2, e, g1]) (by
     rw [e2, g2]
     have a1 : (o.kind == 1) = false := by simpa using n1
     have a2 : (k == 1) = false := by simpa using n2
     rw [a1, a2])
    rw [e2] at this
    rw [← this] at g2
    exact absurd g2 n3
  cases hs : stAt l t i with
  | false =>
   rw [hs] at hf
   cases tk with
   | leaf b =>
    refine nxt true d ?_ ?_ (by simpa [Fit] using hf)
    ·rcases h1.1 with e | e <;> simp [stAt, e]
    ·rcases h1.1 with e | e <;> simp [openAt, e, hd]
   | opn =>
    have k4 : (tokAt t i).kind = 4 := h1
    exact nxt false (d + 1) (by simp [stAt, k4]) (by simp [openAt, k4]; omega) (by simpa [Fit] using hf)
   | pre o => exact nxt false d (by simp [stAt, h1.1, hs]) (by simp [openAt, h1.1, hd]) (by simpa [Fit] using hf)
   | cls => simp [Fit] at hf
   | inf o => simp [Fit] at hf
   | post o => simp [Fit] at hf
  | true =>
   rw [hs] at hf
   cases tk with
   | leaf b => simp [Fit] at hf
   | opn => simp [Fit] at hf
   | pre o => simp [Fit] at hf
   | inf o =>
    have no := hasno (k := 3) h1.2.1 h1.2.2.2 (by rw [h1.2.2.1]; omega) (by omega) (by rw [h1.2.2.1]; omega)
    exact nxt false d (by simp [stAt, h1.1, hs, no]) (by simp [openAt, h1.1, hd]) (by simpa [Fit] using hf)
   | post o =>
    have hh := has h1.2.1 h1.2.2.2
    rw [h1.2.2.1] at hh
    exact nxt true d (by simp [stAt, h1.1, hs, hh]) (by simp [openAt, h1.1, hd]) (by simpa [Fit] using hf)
   | cls =>
    have k5 : (tokAt t i).kind = 5 := h1
    cases d with
    | zero => simp [Fit] at hf
    | succ d => exact nxt true d (by simp [stAt, k5]) (by simp [openAt, k5]; omega) (by simpa [Fit] using hf)
theorem roles_fit {l : List POp} {t : List PTok} (h0 : tblOk l = 0) {ts : List TkP} (ht : ToksAre l t 0 ts) (hf : Fit true 0 ts) : (rolesZ l t).2 = -1 := by
 have hu := uniq_of_ok h0
 have hlen := toksAre_len ht
 have hs := seg_of hu ts 0 0 ht hf rfl
 obtain ⟨s1, s2⟩ := fit_state hu ts 0 0 ht hf rfl
 have hend := toksAre_drop (u := ts) (ts := []) (i := 0) (by simpa using ht)
 simp only [ToksAre, Nat.zero_add] at hend s1 s2
 have hall : ∀ j, j < t.length → 0 ≤ roleAt l t j (stAt l t j) := fun j hj => by
  by_cases e : j < ts.length
  ·obtain ⟨tk, htk⟩ : ∃ tk, ts[j]? = some tk := ⟨_, List.getElem?_eq_getElem e⟩
   have := (seg_at hs htk).2
   rw [Nat.zero_add, roles_at hj] at this
   rw [this]; exact role_ge tk
  ·obtain rfl : j = ts.length := by omega
   rw [s1]
   simp [roleAt, hend.2, s2, hend.1]
 have hb := firstBad_none hall
 have he : endsOk t = true := by
  have e1 : t.length - 1 = ts.length := by omega
  simp only [endsOk, e1, hend.2, Bool.and_eq_true, decide_eq_true_eq, and_true]
  omega
 unfold rolesZ
 rw [if_neg (by omega), hb]
 simp only
 rw [if_pos he]
theorem seg_unique {l : List POp} {t : List PTok} {rs : List Int} (hu : Uniq l) : ∀ (ts ts' : List TkP) (i : Nat), SegIs l t rs i ts → SegIs l t rs i ts' → ts.length = ts'.length → ts = ts'
 | [], [], _, _, _, _ => rfl
 | tk :: r, tk' :: r', i, h, h', hl => by
  have e := seg_unique hu r r' (i + 1) h.2.2 h'.2.2 (by simpa using hl)
  have e2 : tk = tk' := by
   have q := h.1
   have q' := h'.1
   have hr : roleT tk = roleT tk' := h.2.1.symm.trans h'.2.1
   have opq : ∀ {o o' : POp} {k : Int}, o.text = (tokAt t i).text → o'.text = (tokAt t i).text → o.kind = k → o'.kind = k → (∃ j, j < l.length ∧ opAt l j = o) → (∃ j, j < l.length ∧ opAt l j = o') → o = o' := fun {o o' k} a1 a2 a3 a4 a5 a6 => by
    have p1 := (op_unique hu a1 a5).2
    have p2 := (op_unique hu a2 a6).2
    rw [a3] at p1
    rw [a4] at p2
    rw [← p1, p2]
   cases tk <;> cases tk' <;> simp only [roleT] at hr <;> simp only [TokIs] at q q' <;> first | omega | rfl | skip
   ·rw [q.2, q'.2]
   ·rw [opq q.2.1 q'.2.1 q.2.2.1 q'.2.2.1 q.2.2.2 q'.2.2.2]
   ·rw [opq q.2.1 q'.2.1 q.2.2.1 q'.2.2.1 q.2.2.2 q'.2.2.2]
   ·rw [opq q.2.1 q'.2.1 q.2.2.1 q'.2.2.1 q.2.2.2 q'.2.2.2]
  rw [e, e2]
 | [], _ :: _, _, _, _, hl => by simp at hl
 | _ :: _, [], _, _, _, hl => by simp at hl
theorem toksZ_eq {l : List POp} {t : List PTok} (h0 : tblOk l = 0) {ts : List TkP} (ht : ToksAre l t 0 ts) (hf : Fit true 0 ts) : toksZ l t = ts := by
 have hu := uniq_of_ok h0
 obtain ⟨h1, h2⟩ := toksZ_ok ⟨ts, ht, hf⟩
 have l1 := toksAre_len h1
 have l2 := toksAre_len ht
 exact seg_unique hu _ _ 0 (seg_of hu _ 0 0 h1 h2 rfl) (seg_of hu _ 0 0 ht hf rfl) (by omega)
theorem tokIs_kind {l : List POp} {k : PTok} {tk : TkP} (h : TokIs l k tk) : k.kind ≠ 6 := by
 cases tk with
 | leaf b => have := h.1; omega
 | opn => have h : _ = _ := h; omega
 | cls => have h : _ = _ := h; omega
 | pre o => have := h.1; omega
 | inf o => have := h.1; omega
 | post o => have := h.1; omega
theorem toks_bad {l : List POp} {t : List PTok} : ∀ (ts : List TkP) (i : Nat), ToksAre l t i ts → ∀ j, i ≤ j → j < t.length → (tokAt t j).kind ≠ 6
 | [], i, h, j, h1, h2 => by
  have h3 := h.1
  have h4 := h.2
  obtain rfl : j = i := by omega
  omega
 | tk :: r, i, h, j, h1, h2 => by
  by_cases e : j = i
  ·subst e; exact tokIs_kind h.1
  ·exact toks_bad r (i + 1) h.2 j (by omega) h2
structure Reads (l : List POp) (e : PT) (z : ByteArray) : Prop where
 bad : badAt (lexZ l z) = none
 roles : (rolesZ l (lexZ l z)).2 = -1
 toks : toksZ l (lexZ l z) = e.yield
 len : z.size ≤ 20000
theorem reads_join {l : List POp} (h0 : tblOk l = 0) {e : PT} {ps : List (ByteArray × TkP)} {g : ByteArray} (hp : ps.map (·.2) = e.yield) (hk : ∀ tk, tk ∈ e.yield → TkOk l tk) (hj : JoinOk l (ps.map fun x => (x.1, tkW x.2)) g) (hz : (joinW (ps.map fun x => (x.1, tkW x.2)) g).size ≤ 20000) : Reads l e (joinW (ps.map fun x => (x.1, tkW x.2)) g) := by
 have hl := lexZ_join h0 hj hz
 have ht := toks_tokL (ok_of_ok h0) g ps [] fun x hx => hk x.2 (by rw [← hp]; exact List.mem_map.2 ⟨x, hx, rfl⟩)
 simp only [List.nil_append, List.length_nil] at ht
 rw [hp] at ht
 have hf : Fit true 0 e.yield := by
  have := yield_fit e 0 [] (by simp [Fit])
  simpa using this
 refine ⟨?_, ?_, ?_, hz⟩
 ·rw [hl]; exact badAt_none fun j hj => toks_bad _ 0 ht j (by omega) hj
 ·rw [hl]; exact roles_fit h0 ht hf
 ·rw [hl]; exact toksZ_eq h0 ht hf
theorem Reads.adm {l : List POp} {e : PT} {z : ByteArray} (h : Reads l e z) (h0 : tblOk l = 0) (ha : e.Adm lvO) (hh : highT e ≤ 1000) : parZ l z = (lay e [], 0, 0) := by
 have F := fits_of h0 h.roles
 have hp : partT l (lexZ l z) = some e := by
  unfold partT
  rw [h.toks]
  exact Ops.build_complete lvO (good_of_ok h0) e _ (Nat.le_refl _) (F.all e h.toks.symm) ha
 rw [parZ, if_neg (by omega), if_neg (by have := h.len; omega), parK_ok h.bad h.roles hp hh]
theorem Reads.only {l : List POp} {e : PT} {z : ByteArray} (h : Reads l e z) (h0 : tblOk l = 0) (hc : (parZ l z).2.1 = 0) : ∃ e', e'.Adm lvO ∧ e'.yield = e.yield ∧ LeavesOk e' ∧ e'.All lvO (InL l) ∧ KindsOk e' ∧ highT e' ≤ 1000 ∧ (parZ l z).1 = lay e' [] := by
 have F := fits_of h0 h.roles
 rw [parZ, if_neg (by omega), if_neg (by have := h.len; omega)] at hc ⊢
 cases hp : partT l (lexZ l z) with
 | none => rw [parK_none h.bad h.roles hp] at hc; simp at hc
 | some e' =>
  obtain ⟨g1, g2, g3, g4, g5⟩ := partT_ok F hp
  by_cases hh : highT e' ≤ 1000
  ·rw [parK_ok h.bad h.roles hp hh]
   exact ⟨e', g1, by rw [g2, h.toks], g3, g4, g5, hh, rfl⟩
  ·rw [parK_high h.bad h.roles hp hh] at hc; simp at hc
end Go.Proofs.YtjdmmhcogmepaaaGreatDoor.V
namespace Go.Proofs.YtjdmmhcogmepaaaGreatDoor.V
open Go.RowKit
open Go.Maps (Keyed)
theorem c_kindOf (n : PNode) (hn : 1 ≤ n.kind ∧ n.kind ≤ 6) : VFun Tryz.prog 90 [.agg n.cells] (fun av obs => obs = [] ∧ av = .lit (.int .i64 (if isOpN n then n.kind - 2 else 0))) := by
 obtain ⟨z, k, x, y⟩ := n
 simp only [PNode.cells] at hn ⊢
 have hk : ∀ i : Int, 1 ≤ i ∧ i ≤ 6 → ∃ l, keyOf Tryz.prog 3 (.int .i64 i) = some l := fun i h => keyInt (by omega)
 refine vfun_start Tryz.func90 (by kernel_rfl) rfl (by simp [Tryz.ntmps90]) ?_; simp only [Tryz.ntmps90, Tryz.results90]; simp [go_sem]
 intro b
 refine vmsetK_use keyedInt (hk 3 (by omega)) ?_
 simp [go_sem]
 refine vmsetK_use keyedInt (hk 4 (by omega)) ?_
 simp [go_sem]
 refine vmsetK_use keyedInt (hk 5 (by omega)) ?_
 simp [go_sem]
 refine vlookK_use keyedInt (hk k hn) _ zeroInt ?_
 simp [go_sem]
 have hk : k = 1 ∨ k = 2 ∨ k = 3 ∨ k = 4 ∨ k = 5 ∨ k = 6 := by omega
 rcases hk with rfl | rfl | rfl | rfl | rfl | rfl <;> simp [mget_mput, mget, isOpN]
theorem of_eq {l : List POp} (hu : Uniq l) {z : ByteArray} {k : Int} {o : POp} (h : ∃ j, j < l.length ∧ o = opAt l j ∧ o.text = z ∧ o.kind = k) (hh : opHas l z k = true) : o = opOf l z k := by
 obtain ⟨j, hj, rfl, e1, e2⟩ := h
 obtain ⟨i, hi, e3, e4, e5⟩ := opHas_has hh
 rw [e3]
 exact hu j i hj hi (e1.trans e4.symm) (by rw [e2, e5])
def lvN (l : List POp) (t : List PNode) (i j : Nat) : Int := if j < i then lvlN l (nodAt t j) else 0
def lvFill (l : List POp) (t : List PNode) (i j : Nat) : List AV := [.lit (.int .i64 (lvN l t i j))]
theorem lvFill_at (l : List POp) (t : List PNode) (i j : Nat) : lvFill l t i j = [.lit (.int .i64 (lvN l t i j))] := rfl
set_option maxRecDepth 100000 in
theorem c_levels (l : List POp) (hu : Uniq l) (b1 b2 : Nat) (es : List (Value × Value)) (hat : AtIs l l.length es) (t : List PNode) (ht : t.length ≤ 1048576) (hwt : ∀ i, i < t.length → (nodAt t i).wf) (hk : ∀ i, i < t.length → 1 ≤ (nodAt t i).kind ∧ (nodAt t i).kind ≤ 6) :
  VProc Tryz.prog 45 [.agg [.lit (.map (some b1)), .lit (.map (some b2))], .agg [.sl 4 t.length (nodCells t)]] [] [(b1, ⟨151, es⟩)] (fun av mem maps => (maps = [(b1, ⟨151, es⟩)] ∨ maps = [(b1, ⟨151, es⟩), (b1, ⟨151, es⟩)]) ∧ ((opdAll l t = true ∧ av = .tup [.own 0, .lit (.bool true)] ∧ mem = [some ⟨3, 1, t.length, lvFill l t t.length⟩]) ∨ (opdAll l t = false ∧ av = .tup [.lit (.slice none 0 0), .lit (.bool false)] ∧ mem = []))) := by
 have clt : ∀ (i : Nat) (c : AV), i < t.length → c ∈ nodCells t i → Closed c := fun i c _ h => nodClosed t i c h
 refine vproc_start Tryz.func45 (by kernel_rfl) rfl (by simp [Tryz.ntmps45]) ?_; simp only [Tryz.ntmps45, Tryz.results45]; simp [go_sem]
 refine ⟨by omega, by omega, by omega, by omega, ?_⟩
 refine vc_loop (fun i : Nat => i ≤ t.length ∧ ∀ j, j < i → isOpN (nodAt t j) = true → opHas l (nodAt t j).text ((nodAt t j).kind - 2) = true) (fun i => t.length - i)
  (fun i => ⟨[(2, .ptr 0 2 0 0), (6, .own 2), (17, .sl 4 t.length (nodCells t)), (18, .lit (.int .i64 t.length)), (19, .lit (.int .i64 i))], [some ⟨70, 2, 1, fun _ => [.lit (.map (some b1)), .lit (.map (some b2))]⟩, none, some ⟨3, 1, t.length, lvFill l t i⟩], [(b1, ⟨151, es⟩)], 0⟩) ⟨0, ⟨by omega, by simp⟩, ?_⟩ (fun i hi => ?_)
 ·simp [go_sem, lvFill, lvN]
  exact clt
 ·simp [go_sem, nodCells_at]
  have c1 := c_kindOf (nodAt t i)
  simp only [PNode.cells] at c1
  have next : i < t.length → (isOpN (nodAt t i) = true → opHas l (nodAt t i).text ((nodAt t i).kind - 2) = true) → i + 1 ≤ t.length ∧ ∀ j, j < i + 1 → isOpN (nodAt t j) = true → opHas l (nodAt t j).text ((nodAt t j).kind - 2) = true := fun h e => ⟨by omega, fun j hj => by
   rcases Nat.lt_succ_iff_lt_or_eq.mp hj with hj | rfl
   ·exact hi.2 j hj
   ·exact e⟩
  have fill : ∀ (h : i < t.length) (v : Int) (f : Nat → List AV), v = lvlN l (nodAt t i) → (∀ j, j < t.length → j ≠ i → f j = lvFill l t i j) → (f i).length = 1 → ∀ j, j < t.length → updF t.length f i 0 [AV.lit (.int .i64 v)] j = lvFill l t (i + 1) j ∧ ∀ c, c ∈ lvFill l t (i + 1) j → Bd 3 c := fun h v f hv hf hl j hj => by
   refine ⟨?_, fun c hc => by simp only [lvFill, List.mem_singleton] at hc; subst hc; exact .closed _ (.lit _)⟩
   rw [updF_at h hj]
   by_cases hji : j = i
   ·subst hji
    match hfi : f j, hl with
    | [x], _ => simp [splice, lvFill, lvN, hv]
   ·rw [if_neg hji, hf j hj hji]
    simp only [lvFill, lvN]
    by_cases h2 : j < i
    ·rw [if_pos h2, if_pos (by omega)]
    ·rw [if_neg h2, if_neg (by omega)]
  refine ⟨fun h => ⟨h, vcall_pure (c1 (hk i h)) ?_ ?_⟩, fun h => ?_⟩
  ·simp [go_sem]
  ·cases hop : isOpN (nodAt t i) with
   | false =>
    simp [go_sem]
    refine ⟨i + 1, next h (fun e => by rw [hop] at e; cases e), by omega, ⟨clt, wrap_succ (by omega)⟩, ?_⟩
    exact fill h 1001 _ (by simp [lvlN, hop]) (fun j _ _ => rfl) rfl
   | true =>
    have hop' := hop
    simp only [isOpN, decide_eq_true_eq] at hop'
    simp [go_sem, show (2 : Int) < (nodAt t i).kind by omega]
    refine vcall_share [] (c_of l hu b1 b2 es hat (nodAt t i).text (hwt i h) ((nodAt t i).kind - 2)) (by simp) ?_ ?_ ?_ ?_
    ·simp [go_sem]
    ·simp [go_sem]
    ·simp [go_sem]
    ·rintro av mem maps ⟨⟨o, rfl, ho⟩, rfl, rfl⟩
     cases hh : opHas l (nodAt t i).text ((nodAt t i).kind - 2) with
     | false =>
      simp [go_sem, POp.cells]
      refine ⟨rfl, [], [], by simp, by simp, by simp [go_sem], by simp [go_sem], by simp [go_sem], ?_⟩
      have hno : opdAll l t = false := all_false (p := fun i => !isOpN (nodAt t i) || opHas l (nodAt t i).text ((nodAt t i).kind - 2)) h (by simp [hop, hh])
      simp [go_sem, hno]
     | true =>
      have he := of_eq hu (ho hh) hh
      simp [go_sem, POp.cells]
      refine ⟨h, i + 1, next h (fun _ => hh), by omega, ⟨clt, wrap_succ (by omega)⟩, ?_⟩
      refine fill h _ _ (by simp [lvlN, hop, ndOp, he]) (fun j hj hji => ?_) ?_
      ·rw [updF_at h hj, if_neg hji]
      ·rw [updF_at h h, if_pos rfl]; rfl
  ·have hl1 : i = t.length := by omega
   subst hl1
   have hall : opdAll l t = true := by
    refine List.all_eq_true.2 fun j hj => ?_
    cases hk : isOpN (nodAt t j) with
    | false => rfl
    | true => simp [hi.2 j (List.mem_range.1 hj) hk]
   refine ⟨rfl, [2], [some ⟨3, 1, t.length, lvFill l t t.length⟩], by simp, by simp, by simp [go_sem], ?_, by simp [go_sem], ?_⟩
   ·simp [go_sem]
    exact outAt_lits (fun _ _ => rfl) (fun _ _ => rfl)
   ·simp [go_sem, hall]
theorem c_leasts (l : List POp) (hw : opsWf l) (hu : Uniq l) (b1 b2 : Nat) (es : List (Value × Value)) (hat : AtIs l l.length es) (n : PNode) (hn : n.wf) (hk : 1 ≤ n.kind ∧ n.kind ≤ 6) (hh : isOpN n = true → opHas l n.text (n.kind - 2) = true) :
  VProc Tryz.prog 46 [.agg [.lit (.map (some b1)), .lit (.map (some b2))], .agg n.cells] [] [(b1, ⟨151, es⟩)] (fun av mem maps => (maps = [(b1, ⟨151, es⟩)] ∨ maps = [(b1, ⟨151, es⟩), (b1, ⟨151, es⟩)]) ∧ mem = [] ∧ av = .tup [.lit (.int .i64 (if isOpN n then hole (ndOp l n) false else 0)), .lit (.int .i64 (if isOpN n then hole (ndOp l n) true else 0))]) := by
 have c1 := c_kindOf n hk
 simp only [PNode.cells] at c1 ⊢
 refine vproc_start Tryz.func46 (by kernel_rfl) rfl (by simp [Tryz.ntmps46]) ?_; simp only [Tryz.ntmps46, Tryz.results46]; simp [go_sem]
 refine vcall_pure c1 ?_ ?_
 ·simp [go_sem]
 ·cases hop : isOpN n with
  | false =>
   simp [go_sem]
   refine ⟨rfl, [], [], by simp, by simp, by simp [go_sem], by simp [go_sem], by simp [go_sem], ?_⟩
   simp [go_sem]
  | true =>
   have hop' := hop
   simp only [isOpN, decide_eq_true_eq] at hop'
   simp [go_sem, show ¬ n.kind - 2 = 0 by omega]
   refine vcall_share [] (c_of l hu b1 b2 es hat n.text hn (n.kind - 2)) (by simp) ?_ ?_ ?_ ?_
   ·simp [go_sem]
   ·simp [go_sem]
   ·simp [go_sem]
   ·rintro av mem maps ⟨⟨o, rfl, ho⟩, rfl, rfl⟩
    have he := of_eq hu (ho (hh hop)) (hh hop)
    have howf : o.wf := by rw [he]; exact opAt_wf hw (hh hop)
    have c2 := c_Hole o howf
    simp only [POp.cells] at c2 ⊢
    simp [go_sem]
    refine vc_drawn [] (.q 0 <| .q 2 <| .or 1 (.or 3 (.q 4 <| .q 5 <| .done) (.nil)) (.nil)) (by kernel_rfl) ?_
    simp [go_sem]
    refine vcallV_pure (c2 false) ?_ ?_
    ·simp [go_sem]
    ·simp [go_sem]
     refine vcallV_pure (c2 true) ?_ ?_
     ·simp [go_sem]
     ·simp [go_sem]
      refine ⟨rfl, [], [], by simp, by simp, by simp [go_sem], by simp [go_sem], by simp [go_sem], ?_⟩
      simp [go_sem, ndOp, he]
theorem hole_pos {o : POp} (h : opOk o = true) : 0 < hole o false := by
 have h' := h
 simp only [opOk, Bool.and_eq_true, decide_eq_true_eq] at h'
 unfold hole
 rw [h]
 simp
 split <;> omega
theorem hole_two {o : POp} (h : opOk o = true) : 0 < hole o true ↔ o.kind = 2 := by
 have h' := h
 simp only [opOk, Bool.and_eq_true, decide_eq_true_eq] at h'
 unfold hole
 rw [h]
 simp
 by_cases hk : o.kind = 2
 ·simp [hk]
  split <;> omega
 ·simp [hk]
theorem tbl_ops {l : List POp} (h : tblOk l = 0) {z : ByteArray} {k : Int} (hh : opHas l z k = true) : opOk (opOf l z k) = true ∧ (opOf l z k).kind = k ∧ (opOf l z k).text = z := by
 obtain ⟨i, hi, e1, e2, e3⟩ := opHas_has hh
 have ho : tblOps l = true := by
  unfold tblOk at h
  split at h
  ·cases h
  ·split at h
   ·cases h
   ·rename_i hx
    cases hy : tblOps l with
    | true => rfl
    | false => exact absurd hy hx
 rw [e1]
 exact ⟨List.all_eq_true.1 ho i (List.mem_range.2 hi), e3, e2⟩
set_option maxRecDepth 100000 in
theorem c_TreeOk (l : List POp) (hl : l.length ≤ 9223372036854775807) (hw : opsWf l) (t : List PNode) (ht : t.length ≤ 1048576) (hwt : ∀ i, i < t.length → (nodAt t i).wf) : VFun Tryz.prog 16 [.agg [.sl 4 l.length (opCells l)], .agg [.sl 4 t.length (nodCells t)]] (fun av obs => obs = [] ∧ av = .lit (.int .i64 (treeOk l t))) := by
 have cl : ∀ (i : Nat) (c : AV), i < l.length → c ∈ opCells l i → Closed c := fun i c _ h => opClosed l i c h
 have clt : ∀ (i : Nat) (c : AV), i < t.length → c ∈ nodCells t i → Closed c := fun i c _ h => nodClosed t i c h
 refine vfun_start Tryz.func16 (by kernel_rfl) rfl (by simp [Tryz.ntmps16]) ?_; simp only [Tryz.ntmps16, Tryz.results16]; simp [go_sem]
 refine vcall_pure (c_TableOk l hl hw) ?_ ?_
 ·simp [go_sem]
  exact argSl_refl (by omega) cl
 ·simp [go_sem]
  refine ⟨fun h0 => by simp [treeOk, h0], fun h0 => ?_⟩
  have hu := uniq_of_ok h0
  refine vcall_share [] (c_indexOf l hl hw) (by simp) ?_ ?_ ?_ ?_
  ·simp [go_sem]
   exact cl
  ·simp [go_sem]
  ·simp [go_sem]
  ·rintro av mem maps ⟨b1, b2, e1, e2, rfl, rfl, rfl, hb, hat, htx⟩
   have hb' : ¬ b2 = b1 := fun e => hb e.symm
   simp [go_sem]
   refine vcall_pure (c_inOrder t (by omega) hwt) ?_ ?_
   ·simp [go_sem]
    exact argSl_refl (by omega) clt
   ·simp [go_sem]
    refine ⟨fun h1 => by simp [treeOk, h0, wellF, h1], fun h1 => ?_⟩
    have hkid := fun i hi => inOrd_kid h1 (i := i) hi
    refine vcall_share [] (c_levels l hu b1 b2 e1 hat t ht hwt fun i hi => (hkid i hi).2.1) (by simp) ?_ ?_ ?_ ?_
    ·simp [go_sem]
     exact clt
    ·simp [go_sem]
    ·simp [go_sem, hb']
    ·rintro av mem maps ⟨hm, ⟨h2, rfl, rfl⟩ | ⟨h2, rfl, rfl⟩⟩
     ·simp [go_sem]
      have hkind : ∀ i, i < t.length → isOpN (nodAt t i) = true → opHas l (nodAt t i).text ((nodAt t i).kind - 2) = true := fun i hi e => by
       have := List.all_eq_true.1 h2 i (List.mem_range.2 hi)
       simpa [e] using this
      refine ⟨by omega, ?_⟩
      refine vc_loopE (fun i : Nat => i ≤ t.length ∧ ∀ j, j < i → fitsN l t j = true) (fun i => t.length - i)
       (fun i => ⟨[(5, .ptr 0 2 0 0), (6, .own 1), (29, .sl 4 t.length (nodCells t)), (30, .lit (.int .i64 t.length)), (31, .lit (.int .i64 i))], [some ⟨70, 2, 1, fun _ => [.lit (.map (some b1)), .lit (.map (some b2))]⟩, some ⟨3, 1, t.length, lvFill l t t.length⟩], [(b1, ⟨151, e1⟩)], 0⟩) ⟨0, ⟨by omega, by simp⟩, ?_⟩ (fun i hi => ?_)
      ·refine ent_ks [2, 3] (by simp) (by simp) (by simp) (by simp) ?_ ?_ ?_
       ·rcases hm with rfl | rfl <;> simp [go_sem, hb']
       ·simp [go_sem]
        exact clt
       ·simp [go_sem, lvFill]
      ·simp [go_sem, nodCells_at, lvFill_at]
       refine ⟨fun h => ⟨h, ?_⟩, fun h => ?_⟩
       ·have c1 := c_leasts l hw hu b1 b2 e1 hat (nodAt t i) (hwt i h) (hkid i h).2.1 (hkind i h)
        simp only [PNode.cells] at c1
        have next : fitsN l t i = true → i + 1 ≤ t.length ∧ ∀ j, j < i + 1 → fitsN l t j = true := fun e => ⟨by omega, fun j hj => by
         rcases Nat.lt_succ_iff_lt_or_eq.mp hj with hj | rfl
         ·exact hi.2 j hj
         ·exact e⟩
        have bad : fitsN l t i = false → treeOk l t = 3 := fun e => by
         simp only [treeOk, h0, wellF, h1, h2, all_false (p := fun i => fitsN l t i) h e]
         simp
        refine vcall_share [] c1 (by simp) ?_ ?_ ?_ ?_
        ·simp [go_sem]
        ·simp [go_sem]
        ·simp [go_sem]
        ·rintro av mem maps ⟨hm, rfl, rfl⟩
         cases hop : isOpN (nodAt t i) with
         | false =>
          simp [go_sem]
          refine ⟨i + 1, next (by simp [fitsN, hop]), by omega, ?_⟩
          refine ent_ks [0, 1] (by simp) (by simp) (by simp) (by simp) ?_ ?_ ?_
          ·rcases hm with rfl | rfl <;> simp [go_sem, hb']
          ·simp [go_sem]
           exact ⟨clt, wrap_succ (by omega)⟩
          ·simp [go_sem, lvFill]
         | true =>
          obtain ⟨q1, q2, q3, q4⟩ := wellF_fits (l := l) (by simp [wellF, h0, h1, h2]) h hop
          obtain ⟨g1, g2, g3⟩ := tbl_ops h0 q1
          have p1 : 0 < hole (ndOp l (nodAt t i)) false := hole_pos g1
          have p2 : 0 < hole (ndOp l (nodAt t i)) true ↔ (ndOp l (nodAt t i)).kind = 2 := hole_two g1
          have l1 : lvN l t t.length (nodAt t i).a.toNat = lvlN l (nodAt t (nodAt t i).a.toNat) := if_pos (by omega)
          have hop' := hop
          simp only [isOpN, decide_eq_true_eq] at hop'
          by_cases f1 : lvlN l (nodAt t (nodAt t i).a.toNat) < hole (ndOp l (nodAt t i)) false
          ·simp [go_sem, p1, lvFill_at, l1, f1]
           exact ⟨q2.1, q2.2, by omega, (bad (by simp [fitsN, hop]; omega)).symm⟩
          ·by_cases f2 : (nodAt t i).kind = 4
           ·have p3 : 0 < hole (ndOp l (nodAt t i)) true := p2.2 (by show (opOf l _ _).kind = 2; rw [g2]; omega)
            have k2 : kidsN (nodAt t i).kind = 2 := by simp [kidsN, f2]
            obtain ⟨q5, q6⟩ := q4 (by omega)
            have l2 : lvN l t t.length (nodAt t i).b.toNat = lvlN l (nodAt t (nodAt t i).b.toNat) := if_pos (by omega)
            by_cases f3 : lvlN l (nodAt t (nodAt t i).b.toNat) < hole (ndOp l (nodAt t i)) true
            ·simp [go_sem, p1, lvFill_at, l1, f1, p3, l2, f3]
             exact ⟨q2.1, q2.2, by omega, q5.1, q5.2, by omega, (bad (by simp [fitsN, hop, k2]; omega)).symm⟩
            ·simp [go_sem, p1, lvFill_at, l1, f1, p3, l2, f3]
             refine ⟨q2.1, q2.2, by omega, q5.1, q5.2, by omega, ?_⟩
             refine ⟨i + 1, next (by simp [fitsN, hop, k2]; omega), by omega, ?_⟩
             refine ent_ks [0, 1] (by simp) (by simp) (by simp) (by simp) ?_ ?_ ?_
             ·rcases hm with rfl | rfl <;> simp [go_sem, hb']
             ·simp [go_sem]
              exact ⟨clt, wrap_succ (by omega)⟩
             ·simp [go_sem, lvFill]
           ·have p3 : ¬ 0 < hole (ndOp l (nodAt t i)) true := fun hp => by
             have : (opOf l (nodAt t i).text ((nodAt t i).kind - 2)).kind = 2 := p2.1 hp
             rw [g2] at this; omega
            have k1 : kidsN (nodAt t i).kind = 1 := by
             have e35 : (nodAt t i).kind = 3 ∨ (nodAt t i).kind = 5 := by omega
             rcases e35 with e | e <;> simp [kidsN, e]
            simp [go_sem, p1, lvFill_at, l1, f1, p3]
            refine ⟨q2.1, q2.2, by omega, ?_⟩
            refine ⟨i + 1, next (by simp [fitsN, hop, k1]; omega), by omega, ?_⟩
            refine ent_ks [0, 1] (by simp) (by simp) (by simp) (by simp) ?_ ?_ ?_
            ·rcases hm with rfl | rfl <;> simp [go_sem, hb']
            ·simp [go_sem]
             exact ⟨clt, wrap_succ (by omega)⟩
            ·simp [go_sem, lvFill]
       ·have hl1 : i = t.length := by omega
        subst hl1
        simp only [treeOk, h0, wellF, h1, h2, all_true (p := fun i => fitsN l t i) (n := t.length) fun j hj => hi.2 j (by omega)]
        simp
     ·simp [go_sem]
      simp [treeOk, h0, wellF, h1, h2]
end Go.Proofs.YtjdmmhcogmepaaaGreatDoor.V
namespace Go.Proofs.YtjdmmhcogmepaaaGreatDoor.V
open Go.RowKit
def nodsWf (t : List PNode) : Prop := ∀ i, i < t.length → (nodAt t i).wf
def erT (t : List PNode) : Nat → List PNode × List Int
 | 0 => ([], [])
 | i + 1 => if (nodAt t i).kind = 6 then ((erT t i).1, (erT t i).2 ++ [(erT t i).2.getD (nodAt t i).a.toNat 0])
   else ((erT t i).1 ++ [⟨(nodAt t i).text, (nodAt t i).kind, if kidsN (nodAt t i).kind = 0 then 0 else (erT t i).2.getD (nodAt t i).a.toNat 0, if kidsN (nodAt t i).kind = 2 then (erT t i).2.getD (nodAt t i).b.toNat 0 else 0⟩], (erT t i).2 ++ [((erT t i).1.length : Int)])
def toN (t : List PNode) (j : Nat) : Int := (erT t (j + 1)).2.getD j 0
theorem erT_to_len (t : List PNode) : ∀ i, (erT t i).2.length = i
 | 0 => rfl
 | i + 1 => by simp only [erT]; split <;> simp [erT_to_len t i]
theorem erT_len (t : List PNode) : ∀ i, (erT t i).1.length ≤ i
 | 0 => by simp [erT]
 | i + 1 => by
  have := erT_len t i
  simp only [erT]
  split
  ·simp only; omega
  ·simp; omega
theorem erT_to (t : List PNode) (j : Nat) : ∀ i, j < i → (erT t i).2.getD j 0 = toN t j
 | 0, h => by omega
 | i + 1, h => by
  by_cases e : j = i
  ·subst e; rfl
  ·have := erT_to t j i (by omega)
   rw [← this]
   have hl := erT_to_len t i
   simp only [erT]
   split <;> (simp only [List.getD_eq_getElem?_getD]; rw [List.getElem?_append_left (by omega)])
theorem getD_last {l : List Int} {x : Int} {i : Nat} (h : l.length = i) : (l ++ [x]).getD i 0 = x := by
 subst h
 rw [List.getD_eq_getElem?_getD, List.getElem?_append_right (by omega)]
 simp
theorem toN_end {t : List PNode} : ∀ (i : Nat), i < t.length → 0 ≤ fromZ t i → 1 ≤ (erT t (i + 1)).1.length ∧ toN t i = (erT t (i + 1)).1.length - 1 := by
 intro i
 induction i using Nat.strongRecOn with
 | ind i ih =>
  intro hi h0
  have hl := erT_to_len t i
  by_cases h6 : (nodAt t i).kind = 6
  ·have k1 : kidsN (nodAt t i).kind = 1 := by simp [kidsN, h6]
   rw [fromZ_eq, if_neg (by omega), if_pos k1] at h0
   split at h0
   ·omega
   ·rename_i hn
    have hi1 : 1 ≤ i := by
     by_cases hz : i = 0
     ·subst hz; rw [fromZ_neg t (by omega)] at h0; omega
     ·omega
    have e1 : (i : Int) - 1 = ((i - 1 : Nat) : Int) := by omega
    rw [e1] at h0
    have := ih (i - 1) (by omega) (by omega) h0
    rw [show i - 1 + 1 = i by omega] at this
    have ea : (nodAt t i).a.toNat = i - 1 := by omega
    unfold toN
    simp only [erT, h6, if_true]
    rw [getD_last hl, ea]
    rw [erT_to t (i - 1) i (by omega)]
    exact this
  ·unfold toN
   simp only [erT, if_neg h6]
   rw [getD_last hl]
   simp
set_option maxRecDepth 100000 in
theorem c_l3Erased_step (t : List PNode) (ht : t.length ≤ 1048576) (hin : ∀ i, i < t.length → 0 ≤ fromZ t i) (i : Nat) (hi : i < t.length)
  (ih : ∀ j, j < i → VProc Tryz.prog 99 [.sl 4 t.length (nodCells t), .lit (.int .i64 j), .own 0] [nodRow (erT t (fromZ t j).toNat).1] [] (fun av mem maps => av = .own 1 ∧ mem = [none, nodRow (erT t (j + 1)).1] ∧ maps = [])) :
  VProc Tryz.prog 99 [.sl 4 t.length (nodCells t), .lit (.int .i64 i), .own 0] [nodRow (erT t (fromZ t i).toNat).1] [] (fun av mem maps => av = .own 1 ∧ mem = [none, nodRow (erT t (i + 1)).1] ∧ maps = []) := by
 have clt : ∀ (i : Nat) (c : AV), i < t.length → c ∈ nodCells t i → Closed c := fun i c _ h => nodClosed t i c h
 refine vproc_start Tryz.func99 (by kernel_rfl) rfl (by simp [Tryz.ntmps99]) ?_; simp only [Tryz.ntmps99, Tryz.results99]; simp [go_sem]
 have h0 := hin i hi
 have hlen := erT_len t
 have hk := fromZ_eq t i
 by_cases h6 : (nodAt t i).kind = 6
 ·have k1 : kidsN (nodAt t i).kind = 1 := by simp [kidsN, h6]
  rw [if_neg (by omega), if_pos k1] at hk
  split at hk
  ·omega
  ·rename_i hn
   have hi1 : 1 ≤ i := by
    by_cases hz : i = 0
    ·subst hz; rw [fromZ_neg t (i := ((0 : Nat) : Int) - 1) (by omega)] at hk; omega
    ·omega
   have ea : (nodAt t i).a = ((i - 1 : Nat) : Int) := by omega
   have ef : fromZ t i = fromZ t ((i - 1 : Nat) : Int) := by rw [hk]; congr 1; omega
   have e1 := ih (i - 1) (by omega)
   rw [← ef, show i - 1 + 1 = i by omega] at e1
   simp [go_sem, nodCells_at, nodRow, h6]
   refine ⟨hi, ?_⟩
   refine vcall_share [0] e1 (by simp) ?_ ?_ trivial ?_
   ·simp [go_sem, ea]
    exact clt
   ·simp [go_sem, nodRow]
    exact fun i _ => cellsRn_lits rfl
   ·rintro av mem maps ⟨rfl, rfl, rfl⟩
    simp [go_sem, nodRow]
    refine ⟨rfl, [2], [none, nodRow (erT t (i + 1)).1], by simp, by simp [go_sem], by simp [go_sem], ?_, by simp [go_sem], ?_⟩
    ·simp [go_sem, nodRow]
     exact outAt_same (by simp [erT, h6]) (fun j _ => rfl)
    ·simp [go_sem]
     rfl
 ·have eT : (erT t (i + 1)).1 = (erT t i).1 ++ [⟨(nodAt t i).text, (nodAt t i).kind, if kidsN (nodAt t i).kind = 0 then 0 else (erT t i).2.getD (nodAt t i).a.toNat 0, if kidsN (nodAt t i).kind = 2 then (erT t i).2.getD (nodAt t i).b.toNat 0 else 0⟩] := by
   simp only [erT, if_neg h6]
  have hli := hlen i
  by_cases k0 : kidsN (nodAt t i).kind = 0
  ·rw [if_pos k0] at hk
   split at hk
   ·omega
   ·rename_i hn
    rw [show (fromZ t i).toNat = i by omega]
    simp [k0] at eT
    simp [go_sem, nodCells_at, nodRow, h6]
    refine ⟨hi, vcall_pure (c_l3Kids (nodAt t i).kind) ?_ ?_⟩
    ·simp [go_sem]
    ·simp [go_sem, k0]
     refine vcall_pure (c_l3Kids (nodAt t i).kind) ?_ ?_
     ·simp [go_sem]
     ·simp [go_sem, k0]
      refine ⟨by omega, by omega, ?_⟩
      refine ⟨rfl, [4], [none, nodRow (erT t (i + 1)).1], by simp, by simp [go_sem], by simp [go_sem], ?_, by simp [go_sem], ?_⟩
      ·simp [go_sem, nodRow]
       exact outAt_app eT (fun j hj => nod_app (erT t i).1 ⟨(nodAt t i).text, (nodAt t i).kind, 0, 0⟩ j hj)
      ·simp [go_sem]
       rfl
  ·have k0' := k0
   rw [if_neg k0] at hk
   by_cases k1 : kidsN (nodAt t i).kind = 1
   ·rw [if_pos k1] at hk
    split at hk
    ·omega
    ·rename_i hn
     have hi1 : 1 ≤ i := by
      by_cases hz : i = 0
      ·subst hz; rw [fromZ_neg t (i := ((0 : Nat) : Int) - 1) (by omega)] at hk; omega
      ·omega
     have ea : (nodAt t i).a = ((i - 1 : Nat) : Int) := by omega
     have ef : fromZ t i = fromZ t ((i - 1 : Nat) : Int) := by rw [hk]; congr 1; omega
     have e1 := ih (i - 1) (by omega)
     rw [← ef, show i - 1 + 1 = i by omega] at e1
     have et := toN_end (i - 1) (by omega) (hin (i - 1) (by omega))
     rw [show i - 1 + 1 = i by omega] at et
     have e2 : (erT t i).2.getD (nodAt t i).a.toNat 0 = (erT t i).1.length - 1 := by
      rw [ea, Int.toNat_natCast, erT_to t (i - 1) i (by omega)]; exact et.2
     rw [e2] at eT
     have ew : IntKind.i64.wrap (((erT t i).1.length : Int) - 1) = ((erT t i).1.length : Int) - 1 := wrap_i64 (by omega)
     simp [k0, k1] at eT
     simp [go_sem, nodCells_at, nodRow, h6]
     refine ⟨hi, vcall_pure (c_l3Kids (nodAt t i).kind) ?_ ?_⟩
     ·simp [go_sem]
     ·simp [go_sem, k1]
      refine vcall_share [0] e1 (by simp) ?_ ?_ trivial ?_
      ·simp [go_sem, ea]
       exact clt
      ·simp [go_sem, nodRow]
       exact fun i _ => cellsRn_lits (nodLit _ i)
      ·rintro av mem maps ⟨rfl, rfl, rfl⟩
       simp [go_sem, nodRow, ew]
       refine ⟨by omega, vcall_pure (c_l3Kids (nodAt t i).kind) ?_ ?_⟩
       ·simp [go_sem]
       ·simp [go_sem, k1]
        refine ⟨by omega, by omega, ?_⟩
        refine ⟨rfl, [5], [none, nodRow (erT t (i + 1)).1], by simp, by simp [go_sem], by simp [go_sem], ?_, by simp [go_sem], ?_⟩
        ·simp [go_sem, nodRow]
         exact outAt_app eT (fun j hj => nod_app (erT t i).1 ⟨(nodAt t i).text, (nodAt t i).kind, ((erT t i).1.length : Int) - 1, 0⟩ j hj)
        ·simp [go_sem]
         rfl
   ·have k2 : kidsN (nodAt t i).kind = 2 := by rcases kidsN_cases (nodAt t i).kind with e | e | e <;> omega
    rw [if_neg k1] at hk
    split at hk
    ·omega
    ·rename_i hb
     split at hk
     ·omega
     ·rename_i hn
      have hi1 : 1 ≤ i := by
       by_cases hz : i = 0
       ·subst hz; rw [fromZ_neg t (i := ((0 : Nat) : Int) - 1) (by omega)] at hn; omega
       ·omega
      have eb : (nodAt t i).b = ((i - 1 : Nat) : Int) := by omega
      have ei : (i : Int) - 1 = ((i - 1 : Nat) : Int) := by omega
      rw [ei] at hk hn
      have hle := fromZ_le t (i := ((i - 1 : Nat) : Int)) (by omega)
      generalize hq : (nodAt t i).a.toNat = q at *
      have ea : (nodAt t i).a = (q : Int) := by omega
      have eq1 : (fromZ t ((i - 1 : Nat) : Int)).toNat = q + 1 := by omega
      have ef : fromZ t i = fromZ t (q : Int) := by rw [hk]; congr 1; omega
      have e1 := ih q (by omega)
      rw [← ef] at e1
      have e2 := ih (i - 1) (by omega)
      rw [show i - 1 + 1 = i by omega, eq1] at e2
      have et1 := toN_end q (by omega) (hin q (by omega))
      have et2 := toN_end (i - 1) (by omega) (hin (i - 1) (by omega))
      rw [show i - 1 + 1 = i by omega] at et2
      have g1 : (erT t i).2.getD q 0 = (erT t (q + 1)).1.length - 1 := by
       rw [erT_to t q i (by omega)]; exact et1.2
      have g2 : (erT t i).2.getD (nodAt t i).b.toNat 0 = (erT t i).1.length - 1 := by
       rw [eb, Int.toNat_natCast, erT_to t (i - 1) i (by omega)]; exact et2.2
      rw [g1, g2] at eT
      have hlq := hlen (q + 1)
      have ew1 : IntKind.i64.wrap (((erT t (q + 1)).1.length : Int) - 1) = ((erT t (q + 1)).1.length : Int) - 1 := wrap_i64 (by omega)
      have ew2 : IntKind.i64.wrap (((erT t i).1.length : Int) - 1) = ((erT t i).1.length : Int) - 1 := wrap_i64 (by omega)
      simp [k0, k2] at eT
      simp [go_sem, nodCells_at, nodRow, h6]
      refine ⟨hi, vcall_pure (c_l3Kids (nodAt t i).kind) ?_ ?_⟩
      ·simp [go_sem]
      ·simp [go_sem, k2]
       refine vcall_share [0] e1 (by simp) ?_ ?_ trivial ?_
       ·simp [go_sem, ea]
        exact clt
       ·simp [go_sem, nodRow]
        exact fun i _ => cellsRn_lits (nodLit _ i)
       ·rintro av mem maps ⟨rfl, rfl, rfl⟩
        simp [go_sem, nodRow, ew1]
        refine ⟨by omega, vcall_pure (c_l3Kids (nodAt t i).kind) ?_ ?_⟩
        ·simp [go_sem]
        ·simp [go_sem, k2]
         refine vcall_share [3] e2 (by simp) ?_ ?_ trivial ?_
         ·simp [go_sem, eb]
          exact clt
         ·simp [go_sem, nodRow]
          exact fun i _ => cellsRn_lits (nodLit _ i)
         ·rintro av mem maps ⟨rfl, rfl, rfl⟩
          simp [go_sem, nodRow, ew2]
          refine ⟨by omega, by omega, by omega, ?_⟩
          refine ⟨rfl, [6], [none, nodRow (erT t (i + 1)).1], by simp, by simp [go_sem], by simp [go_sem], ?_, by simp [go_sem], ?_⟩
          ·simp [go_sem, nodRow]
           exact outAt_app eT (fun j hj => nod_app (erT t i).1 ⟨(nodAt t i).text, (nodAt t i).kind, ((erT t (q + 1)).1.length : Int) - 1, ((erT t i).1.length : Int) - 1⟩ j hj)
          ·simp [go_sem]
           rfl
theorem c_l3Erased (t : List PNode) (ht : t.length ≤ 1048576) (hin : ∀ i, i < t.length → 0 ≤ fromZ t i) : ∀ (i : Nat), i < t.length → VProc Tryz.prog 99 [.sl 4 t.length (nodCells t), .lit (.int .i64 i), .own 0] [nodRow (erT t (fromZ t i).toNat).1] [] (fun av mem maps => av = .own 1 ∧ mem = [none, nodRow (erT t (i + 1)).1] ∧ maps = []) := by
 intro i
 induction i using Nat.strongRecOn with
 | ind i ih => exact fun hi => c_l3Erased_step t ht hin i hi fun j hj => ih j hj (by omega)
def erased (t : List PNode) : List PNode := if inOrd t then (erT t t.length).1 else []
theorem inOrd_all {t : List PNode} (h : inOrd t = true) : ∀ i, i < t.length → 0 ≤ fromZ t i := fun i hi => by
 simp only [inOrd, Bool.and_eq_true, decide_eq_true_eq] at h
 obtain ⟨⟨h1, h2⟩, h3⟩ := h
 have e1 : (t.length : Int) - 1 = ((t.length - 1 : Nat) : Int) := by omega
 rw [e1] at h2
 exact fromZ_all t (t.length - 1) i (by omega) (by omega) (by omega)
theorem inOrd_root {t : List PNode} (h : inOrd t = true) : 1 ≤ t.length ∧ t.length ≤ 20000 ∧ fromZ t ((t.length - 1 : Nat) : Int) = 0 := by
 simp only [inOrd, Bool.and_eq_true, decide_eq_true_eq] at h
 obtain ⟨⟨h1, h2⟩, h3⟩ := h
 have e1 : (t.length : Int) - 1 = ((t.length - 1 : Nat) : Int) := by omega
 rw [e1] at h2
 exact ⟨h1.1, h1.2, h2⟩
def erR (t : List PNode) (av : AV) (obs : List Ob) : Prop := (inOrd t = true ∧ av = .tup [.agg [.own 0], .lit (.bool true)] ∧ obs = [⟨77, 4, (erased t).length, nodCells (erased t)⟩]) ∨ (inOrd t = false ∧ av = .tup [.agg [.lit (.slice none 0 0)], .lit (.bool false)] ∧ obs = [])
theorem erR_own {t : List PNode} {av : AV} {obs : List Ob} (h : erR t av obs) : (av = .tup [.agg [.own 0], .lit (.bool (inOrd t))] ∧ obs = [⟨77, 4, (erased t).length, nodCells (erased t)⟩]) ∨ ∃ xs : List Value, av = .tup (.agg [.lit (.slice none 0 0)] :: xs.map .lit) ∧ obs = [] ∧
  (AV.tup (.agg [.own 0] :: xs.map .lit) = .tup [.agg [.own 0], .lit (.bool (inOrd t))] ∧ [(⟨77, 4, 0, nodCells []⟩ : Ob)] = [⟨77, 4, (erased t).length, nodCells (erased t)⟩]) := by
 rcases h with ⟨h1, rfl, rfl⟩ | ⟨h1, rfl, rfl⟩
 ·exact .inl ⟨by rw [h1], rfl⟩
 ·refine .inr ⟨[.bool false], rfl, rfl, ?_⟩
  have e : erased t = [] := by simp [erased, h1]
  rw [h1, e]
  exact ⟨rfl, rfl⟩
theorem c_specErase1 (t : List PNode) (ht : t.length ≤ 1048576) (hwt : nodsWf t) : VFun Tryz.prog 55 [.agg [.sl 4 t.length (nodCells t)]] (erR t) := by
 have clt : ∀ (i : Nat) (c : AV), i < t.length → c ∈ nodCells t i → Closed c := fun i c _ h => nodClosed t i c h
 refine vfun_start Tryz.func55 (by kernel_rfl) rfl (by simp [Tryz.ntmps55]) ?_; simp only [Tryz.ntmps55, Tryz.results55]; simp [go_sem]
 refine vcall_pure (c_l3InOrder t (by omega) hwt) ?_ ?_
 ·simp [go_sem]
  exact argSl_refl (by omega) clt
 ·cases h1 : inOrd t with
  | false => simp [go_sem, erR, h1]
  | true =>
   obtain ⟨g1, g2, g3⟩ := inOrd_root h1
   have e1 : IntKind.i64.wrap ((t.length : Int) - 1) = ((t.length - 1 : Nat) : Int) := by rw [wrap_i64 (by omega)]; omega
   have c1 := c_l3Erased t ht (inOrd_all h1) (t.length - 1) (by omega)
   rw [g3, show t.length - 1 + 1 = t.length by omega] at c1
   simp [go_sem, e1]
   refine ⟨by omega, ?_⟩
   refine vcall_share [2] c1 (by simp) ?_ ?_ trivial ?_
   ·simp [go_sem]
    exact clt
   ·simp [go_sem, nodRow, erT]
   ·rintro av mem maps ⟨rfl, rfl, rfl⟩
    simp [go_sem, nodRow]
    refine ⟨_, obsSame_one.mpr ⟨⟨77, 4, (erT t t.length).1.length, nodCells (erT t t.length).1⟩, ⟨rfl, rfl, rfl, fun j hj => ⟨rfl, nodLit _ j⟩⟩, rfl⟩, ?_⟩
    exact .inl ⟨h1, rfl, by simp [erased, h1]⟩
theorem c_specErase (t : List PNode) (ht : t.length ≤ 1048576) (hwt : nodsWf t) : VFun Tryz.prog 55 [.agg [.sl 4 t.length (nodCells t)]] (fun av obs => av = .tup [.agg [.own 0], .lit (.bool (inOrd t))] ∧ obs = [⟨77, 4, (erased t).length, nodCells (erased t)⟩]) :=
 (c_specErase1 t ht hwt).adoptA 77 4 (by omega) (nodCells []) fun av obs h => erR_own h
theorem inOrd_zero {t : List PNode} {i : Nat} (h0 : 0 ≤ fromZ t i) : (kidsN (nodAt t i).kind = 0 → (nodAt t i).a = 0 ∧ (nodAt t i).b = 0) ∧ (kidsN (nodAt t i).kind = 1 → (nodAt t i).b = 0) := by
 rw [fromZ_eq] at h0
 refine ⟨fun k => ?_, fun k => ?_⟩
 ·rw [if_pos k] at h0
  split at h0
  ·omega
  ·omega
 ·rw [if_neg (by omega), if_pos k] at h0
  split at h0
  ·omega
  ·omega
theorem erased_len (t : List PNode) : (erased t).length ≤ t.length := by
 unfold erased
 split
 ·exact erT_len t _
 ·simp
end Go.Proofs.YtjdmmhcogmepaaaGreatDoor.V
namespace Go.Proofs.YtjdmmhcogmepaaaGreatDoor.V
open Go.Proofs.YtjdmmhcogmepaaaGreatDoor.Ops (Tr)
def treesOf (l : List POp) (t : List PNode) : Nat → List ET
 | 0 => []
 | i + 1 => treesOf l t i ++ [
  if (nodAt t i).kind = 6 then .grp ((treesOf l t i).getD (nodAt t i).a.toNat ET.nil)
  else if (nodAt t i).kind = 3 then .pre (ndOp l (nodAt t i)) ((treesOf l t i).getD (nodAt t i).a.toNat ET.nil)
  else if (nodAt t i).kind = 5 then .post (ndOp l (nodAt t i)) ((treesOf l t i).getD (nodAt t i).a.toNat ET.nil)
  else if (nodAt t i).kind = 4 then .inf (ndOp l (nodAt t i)) ((treesOf l t i).getD (nodAt t i).a.toNat ET.nil) ((treesOf l t i).getD (nodAt t i).b.toNat ET.nil)
  else .leaf ((nodAt t i).kind, (nodAt t i).text)]
def treeOf (l : List POp) (t : List PNode) (i : Nat) : ET := (treesOf l t (i + 1)).getD i ET.nil
theorem treesOf_len (l : List POp) (t : List PNode) : ∀ i, (treesOf l t i).length = i
 | 0 => rfl
 | i + 1 => by simp [treesOf, treesOf_len l t i]
theorem treesOf_at (l : List POp) (t : List PNode) (j : Nat) : ∀ i, j < i → (treesOf l t i).getD j ET.nil = treeOf l t j
 | 0, h => by omega
 | i + 1, h => by
  by_cases e : j = i
  ·subst e; rfl
  ·have := treesOf_at l t j i (by omega)
   rw [← this]
   have hl := treesOf_len l t i
   simp only [treesOf, List.getD_eq_getElem?_getD]
   rw [List.getElem?_append_left (by omega)]
theorem treeOf_eq {l : List POp} {t : List PNode} {i : Nat} (h0 : 0 ≤ fromZ t i) (hk : 1 ≤ (nodAt t i).kind ∧ (nodAt t i).kind ≤ 6) : treeOf l t i =
  if (nodAt t i).kind = 6 then .grp (treeOf l t (nodAt t i).a.toNat)
  else if (nodAt t i).kind = 3 then .pre (ndOp l (nodAt t i)) (treeOf l t (nodAt t i).a.toNat)
  else if (nodAt t i).kind = 5 then .post (ndOp l (nodAt t i)) (treeOf l t (nodAt t i).a.toNat)
  else if (nodAt t i).kind = 4 then .inf (ndOp l (nodAt t i)) (treeOf l t (nodAt t i).a.toNat) (treeOf l t (nodAt t i).b.toNat)
  else .leaf ((nodAt t i).kind, (nodAt t i).text) := by
 have hl := treesOf_len l t i
 have e : treeOf l t i = if (nodAt t i).kind = 6 then .grp ((treesOf l t i).getD (nodAt t i).a.toNat ET.nil)
  else if (nodAt t i).kind = 3 then .pre (ndOp l (nodAt t i)) ((treesOf l t i).getD (nodAt t i).a.toNat ET.nil)
  else if (nodAt t i).kind = 5 then .post (ndOp l (nodAt t i)) ((treesOf l t i).getD (nodAt t i).a.toNat ET.nil)
  else if (nodAt t i).kind = 4 then .inf (ndOp l (nodAt t i)) ((treesOf l t i).getD (nodAt t i).a.toNat ET.nil) ((treesOf l t i).getD (nodAt t i).b.toNat ET.nil)
  else .leaf ((nodAt t i).kind, (nodAt t i).text) := by
  unfold treeOf
  simp only [treesOf, List.getD_eq_getElem?_getD]
  rw [List.getElem?_append_right (by omega), hl]
  simp
 rw [e]
 have hk' : kidsN (nodAt t i).kind ≠ 0 → 0 ≤ (nodAt t i).a ∧ (nodAt t i).a < i := fun h => by
  rw [fromZ_eq, if_neg h] at h0
  have neg : ∀ z : Int, z = (i : Int) - 1 → 0 ≤ fromZ t z → 1 ≤ i := fun z hz hf => by
   by_cases hi : i = 0
   ·subst hi; rw [fromZ_neg t (by omega)] at hf; omega
   ·omega
  split at h0
  ·split at h0
   ·omega
   ·rename_i hn
    have := neg _ rfl h0
    omega
  ·split at h0
   ·omega
   ·split at h0
    ·omega
    ·rename_i hb hn
     have h1 := neg _ rfl (by omega)
     have := fromZ_le t (i := (i : Int) - 1) (by omega)
     omega
 have hb' : (nodAt t i).kind = 4 → 0 ≤ (nodAt t i).b ∧ (nodAt t i).b < i := fun h => by
  have k0 : ¬ kidsN (nodAt t i).kind = 0 := by simp [kidsN, h]
  have k1 : ¬ kidsN (nodAt t i).kind = 1 := by simp [kidsN, h]
  rw [fromZ_eq, if_neg k0, if_neg k1] at h0
  split at h0
  ·omega
  ·split at h0
   ·omega
   ·rename_i hb hn
    have : 1 ≤ i := by
     by_cases hi : i = 0
     ·subst hi; rw [fromZ_neg t (i := ((0 : Nat) : Int) - 1) (by omega)] at hn; omega
     ·omega
    omega
 split
 ·rename_i h
  have := hk' (by simp [kidsN, h])
  rw [treesOf_at l t _ i (by omega)]
 ·split
  ·rename_i h
   have := hk' (by simp [kidsN, h])
   rw [treesOf_at l t _ i (by omega)]
  ·split
   ·rename_i h
    have := hk' (by simp [kidsN, h])
    rw [treesOf_at l t _ i (by omega)]
   ·split
    ·rename_i h
     have h1 := hk' (by simp [kidsN, h])
     have h2 := hb' h
     rw [treesOf_at l t _ i (by omega), treesOf_at l t _ i (by omega)]
    ·rfl
def bare : ET → ET
 | .leaf b => .leaf b
 | .grp e => bare e
 | .pre o e => .pre o (bare e)
 | .post o e => .post o (bare e)
 | .inf o x y => .inf o (bare x) (bare y)
def grpd : ET → Int → ET
 | .leaf b, m => if 1001 < m then .grp (.leaf b) else .leaf b
 | .grp e, m => if 1001 < m then .grp (.grp (grpd e 0)) else .grp (grpd e 0)
 | .pre o e, m => if o.level < m then .grp (.pre o (grpd e (hole o false))) else .pre o (grpd e (hole o false))
 | .post o e, m => if o.level < m then .grp (.post o (grpd e (hole o false))) else .post o (grpd e (hole o false))
 | .inf o x y, m => if o.level < m then .grp (.inf o (grpd x (hole o false)) (grpd y (hole o true))) else .inf o (grpd x (hole o false)) (grpd y (hole o true))
def InTab (l : List POp) : ET → Prop
 | .leaf b => b.1 = 1 ∨ b.1 = 2
 | .grp e => InTab l e
 | .pre o e => o.kind = 1 ∧ opHas l o.text 1 = true ∧ opOf l o.text 1 = o ∧ InTab l e
 | .post o e => o.kind = 3 ∧ opHas l o.text 3 = true ∧ opOf l o.text 3 = o ∧ InTab l e
 | .inf o x y => o.kind = 2 ∧ opHas l o.text 2 = true ∧ opOf l o.text 2 = o ∧ InTab l x ∧ InTab l y
def sizeE : ET → Nat
 | .leaf _ => 1
 | .grp e => sizeE e + 1
 | .pre _ e => sizeE e + 1
 | .post _ e => sizeE e + 1
 | .inf _ x y => sizeE x + sizeE y + 1
theorem lay_len : ∀ (e : ET) (out : List PNode), (lay e out).length = out.length + sizeE e
 | .leaf b, out => by simp [lay, sizeE]
 | .grp e, out => by simp [lay, sizeE, lay_len e]; omega
 | .pre o e, out => by simp [lay, sizeE, lay_len e]; omega
 | .post o e, out => by simp [lay, sizeE, lay_len e]; omega
 | .inf o x y, out => by simp [lay, sizeE, lay_len x, lay_len y]; omega
theorem sizeE_pos (e : ET) : 1 ≤ sizeE e := by cases e <;> simp [sizeE]
theorem lay_pre : ∀ (e : ET) (out : List PNode) (j : Nat), j < out.length → nodAt (lay e out) j = nodAt out j
 | .leaf b, out, j, h => by simp only [lay, nodAt, List.getD_eq_getElem?_getD]; rw [List.getElem?_append_left h]
 | .grp e, out, j, h => by
  have := lay_pre e out j h
  have hl := lay_len e out
  simp only [lay, nodAt, List.getD_eq_getElem?_getD] at this ⊢
  rw [List.getElem?_append_left (by omega)]; exact this
 | .pre o e, out, j, h => by
  have := lay_pre e out j h
  have hl := lay_len e out
  simp only [lay, nodAt, List.getD_eq_getElem?_getD] at this ⊢
  rw [List.getElem?_append_left (by omega)]; exact this
 | .post o e, out, j, h => by
  have := lay_pre e out j h
  have hl := lay_len e out
  simp only [lay, nodAt, List.getD_eq_getElem?_getD] at this ⊢
  rw [List.getElem?_append_left (by omega)]; exact this
 | .inf o x y, out, j, h => by
  have h1 := lay_pre x out j h
  have hx := lay_len x out
  have h2 := lay_pre y (lay x out) j (by omega)
  have hy := lay_len y (lay x out)
  simp only [lay, nodAt, List.getD_eq_getElem?_getD] at h1 h2 ⊢
  rw [List.getElem?_append_left (by omega), h2]; exact h1
theorem nodAt_end (l : List PNode) (o : PNode) {i : Nat} (h : i = l.length) : nodAt (l ++ [o]) i = o := by
 subst h
 simp [nodAt, List.getD_eq_getElem?_getD]
theorem lay_tree {l : List POp} {t : List PNode} : ∀ (e : ET) (out : List PNode), InTab l e → (∀ j, j < (lay e out).length → nodAt t j = nodAt (lay e out) j) →
  fromZ t (((lay e out).length - 1 : Nat) : Int) = out.length ∧ treeOf l t ((lay e out).length - 1) = e := by
 intro e
 induction e with
 | leaf b =>
  intro out hT hn
  have hlen : (lay (.leaf b) out).length = out.length + 1 := by simp [lay]
  have hi := hn out.length (by omega)
  simp only [lay] at hi
  rw [nodAt_end _ _ rfl] at hi
  rw [hlen, show out.length + 1 - 1 = out.length by omega]
  have k : (nodAt t out.length).kind = b.1 := by rw [hi]
  have hk : b.1 = 1 ∨ b.1 = 2 := hT
  have k0 : kidsN (nodAt t out.length).kind = 0 := by rw [k]; rcases hk with e | e <;> simp [kidsN, e]
  have hf : fromZ t ((out.length : Nat) : Int) = out.length := by
   rw [fromZ_eq, if_pos k0, hi]; simp
  refine ⟨hf, ?_⟩
  rw [treeOf_eq (by omega) (by rw [k]; omega), k]
  rw [if_neg (by omega), if_neg (by omega), if_neg (by omega), if_neg (by omega), hi]
 | grp e ih =>
  intro out hT hn
  have hle := lay_len e out
  have hp := sizeE_pos e
  have hlen : (lay (.grp e) out).length = (lay e out).length + 1 := by simp [lay]
  have hi := hn (lay e out).length (by omega)
  simp only [lay] at hi
  rw [nodAt_end _ _ rfl] at hi
  obtain ⟨g1, g2⟩ := ih out hT fun j hj => by
   rw [hn j (by omega)]
   simp only [lay, nodAt, List.getD_eq_getElem?_getD]
   rw [List.getElem?_append_left hj]
  rw [hlen, show (lay e out).length + 1 - 1 = (lay e out).length by omega]
  generalize hq : (lay e out).length = q at *
  have ea : (nodAt t q).a = ((q - 1 : Nat) : Int) := by rw [hi]; simp only; omega
  have k : (nodAt t q).kind = 6 := by rw [hi]
  have k1 : kidsN (nodAt t q).kind = 1 := by rw [k]; rfl
  have hb : (nodAt t q).b = 0 := by rw [hi]
  have hf : fromZ t ((q : Nat) : Int) = out.length := by
   rw [fromZ_eq, if_neg (by omega), if_pos k1, if_neg (by rw [hb, ea]; omega), ← g1]
   congr 1; omega
  refine ⟨hf, ?_⟩
  rw [treeOf_eq (by omega) (by omega), if_pos k, ea, Int.toNat_natCast, g2]
 | pre o e ih =>
  intro out hT hn
  obtain ⟨o1, o2, o3, hT'⟩ := hT
  have hle := lay_len e out
  have hp := sizeE_pos e
  have hlen : (lay (.pre o e) out).length = (lay e out).length + 1 := by simp [lay]
  have hi := hn (lay e out).length (by omega)
  simp only [lay] at hi
  rw [nodAt_end _ _ rfl] at hi
  obtain ⟨g1, g2⟩ := ih out hT' fun j hj => by
   rw [hn j (by omega)]
   simp only [lay, nodAt, List.getD_eq_getElem?_getD]
   rw [List.getElem?_append_left hj]
  rw [hlen, show (lay e out).length + 1 - 1 = (lay e out).length by omega]
  generalize hq : (lay e out).length = q at *
  have ea : (nodAt t q).a = ((q - 1 : Nat) : Int) := by rw [hi]; simp only; omega
  have k : (nodAt t q).kind = 3 := by rw [hi]; simp only; omega
  have k1 : kidsN (nodAt t q).kind = 1 := by rw [k]; rfl
  have hb : (nodAt t q).b = 0 := by rw [hi]
  have hf : fromZ t ((q : Nat) : Int) = out.length := by
   rw [fromZ_eq, if_neg (by omega), if_pos k1, if_neg (by rw [hb, ea]; omega), ← g1]
   congr 1; omega
  refine ⟨hf, ?_⟩
  have hop : ndOp l (nodAt t q) = o := by
   unfold ndOp
   rw [k, hi]; exact o3
  rw [treeOf_eq (by omega) (by omega), if_neg (by omega), if_pos k, ea, Int.toNat_natCast, g2, hop]
 | post o e ih =>
  intro out hT hn
  obtain ⟨o1, o2, o3, hT'⟩ := hT
  have hle := lay_len e out
  have hp := sizeE_pos e
  have hlen : (lay (.post o e) out).length = (lay e out).length + 1 := by simp [lay]
  have hi := hn (lay e out).length (by omega)
  simp only [lay] at hi
  rw [nodAt_end _ _ rfl] at hi
  obtain ⟨g1, g2⟩ := ih out hT' fun j hj => by
   rw [hn j (by omega)]
   simp only [lay, nodAt, List.getD_eq_getElem?_getD]
   rw [List.getElem?_append_left hj]
  rw [hlen, show (lay e out).length + 1 - 1 = (lay e out).length by omega]
  generalize hq : (lay e out).length = q at *
  have ea : (nodAt t q).a = ((q - 1 : Nat) : Int) := by rw [hi]; simp only; omega
  have k : (nodAt t q).kind = 5 := by rw [hi]; simp only; omega
  have k1 : kidsN (nodAt t q).kind = 1 := by rw [k]; rfl
  have hb : (nodAt t q).b = 0 := by rw [hi]
  have hf : fromZ t ((q : Nat) : Int) = out.length := by
   rw [fromZ_eq, if_neg (by omega), if_pos k1, if_neg (by rw [hb, ea]; omega), ← g1]
   congr 1; omega
  refine ⟨hf, ?_⟩
  have hop : ndOp l (nodAt t q) = o := by
   unfold ndOp
   rw [k, hi]; exact o3
  rw [treeOf_eq (by omega) (by omega), if_neg (by omega), if_neg (by omega), if_pos k, ea, Int.toNat_natCast, g2, hop]
 | inf o x y ihx ihy =>
  intro out hT hn
  obtain ⟨o1, o2, o3, hTx, hTy⟩ := hT
  have hlx := lay_len x out
  have hpx := sizeE_pos x
  have hly := lay_len y (lay x out)
  have hpy := sizeE_pos y
  have hlen : (lay (.inf o x y) out).length = (lay y (lay x out)).length + 1 := by simp [lay]
  have hi := hn (lay y (lay x out)).length (by omega)
  simp only [lay] at hi
  rw [nodAt_end _ _ rfl] at hi
  have hny : ∀ j, j < (lay y (lay x out)).length → nodAt t j = nodAt (lay y (lay x out)) j := fun j hj => by
   rw [hn j (by omega)]
   simp only [lay, nodAt, List.getD_eq_getElem?_getD]
   rw [List.getElem?_append_left hj]
  obtain ⟨g3, g4⟩ := ihy (lay x out) hTy hny
  obtain ⟨g1, g2⟩ := ihx out hTx fun j hj => by rw [hny j (by omega), lay_pre y _ j hj]
  rw [hlen, show (lay y (lay x out)).length + 1 - 1 = (lay y (lay x out)).length by omega]
  generalize hq : (lay y (lay x out)).length = q at *
  generalize hr : (lay x out).length = r at *
  have ea : (nodAt t q).a = ((r - 1 : Nat) : Int) := by rw [hi]; simp only; omega
  have eb : (nodAt t q).b = ((q - 1 : Nat) : Int) := by rw [hi]; simp only; omega
  have k : (nodAt t q).kind = 4 := by rw [hi]; simp only; omega
  have k2 : kidsN (nodAt t q).kind = 2 := by rw [k]; rfl
  have e1 : ((q : Nat) : Int) - 1 = ((q - 1 : Nat) : Int) := by omega
  have hf : fromZ t ((q : Nat) : Int) = out.length := by
   rw [fromZ_eq, if_neg (by omega), if_neg (by omega), e1, g3, if_neg (by rw [eb]; omega), if_neg (by rw [ea]; omega), ← g1]
   congr 1; omega
  refine ⟨hf, ?_⟩
  have hop : ndOp l (nodAt t q) = o := by
   unfold ndOp
   rw [k, hi]; exact o3
  rw [treeOf_eq (by omega) (by omega), if_neg (by omega), if_neg (by omega), if_neg (by omega), if_pos k, ea, eb, Int.toNat_natCast, Int.toNat_natCast, g2, g4, hop]
structure NodesOk (l : List POp) (t : List PNode) : Prop where
 ord : ∀ i, i < t.length → 0 ≤ fromZ t i
 txt : ∀ i, i < t.length → txtOk (nodAt t i) = true
 has : ∀ i, i < t.length → isOpN (nodAt t i) = true → opHas l (nodAt t i).text ((nodAt t i).kind - 2) = true
theorem NodesOk.kind {l : List POp} {t : List PNode} (h : NodesOk l t) {i : Nat} (hi : i < t.length) : 1 ≤ (nodAt t i).kind ∧ (nodAt t i).kind ≤ 6 :=
 Decidable.byContradiction fun hn => by have := h.txt i hi; rw [txtOk_range hn] at this; cases this
theorem nodesOk_of {l : List POp} {t : List PNode} (h : wellF l t = true) : NodesOk l t := by
 simp only [wellF, Bool.and_eq_true, opdAll] at h
 obtain ⟨⟨h1, h2⟩, h3⟩ := h
 refine ⟨inOrd_all h2, fun i hi => (inOrd_kid h2 hi).1, fun i hi e => ?_⟩
 have := List.all_eq_true.1 h3 i (List.mem_range.2 hi)
 simpa [e] using this
theorem ndOp_eq {l : List POp} {n : PNode} (h : opHas l n.text (n.kind - 2) = true) : (ndOp l n).text = n.text ∧ (ndOp l n).kind = n.kind - 2 := by
 obtain ⟨i, hi, e1, e2, e3⟩ := opHas_has h
 unfold ndOp
 rw [e1]; exact ⟨e2, e3⟩
theorem take_succ_nod {t : List PNode} {i : Nat} (h : i < t.length) : t.take (i + 1) = t.take i ++ [nodAt t i] := by
 rw [List.take_add_one, List.getElem?_eq_getElem h]
 simp [nodAt, List.getD_eq_getElem?_getD, h]
theorem node_ext {a b : PNode} (h1 : a.text = b.text) (h2 : a.kind = b.kind) (h3 : a.a = b.a) (h4 : a.b = b.b) : a = b := by
 cases a; cases b; simp_all
theorem tree_lay {l : List POp} {t : List PNode} (h : NodesOk l t) : ∀ (i : Nat), i < t.length → t.take (i + 1) = lay (treeOf l t i) (t.take (fromZ t i).toNat) ∧ InTab l (treeOf l t i) ∧
  (erT t (i + 1)).1 = lay (bare (treeOf l t i)) (erT t (fromZ t i).toNat).1 := by
 intro i
 induction i using Nat.strongRecOn with
 | ind i ih =>
  intro hi
  have h0 := h.ord i hi
  have hk := h.kind hi
  have htx := h.txt i hi
  rw [take_succ_nod hi, treeOf_eq h0 hk]
  have hz := inOrd_zero h0
  have hz1 : (nodAt t i).kind = 1 ∨ (nodAt t i).kind = 2 ∨ (nodAt t i).kind = 3 ∨ (nodAt t i).kind = 4 ∨ (nodAt t i).kind = 5 ∨ (nodAt t i).kind = 6 := by omega
  have leaf : kidsN (nodAt t i).kind = 0 → fromZ t i = i := fun k => by
   rw [fromZ_eq, if_pos k, if_neg (by have := hz.1 k; omega)]
  have one : kidsN (nodAt t i).kind = 1 → 1 ≤ i ∧ (nodAt t i).a = ((i - 1 : Nat) : Int) ∧ (nodAt t i).b = 0 ∧ fromZ t i = fromZ t ((i - 1 : Nat) : Int) := fun k => by
   have h0' := h0
   have hf := fromZ_eq t i
   rw [if_neg (by omega), if_pos k] at hf
   split at hf
   ·omega
   ·rename_i hn
    have hi1 : 1 ≤ i := by
     by_cases hz : i = 0
     ·subst hz; rw [fromZ_neg t (i := ((0 : Nat) : Int) - 1) (by omega)] at hf; omega
     ·omega
    refine ⟨hi1, by omega, by omega, ?_⟩
    rw [hf]; congr 1; omega
  have getd : ∀ {i : Nat}, i < t.length → 1 ≤ i → 1 ≤ (erT t i).1.length ∧ toN t (i - 1) = (erT t i).1.length - 1 := fun {i} hi h1 => by
   have := toN_end (i - 1) (by omega) (h.ord (i - 1) (by omega))
   rwa [show i - 1 + 1 = i by omega] at this
  have er6 : (nodAt t i).kind = 6 → (erT t (i + 1)).1 = (erT t i).1 := fun e => by simp [erT, e]
  have er : ¬ (nodAt t i).kind = 6 → (erT t (i + 1)).1 = (erT t i).1 ++ [⟨(nodAt t i).text, (nodAt t i).kind, if kidsN (nodAt t i).kind = 0 then 0 else (erT t i).2.getD (nodAt t i).a.toNat 0, if kidsN (nodAt t i).kind = 2 then (erT t i).2.getD (nodAt t i).b.toNat 0 else 0⟩] := fun e => by simp only [erT, if_neg e]
  have one' : kidsN (nodAt t i).kind = 1 → ¬ (nodAt t i).kind = 6 → (erT t (i + 1)).1 = (erT t i).1 ++ [⟨(nodAt t i).text, (nodAt t i).kind, (erT t i).1.length - 1, 0⟩] := fun k e => by
   obtain ⟨a1, a2, a3, a4⟩ := one k
   rw [er e, if_neg (by omega), if_neg (by omega), a2, Int.toNat_natCast, erT_to t _ i (by omega), (getd hi a1).2]
  have lenl : ∀ {q : Nat} (hq : q < t.length) {m : Nat}, t.take (q + 1) = lay (treeOf l t q) (t.take m) → (lay (treeOf l t q) (t.take m)).length = q + 1 := fun {q} hq {m} e => by
   rw [← e]; simp; omega
  rcases hz1 with e | e | e | e | e | e
  ·have k : kidsN (nodAt t i).kind = 0 := by simp [kidsN, e]
   have hf := leaf k
   obtain ⟨z1, z2⟩ := hz.1 k
   rw [er (by omega), if_pos k, if_neg (by omega)]
   simp only [e, if_neg (show ¬ (1 : Int) = 6 by decide), if_neg (show ¬ (1 : Int) = 3 by decide), if_neg (show ¬ (1 : Int) = 5 by decide), if_neg (show ¬ (1 : Int) = 4 by decide)]
   refine ⟨?_, .inl rfl, ?_⟩
   ·rw [hf, Int.toNat_natCast]
    simp only [lay]
    rw [node_ext (a := nodAt t i) (b := ⟨(nodAt t i).text, 1, 0, 0⟩) rfl e z1 z2]
   ·rw [hf, Int.toNat_natCast]; rfl
  ·have k : kidsN (nodAt t i).kind = 0 := by simp [kidsN, e]
   have hf := leaf k
   obtain ⟨z1, z2⟩ := hz.1 k
   rw [er (by omega), if_pos k, if_neg (by omega)]
   simp only [e, if_neg (show ¬ (2 : Int) = 6 by decide), if_neg (show ¬ (2 : Int) = 3 by decide), if_neg (show ¬ (2 : Int) = 5 by decide), if_neg (show ¬ (2 : Int) = 4 by decide)]
   refine ⟨?_, .inr rfl, ?_⟩
   ·rw [hf, Int.toNat_natCast]
    simp only [lay]
    rw [node_ext (a := nodAt t i) (b := ⟨(nodAt t i).text, 2, 0, 0⟩) rfl e z1 z2]
   ·rw [hf, Int.toNat_natCast]; rfl
  ·have k : kidsN (nodAt t i).kind = 1 := by simp [kidsN, e]
   obtain ⟨a1, a2, a3, a4⟩ := one k
   obtain ⟨g1, g2, g3⟩ := ih (i - 1) (by omega) (by omega)
   have hl := lenl (by omega) g1
   rw [← a4, show i - 1 + 1 = i by omega] at g1 g3
   rw [← a4] at hl
   have hh := h.has i hi (by simp [isOpN, e])
   obtain ⟨p1, p2⟩ := ndOp_eq hh
   rw [e] at p2 hh
   rw [one' k (by omega)]
   simp only [if_neg (show ¬ (nodAt t i).kind = 6 by omega), if_pos e, a2, Int.toNat_natCast]
   refine ⟨?_, ⟨p2, by rw [p1]; exact hh, ?_, g2⟩, ?_⟩
   ·simp only [lay]
    rw [← g1] at hl ⊢
    exact congrArg (fun x => t.take i ++ [x]) (node_ext (a := nodAt t i) (b := ⟨(ndOp l (nodAt t i)).text, (ndOp l (nodAt t i)).kind + 2, (t.take i).length - 1, 0⟩) p1.symm (by simp only; omega) (by simp only; omega) a3)
   ·rw [p1]; unfold ndOp; rw [e]; rfl
   ·simp only [bare, lay]
    rw [← g3, p1, p2, e]; rfl
  ·have k : kidsN (nodAt t i).kind = 2 := by simp [kidsN, e]
   have hf := fromZ_eq t i
   rw [if_neg (by omega), if_neg (by omega)] at hf
   split at hf
   ·omega
   ·rename_i hb
    split at hf
    ·omega
    ·rename_i hn
     have hi1 : 1 ≤ i := by
      by_cases hz : i = 0
      ·subst hz; rw [fromZ_neg t (i := ((0 : Nat) : Int) - 1) (by omega)] at hn; omega
      ·omega
     have eb : (nodAt t i).b = ((i - 1 : Nat) : Int) := by omega
     have ei : (i : Int) - 1 = ((i - 1 : Nat) : Int) := by omega
     rw [ei] at hf hn
     have hle := fromZ_le t (i := ((i - 1 : Nat) : Int)) (by omega)
     obtain ⟨q, hq⟩ : ∃ q : Nat, (nodAt t i).a = (q : Int) := ⟨(nodAt t i).a.toNat, by omega⟩
     have eq1 : (fromZ t ((i - 1 : Nat) : Int)).toNat = q + 1 := by omega
     have ef : fromZ t i = fromZ t (q : Int) := by rw [hf]; congr 1; omega
     obtain ⟨g1, g2, g3⟩ := ih q (by omega) (by omega)
     obtain ⟨f1, f2, f3⟩ := ih (i - 1) (by omega) (by omega)
     have hl1 := lenl (by omega) g1
     have hl2 := lenl (by omega) f1
     rw [← ef] at g1 g3 hl1
     rw [show i - 1 + 1 = i by omega, eq1] at f1 f3
     rw [eq1] at hl2
     have hh := h.has i hi (by simp [isOpN, e])
     obtain ⟨p1, p2⟩ := ndOp_eq hh
     rw [e] at p2 hh
     have et1 := toN_end q (by omega) (h.ord q (by omega))
     have et2 := getd hi hi1
     rw [er (by omega), if_neg (by omega), if_pos k, hq, eb, Int.toNat_natCast, Int.toNat_natCast, erT_to t _ i (by omega), erT_to t _ i (by omega), et1.2, et2.2]
     simp only [if_neg (show ¬ (nodAt t i).kind = 6 by omega), if_neg (show ¬ (nodAt t i).kind = 3 by omega), if_neg (show ¬ (nodAt t i).kind = 5 by omega), if_pos e]
     refine ⟨?_, ⟨p2, by rw [p1]; exact hh, ?_, g2, f2⟩, ?_⟩
     ·simp only [lay]
      rw [← g1] at hl1 ⊢
      rw [← f1] at hl2 ⊢
      exact congrArg (fun x => t.take i ++ [x]) (node_ext (a := nodAt t i) (b := ⟨(ndOp l (nodAt t i)).text, (ndOp l (nodAt t i)).kind + 2, (t.take (q + 1)).length - 1, (t.take i).length - 1⟩) p1.symm (by simp only; omega) (by simp only; omega) (by simp only; omega))
     ·rw [p1]; unfold ndOp; rw [e]; rfl
     ·simp only [bare, lay]
      rw [← g3, ← f3, p1, p2, e]; rfl
  ·have k : kidsN (nodAt t i).kind = 1 := by simp [kidsN, e]
   obtain ⟨a1, a2, a3, a4⟩ := one k
   obtain ⟨g1, g2, g3⟩ := ih (i - 1) (by omega) (by omega)
   have hl := lenl (by omega) g1
   rw [← a4, show i - 1 + 1 = i by omega] at g1 g3
   rw [← a4] at hl
   have hh := h.has i hi (by simp [isOpN, e])
   obtain ⟨p1, p2⟩ := ndOp_eq hh
   rw [e] at p2 hh
   rw [one' k (by omega)]
   simp only [if_neg (show ¬ (nodAt t i).kind = 6 by omega), if_neg (show ¬ (nodAt t i).kind = 3 by omega), if_pos e, a2, Int.toNat_natCast]
   refine ⟨?_, ⟨p2, by rw [p1]; exact hh, ?_, g2⟩, ?_⟩
   ·simp only [lay]
    rw [← g1] at hl ⊢
    exact congrArg (fun x => t.take i ++ [x]) (node_ext (a := nodAt t i) (b := ⟨(ndOp l (nodAt t i)).text, (ndOp l (nodAt t i)).kind + 2, (t.take i).length - 1, 0⟩) p1.symm (by simp only; omega) (by simp only; omega) a3)
   ·rw [p1]; unfold ndOp; rw [e]; rfl
   ·simp only [bare, lay]
    rw [← g3, p1, p2, e]; rfl
  ·have k : kidsN (nodAt t i).kind = 1 := by simp [kidsN, e]
   obtain ⟨a1, a2, a3, a4⟩ := one k
   obtain ⟨g1, g2, g3⟩ := ih (i - 1) (by omega) (by omega)
   have hl := lenl (by omega) g1
   rw [← a4, show i - 1 + 1 = i by omega] at g1 g3
   rw [← a4] at hl
   have hx : (nodAt t i).text = ⟨#[]⟩ := by
    simp only [txtOk, e] at htx
    simp at htx
    exact htx.2
   rw [er6 e]
   simp only [if_pos e, a2, Int.toNat_natCast]
   refine ⟨?_, g2, ?_⟩
   ·simp only [lay]
    rw [← g1] at hl ⊢
    rw [node_ext (a := nodAt t i) (b := ⟨⟨#[]⟩, 6, (t.take i).length - 1, 0⟩) hx e (by simp only; omega) a3]
   ·simp only [bare]; exact g3
open Go.RowKit
def grpNode (n : Int) : PNode := ⟨⟨#[]⟩, 6, n, 0⟩
def closeG (b : Bool) (T : List PNode) : List PNode := if b then T ++ [grpNode (T.length - 1)] else T
theorem grpd_leaf {l : List POp} {t : List PNode} {i : Nat} (h : NodesOk l t) (hi : i < t.length) (k : (nodAt t i).kind = 1 ∨ (nodAt t i).kind = 2) (m : Int) (out : List PNode) :
  lay (grpd (treeOf l t i) m) out = closeG (decide (lvlN l (nodAt t i) < m)) (out ++ [⟨(nodAt t i).text, (nodAt t i).kind, 0, 0⟩]) := by
 have hl : lvlN l (nodAt t i) = 1001 := by
  have : isOpN (nodAt t i) = false := by simp [isOpN]; omega
  simp [lvlN, this]
 rw [treeOf_eq (h.ord i hi) (h.kind hi), if_neg (by omega), if_neg (by omega), if_neg (by omega), if_neg (by omega), hl]
 by_cases hm : (1001 : Int) < m
 ·simp only [grpd, if_pos hm, lay, closeG, hm, decide_true, if_true, grpNode]
 ·simp only [grpd, if_neg hm, lay, closeG, hm, decide_false, Bool.false_eq_true, if_false]
theorem kids_of {t : List PNode} {i : Nat} (h0 : 0 ≤ fromZ t i) : (kidsN (nodAt t i).kind ≠ 0 → 0 ≤ (nodAt t i).a ∧ (nodAt t i).a < i) ∧ (kidsN (nodAt t i).kind = 2 → 0 ≤ (nodAt t i).b ∧ (nodAt t i).b < i) := by
 rw [fromZ_eq] at h0
 have neg : 0 ≤ fromZ t ((i : Int) - 1) → 1 ≤ i := fun hf => by
  by_cases hi : i = 0
  ·subst hi; rw [fromZ_neg t (i := ((0 : Nat) : Int) - 1) (by omega)] at hf; omega
  ·omega
 refine ⟨fun hk => ?_, fun hk => ?_⟩
 ·rw [if_neg hk] at h0
  split at h0
  ·split at h0
   ·omega
   ·have := neg h0; omega
  ·split at h0
   ·omega
   ·split at h0
    ·omega
    ·rename_i hb hn
     have h1 := neg (by omega)
     have := fromZ_le t (i := (i : Int) - 1) (by omega)
     omega
 ·rw [if_neg (by omega), if_neg (by omega)] at h0
  split at h0
  ·omega
  ·split at h0
   ·omega
   ·rename_i hb hn
    have h1 := neg (by omega)
    omega
theorem grpd_one {l : List POp} {t : List PNode} {i : Nat} (h : NodesOk l t) (hi : i < t.length) (k : (nodAt t i).kind = 3 ∨ (nodAt t i).kind = 5) (m : Int) (out : List PNode) :
  lay (grpd (treeOf l t i) m) out = closeG (decide (lvlN l (nodAt t i) < m)) (lay (grpd (treeOf l t (nodAt t i).a.toNat) (hole (ndOp l (nodAt t i)) false)) out ++ [⟨(nodAt t i).text, (nodAt t i).kind, (lay (grpd (treeOf l t (nodAt t i).a.toNat) (hole (ndOp l (nodAt t i)) false)) out).length - 1, 0⟩]) := by
 have ho : isOpN (nodAt t i) = true := by simp [isOpN]; omega
 have hl : lvlN l (nodAt t i) = (ndOp l (nodAt t i)).level := by simp [lvlN, ho]
 obtain ⟨p1, p2⟩ := ndOp_eq (h.has i hi ho)
 rw [treeOf_eq (h.ord i hi) (h.kind hi), hl]
 rcases k with k | k
 ·rw [if_neg (by omega), if_pos k]
  by_cases hm : (ndOp l (nodAt t i)).level < m
  ·simp only [grpd, if_pos hm, lay, closeG, hm, decide_true, if_true, grpNode, p1, p2, k]; rfl
  ·simp only [grpd, if_neg hm, lay, closeG, hm, decide_false, Bool.false_eq_true, if_false, p1, p2, k]; rfl
 ·rw [if_neg (by omega), if_neg (by omega), if_pos k]
  by_cases hm : (ndOp l (nodAt t i)).level < m
  ·simp only [grpd, if_pos hm, lay, closeG, hm, decide_true, if_true, grpNode, p1, p2, k]; rfl
  ·simp only [grpd, if_neg hm, lay, closeG, hm, decide_false, Bool.false_eq_true, if_false, p1, p2, k]; rfl
theorem grpd_two {l : List POp} {t : List PNode} {i : Nat} (h : NodesOk l t) (hi : i < t.length) (k : (nodAt t i).kind = 4) (m : Int) (out : List PNode) :
  lay (grpd (treeOf l t i) m) out = closeG (decide (lvlN l (nodAt t i) < m)) (lay (grpd (treeOf l t (nodAt t i).b.toNat) (hole (ndOp l (nodAt t i)) true)) (lay (grpd (treeOf l t (nodAt t i).a.toNat) (hole (ndOp l (nodAt t i)) false)) out) ++
   [⟨(nodAt t i).text, (nodAt t i).kind, (lay (grpd (treeOf l t (nodAt t i).a.toNat) (hole (ndOp l (nodAt t i)) false)) out).length - 1, (lay (grpd (treeOf l t (nodAt t i).b.toNat) (hole (ndOp l (nodAt t i)) true)) (lay (grpd (treeOf l t (nodAt t i).a.toNat) (hole (ndOp l (nodAt t i)) false)) out)).length - 1⟩]) := by
 have ho : isOpN (nodAt t i) = true := by simp [isOpN]; omega
 have hl : lvlN l (nodAt t i) = (ndOp l (nodAt t i)).level := by simp [lvlN, ho]
 obtain ⟨p1, p2⟩ := ndOp_eq (h.has i hi ho)
 rw [treeOf_eq (h.ord i hi) (h.kind hi), hl]
 rw [if_neg (by omega), if_neg (by omega), if_neg (by omega), if_pos k]
 by_cases hm : (ndOp l (nodAt t i)).level < m
 ·simp only [grpd, if_pos hm, lay, closeG, hm, decide_true, if_true, grpNode, p1, p2, k]; rfl
 ·simp only [grpd, if_neg hm, lay, closeG, hm, decide_false, Bool.false_eq_true, if_false, p1, p2, k]; rfl
theorem size_grpd : ∀ (e : ET) (m : Int), sizeE (grpd e m) ≤ 2 * sizeE e
 | .leaf b, m => by simp only [grpd]; split <;> simp [sizeE]
 | .grp e, m => by have := size_grpd e 0; simp only [grpd]; split <;> simp [sizeE] <;> omega
 | .pre o e, m => by have := size_grpd e (hole o false); simp only [grpd]; split <;> simp [sizeE] <;> omega
 | .post o e, m => by have := size_grpd e (hole o false); simp only [grpd]; split <;> simp [sizeE] <;> omega
 | .inf o x y, m => by have := size_grpd x (hole o false); have := size_grpd y (hole o true); simp only [grpd]; split <;> simp [sizeE] <;> omega
theorem size_tree {l : List POp} {t : List PNode} (h : NodesOk l t) {i : Nat} (hi : i < t.length) : sizeE (treeOf l t i) + (fromZ t i).toNat = i + 1 := by
 have := (tree_lay h i hi).1
 have hl := lay_len (treeOf l t i) (t.take (fromZ t i).toNat)
 rw [← this] at hl
 have h0 := h.ord i hi
 have hle := fromZ_le t (i := (i : Int)) (by omega)
 simp at hl
 omega
def grpG (l : List POp) (t : List PNode) (i : Nat) (m : Int) (out : List PNode) : List PNode := lay (grpd (treeOf l t i) m) out
theorem grpG_def (l : List POp) (t : List PNode) (i : Nat) (m : Int) (out : List PNode) : grpG l t i m out = lay (grpd (treeOf l t i) m) out := rfl
theorem grpG_len {l : List POp} {t : List PNode} (h : NodesOk l t) {i : Nat} (hi : i < t.length) (m : Int) (out : List PNode) : (grpG l t i m out).length ≤ out.length + 2 * (i + 1) - 2 * (fromZ t i).toNat := by
 have h1 := size_tree h hi
 have h2 := size_grpd (treeOf l t i) m
 unfold grpG
 rw [lay_len]
 omega
set_option maxRecDepth 100000 in
theorem c_l4Grouped_step (l : List POp) (hl : l.length ≤ 9223372036854775807) (hw : opsWf l) (t : List PNode) (ht : t.length ≤ 1048576) (h : NodesOk l t) (hng : ∀ i, i < t.length → ¬ (nodAt t i).kind = 6) (i : Nat) (hi : i < t.length) (m : Int) (out : List PNode) (ho : out.length + 2 * (i + 1 - (fromZ t i).toNat) ≤ 3000000)
  (ih : ∀ j, j < i → ∀ (m : Int) (out : List PNode), out.length + 2 * (j + 1 - (fromZ t j).toNat) ≤ 3000000 → VProc Tryz.prog 56 [.agg [.sl 4 l.length (opCells l)], .sl 4 t.length (nodCells t), .lit (.int .i64 j), .lit (.int .i64 m), .own 0] [nodRow out] [] (fun av mem maps => av = .own 1 ∧ mem = [none, nodRow (grpG l t j m out)] ∧ maps = [])) :
  VProc Tryz.prog 56 [.agg [.sl 4 l.length (opCells l)], .sl 4 t.length (nodCells t), .lit (.int .i64 i), .lit (.int .i64 m), .own 0] [nodRow out] [] (fun av mem maps => av = .own 1 ∧ mem = [none, nodRow (grpG l t i m out)] ∧ maps = []) := by
 have cl : ∀ (i : Nat) (c : AV), i < l.length → c ∈ opCells l i → Closed c := fun i c _ h => opClosed l i c h
 have clt : ∀ (i : Nat) (c : AV), i < t.length → c ∈ nodCells t i → Closed c := fun i c _ h => nodClosed t i c h
 have c1 := c_l3IsOp (nodAt t i)
 have c2 := c_l3Level l hl (nodAt t i) (h.has i hi)
 simp only [PNode.cells] at c1 c2
 refine vproc_start Tryz.func56 (by kernel_rfl) rfl (by simp [Tryz.ntmps56]) ?_; simp only [Tryz.ntmps56, Tryz.results56]; simp [go_sem]
 have hk := h.kind hi
 have h6 := hng i hi
 have hkids := kids_of (h.ord i hi)
 by_cases k0 : isOpN (nodAt t i) = true
 ·have hop' := k0
  simp only [isOpN, decide_eq_true_eq] at hop'
  have hh := h.has i hi k0
  have c3 := c_l3OpOf l hl (nodAt t i) k0 hh
  have c4 := c_l1Hole (ndOp l (nodAt t i)) (opAt_wf hw hh)
  simp only [PNode.cells, POp.cells] at c3 c4
  have hka : kidsN (nodAt t i).kind ≠ 0 := by
   rcases (by omega : (nodAt t i).kind = 3 ∨ (nodAt t i).kind = 4 ∨ (nodAt t i).kind = 5) with e | e | e <;> simp [kidsN, e]
  obtain ⟨ha1, ha2⟩ := hkids.1 hka
  obtain ⟨q, hq⟩ : ∃ q : Nat, (nodAt t i).a = (q : Int) := ⟨(nodAt t i).a.toNat, by omega⟩
  have h0 := h.ord i hi
  have hfi := fromZ_le t (i := (i : Int)) (by omega)
  have hfq : fromZ t (q : Int) = fromZ t i := by
   have hf := fromZ_eq t i
   have e0 : (i : Int) - 1 = ((i - 1 : Nat) : Int) ∨ i = 0 := by omega
   rw [if_neg hka] at hf
   split at hf
   ·split at hf
    ·omega
    ·rename_i hn
     rw [hf]; congr 1; omega
   ·split at hf
    ·omega
    ·split at hf
     ·omega
     ·rename_i hn
      rw [hf]; congr 1; omega
  have hq0 := fromZ_le t (i := (q : Int)) (by omega)
  have iq := ih q (by omega) (hole (ndOp l (nodAt t i)) false) out (by omega)
  have hlq := grpG_len h (i := q) (by omega) (hole (ndOp l (nodAt t i)) false) out
  generalize hO1 : grpG l t q (hole (ndOp l (nodAt t i)) false) out = O1 at *
  have ew1 : IntKind.i64.wrap ((O1.length : Int) - 1) = (O1.length : Int) - 1 := wrap_i64 (by omega)
  simp [go_sem, nodCells_at, nodRow]
  refine ⟨hi, vcall_pure c1 ?_ ?_⟩
  ·simp [go_sem]
  ·simp [go_sem, k0]
   refine vcall_val c3 ?_ ?_ ?_
   ·simp [go_sem]
    exact argSl_refl (by omega) cl
   ·simp [go_sem]
   ·simp [go_sem]
    refine vc_drawn [7] (.q 0 <| .q 1 <| .q 2 <| .q 3 <| .q 4 <| .q 6 <| .or 5 (.or 7 (.q 8 <| .done) (.nil)) (.nil)) (by kernel_rfl) ?_
    simp [go_sem]
    refine vcallV_pure (c4 false) ?_ ?_
    ·simp [go_sem]
    ·simp [go_sem]
     refine vcall_share [0] iq (by simp) ?_ ?_ trivial ?_
     ·simp [go_sem, hq]
      exact ⟨cl, clt⟩
     ·simp [go_sem, nodRow]
      exact fun i _ => cellsRn_lits (nodLit _ i)
     ·rintro av mem maps ⟨rfl, rfl, rfl⟩
      simp [go_sem, nodRow, ew1]
      refine ⟨by omega, vcall_pure (c_l3Kids (nodAt t i).kind) ?_ ?_⟩
      ·simp [go_sem]
      ·by_cases k4 : (nodAt t i).kind = 4
       ·have kd : kidsN (nodAt t i).kind = 2 := by simp [kidsN, k4]
        obtain ⟨hb1, hb2⟩ := hkids.2 kd
        obtain ⟨r, hr⟩ : ∃ r : Nat, (nodAt t i).b = (r : Int) := ⟨(nodAt t i).b.toNat, by omega⟩
        have hfr : (fromZ t (r : Int)).toNat = q + 1 := by
         have h0 := h.ord i hi
         rw [fromZ_eq, if_neg (by omega), if_neg (by omega)] at h0
         split at h0
         ·omega
         ·rename_i hb
          have er : (i : Int) - 1 = (r : Int) := by omega
          rw [er] at h0
          split at h0
          ·omega
          ·omega
        have ir := ih r (by omega) (hole (ndOp l (nodAt t i)) true) O1 (by omega)
        have hlr := grpG_len h (i := r) (by omega) (hole (ndOp l (nodAt t i)) true) O1
        have hG := grpd_two h hi k4 m out
        rw [hq, hr, Int.toNat_natCast, Int.toNat_natCast] at hG
        simp only [← grpG_def] at hG
        rw [hO1] at hG
        generalize hO2 : grpG l t r (hole (ndOp l (nodAt t i)) true) O1 = O2 at *
        have ew2 : IntKind.i64.wrap ((O2.length : Int) - 1) = (O2.length : Int) - 1 := wrap_i64 (by omega)
        simp [go_sem, kd]
        refine vc_drawn [7] (.q 0 <| .q 1 <| .q 2 <| .q 3 <| .q 4 <| .q 6 <| .or 5 (.or 7 (.q 8 <| .done) (.nil)) (.nil)) (by kernel_rfl) ?_
        simp [go_sem]
        refine vcallV_pure (c4 true) ?_ ?_
        ·simp [go_sem]
        ·simp [go_sem]
         refine vcall_share [5] ir (by simp) ?_ ?_ trivial ?_
         ·simp [go_sem, hr]
          exact ⟨cl, clt⟩
         ·simp [go_sem, nodRow]
          exact fun i _ => cellsRn_lits (nodLit _ i)
         ·rintro av mem maps ⟨rfl, rfl, rfl⟩
          simp [go_sem, nodRow, ew2]
          refine ⟨by omega, ?_⟩
          refine ⟨by omega, by omega, vcall_pure c2 ?_ ?_⟩
          ·simp [go_sem]
           exact argSl_refl (by omega) cl
          ·by_cases hm : lvlN l (nodAt t i) < m
           ·simp [hm, closeG] at hG
            have ew : IntKind.i64.wrap (O2.length : Int) = O2.length := wrap_i64 (by omega)
            simp [go_sem, hm, ew]
            refine ⟨by omega, by omega, by omega, ?_⟩
            refine ⟨rfl, [10], [none, nodRow (grpG l t i m out)], by simp, by simp [go_sem], by simp [go_sem], ?_, by simp [go_sem], ?_⟩
            ·simp [go_sem, nodRow]
             refine outAt_appF (T := O2 ++ [⟨(nodAt t i).text, (nodAt t i).kind, (O1.length : Int) - 1, (O2.length : Int) - 1⟩]) (o := grpNode O2.length) (by simp) (by rw [hG]; simp) fun j hj => ?_
             exact nod_appF (o := grpNode O2.length) (by simp) (fun j hj => nod_app O2 ⟨(nodAt t i).text, (nodAt t i).kind, (O1.length : Int) - 1, (O2.length : Int) - 1⟩ j hj) j hj
            ·simp [go_sem]
             rfl
           ·simp [hm, closeG] at hG
            simp [go_sem, hm]
            refine ⟨rfl, [8], [none, nodRow (grpG l t i m out)], by simp, by simp [go_sem], by simp [go_sem], ?_, by simp [go_sem], ?_⟩
            ·simp [go_sem, nodRow]
             exact outAt_app hG (fun j hj => nod_app O2 ⟨(nodAt t i).text, (nodAt t i).kind, (O1.length : Int) - 1, (O2.length : Int) - 1⟩ j hj)
            ·simp [go_sem]
             rfl
       ·have kk : (nodAt t i).kind = 3 ∨ (nodAt t i).kind = 5 := by omega
        have kd : kidsN (nodAt t i).kind = 1 := by rcases kk with e | e <;> simp [kidsN, e]
        have hG := grpd_one h hi kk m out
        rw [hq, Int.toNat_natCast] at hG
        simp only [← grpG_def] at hG
        rw [hO1] at hG
        simp [go_sem, kd]
        refine ⟨by omega, by omega, vcall_pure c2 ?_ ?_⟩
        ·simp [go_sem]
         exact argSl_refl (by omega) cl
        ·by_cases hm : lvlN l (nodAt t i) < m
         ·simp [hm, closeG] at hG
          have ew : IntKind.i64.wrap (O1.length : Int) = O1.length := wrap_i64 (by omega)
          simp [go_sem, hm, ew]
          refine ⟨by omega, by omega, by omega, ?_⟩
          refine ⟨rfl, [9], [none, nodRow (grpG l t i m out)], by simp, by simp [go_sem], by simp [go_sem], ?_, by simp [go_sem], ?_⟩
          ·simp [go_sem, nodRow]
           refine outAt_appF (T := O1 ++ [⟨(nodAt t i).text, (nodAt t i).kind, (O1.length : Int) - 1, 0⟩]) (o := grpNode O1.length) (by simp) (by rw [hG]; simp) fun j hj => ?_
           exact nod_appF (o := grpNode O1.length) (by simp) (fun j hj => nod_app O1 ⟨(nodAt t i).text, (nodAt t i).kind, (O1.length : Int) - 1, 0⟩ j hj) j hj
          ·simp [go_sem]
           rfl
         ·simp [hm, closeG] at hG
          simp [go_sem, hm]
          refine ⟨rfl, [7], [none, nodRow (grpG l t i m out)], by simp, by simp [go_sem], by simp [go_sem], ?_, by simp [go_sem], ?_⟩
          ·simp [go_sem, nodRow]
           exact outAt_app hG (fun j hj => nod_app O1 ⟨(nodAt t i).text, (nodAt t i).kind, (O1.length : Int) - 1, 0⟩ j hj)
          ·simp [go_sem]
           rfl
 ·have k0' : isOpN (nodAt t i) = false := by simpa using k0
  have kk : (nodAt t i).kind = 1 ∨ (nodAt t i).kind = 2 := by simp [isOpN] at k0'; omega
  have hG := grpd_leaf h hi kk m out
  simp [go_sem, nodCells_at, nodRow]
  refine ⟨hi, vcall_pure c1 ?_ ?_⟩
  ·simp [go_sem]
  ·simp [go_sem, k0']
   refine ⟨by omega, by omega, vcall_pure c2 ?_ ?_⟩
   ·simp [go_sem]
    exact argSl_refl (by omega) cl
   ·by_cases hm : lvlN l (nodAt t i) < m
    ·simp [hm, closeG] at hG
     have ew : IntKind.i64.wrap (out.length : Int) = out.length := wrap_i64 (by omega)
     simp [go_sem, hm, ew]
     refine ⟨by omega, by omega, by omega, ?_⟩
     refine ⟨rfl, [7], [none, nodRow (grpG l t i m out)], by simp, by simp [go_sem], by simp [go_sem], ?_, by simp [go_sem], ?_⟩
     ·simp [go_sem, nodRow]
      refine outAt_appF (T := out ++ [⟨(nodAt t i).text, (nodAt t i).kind, 0, 0⟩]) (o := grpNode out.length) (by simp) (by unfold grpG; rw [hG]; simp) fun j hj => ?_
      exact nod_appF (o := grpNode out.length) (by simp) (fun j hj => nod_app out ⟨(nodAt t i).text, (nodAt t i).kind, 0, 0⟩ j hj) j hj
     ·simp [go_sem]
      rfl
    ·simp [hm, closeG] at hG
     simp [go_sem, hm]
     refine ⟨rfl, [5], [none, nodRow (grpG l t i m out)], by simp, by simp [go_sem], by simp [go_sem], ?_, by simp [go_sem], ?_⟩
     ·simp [go_sem, nodRow]
      exact outAt_app hG (fun j hj => nod_app out ⟨(nodAt t i).text, (nodAt t i).kind, 0, 0⟩ j hj)
     ·simp [go_sem]
      rfl
theorem c_l4Grouped (l : List POp) (hl : l.length ≤ 9223372036854775807) (hw : opsWf l) (t : List PNode) (ht : t.length ≤ 1048576) (h : NodesOk l t) (hng : ∀ i, i < t.length → ¬ (nodAt t i).kind = 6) : ∀ (i : Nat), i < t.length → ∀ (m : Int) (out : List PNode), out.length + 2 * (i + 1 - (fromZ t i).toNat) ≤ 3000000 →
  VProc Tryz.prog 56 [.agg [.sl 4 l.length (opCells l)], .sl 4 t.length (nodCells t), .lit (.int .i64 i), .lit (.int .i64 m), .own 0] [nodRow out] [] (fun av mem maps => av = .own 1 ∧ mem = [none, nodRow (grpG l t i m out)] ∧ maps = []) := by
 intro i
 induction i using Nat.strongRecOn with
 | ind i ih => exact fun hi m out ho => c_l4Grouped_step l hl hw t ht h hng i hi m out ho fun j hj m out ho => ih j hj (by omega) m out ho
theorem InTab_bare {l : List POp} : ∀ {e : ET}, InTab l e → InTab l (bare e)
 | .leaf b, h => h
 | .grp e, h => InTab_bare (e := e) h
 | .pre o e, ⟨h1, h2, h3, h4⟩ => ⟨h1, h2, h3, InTab_bare h4⟩
 | .post o e, ⟨h1, h2, h3, h4⟩ => ⟨h1, h2, h3, InTab_bare h4⟩
 | .inf o x y, ⟨h1, h2, h3, h4, h5⟩ => ⟨h1, h2, h3, InTab_bare h4, InTab_bare h5⟩
theorem InTab_grpd {l : List POp} : ∀ {e : ET} (m : Int), InTab l e → InTab l (grpd e m)
 | .leaf b, m, h => by simp only [grpd]; split <;> exact h
 | .grp e, m, h => by have := InTab_grpd (e := e) 0 h; simp only [grpd]; split <;> exact this
 | .pre o e, m, ⟨h1, h2, h3, h4⟩ => by have := InTab_grpd (hole o false) h4; simp only [grpd]; split <;> exact ⟨h1, h2, h3, this⟩
 | .post o e, m, ⟨h1, h2, h3, h4⟩ => by have := InTab_grpd (hole o false) h4; simp only [grpd]; split <;> exact ⟨h1, h2, h3, this⟩
 | .inf o x y, m, ⟨h1, h2, h3, h4, h5⟩ => by have := InTab_grpd (hole o false) h4; have := InTab_grpd (hole o true) h5; simp only [grpd]; split <;> exact ⟨h1, h2, h3, by assumption, by assumption⟩
theorem erT_from (t : List PNode) : ∀ (i j : Nat), j < (erT t i).1.length → ∃ k, k < i ∧ (nodAt (erT t i).1 j).text = (nodAt t k).text ∧ (nodAt (erT t i).1 j).kind = (nodAt t k).kind ∧ ¬ (nodAt t k).kind = 6
 | 0, j, h => by simp [erT] at h
 | i + 1, j, h => by
  by_cases h6 : (nodAt t i).kind = 6
  ·have e : (erT t (i + 1)).1 = (erT t i).1 := by simp [erT, h6]
   rw [e] at h ⊢
   obtain ⟨k, h1, h2⟩ := erT_from t i j h
   exact ⟨k, by omega, h2⟩
  ·obtain ⟨x, y, e⟩ : ∃ x y, (erT t (i + 1)).1 = (erT t i).1 ++ [⟨(nodAt t i).text, (nodAt t i).kind, x, y⟩] := by
    simp only [erT, if_neg h6]
    exact ⟨_, _, rfl⟩
   rw [e] at h ⊢
   by_cases hj : j < (erT t i).1.length
   ·obtain ⟨k, h1, h2⟩ := erT_from t i j hj
    refine ⟨k, by omega, ?_⟩
    have : nodAt ((erT t i).1 ++ [⟨(nodAt t i).text, (nodAt t i).kind, x, y⟩]) j = nodAt (erT t i).1 j := by
     simp only [nodAt, List.getD_eq_getElem?_getD]
     rw [List.getElem?_append_left hj]
    rw [this]; exact h2
   ·have hj' : j = (erT t i).1.length := by simp at h; omega
    refine ⟨i, by omega, ?_⟩
    rw [nodAt_end _ _ hj']
    exact ⟨rfl, rfl, h6⟩
def rootE (l : List POp) (t : List PNode) : ET := treeOf l t (t.length - 1)
def groupE (l : List POp) (t : List PNode) : ET := grpd (bare (rootE l t)) 0
def groupOk (l : List POp) (t : List PNode) : Bool := wellF l t && decide (sizeE (groupE l t) ≤ 20000)
def groupZ (l : List POp) (t : List PNode) : List PNode := if groupOk l t then lay (groupE l t) [] else []
theorem wellF_ord {l : List POp} {t : List PNode} (h : wellF l t = true) : inOrd t = true ∧ tblOk l = 0 := by
 simp only [wellF, Bool.and_eq_true, decide_eq_true_eq] at h
 exact ⟨h.1.2, h.1.1⟩
theorem bare_facts {l : List POp} {t : List PNode} (h : wellF l t = true) : 1 ≤ t.length ∧ t.length ≤ 20000 ∧ InTab l (rootE l t) ∧ t = lay (rootE l t) [] ∧ erased t = lay (bare (rootE l t)) [] ∧ NodesOk l (erased t) ∧ (∀ i, i < (erased t).length → ¬ (nodAt (erased t) i).kind = 6) ∧
  1 ≤ (erased t).length ∧ fromZ (erased t) (((erased t).length - 1 : Nat) : Int) = 0 ∧ treeOf l (erased t) ((erased t).length - 1) = bare (rootE l t) := by
 obtain ⟨hin, h0⟩ := wellF_ord h
 obtain ⟨g1, g2, g3⟩ := inOrd_root hin
 have hok := nodesOk_of h
 obtain ⟨q1, q2, q3⟩ := tree_lay hok (t.length - 1) (by omega)
 rw [g3, show t.length - 1 + 1 = t.length by omega] at q1 q3
 rw [List.take_length] at q1
 have e3 : erased t = lay (bare (rootE l t)) [] := by
  unfold erased
  rw [if_pos hin, q3]; rfl
 have hl := lay_len (bare (rootE l t)) []
 have hp := sizeE_pos (bare (rootE l t))
 obtain ⟨f1, f2⟩ := lay_tree (l := l) (t := erased t) (bare (rootE l t)) [] (InTab_bare q2) (fun j hj => by rw [e3])
 rw [← e3] at f1 f2 hl
 have hlen : 1 ≤ (erased t).length := by simp at hl; omega
 have hfrom : ∀ j, j < (erased t).length → ∃ k, k < t.length ∧ (nodAt (erased t) j).text = (nodAt t k).text ∧ (nodAt (erased t) j).kind = (nodAt t k).kind ∧ ¬ (nodAt t k).kind = 6 := by
  unfold erased
  rw [if_pos hin]
  exact fun j hj => erT_from t t.length j hj
 refine ⟨g1, g2, q2, q1, e3, ⟨fun i hi => ?_, fun i hi => ?_, fun i hi e => ?_⟩, fun i hi => ?_, hlen, by simpa using f1, f2⟩
 ·exact fromZ_all (erased t) ((erased t).length - 1) i (by rw [f1]; simp) (by rw [f1]; simp) (by omega)
 ·obtain ⟨k, hk, e1, e2, _⟩ := hfrom i hi
  have := hok.txt k hk
  unfold txtOk at this ⊢
  rw [e1, e2]; exact this
 ·obtain ⟨k, hk, e1, e2, _⟩ := hfrom i hi
  have e' : isOpN (nodAt t k) = true := by unfold isOpN at e ⊢; rw [← e2]; exact e
  rw [e1, e2]
  exact hok.has k hk e'
 ·obtain ⟨k, hk, e1, e2, e4⟩ := hfrom i hi
  rw [e2]; exact e4
def grR (l : List POp) (t : List PNode) (av : AV) (obs : List Ob) : Prop := (groupOk l t = true ∧ av = .tup [.agg [.own 0], .lit (.bool true)] ∧ obs = [⟨77, 4, (groupZ l t).length, nodCells (groupZ l t)⟩]) ∨ (groupOk l t = false ∧ av = .tup [.agg [.lit (.slice none 0 0)], .lit (.bool false)] ∧ obs = [])
theorem grR_own {l : List POp} {t : List PNode} {av : AV} {obs : List Ob} (h : grR l t av obs) : (av = .tup [.agg [.own 0], .lit (.bool (groupOk l t))] ∧ obs = [⟨77, 4, (groupZ l t).length, nodCells (groupZ l t)⟩]) ∨ ∃ xs : List Value, av = .tup (.agg [.lit (.slice none 0 0)] :: xs.map .lit) ∧ obs = [] ∧
  (AV.tup (.agg [.own 0] :: xs.map .lit) = .tup [.agg [.own 0], .lit (.bool (groupOk l t))] ∧ [(⟨77, 4, 0, nodCells []⟩ : Ob)] = [⟨77, 4, (groupZ l t).length, nodCells (groupZ l t)⟩]) := by
 rcases h with ⟨h1, rfl, rfl⟩ | ⟨h1, rfl, rfl⟩
 ·exact .inl ⟨by rw [h1], rfl⟩
 ·refine .inr ⟨[.bool false], rfl, rfl, ?_⟩
  have e : groupZ l t = [] := by simp [groupZ, h1]
  rw [h1, e]
  exact ⟨rfl, rfl⟩
set_option maxRecDepth 100000 in
theorem c_specGroup1 (l : List POp) (hl : l.length ≤ 9223372036854775807) (hw : opsWf l) (t : List PNode) (ht : t.length ≤ 1048576) (hwt : nodsWf t) : VFun Tryz.prog 22 [.agg [.sl 4 l.length (opCells l)], .agg [.sl 4 t.length (nodCells t)]] (grR l t) := by
 have cl : ∀ (i : Nat) (c : AV), i < l.length → c ∈ opCells l i → Closed c := fun i c _ h => opClosed l i c h
 have clt : ∀ (i : Nat) (c : AV), i < t.length → c ∈ nodCells t i → Closed c := fun i c _ h => nodClosed t i c h
 have cle : ∀ (i : Nat) (c : AV), i < (erased t).length → c ∈ nodCells (erased t) i → Closed c := fun i c _ h => nodClosed _ i c h
 refine vfun_start Tryz.func22 (by kernel_rfl) rfl (by simp [Tryz.ntmps22]) ?_; simp only [Tryz.ntmps22, Tryz.results22]; simp [go_sem]
 refine vcall_pure (c_l3WellFormed l hl hw t (by omega) hwt) ?_ ?_
 ·simp [go_sem]
  exact ⟨argSl_refl (by omega) cl, argSl_refl (by omega) clt⟩
 ·cases h1 : wellF l t with
  | false => simp [go_sem, grR, groupOk, h1]
  | true =>
   obtain ⟨g1, g2, g3, g4, g5, g6, g7, g8, g9, g10⟩ := bare_facts h1
   have hle := erased_len t
   have c1 := c_l4Grouped l hl hw (erased t) (by omega) g6 g7 ((erased t).length - 1) (by omega) 0 [] (by simp; omega)
   have hG : grpG l (erased t) ((erased t).length - 1) 0 [] = lay (groupE l t) [] := by
    unfold grpG groupE
    rw [g10]
   have hsz : (lay (groupE l t) []).length = sizeE (groupE l t) := by rw [lay_len]; simp
   have hs2 := size_grpd (bare (rootE l t)) 0
   have hs3 : sizeE (bare (rootE l t)) = (erased t).length := by rw [g5, lay_len]; simp
   have hs4 : sizeE (groupE l t) ≤ 2 * (erased t).length := by unfold groupE; omega
   rw [hG] at c1
   have e1 : IntKind.i64.wrap (((erased t).length : Int) - 1) = (((erased t).length - 1 : Nat) : Int) := by rw [wrap_i64 (by omega)]; omega
   simp [go_sem]
   refine vcall_use (c_specErase t ht hwt) ?_ ?_
   ·simp [go_sem]
    exact argSl_refl (by omega) clt
   ·rintro av obs ⟨rfl, rfl⟩
    simp [go_sem, e1]
    refine ⟨by omega, ?_⟩
    refine vcall_shareX [5] c1 (by simp) ?_ ?_ trivial ?_
    ·simp [go_sem]
     refine ⟨.inl ?_, .inr (.inl ⟨by simp, argSl_own (k := 3) rfl (by omega) cle, ?_⟩), .inl (.closed _ (.lit _)), .inl (.closed _ (.lit _)), .inl ?_⟩
     ·exact .closed _ (by simp only [closed_agg, List.mem_singleton]; rintro c rfl; simp only [closed_sl]; exact cl)
     ·exact fun i hi => nodLit _ i
     ·exact .own 0 (by simp)
    ·simp [go_sem, nodRow]
    ·rintro av mem maps ⟨rfl, rfl, rfl⟩
     refine ⟨noSl_row fun i => rfl, ?_⟩
     simp [go_sem, nodRow, hsz]
     refine ⟨by omega, fun hb => ?_, fun hb => ⟨_, obsSame_one.mpr ⟨⟨77, 4, sizeE (groupE l t), nodCells (lay (groupE l t) [])⟩, ⟨rfl, rfl, rfl, fun j hj => ⟨rfl, nodLit _ j⟩⟩, rfl⟩, ?_⟩⟩
     ·exact .inr ⟨by simp only [groupOk, h1, Bool.true_and, decide_eq_false_iff_not]; omega, rfl, rfl⟩
     ·have e2 : groupOk l t = true := by simp only [groupOk, h1, Bool.true_and, decide_eq_true_eq]; omega
      have e3 : groupZ l t = lay (groupE l t) [] := by rw [groupZ, e2]; rfl
      exact .inl ⟨e2, rfl, by rw [e3, hsz]⟩
theorem c_specGroup (l : List POp) (hl : l.length ≤ 9223372036854775807) (hw : opsWf l) (t : List PNode) (ht : t.length ≤ 1048576) (hwt : nodsWf t) : VFun Tryz.prog 22 [.agg [.sl 4 l.length (opCells l)], .agg [.sl 4 t.length (nodCells t)]] (fun av obs => av = .tup [.agg [.own 0], .lit (.bool (groupOk l t))] ∧ obs = [⟨77, 4, (groupZ l t).length, nodCells (groupZ l t)⟩]) :=
 (c_specGroup1 l hl hw t ht hwt).adoptA 77 4 (by omega) (nodCells []) fun av obs h => grR_own h
def adoptM (mem : List (Option Ob)) (j : Nat) (ob : Ob) (c ty sz : Nat) (g : Nat → List AV) : List (Option Ob) := mem.set j (some { ob with f := fun _ => (ob.f 0).set c (.own mem.length) }) ++ [some ⟨ty, sz, 0, g⟩]
theorem memRel_adopt {B : Nat → Prop} {w : World} {hd : Nat → Value} {mem : List (Option Ob)} (h : MemRel B w hd mem) {j : Nat} {ob : Ob} (hj : mem[j]? = some (some ob)) (hn : ob.n = 1) {c : Nat} (hc : (ob.f 0)[c]? = some (.lit (.slice none 0 0))) (ty sz : Nat) (hsz : 0 < sz) (g : Nat → List AV) :
  ∃ HD : Nat → Value, (∀ k, k < mem.length → HD k = hd k) ∧ TailEq hd HD ∧ (HD mem.length).ownBlock = none ∧ MemRel B w HD (adoptM mem j ob c ty sz g) ∧ (∀ {av : AV} {u : Value}, Rep w (okOf mem hd) hd mem.length av u → Rep w (okOf (adoptM mem j ob c ty sz g) HD) HD (adoptM mem j ob c ty sz g).length av u) ∧
   (∀ k o', (adoptM mem j ob c ty sz g)[k]? = some (some o') → k < mem.length → ∃ o, mem[k]? = some (some o)) ∧ (adoptM mem j ob c ty sz g).length = mem.length + 1 := by
 obtain ⟨HD, hHD⟩ : ∃ HD : Nat → Value, HD = fun k => if k = mem.length then .slice none 0 0 else hd k := ⟨_, rfl⟩
 have hlow : ∀ k, k < mem.length → HD k = hd k := fun k hk => by rw [hHD]; exact if_neg (by omega)
 have hnew : HD mem.length = .slice none 0 0 := by rw [hHD]; exact if_pos rfl
 have heqT : TailEq hd HD := ⟨mem.length + 1, fun k hk => by rw [hHD]; exact if_neg (by omega)⟩
 have hjl : j < mem.length := (List.getElem?_eq_some_iff.1 hj).1
 obtain ⟨mem', hmem'⟩ : ∃ mem', mem' = adoptM mem j ob c ty sz g := ⟨_, rfl⟩
 rw [← hmem']
 have hlen' : mem'.length = mem.length + 1 := by rw [hmem']; simp [adoptM]
 have live : ∀ k o', mem'[k]? = some (some o') → (k = mem.length ∧ o' = ⟨ty, sz, 0, g⟩) ∨ (k < mem.length ∧ k ≠ j ∧ mem[k]? = some (some o')) ∨ (k = j ∧ o' = { ob with f := fun _ => (ob.f 0).set c (.own mem.length) }) := by
  intro k o' hk
  rw [hmem', adoptM, List.getElem?_append] at hk
  simp only [List.length_set] at hk
  split at hk
  ·rename_i hkl
   by_cases e : j = k
   ·subst e
    rw [List.getElem?_set_self hjl] at hk
    simp only [Option.some.injEq] at hk
    exact .inr (.inr ⟨rfl, hk.symm⟩)
   ·rw [List.getElem?_set_ne e] at hk
    exact .inr (.inl ⟨hkl, fun e2 => e e2.symm, hk⟩)
  ·rename_i hkl
   have : k = mem.length := by
    have := (List.getElem?_eq_some_iff.1 hk).1
    simp at this; omega
   subst this
   simp at hk
   exact .inl ⟨rfl, hk.symm⟩
 have old : ∀ k o', mem'[k]? = some (some o') → k < mem.length → ∃ o, mem[k]? = some (some o) := by
  intro k o' hk hkl
  rcases live k o' hk with ⟨e, _⟩ | ⟨_, _, h2⟩ | ⟨rfl, _⟩
  ·omega
  ·exact ⟨o', h2⟩
  ·exact ⟨ob, hj⟩
 have hok : ∀ ad u, okOf mem hd ad.block → w.cell? ad = some u → w.cell? ad = some u ∧ okOf mem' HD ad.block := by
  intro ad u ho hcl
  refine ⟨hcl, fun k o' hk e => ?_, ho.2.eq heqT⟩
  by_cases hkl : k < mem.length
  ·obtain ⟨o, h1⟩ := old k o' hk hkl
   rw [hlow k hkl] at e
   exact ho.1 k o h1 e
  ·have : k = mem.length := by have := (List.getElem?_eq_some_iff.1 hk).1; omega
   subst this
   rw [hnew] at e; simp [Value.ownBlock] at e
 have hle : mem.length ≤ mem'.length := by omega
 have ltOf : ∀ k o', mem'[k]? = some (some o') → k < mem.length + 1 := fun k o' hk => by rw [← hlen']; exact (List.getElem?_eq_some_iff.1 hk).1
 refine ⟨HD, hlow, heqT, by rw [hnew]; rfl, ⟨fun k o' hk b hb => ?_, fun k o' hk => ?_, fun k hk => ?_, fun k k' o o' hk hk' hne => ?_⟩, fun hr => hr.mono hok hlow hle, old, hlen'⟩
 ·by_cases hkl : k < mem.length
  ·obtain ⟨o, h1⟩ := old k o' hk hkl
   rw [hlow k hkl] at hb
   exact h.alw k o h1 b hb
  ·have : k = mem.length := by have := ltOf k o' hk; omega
   subst this
   rw [hnew] at hb; simp [Value.ownBlock] at hb
 ·rcases live k o' hk with ⟨rfl, rfl⟩ | ⟨hkl, _, h2⟩ | ⟨rfl, rfl⟩
  ·rw [hnew]
   exact ⟨hsz, [], ⟨by simp, .inl ⟨rfl, rfl⟩⟩, fun i hi => by simp at hi⟩
  ·obtain ⟨hs, vals, ho, hr⟩ := h.obs k o' h2
   rw [hlow k hkl]
   refine ⟨hs, vals, ho, fun i hi => ⟨(hr i hi).1, fun q av hq => ?_⟩⟩
   obtain ⟨u, g1, g2, g3⟩ := (hr i hi).2 q av hq
   exact ⟨u, g1, g2, g3.mono hok hlow hle⟩
  ·obtain ⟨hs, vals, ho, hr⟩ := h.obs k ob hj
   rw [hlow k hjl]
   refine ⟨hs, vals, ho, fun i hi => ?_⟩
   have hi0 : i = 0 := by have hi' : i < ob.n := hi; omega
   subst hi0
   obtain ⟨q1, q2⟩ := hr 0 hi
   refine ⟨by simpa using q1, fun q av hq => ?_⟩
   simp only at hq
   by_cases e : c = q
   ·subst e
    have hcl : c < (ob.f 0).length := (List.getElem?_eq_some_iff.1 hc).1
    rw [List.getElem?_set_self hcl] at hq
    simp only [Option.some.injEq] at hq
    subst hq
    obtain ⟨u, g1, g2, g3⟩ := q2 c _ hc
    cases g3
    refine ⟨_, g1, g2, ?_⟩
    rw [← hnew]
    exact .own _ (by show mem.length < mem'.length; omega)
   ·rw [List.getElem?_set_ne e] at hq
    obtain ⟨u, g1, g2, g3⟩ := q2 q av hq
    exact ⟨u, g1, g2, g3.mono hok hlow hle⟩
 ·by_cases hkl : k < mem.length
  ·rw [hlow k hkl]; exact h.hds k hkl
  ·have : k = mem.length := by have hk' : k < mem'.length := hk; omega
   subst this
   exact ⟨none, 0, 0, hnew⟩
 ·by_cases e1 : k = mem.length
  ·subst e1; rw [hnew]; exact .inl rfl
  ·by_cases e2 : k' = mem.length
   ·subst e2
    rw [hnew]
    cases hq : (HD k).ownBlock with
    | none => exact .inl rfl
    | some b => exact .inr (by simp [Value.ownBlock])
   ·have l1 : k < mem.length := by have := ltOf k o hk; omega
    have l2 : k' < mem.length := by have := ltOf k' o' hk'; omega
    obtain ⟨o1, h1⟩ := old k o hk l1
    obtain ⟨o2, h2⟩ := old k' o' hk' l2
    rw [hlow k l1, hlow k' l2]
    exact h.apart k k' o1 o2 h1 h2 hne
theorem VProc.adopt {P : Program} {f : FuncId} {args : List AV} {mem : List (Option Ob)} {maps0 : List (Nat × Mp)} {R : AV → List (Option Ob) → List (Nat × Mp) → Prop} {j : Nat} {ob : Ob} {c ty sz : Nat} {g : Nat → List AV}
  (h : VProc P f args (adoptM mem j ob c ty sz g) maps0 R) (hj : mem[j]? = some (some ob)) (hn : ob.n = 1) (hc : (ob.f 0)[c]? = some (.lit (.slice none 0 0))) (hsz : 0 < sz) : VProc P f args mem maps0 R := by
 refine ⟨h.1, fun w vs hd0 hl hv hm hmp htl => ?_⟩
 obtain ⟨HD, h1, h1', h2, h3, h4, h5, h6⟩ := memRel_adopt hm hj hn hc ty sz hsz g
 have hsh : ∀ b, Sh w HD (adoptM mem j ob c ty sz g) maps0 b → Sh w hd0 mem maps0 b := by
  rintro b (q | ⟨k, o, hk, hb⟩ | q)
  ·exact .inl q
  ·have hkl := (List.getElem?_eq_some_iff.1 hk).1
   by_cases e : k < mem.length
   ·obtain ⟨o', ho⟩ := h5 k o hk e
    exact .inr (.inl ⟨k, o', ho, by rw [← h1 k e]; exact hb⟩)
   ·have : k = mem.length := by omega
    subst this
    rw [h2] at hb; cases hb
  ·exact .inr (.inr q)
 have htl' : TailNot HD (Sh w HD (adoptM mem j ob c ty sz g) maps0) := by
  obtain ⟨K, hK⟩ := htl
  obtain ⟨M, hM⟩ := h1'
  refine ⟨K + M, fun k hk b hb hs => ?_⟩
  rw [hM k (by omega)] at hb
  exact hK k (by omega) b hb (hsh b hs)
 refine (h.2 w vs HD hl (fun j a u ha hu => h4 (hv j a u ha hu)) h3 hmp htl').mono fun e w' ⟨v, e1, bel, hd, av, mm, maps, r, po, hfix, hmr, hmap, hrep⟩ => ?_
 refine ⟨v, e1, bel.weak hsh, hd, av, mm, maps, r, ⟨by have := po.len; omega, po.flat, po.cells, po.maps⟩, ⟨fun k hk => (hfix.1 k (by omega)).trans (h1 k hk), h1'.trans hfix.2⟩, ⟨fun k o hk b hb => hsh b (hmr.alw k o hk b hb), hmr.obs, hmr.hds, hmr.apart⟩, fun b mp hb => ?_, hrep⟩
 obtain ⟨q1, q2⟩ := hmap b mp hb
 exact ⟨hsh b q1, q2⟩
def partV : ET → Value
 | .leaf b => .iface 193 (.agg #[.int .i64 b.1, .string b.2, .int .i64 0, .int .i64 0])
 | .grp e => partV e
 | .pre o e => .iface 164 (.agg #[.string o.text, .int .i64 o.kind, .int .i64 o.level, .int .i64 o.side, .nilIface, partV e, .int .i64 0])
 | .post o e => .iface 164 (.agg #[.string o.text, .int .i64 o.kind, .int .i64 o.level, .int .i64 o.side, partV e, .nilIface, .int .i64 0])
 | .inf o x y => .iface 164 (.agg #[.string o.text, .int .i64 o.kind, .int .i64 o.level, .int .i64 o.side, partV x, partV y, .int .i64 0])
theorem partV_iface (e : ET) : ∃ t v, partV e = .iface t v := by
 induction e with
 | grp e ih => exact ih
 | _ => exact ⟨_, _, rfl⟩
def isIf (v : Value) : Prop := v = .nilIface ∨ ∃ t u, v = .iface t u
theorem c_leaf_level (a c d : Int) (b : ByteArray) : VFun Tryz.prog 185 [.lit (.agg #[.int .i64 a, .string b, .int .i64 c, .int .i64 d])] (fun av obs => obs = [] ∧ av = .lit (.int .i64 1001)) := by
 refine vfun_start Tryz.func185 (by kernel_rfl) rfl (by simp [Tryz.ntmps185]) ?_; simp only [Tryz.ntmps185, Tryz.results185]; simp [go_sem]
theorem c_applied_level (o : POp) (a b : Value) (ha : isIf a) (hb : isIf b) (c : Int) : VFun Tryz.prog 182 [.lit (.agg #[.string o.text, .int .i64 o.kind, .int .i64 o.level, .int .i64 o.side, a, b, .int .i64 c])] (fun av obs => obs = [] ∧ av = .lit (.int .i64 o.level)) := by
 refine vfun_start Tryz.func182 (by kernel_rfl) rfl (by simp [Tryz.ntmps182]) ?_; simp only [Tryz.ntmps182, Tryz.results182]; simp [go_sem]
 constructor
 ·rcases ha with rfl | ⟨_, _, rfl⟩ <;> rfl
 ·rcases hb with rfl | ⟨_, _, rfl⟩ <;> rfl
def paN (l : List POp) (t : List PNode) (i j : Nat) : Value := if j < i then partV (treeOf l t j) else .nilIface
def paFill (l : List POp) (t : List PNode) (i j : Nat) : List AV := [.lit (paN l t i j)]
theorem paFill_at (l : List POp) (t : List PNode) (i j : Nat) : paFill l t i j = [.lit (paN l t i j)] := rfl
set_option maxRecDepth 100000 in
theorem c_partsOf (l : List POp) (hu : Uniq l) (b1 b2 : Nat) (es : List (Value × Value)) (hat : AtIs l l.length es) (t : List PNode) (ht : t.length ≤ 1048576) (hwt : ∀ i, i < t.length → (nodAt t i).wf) (h1 : inOrd t = true) (hk : ∀ i, i < t.length → isOpN (nodAt t i) = true → opHas l (nodAt t i).text ((nodAt t i).kind - 2) = true) :
  VProc Tryz.prog 100 [.agg [.lit (.map (some b1)), .lit (.map (some b2))], .agg [.sl 4 t.length (nodCells t)]] [] [(b1, ⟨151, es⟩)] (fun av mem maps => (maps = [(b1, ⟨151, es⟩)] ∨ maps = [(b1, ⟨151, es⟩), (b1, ⟨151, es⟩)]) ∧ av = .own 0 ∧ mem = [some ⟨92, 1, t.length, paFill l t t.length⟩]) := by
 have clt : ∀ (i : Nat) (c : AV), i < t.length → c ∈ nodCells t i → Closed c := fun i c _ h => nodClosed t i c h
 refine vproc_start Tryz.func100 (by kernel_rfl) rfl (by simp [Tryz.ntmps100]) ?_; simp only [Tryz.ntmps100, Tryz.results100]; simp [go_sem]
 refine ⟨by omega, by omega, by omega, by omega, ?_⟩
 refine vc_loop (fun i : Nat => i ≤ t.length) (fun i => t.length - i)
  (fun i => ⟨[(2, .ptr 0 2 0 0), (5, .own 2), (19, .sl 4 t.length (nodCells t)), (20, .lit (.int .i64 t.length)), (21, .lit (.int .i64 i))], [some ⟨70, 2, 1, fun _ => [.lit (.map (some b1)), .lit (.map (some b2))]⟩, none, some ⟨92, 1, t.length, paFill l t i⟩], [(b1, ⟨151, es⟩)], 0⟩) ⟨0, by omega, ?_⟩ (fun i hi => ?_)
 ·simp [go_sem, paFill, paN]
  exact clt
 ·by_cases hlt : i < t.length
  ·obtain ⟨k1, k2, k3, k4⟩ := inOrd_kid h1 hlt
   have h0 := inOrd_all h1 i hlt
   obtain ⟨z1, z2⟩ := inOrd_zero h0
   have hT := treeOf_eq (l := l) h0 k2
   have fill : ∀ (v : Value) (f : Nat → List AV), v = partV (treeOf l t i) → (∀ j, j < t.length → j ≠ i → f j = paFill l t i j) → (f i).length = 1 → ∀ j, j < t.length → updF t.length f i 0 [AV.lit v] j = paFill l t (i + 1) j ∧ ∀ c, c ∈ paFill l t (i + 1) j → Bd 3 c := fun v f hv hf hl j hj => by
    refine ⟨?_, fun c hc => by simp only [paFill, List.mem_singleton] at hc; subst hc; exact .closed _ (.lit _)⟩
    rw [updF_at hlt hj]
    by_cases hji : j = i
    ·subst hji
     match hfi : f j, hl with
     | [x], _ => simp [splice, paFill, paN, hv]
    ·rw [if_neg hji, hf j hj hji]
     simp only [paFill, paN]
     by_cases h2 : j < i
     ·rw [if_pos h2, if_pos (by omega)]
     ·rw [if_neg h2, if_neg (by omega)]
   have at_ : ∀ a : Int, 0 ≤ a → a < i → paFill l t i a.toNat = [.lit (partV (treeOf l t a.toNat))] := fun a h1 h2 => by
    simp only [paFill, paN]; rw [if_pos (by omega)]
   have hz1 : (nodAt t i).kind = 1 ∨ (nodAt t i).kind = 2 ∨ (nodAt t i).kind = 3 ∨ (nodAt t i).kind = 4 ∨ (nodAt t i).kind = 5 ∨ (nodAt t i).kind = 6 := by omega
   have clt' : ∀ (i : Nat) (c : AV), i < t.length → c = .lit (.int .i64 (nodAt t i).kind) ∨ c = .lit (.string (nodAt t i).text) ∨ c = .lit (.int .i64 (nodAt t i).a) ∨ c = .lit (.int .i64 (nodAt t i).b) → Closed c := fun i c _ h => by
    rcases h with rfl | rfl | rfl | rfl <;> exact .lit _
   rcases hz1 with e | e | e | e | e | e
   ·simp [e] at hT
    simp [go_sem, nodCells_at, hlt, e]
    refine ⟨i + 1, by omega, by omega, ⟨clt', wrap_succ (by omega)⟩, fill _ _ ?_ (fun j _ _ => rfl) rfl⟩
    obtain ⟨za, zb⟩ := z1 (by simp [kidsN, e])
    rw [hT, za, zb]; rfl
   ·simp [e] at hT
    simp [go_sem, nodCells_at, hlt, e]
    refine ⟨i + 1, by omega, by omega, ⟨clt', wrap_succ (by omega)⟩, fill _ _ ?_ (fun j _ _ => rfl) rfl⟩
    obtain ⟨za, zb⟩ := z1 (by simp [kidsN, e])
    rw [hT, za, zb]; rfl
   ·have hop : isOpN (nodAt t i) = true := by simp [isOpN, e]
    have hh := hk i hlt hop
    have k0 : kidsN (nodAt t i).kind ≠ 0 := by simp [kidsN, e]
    obtain ⟨q3, q4⟩ := k3 k0
    rw [e] at hh
    simp [e] at hT
    simp [go_sem, nodCells_at, hlt, e]
    refine vcall_share [] (c_of l hu b1 b2 es hat (nodAt t i).text (hwt i hlt) 1) (by simp) ?_ ?_ ?_ ?_
    ·simp [go_sem]
    ·simp [go_sem]
    ·simp [go_sem]
    ·rintro av mem maps ⟨⟨o, rfl, ho⟩, rfl, rfl⟩
     have he := of_eq hu (ho hh) hh
     simp [go_sem, POp.cells]
     refine vc_drawn [11] (.q 0 <| .q 1 <| .q 2 <| .q 3 <| .q 4 <| .q 5 <| .q 6 <| .q 7 <| .q 8 <| .q 9 <| .q 10 <| .or 11 (.done) (.nil)) (by kernel_rfl) ?_
     obtain ⟨T1, U1, hP⟩ := partV_iface (treeOf l t (nodAt t i).a.toNat)
     have ha := at_ _ q3 q4
     rw [hP] at ha
     simp [go_sem, ha, q3, q4, hlt, show (nodAt t i).a.toNat < t.length by omega, show (nodAt t i).a < (t.length : Int) by omega]
     refine ⟨i + 1, by omega, by omega, ⟨clt, wrap_succ (by omega)⟩, fill _ _ ?_ (fun j _ _ => rfl) rfl⟩
     have hnd : ndOp l (nodAt t i) = o := by rw [he, ndOp, e]; rfl
     rw [hT, hnd]
     simp only [partV, hP]
   ·have hop : isOpN (nodAt t i) = true := by simp [isOpN, e]
    have hh := hk i hlt hop
    have k0 : kidsN (nodAt t i).kind ≠ 0 := by simp [kidsN, e]
    obtain ⟨q3, q4⟩ := k3 k0
    obtain ⟨q5, q6⟩ := k4 (by simp [kidsN, e])
    rw [e] at hh
    simp [e] at hT
    simp [go_sem, nodCells_at, hlt, e]
    refine vcall_share [] (c_of l hu b1 b2 es hat (nodAt t i).text (hwt i hlt) 2) (by simp) ?_ ?_ ?_ ?_
    ·simp [go_sem]
    ·simp [go_sem]
    ·simp [go_sem]
    ·rintro av mem maps ⟨⟨o, rfl, ho⟩, rfl, rfl⟩
     have he := of_eq hu (ho hh) hh
     simp [go_sem, POp.cells]
     refine vc_drawn [16] (.q 0 <| .q 1 <| .q 2 <| .q 3 <| .q 4 <| .q 5 <| .q 6 <| .q 7 <| .q 8 <| .q 9 <| .q 10 <| .q 11 <| .q 12 <| .q 13 <| .q 14 <| .q 15 <| .or 16 (.done) (.nil)) (by kernel_rfl) ?_
     obtain ⟨T1, U1, hP⟩ := partV_iface (treeOf l t (nodAt t i).a.toNat)
     have ha := at_ _ q3 q4
     rw [hP] at ha
     obtain ⟨T2, U2, hP2⟩ := partV_iface (treeOf l t (nodAt t i).b.toNat)
     have hb := at_ _ q5 q6
     rw [hP2] at hb
     simp [go_sem, ha, hb, q3, q4, hlt, show (nodAt t i).a.toNat < t.length by omega, show (nodAt t i).a < (t.length : Int) by omega, q5, q6, show (nodAt t i).b.toNat < t.length by omega, show (nodAt t i).b < (t.length : Int) by omega]
     refine ⟨i + 1, by omega, by omega, ⟨clt, wrap_succ (by omega)⟩, fill _ _ ?_ (fun j _ _ => rfl) rfl⟩
     have hnd : ndOp l (nodAt t i) = o := by rw [he, ndOp, e]; rfl
     rw [hT, hnd]
     simp only [partV, hP, hP2]
   ·have hop : isOpN (nodAt t i) = true := by simp [isOpN, e]
    have hh := hk i hlt hop
    have k0 : kidsN (nodAt t i).kind ≠ 0 := by simp [kidsN, e]
    obtain ⟨q3, q4⟩ := k3 k0
    rw [e] at hh
    simp [e] at hT
    simp [go_sem, nodCells_at, hlt, e]
    refine vcall_share [] (c_of l hu b1 b2 es hat (nodAt t i).text (hwt i hlt) 3) (by simp) ?_ ?_ ?_ ?_
    ·simp [go_sem]
    ·simp [go_sem]
    ·simp [go_sem]
    ·rintro av mem maps ⟨⟨o, rfl, ho⟩, rfl, rfl⟩
     have he := of_eq hu (ho hh) hh
     simp [go_sem, POp.cells]
     refine vc_drawn [11] (.q 0 <| .q 1 <| .q 2 <| .q 3 <| .q 4 <| .q 5 <| .q 6 <| .q 7 <| .q 8 <| .q 9 <| .q 10 <| .or 11 (.done) (.nil)) (by kernel_rfl) ?_
     obtain ⟨T1, U1, hP⟩ := partV_iface (treeOf l t (nodAt t i).a.toNat)
     have ha := at_ _ q3 q4
     rw [hP] at ha
     simp [go_sem, ha, q3, q4, hlt, show (nodAt t i).a.toNat < t.length by omega, show (nodAt t i).a < (t.length : Int) by omega]
     refine ⟨i + 1, by omega, by omega, ⟨clt, wrap_succ (by omega)⟩, fill _ _ ?_ (fun j _ _ => rfl) rfl⟩
     have hnd : ndOp l (nodAt t i) = o := by rw [he, ndOp, e]; rfl
     rw [hT, hnd]
     simp only [partV, hP]
   ·have k0 : kidsN (nodAt t i).kind ≠ 0 := by simp [kidsN, e]
    obtain ⟨q3, q4⟩ := k3 k0
    simp [e] at hT
    obtain ⟨T1, U1, hP⟩ := partV_iface (treeOf l t (nodAt t i).a.toNat)
    have ha := at_ _ q3 q4
    rw [hP] at ha
    simp [go_sem, nodCells_at, hlt, e, ha, q3, q4, show (nodAt t i).a.toNat < t.length by omega, show (nodAt t i).a < (t.length : Int) by omega]
    refine ⟨i + 1, by omega, by omega, ⟨clt', wrap_succ (by omega)⟩, fill _ _ ?_ (fun j _ _ => rfl) rfl⟩
    rw [hT]
    simp only [partV, hP]
  ·have hl1 : i = t.length := by omega
   subst hl1
   simp [go_sem]
   refine ⟨rfl, [2], [some ⟨92, 1, t.length, paFill l t t.length⟩], by simp, by simp, by simp [go_sem], ?_, by simp [go_sem], ?_⟩
   ·simp [go_sem]
    exact outAt_lits (fun _ _ => rfl) (fun _ _ => rfl)
   ·simp [go_sem]
structure PWord where
 text : ByteArray
 infix_ : Bool
 op : Bool
deriving Inhabited
def PWord.cells (o : PWord) : List AV := [.lit (.string o.text), .lit (.bool o.infix_), .lit (.bool o.op)]
def wdAt (t : List PWord) (i : Nat) : PWord := t.getD i default
def wdCells (l : List PWord) (i : Nat) : List AV := (l.getD i default).cells
theorem wdLit (l : List PWord) (i : Nat) : (wdCells l i).all isLit = true := rfl
@[go_sem] theorem wdCells_ren (f : Nat → Nat) (l : List PWord) (i : Nat) : (wdCells l i).map (ren1 f) = wdCells l i := rfl
def wdRow (t : List PWord) : Option Ob := some ⟨113, 3, t.length, wdCells t⟩
def lpar : PWord := ⟨⟨#[40]⟩, false, false⟩
def rpar : PWord := ⟨⟨#[41]⟩, false, false⟩
def opWord (o : POp) : PWord := ⟨o.text, decide (o.kind = 2), true⟩
def yieldW : ET → List PWord
 | .leaf b => [⟨b.2, false, false⟩]
 | .grp e => lpar :: (yieldW e ++ [rpar])
 | .pre o e => opWord o :: yieldW e
 | .post o e => yieldW e ++ [opWord o]
 | .inf o x y => yieldW x ++ opWord o :: yieldW y
theorem yieldW_len : ∀ e : ET, (yieldW e).length ≤ 2 * sizeE e
 | .leaf b => by simp [yieldW, sizeE]
 | .grp e => by have := yieldW_len e; simp [yieldW, sizeE]; omega
 | .pre o e => by have := yieldW_len e; simp [yieldW, sizeE]; omega
 | .post o e => by have := yieldW_len e; simp [yieldW, sizeE]; omega
 | .inf o x y => by have := yieldW_len x; have := yieldW_len y; simp [yieldW, sizeE]; omega
theorem sizeE_bare : ∀ e : ET, sizeE (bare e) ≤ sizeE e
 | .leaf b => by simp [bare]
 | .grp e => by have := sizeE_bare e; simp [bare, sizeE]; omega
 | .pre o e => by have := sizeE_bare e; simp [bare, sizeE]; omega
 | .post o e => by have := sizeE_bare e; simp [bare, sizeE]; omega
 | .inf o x y => by have := sizeE_bare x; have := sizeE_bare y; simp [bare, sizeE]; omega
def IsN (T : List PNode) (n : Nat) (f : Nat → List AV) : Prop := n = T.length ∧ ∀ j, j < n → f j = nodCells T j
def IsW (T : List PWord) (n : Nat) (f : Nat → List AV) : Prop := n = T.length ∧ ∀ j, j < n → f j = wdCells T j
theorem IsN.app {T : List PNode} {n : Nat} {f : Nat → List AV} (h : IsN T n f) (o : PNode) {g : Nat → List AV} (hg : g 0 = o.cells) : IsN (T ++ [o]) (n + 1) (joinF n f g) := by
 refine ⟨by rw [h.1]; simp, fun j hj => ?_⟩
 unfold joinF
 by_cases e : j < n
 ·rw [if_pos e, h.2 j e]
  have := h.1
  unfold nodCells
  rw [List.getD_eq_getElem?_getD, List.getD_eq_getElem?_getD, List.getElem?_append_left (by omega)]
 ·have e1 : j = T.length := by have := h.1; omega
  have e2 : j - n = 0 := by omega
  rw [if_neg e, e2, hg, e1]
  simp [nodCells]
theorem IsW.app {T : List PWord} {n : Nat} {f : Nat → List AV} (h : IsW T n f) (o : PWord) {g : Nat → List AV} (hg : g 0 = o.cells) : IsW (T ++ [o]) (n + 1) (joinF n f g) := by
 refine ⟨by rw [h.1]; simp, fun j hj => ?_⟩
 unfold joinF
 by_cases e : j < n
 ·rw [if_pos e, h.2 j e]
  have := h.1
  unfold wdCells
  rw [List.getD_eq_getElem?_getD, List.getD_eq_getElem?_getD, List.getElem?_append_left (by omega)]
 ·have e1 : j = T.length := by have := h.1; omega
  have e2 : j - n = 0 := by omega
  rw [if_neg e, e2, hg, e1]
  simp [wdCells]
theorem sh0N {idx : Nat → Nat} {m k : Nat} {T : List PNode} : ∀ i, i < k → CellsRn idx m (nodCells T i) (nodCells T i) := fun i _ => cellsRn_lits (nodLit _ i)
theorem sh1N {idx : Nat → Nat} {m n k : Nat} {T T' : List PNode} {g : Nat → List AV} (o : PNode) (hn : n = T'.length) (hg : g 0 = o.cells) (e : T' ++ [o] = T) (hk : k = T.length) : ∀ i, i < k → CellsRn idx m (joinF n (nodCells T') g i) (nodCells T i) := fun i hi => by
 subst e; subst hk
 have h : IsN T' n (nodCells T') := ⟨hn, fun _ _ => rfl⟩
 have h := h.app o hg
 rw [h.2 i (by rw [h.1]; exact hi)]
 exact cellsRn_lits (nodLit _ i)
theorem out0N {idx : Nat → Nat} {ks : List Nat} {T : List PNode} {n ty : Nat} : OutAt idx ks ⟨ty, 4, n, nodCells T⟩ (some (some ⟨ty, 4, n, nodCells T⟩)) := outAt_lits (fun _ _ => rfl) (fun j _ => nodLit _ j)
theorem sh0W {idx : Nat → Nat} {m k : Nat} {T : List PWord} : ∀ i, i < k → CellsRn idx m (wdCells T i) (wdCells T i) := fun i _ => cellsRn_lits (wdLit _ i)
theorem sh1W {idx : Nat → Nat} {m n k : Nat} {T T' : List PWord} {g : Nat → List AV} (o : PWord) (hn : n = T'.length) (hg : g 0 = o.cells) (e : T' ++ [o] = T) (hk : k = T.length) : ∀ i, i < k → CellsRn idx m (joinF n (wdCells T') g i) (wdCells T i) := fun i hi => by
 subst e; subst hk
 have h : IsW T' n (wdCells T') := ⟨hn, fun _ _ => rfl⟩
 have h := h.app o hg
 rw [h.2 i (by rw [h.1]; exact hi)]
 exact cellsRn_lits (wdLit _ i)
theorem sh2W {idx : Nat → Nat} {m n n' k : Nat} {T T' : List PWord} {g g' : Nat → List AV} (o o' : PWord) (hn : n = T'.length) (hn' : n' = T'.length + 1) (hg : g 0 = o.cells) (hg' : g' 0 = o'.cells) (e : T' ++ [o, o'] = T) (hk : k = T.length) : ∀ i, i < k → CellsRn idx m (joinF n' (joinF n (wdCells T') g) g' i) (wdCells T i) := fun i hi => by
 subst e; subst hk
 have h : IsW T' n (wdCells T') := ⟨hn, fun _ _ => rfl⟩
 have h := (h.app o hg).app o' hg'
 subst hn'; subst hn
 rw [show T' ++ [o] ++ [o'] = T' ++ [o, o'] by simp] at h
 rw [h.2 i (by rw [h.1]; exact hi)]
 exact cellsRn_lits (wdLit _ i)
theorem out0W {idx : Nat → Nat} {ks : List Nat} {T : List PWord} {n ty : Nat} : OutAt idx ks ⟨ty, 3, n, wdCells T⟩ (some (some ⟨ty, 3, n, wdCells T⟩)) := outAt_lits (fun _ _ => rfl) (fun j _ => wdLit _ j)
def prOb (b1 b2 x y : Nat) : Option Ob := some ⟨106, 4, 1, fun _ => [.lit (.map (some b1)), .lit (.map (some b2)), .own x, .own y]⟩
theorem prOut {b1 b2 ty : Nat} : OutAt (idxOut 3 [3, 4]) [0, 1, 2, 3, 4] ⟨ty, 4, 1, fun _ => [.lit (.map (some b1)), .lit (.map (some b2)), .own 3, .own 4]⟩ (some (some ⟨ty, 4, 1, fun _ => [.lit (.map (some b1)), .lit (.map (some b2)), .own 3, .own 4]⟩)) :=
 ⟨rfl, rfl, rfl, fun i hi => ⟨rfl, flatC_all rfl, fun c hc q hq => by
  simp at hc
  rcases hc with rfl | rfl | rfl | rfl <;> simp [owns1] at hq <;> simp [hq]⟩⟩
def SayOk (b1 b2 : Nat) (e : ET) : Prop := ∀ (m : Int) (ns : List PNode) (ws : List PWord), ns.length + 2 * sizeE e ≤ 3000000 → ws.length + 4 * sizeE e ≤ 6000000 →
 VProc Tryz.prog 101 [.ptr 0 4 0 0, .lit (partV e), .lit (.int .i64 m)] [prOb b1 b2 1 2, nodRow ns, wdRow ws] [] (fun av mem maps => av = .tup [] ∧ mem = [prOb b1 b2 3 4, none, none, nodRow (lay (grpd (bare e) m) ns), wdRow (ws ++ yieldW (grpd (bare e) m))] ∧ maps = [])
set_option maxRecDepth 100000 in
theorem say_leaf (b1 b2 : Nat) (b : Int × ByteArray) : SayOk b1 b2 (.leaf b) := by
 intro m ns ws h1 h2
 have c1 := c_leaf_level b.1 0 0 b.2
 simp only [partV, prOb, nodRow, wdRow, bare, sizeE] at h1 h2 ⊢
 by_cases hm : (1001 : Int) < m
 ·have hN : lay (grpd (.leaf b) m) ns = ns ++ [⟨b.2, b.1, 0, 0⟩, grpNode ns.length] := by simp [grpd, hm, lay, grpNode]
  have hW : yieldW (grpd (.leaf b) m) = [lpar, ⟨b.2, false, false⟩, rpar] := by simp [grpd, hm, yieldW]
  rw [hN, hW]
  have ew : IntKind.i64.wrap (ns.length : Int) = ns.length := wrap_i64 (by omega)
  refine vproc_start Tryz.func101 (by kernel_rfl) rfl (by simp [Tryz.ntmps101]) ?_; simp only [Tryz.ntmps101, Tryz.results101]; simp [go_sem]
  refine vcall_pure c1 ?_ ?_
  ·simp [go_sem]
  ·simp [go_sem, hm]
   refine ⟨by omega, by omega, ?_⟩
   refine vc_drawnE (⟨[(0, .ptr 0 4 0 0), (6, .lit (.bool true)), (7, .ptr 3 4 0 0)], [prOb b1 b2 1 4, nodRow ns, none, some ⟨193, 4, 1, fun _ => [.lit (.int .i64 b.1), .lit (.string b.2), .lit (.int .i64 0), .lit (.int .i64 0)]⟩, wdRow (ws ++ [lpar] ++ [⟨b.2, false, false⟩])], [], 3⟩) [10,13] (.q 1 <| .q 2 <| .q 3 <| .q 4 <| .q 5 <| .q 6 <| .q 7 <| .q 8 <| .or 0 (.or 9 (.or 10 (.q 11 <| .q 12 <| .or 13 (.done) (.nil)) (.nil)) (.nil)) (.or 9 (.or 0 (.or 10 (.q 11 <| .q 12 <| .or 13 (.done) (.nil)) (.nil)) (.or 10 (.q 0 <| .q 11 <| .q 12 <| .or 13 (.done) (.nil)) (.nil))) (.nil))) (by kernel_rfl) ?_ ?_
   ·simp [go_sem]
    refine ⟨⟨by omega, by omega, ?_⟩, ⟨by omega, by omega, ?_⟩, ⟨by omega, by omega, ?_⟩⟩
    all_goals
     refine ent_ks [0, 1, 2, 5, 7] (by simp) (by simp) (by simp) (by decide) (by simp [go_sem]) ?_ ?_
     ·simp [go_sem]
     ·simp [go_sem, prOb, nodRow, wdRow]
      exact ⟨.inr sh0N, .inr (sh2W lpar ⟨b.2, false, false⟩ (by simp) (by simp) rfl rfl (by simp) (by simp))⟩
   ·simp [go_sem, prOb, nodRow, wdRow]
    refine vc_drawnE (⟨[(0, .ptr 0 4 0 0), (6, .lit (.bool true))], [prOb b1 b2 3 4, none, none, nodRow (ns ++ [⟨b.2, b.1, 0, 0⟩]), wdRow (ws ++ [lpar, ⟨b.2, false, false⟩])], [], 3⟩) [8,11] (.q 1 <| .q 2 <| .q 3 <| .q 4 <| .q 5 <| .q 6 <| .or 0 (.or 7 (.or 8 (.q 9 <| .q 10 <| .or 11 (.done) (.nil)) (.nil)) (.nil)) (.or 7 (.or 0 (.or 8 (.q 9 <| .q 10 <| .or 11 (.done) (.nil)) (.nil)) (.or 8 (.q 0 <| .q 9 <| .q 10 <| .or 11 (.done) (.nil)) (.nil))) (.nil))) (by kernel_rfl) ?_ ?_
    ·simp [go_sem]
     refine ⟨⟨by omega, by omega, ?_⟩, ⟨by omega, by omega, ?_⟩, ⟨by omega, by omega, ?_⟩⟩
     all_goals
      refine ent_ks [0, 1, 2, 6, 4] (by simp) (by simp) (by simp) (by decide) (by simp [go_sem]) ?_ ?_
      ·simp [go_sem]
      ·simp [go_sem, prOb, nodRow, wdRow]
       exact ⟨.inr (sh1N ⟨b.2, b.1, 0, 0⟩ (by simp) rfl (by simp) (by simp)), .inr sh0W⟩
    ·simp [go_sem, prOb, nodRow, wdRow]
     refine ⟨by omega, by omega, ?_⟩
     refine vc_drawnE (⟨[(0, .ptr 0 4 0 0)], [prOb b1 b2 3 4, none, none, nodRow (ns ++ [⟨b.2, b.1, 0, 0⟩, grpNode ns.length]), wdRow (ws ++ [lpar, ⟨b.2, false, false⟩, rpar])], [], 3⟩) [13,16] (.q 1 <| .q 2 <| .q 3 <| .q 4 <| .q 5 <| .q 6 <| .q 7 <| .q 8 <| .q 9 <| .q 10 <| .q 11 <| .or 0 (.or 12 (.or 13 (.q 14 <| .q 15 <| .or 16 (.done) (.nil)) (.nil)) (.nil)) (.or 12 (.or 0 (.or 13 (.q 14 <| .q 15 <| .or 16 (.done) (.nil)) (.nil)) (.or 13 (.q 0 <| .q 14 <| .q 15 <| .or 16 (.done) (.nil)) (.nil))) (.nil))) (by kernel_rfl) ?_ ?_
     ·simp [go_sem]
      refine ⟨by omega, ⟨by omega, by omega, ?_⟩, ⟨by omega, by omega, ?_⟩, ⟨by omega, by omega, ?_⟩⟩
      all_goals
       refine ent_ks [0, 1, 2, 8, 6] (by simp) (by simp) (by simp) (by decide) (by simp [go_sem]) ?_ ?_
       ·simp [go_sem]
       ·simp [go_sem, prOb, nodRow, wdRow, ew]
        exact ⟨.inr (sh1N (grpNode ns.length) (by simp) rfl (by simp) (by simp)), .inr (sh1W rpar (by simp) rfl (by simp) (by simp))⟩
     ·simp [go_sem, prOb, nodRow, wdRow]
      refine ⟨rfl, [3, 4], [prOb b1 b2 3 4, none, none, nodRow (ns ++ [⟨b.2, b.1, 0, 0⟩, grpNode ns.length]), wdRow (ws ++ [lpar, ⟨b.2, false, false⟩, rpar])], by simp, by simp, by simp [go_sem], ?_, by simp [go_sem], ?_⟩
      ·simp [go_sem, prOb, nodRow, wdRow]
       exact ⟨prOut, out0N, out0W⟩
      ·simp [go_sem, prOb, nodRow, wdRow]
 ·have hN : lay (grpd (.leaf b) m) ns = ns ++ [⟨b.2, b.1, 0, 0⟩] := by simp [grpd, hm, lay]
  have hW : yieldW (grpd (.leaf b) m) = [⟨b.2, false, false⟩] := by simp [grpd, hm, yieldW]
  rw [hN, hW]
  refine vproc_start Tryz.func101 (by kernel_rfl) rfl (by simp [Tryz.ntmps101]) ?_; simp only [Tryz.ntmps101, Tryz.results101]; simp [go_sem]
  refine vcall_pure c1 ?_ ?_
  ·simp [go_sem]
  ·simp [go_sem, hm]
   refine vc_drawnE (⟨[(0, .ptr 0 4 0 0), (6, .lit (.bool false)), (7, .ptr 3 4 0 0)], [prOb b1 b2 1 4, nodRow ns, none, some ⟨193, 4, 1, fun _ => [.lit (.int .i64 b.1), .lit (.string b.2), .lit (.int .i64 0), .lit (.int .i64 0)]⟩, wdRow (ws ++ [⟨b.2, false, false⟩])], [], 3⟩) [10,13] (.q 1 <| .q 2 <| .q 3 <| .q 4 <| .q 5 <| .q 6 <| .q 7 <| .q 8 <| .or 0 (.or 9 (.or 10 (.q 11 <| .q 12 <| .or 13 (.done) (.nil)) (.nil)) (.nil)) (.or 9 (.or 0 (.or 10 (.q 11 <| .q 12 <| .or 13 (.done) (.nil)) (.nil)) (.or 10 (.q 0 <| .q 11 <| .q 12 <| .or 13 (.done) (.nil)) (.nil))) (.nil))) (by kernel_rfl) ?_ ?_
   ·simp [go_sem]
    refine ⟨⟨by omega, by omega, ?_⟩, ⟨by omega, by omega, ?_⟩, ⟨by omega, by omega, ?_⟩⟩
    all_goals
     refine ent_ks [0, 1, 2, 3, 5] (by simp) (by simp) (by simp) (by decide) (by simp [go_sem]) ?_ ?_
     ·simp [go_sem]
     ·simp [go_sem, prOb, nodRow, wdRow]
      exact ⟨.inr sh0N, .inr (sh1W ⟨b.2, false, false⟩ (by simp) rfl (by simp) (by simp))⟩
   ·simp [go_sem, prOb, nodRow, wdRow]
    refine vc_drawnE (⟨[(0, .ptr 0 4 0 0), (6, .lit (.bool false))], [prOb b1 b2 3 4, none, none, nodRow (ns ++ [⟨b.2, b.1, 0, 0⟩]), wdRow (ws ++ [⟨b.2, false, false⟩])], [], 3⟩) [8,11] (.q 1 <| .q 2 <| .q 3 <| .q 4 <| .q 5 <| .q 6 <| .or 0 (.or 7 (.or 8 (.q 9 <| .q 10 <| .or 11 (.done) (.nil)) (.nil)) (.nil)) (.or 7 (.or 0 (.or 8 (.q 9 <| .q 10 <| .or 11 (.done) (.nil)) (.nil)) (.or 8 (.q 0 <| .q 9 <| .q 10 <| .or 11 (.done) (.nil)) (.nil))) (.nil))) (by kernel_rfl) ?_ ?_
    ·simp [go_sem]
     refine ⟨⟨by omega, by omega, ?_⟩, ⟨by omega, by omega, ?_⟩, ⟨by omega, by omega, ?_⟩⟩
     all_goals
      refine ent_ks [0, 1, 2, 6, 4] (by simp) (by simp) (by simp) (by decide) (by simp [go_sem]) ?_ ?_
      ·simp [go_sem]
      ·simp [go_sem, prOb, nodRow, wdRow]
       exact ⟨.inr (sh1N ⟨b.2, b.1, 0, 0⟩ (by simp) rfl (by simp) (by simp)), .inr sh0W⟩
    ·simp [go_sem, prOb, nodRow, wdRow]
     refine ⟨rfl, [3, 4], [prOb b1 b2 3 4, none, none, nodRow (ns ++ [⟨b.2, b.1, 0, 0⟩]), wdRow (ws ++ [⟨b.2, false, false⟩])], by simp, by simp, by simp [go_sem], ?_, by simp [go_sem], ?_⟩
     ·simp [go_sem, prOb, nodRow, wdRow]
      exact ⟨prOut, out0N, out0W⟩
     ·simp [go_sem, prOb, nodRow, wdRow]
end Go.Proofs.YtjdmmhcogmepaaaGreatDoor.V
namespace Go.Proofs.YtjdmmhcogmepaaaGreatDoor.V
open Go.RowKit
open Go.Proofs.YtjdmmhcogmepaaaGreatDoor.Ops (Tr)
section
variable {P : Program}
def ifcT (P : Program) (T : TypeId) : Bool := match P.underlying T with | some (.interface _) => true | _ => false
theorem ifcT_u {T : TypeId} (h : ifcT P T = true) : ∃ ms, P.underlying T = some (.interface ms) := by
 unfold ifcT at h
 split at h
 ·exact ⟨_, by assumption⟩
 ·cases h
theorem equal_if {T : TypeId} (hp : ifcT P T = true) (t : TypeId) (v : Value) (w : World) : (Op.equal T (.iface t v) .nilIface).run P w = .ok false w := by
 obtain ⟨ms, hp⟩ := ifcT_u hp
 have h : ∀ d : Nat, (Op.equalIn (d + 1) T (.iface t v) .nilIface).run P w = .ok false w := fun d => by
  simp [Op.equalIn, run_underlying hp]
 simp [Op.equal, Op.maxDepth, h 9999]
theorem equal_ifn {T : TypeId} (hp : ifcT P T = true) (w : World) : (Op.equal T .nilIface .nilIface).run P w = .ok true w := by
 obtain ⟨ms, hp⟩ := ifcT_u hp
 have h : ∀ d : Nat, (Op.equalIn (d + 1) T .nilIface .nilIface).run P w = .ok true w := fun d => by
  simp [Op.equalIn, run_underlying hp]
 simp [Op.equal, Op.maxDepth, h 9999]
theorem run_eq_if {T : TypeId} {w : World} (hp : ifcT P T = true) (t : TypeId) (v : Value) : (binOp .eql T (.iface t v) .nilIface).run P w = .ok (.bool false) w := by
 simp only [binOp]
 simp [equal_if hp t v]
theorem run_ne_if {T : TypeId} {w : World} (hp : ifcT P T = true) (t : TypeId) (v : Value) : (binOp .neq T (.iface t v) .nilIface).run P w = .ok (.bool true) w := by
 simp only [binOp]
 simp [equal_if hp t v]
theorem run_eq_ifn {T : TypeId} {w : World} (hp : ifcT P T = true) : (binOp .eql T .nilIface .nilIface).run P w = .ok (.bool true) w := by
 simp only [binOp]
 simp [equal_ifn hp]
theorem run_ne_ifn {T : TypeId} {w : World} (hp : ifcT P T = true) : (binOp .neq T .nilIface .nilIface).run P w = .ok (.bool false) w := by
 simp only [binOp]
 simp [equal_ifn hp]
theorem run_eqGuard_if {b : BinOp} {T : TypeId} {x y : Operand} {w : World} {t : TypeId} {v : Value} : (eqGuard b T x y (.iface t v) .nilIface).run P w = .ok () w := by
 unfold eqGuard
 split <;> rfl
theorem run_eqGuard_ifn {b : BinOp} {T : TypeId} {x : Operand} {w : World} {c : Value} : (eqGuard b T x (.const c) .nilIface .nilIface).run P w = .ok () w := by
 unfold eqGuard
 split <;> simp
theorem vbin_if {s : VS} {k : AV → VS → Prop} {T : TypeId} {x y : Operand} {t : TypeId} {v : Value} {b : BinOp} {r : Bool} (hr : ∀ w : World, (binOp b T (.iface t v) .nilIface).run P w = .ok (.bool r) w) : vbin P s k b T x y (some (.iface t v)) (some .nilIface) = k (.lit (.bool r)) s := by
 refine propext ⟨fun ⟨u, h, hk⟩ => ?_, fun hk => ⟨.bool r, fun w => ?_, hk⟩⟩
 ·have := h default
  simp [Sem.run_bind, run_eqGuard_if, hr, Result.andThen] at this
  rw [this]; exact hk
 ·simp [Sem.run_bind, run_eqGuard_if, hr, Result.andThen]
theorem vbin_ifn {s : VS} {k : AV → VS → Prop} {T : TypeId} {x : Operand} {c : Value} {b : BinOp} {r : Bool} (hr : ∀ w : World, (binOp b T .nilIface .nilIface).run P w = .ok (.bool r) w) : vbin P s k b T x (.const c) (some .nilIface) (some .nilIface) = k (.lit (.bool r)) s := by
 refine propext ⟨fun ⟨u, h, hk⟩ => ?_, fun hk => ⟨.bool r, fun w => ?_, hk⟩⟩
 ·have := h default
  simp [Sem.run_bind, run_eqGuard_ifn, hr, Result.andThen] at this
  rw [this]; exact hk
 ·simp [Sem.run_bind, run_eqGuard_ifn, hr, Result.andThen]
end
theorem ifc_part : ifcT Tryz.prog 92 = true := by kernel_rfl
@[go_sem 2000] theorem vb_eq_if {s : VS} {k : AV → VS → Prop} {x y : Operand} {t : TypeId} {v : Value} : vbin Tryz.prog s k .eql 92 x y (some (.iface t v)) (some .nilIface) = k (.lit (.bool false)) s := vbin_if fun _ => run_eq_if ifc_part t v
@[go_sem 2000] theorem vb_ne_if {s : VS} {k : AV → VS → Prop} {x y : Operand} {t : TypeId} {v : Value} : vbin Tryz.prog s k .neq 92 x y (some (.iface t v)) (some .nilIface) = k (.lit (.bool true)) s := vbin_if fun _ => run_ne_if ifc_part t v
@[go_sem 2000] theorem vb_eq_ifn {s : VS} {k : AV → VS → Prop} {x : Operand} {c : Value} : vbin Tryz.prog s k .eql 92 x (.const c) (some .nilIface) (some .nilIface) = k (.lit (.bool true)) s := vbin_ifn fun _ => run_eq_ifn ifc_part
@[go_sem 2000] theorem vb_ne_ifn {s : VS} {k : AV → VS → Prop} {x : Operand} {c : Value} : vbin Tryz.prog s k .neq 92 x (.const c) (some .nilIface) (some .nilIface) = k (.lit (.bool false)) s := vbin_ifn fun _ => run_ne_ifn ifc_part
theorem say_grp {b1 b2 : Nat} {e : ET} (h : SayOk b1 b2 e) : SayOk b1 b2 (.grp e) := fun m ns ws h1 h2 => h m ns ws (by simp only [sizeE] at h1; omega) (by simp only [sizeE] at h2; omega)
end Go.Proofs.YtjdmmhcogmepaaaGreatDoor.V
namespace Go.Proofs.YtjdmmhcogmepaaaGreatDoor.V
open Go.RowKit
open Go.Proofs.YtjdmmhcogmepaaaGreatDoor.Ops (Tr)
theorem zeroLeaf : zeroIs Tryz.prog 193 (.agg #[.int .i64 0, .string ⟨#[]⟩, .int .i64 0, .int .i64 0]) := fun w => Tryz.zeroValue193 w
set_option maxRecDepth 100000 in
theorem say_pre {b1 b2 : Nat} {o : POp} {e : ET} (ho : o.wf) (hk : o.kind = 1) (ih : SayOk b1 b2 e) : SayOk b1 b2 (.pre o e) := by
 intro m ns ws h1 h2
 have c4 := c_Hole o ho
 obtain ⟨T1, U1, hP⟩ := partV_iface e
 simp only [partV, prOb, nodRow, wdRow, sizeE, POp.cells, hP] at h1 h2 c4 ⊢
 have hz := size_grpd (bare e) (hole o false)
 have hz2 := sizeE_bare e
 have hy := yieldW_len (grpd (bare e) (hole o false))
 have hO := lay_len (grpd (bare e) (hole o false)) ns
 have hkb : (o.kind == 2) = false := by simp [hk]
 have ewk : IntKind.i64.wrap (o.kind + 2) = o.kind + 2 := wrap_i64 (by omega)
 by_cases hm : o.level < m
 ·have hN : lay (grpd (bare (.pre o e)) m) ns = lay (grpd (bare e) (hole o false)) ns ++ [⟨o.text, o.kind + 2, (lay (grpd (bare e) (hole o false)) ns).length - 1, 0⟩, grpNode (lay (grpd (bare e) (hole o false)) ns).length] := by simp [bare, grpd, hm, lay, grpNode]
  have hW : ws ++ yieldW (grpd (bare (.pre o e)) m) = ws ++ [lpar, opWord o] ++ yieldW (grpd (bare e) (hole o false)) ++ [rpar] := by simp [bare, grpd, hm, yieldW]
  have iq := ih (hole o false) ns (ws ++ [lpar, opWord o]) (by omega) (by simp; omega)
  rw [hP] at iq
  rw [hN, hW]
  have hWl : (ws ++ [lpar, opWord o] ++ yieldW (grpd (bare e) (hole o false))).length ≤ ws.length + 2 + 4 * sizeE e := by simp; omega
  generalize hO1 : lay (grpd (bare e) (hole o false)) ns = O1 at *
  generalize hW1 : ws ++ [lpar, opWord o] ++ yieldW (grpd (bare e) (hole o false)) = W1 at *
  have ew1 : IntKind.i64.wrap ((O1.length : Int) - 1) = (O1.length : Int) - 1 := wrap_i64 (by omega)
  have ew : IntKind.i64.wrap (O1.length : Int) = O1.length := wrap_i64 (by omega)
  refine vproc_start Tryz.func101 (by kernel_rfl) rfl (by simp [Tryz.ntmps101]) ?_; simp only [Tryz.ntmps101, Tryz.results101]; simp [go_sem]
  refine vcall_pure (c_applied_level o .nilIface (.iface T1 U1) (.inl rfl) (.inr ⟨_, _, rfl⟩) 0) ?_ ?_
  ·simp [go_sem]
  ·simp [go_sem, hm]
   refine ⟨by omega, by omega, _, zeroLeaf, ?_⟩
   refine vc_drawnE (⟨[(0, .ptr 0 4 0 0), (6, .lit (.bool true)), (8, .ptr 3 7 0 0), (9, .ptr 4 4 0 0)], [prOb b1 b2 1 5, nodRow ns, none, some ⟨164, 7, 1, fun _ => [.lit (.string o.text), .lit (.int .i64 o.kind), .lit (.int .i64 o.level), .lit (.int .i64 o.side), .lit .nilIface, .lit (.iface T1 U1), .lit (.int .i64 0)]⟩, some ⟨77, 4, 1, fun _ => [.lit (.int .i64 (o.kind + 2)), .lit (.string o.text), .lit (.int .i64 0), .lit (.int .i64 0)]⟩, wdRow (ws ++ [lpar, opWord o])], [], 3⟩) [14,17] (.q 1 <| .q 2 <| .q 3 <| .q 4 <| .q 5 <| .q 6 <| .q 7 <| .q 8 <| .q 9 <| .q 10 <| .q 11 <| .q 12 <| .or 0 (.or 13 (.or 14 (.q 15 <| .q 16 <| .or 17 (.done) (.nil)) (.nil)) (.nil)) (.or 13 (.or 0 (.or 14 (.q 15 <| .q 16 <| .or 17 (.done) (.nil)) (.nil)) (.or 14 (.q 0 <| .q 15 <| .q 16 <| .or 17 (.done) (.nil)) (.nil))) (.nil))) (by kernel_rfl) ?_ ?_
   ·simp [go_sem]
    refine ⟨⟨by omega, by omega, ?_⟩, ⟨by omega, by omega, ?_⟩, ⟨by omega, by omega, ?_⟩⟩
    all_goals
     refine ent_ks [0, 1, 2, 5, 6, 8] (by simp) (by simp) (by simp) (by decide) (by simp [go_sem]) ?_ ?_
     ·simp [go_sem]
     ·simp [go_sem, prOb, nodRow, wdRow, ewk]
      exact ⟨.inr sh0N, .inr (sh2W lpar (opWord o) (by simp) (by simp) rfl (by simp [opWord, PWord.cells, hk]) (by simp) (by simp))⟩
   ·simp [go_sem, prOb, nodRow, wdRow, hkb]
    refine vc_drawn [10] (.q 0 <| .q 1 <| .q 2 <| .q 3 <| .q 4 <| .q 5 <| .q 6 <| .q 7 <| .q 8 <| .or 9 (.or 10 (.done) (.nil)) (.nil)) (by kernel_rfl) ?_
    simp [go_sem, hkb]
    refine vcallV_pure (c4 false) ?_ ?_
    ·simp [go_sem, hkb]
    ·simp [go_sem]
     refine vcall_share [0, 1, 5] iq (by simp) ?_ ?_ trivial ?_
     ·simp [go_sem]
     ·simp [go_sem, prOb, nodRow, wdRow]
      exact ⟨sh0N, sh0W⟩
     ·rintro av mem maps ⟨rfl, rfl, rfl⟩
      simp [go_sem, prOb, nodRow, wdRow, ew1]
      refine ⟨by omega, ?_⟩
      refine vc_drawnE (⟨[(0, .ptr 0 4 0 0), (6, .lit (.bool true))], [prOb b1 b2 3 4, none, none, nodRow (O1 ++ [⟨o.text, o.kind + 2, (O1.length : Int) - 1, 0⟩]), wdRow W1], [], 3⟩) [7,10] (.q 1 <| .q 2 <| .q 3 <| .q 4 <| .q 5 <| .or 0 (.or 6 (.or 7 (.q 8 <| .q 9 <| .or 10 (.done) (.nil)) (.nil)) (.nil)) (.or 6 (.or 0 (.or 7 (.q 8 <| .q 9 <| .or 10 (.done) (.nil)) (.nil)) (.or 7 (.q 0 <| .q 8 <| .q 9 <| .or 10 (.done) (.nil)) (.nil))) (.nil))) (by kernel_rfl) ?_ ?_
      ·simp [go_sem]
       refine ⟨⟨by omega, by omega, ?_⟩, ⟨by omega, by omega, ?_⟩, ⟨by omega, by omega, ?_⟩⟩
       all_goals
        refine ent_ks [0, 1, 2, 9, 7] (by simp) (by simp) (by simp) (by decide) (by simp [go_sem]) ?_ ?_
        ·simp [go_sem]
        ·simp [go_sem, prOb, nodRow, wdRow]
         exact ⟨.inr (sh1N ⟨o.text, o.kind + 2, (O1.length : Int) - 1, 0⟩ (by simp) rfl (by simp) (by simp)), .inr sh0W⟩
      ·simp [go_sem, prOb, nodRow, wdRow, ew]
       refine ⟨by omega, by omega, ?_⟩
       refine vc_drawnE (⟨[(0, .ptr 0 4 0 0)], [prOb b1 b2 3 4, none, none, nodRow (O1 ++ [⟨o.text, o.kind + 2, (O1.length : Int) - 1, 0⟩, grpNode O1.length]), wdRow (W1 ++ [rpar])], [], 3⟩) [13,16] (.q 1 <| .q 2 <| .q 3 <| .q 4 <| .q 5 <| .q 6 <| .q 7 <| .q 8 <| .q 9 <| .q 10 <| .q 11 <| .or 0 (.or 12 (.or 13 (.q 14 <| .q 15 <| .or 16 (.done) (.nil)) (.nil)) (.nil)) (.or 12 (.or 0 (.or 13 (.q 14 <| .q 15 <| .or 16 (.done) (.nil)) (.nil)) (.or 13 (.q 0 <| .q 14 <| .q 15 <| .or 16 (.done) (.nil)) (.nil))) (.nil))) (by kernel_rfl) ?_ ?_
       ·simp [go_sem]
        refine ⟨by omega, ⟨by omega, by omega, ?_⟩, ⟨by omega, by omega, ?_⟩, ⟨by omega, by omega, ?_⟩⟩
        all_goals
         refine ent_ks [0, 1, 2, 8, 6] (by simp) (by simp) (by simp) (by decide) (by simp [go_sem]) ?_ ?_
         ·simp [go_sem]
         ·simp [go_sem, prOb, nodRow, wdRow, ew]
          exact ⟨.inr (sh1N (grpNode O1.length) (by simp) rfl (by simp) (by simp)), .inr (sh1W rpar (by simp) rfl (by simp) (by simp))⟩
       ·simp [go_sem, prOb, nodRow, wdRow]
        refine ⟨rfl, [3, 4], [prOb b1 b2 3 4, none, none, nodRow (O1 ++ [⟨o.text, o.kind + 2, (O1.length : Int) - 1, 0⟩, grpNode O1.length]), wdRow (W1 ++ [rpar])], by simp, by simp, by simp [go_sem], ?_, by simp [go_sem], ?_⟩
        ·simp [go_sem, prOb, nodRow, wdRow]
         exact ⟨prOut, out0N, out0W⟩
        ·simp [go_sem, prOb, nodRow, wdRow]
 ·have hN : lay (grpd (bare (.pre o e)) m) ns = lay (grpd (bare e) (hole o false)) ns ++ [⟨o.text, o.kind + 2, (lay (grpd (bare e) (hole o false)) ns).length - 1, 0⟩] := by simp [bare, grpd, hm, lay, grpNode]
  have hW : ws ++ yieldW (grpd (bare (.pre o e)) m) = ws ++ [opWord o] ++ yieldW (grpd (bare e) (hole o false)) := by simp [bare, grpd, hm, yieldW]
  have iq := ih (hole o false) ns (ws ++ [opWord o]) (by omega) (by simp; omega)
  rw [hP] at iq
  rw [hN, hW]
  have hWl : (ws ++ [opWord o] ++ yieldW (grpd (bare e) (hole o false))).length ≤ ws.length + 2 + 4 * sizeE e := by simp; omega
  generalize hO1 : lay (grpd (bare e) (hole o false)) ns = O1 at *
  generalize hW1 : ws ++ [opWord o] ++ yieldW (grpd (bare e) (hole o false)) = W1 at *
  have ew1 : IntKind.i64.wrap ((O1.length : Int) - 1) = (O1.length : Int) - 1 := wrap_i64 (by omega)
  refine vproc_start Tryz.func101 (by kernel_rfl) rfl (by simp [Tryz.ntmps101]) ?_; simp only [Tryz.ntmps101, Tryz.results101]; simp [go_sem]
  refine vcall_pure (c_applied_level o .nilIface (.iface T1 U1) (.inl rfl) (.inr ⟨_, _, rfl⟩) 0) ?_ ?_
  ·simp [go_sem]
  ·simp [go_sem, hm]
   refine ⟨_, zeroLeaf, ?_⟩
   refine vc_drawnE (⟨[(0, .ptr 0 4 0 0), (6, .lit (.bool false)), (8, .ptr 3 7 0 0), (9, .ptr 4 4 0 0)], [prOb b1 b2 1 5, nodRow ns, none, some ⟨164, 7, 1, fun _ => [.lit (.string o.text), .lit (.int .i64 o.kind), .lit (.int .i64 o.level), .lit (.int .i64 o.side), .lit .nilIface, .lit (.iface T1 U1), .lit (.int .i64 0)]⟩, some ⟨77, 4, 1, fun _ => [.lit (.int .i64 (o.kind + 2)), .lit (.string o.text), .lit (.int .i64 0), .lit (.int .i64 0)]⟩, wdRow (ws ++ [opWord o])], [], 3⟩) [14,17] (.q 1 <| .q 2 <| .q 3 <| .q 4 <| .q 5 <| .q 6 <| .q 7 <| .q 8 <| .q 9 <| .q 10 <| .q 11 <| .q 12 <| .or 0 (.or 13 (.or 14 (.q 15 <| .q 16 <| .or 17 (.done) (.nil)) (.nil)) (.nil)) (.or 13 (.or 0 (.or 14 (.q 15 <| .q 16 <| .or 17 (.done) (.nil)) (.nil)) (.or 14 (.q 0 <| .q 15 <| .q 16 <| .or 17 (.done) (.nil)) (.nil))) (.nil))) (by kernel_rfl) ?_ ?_
   ·simp [go_sem]
    refine ⟨⟨by omega, by omega, ?_⟩, ⟨by omega, by omega, ?_⟩, ⟨by omega, by omega, ?_⟩⟩
    all_goals
     refine ent_ks [0, 1, 2, 3, 4, 6] (by simp) (by simp) (by simp) (by decide) (by simp [go_sem]) ?_ ?_
     ·simp [go_sem]
     ·simp [go_sem, prOb, nodRow, wdRow, ewk]
      exact ⟨.inr sh0N, .inr (sh1W (opWord o) (by simp) (by simp [opWord, PWord.cells, hk]) (by simp) (by simp))⟩
   ·simp [go_sem, prOb, nodRow, wdRow, hkb]
    refine vc_drawn [10] (.q 0 <| .q 1 <| .q 2 <| .q 3 <| .q 4 <| .q 5 <| .q 6 <| .q 7 <| .q 8 <| .or 9 (.or 10 (.done) (.nil)) (.nil)) (by kernel_rfl) ?_
    simp [go_sem, hkb]
    refine vcallV_pure (c4 false) ?_ ?_
    ·simp [go_sem, hkb]
    ·simp [go_sem]
     refine vcall_share [0, 1, 5] iq (by simp) ?_ ?_ trivial ?_
     ·simp [go_sem]
     ·simp [go_sem, prOb, nodRow, wdRow]
      exact ⟨sh0N, sh0W⟩
     ·rintro av mem maps ⟨rfl, rfl, rfl⟩
      simp [go_sem, prOb, nodRow, wdRow, ew1]
      refine ⟨by omega, ?_⟩
      refine vc_drawnE (⟨[(0, .ptr 0 4 0 0), (6, .lit (.bool false))], [prOb b1 b2 3 4, none, none, nodRow (O1 ++ [⟨o.text, o.kind + 2, (O1.length : Int) - 1, 0⟩]), wdRow W1], [], 3⟩) [7,10] (.q 1 <| .q 2 <| .q 3 <| .q 4 <| .q 5 <| .or 0 (.or 6 (.or 7 (.q 8 <| .q 9 <| .or 10 (.done) (.nil)) (.nil)) (.nil)) (.or 6 (.or 0 (.or 7 (.q 8 <| .q 9 <| .or 10 (.done) (.nil)) (.nil)) (.or 7 (.q 0 <| .q 8 <| .q 9 <| .or 10 (.done) (.nil)) (.nil))) (.nil))) (by kernel_rfl) ?_ ?_
      ·simp [go_sem]
       refine ⟨⟨by omega, by omega, ?_⟩, ⟨by omega, by omega, ?_⟩, ⟨by omega, by omega, ?_⟩⟩
       all_goals
        refine ent_ks [0, 1, 2, 9, 7] (by simp) (by simp) (by simp) (by decide) (by simp [go_sem]) ?_ ?_
        ·simp [go_sem]
        ·simp [go_sem, prOb, nodRow, wdRow]
         exact ⟨.inr (sh1N ⟨o.text, o.kind + 2, (O1.length : Int) - 1, 0⟩ (by simp) rfl (by simp) (by simp)), .inr sh0W⟩
      ·simp [go_sem, prOb, nodRow, wdRow]
       refine ⟨rfl, [3, 4], [prOb b1 b2 3 4, none, none, nodRow (O1 ++ [⟨o.text, o.kind + 2, (O1.length : Int) - 1, 0⟩]), wdRow (W1)], by simp, by simp, by simp [go_sem], ?_, by simp [go_sem], ?_⟩
       ·simp [go_sem, prOb, nodRow, wdRow]
        exact ⟨prOut, out0N, out0W⟩
       ·simp [go_sem, prOb, nodRow, wdRow]
set_option maxRecDepth 100000 in
theorem say_post {b1 b2 : Nat} {o : POp} {e : ET} (ho : o.wf) (hk : o.kind = 3) (ih : SayOk b1 b2 e) : SayOk b1 b2 (.post o e) := by
 intro m ns ws h1 h2
 have c4 := c_Hole o ho
 obtain ⟨T1, U1, hP⟩ := partV_iface e
 simp only [partV, prOb, nodRow, wdRow, sizeE, POp.cells, hP] at h1 h2 c4 ⊢
 have hz := size_grpd (bare e) (hole o false)
 have hz2 := sizeE_bare e
 have hy := yieldW_len (grpd (bare e) (hole o false))
 have hO := lay_len (grpd (bare e) (hole o false)) ns
 have hkb : (o.kind == 2) = false := by simp [hk]
 have ewk : IntKind.i64.wrap (o.kind + 2) = o.kind + 2 := wrap_i64 (by omega)
 by_cases hm : o.level < m
 ·have hN : lay (grpd (bare (.post o e)) m) ns = lay (grpd (bare e) (hole o false)) ns ++ [⟨o.text, o.kind + 2, (lay (grpd (bare e) (hole o false)) ns).length - 1, 0⟩, grpNode (lay (grpd (bare e) (hole o false)) ns).length] := by simp [bare, grpd, hm, lay, grpNode]
  have hW : ws ++ yieldW (grpd (bare (.post o e)) m) = (((ws ++ [lpar]) ++ yieldW (grpd (bare e) (hole o false))) ++ [opWord o]) ++ [rpar] := by simp [bare, grpd, hm, yieldW]
  have iq := ih (hole o false) ns (ws ++ [lpar]) (by omega) (by simp; omega)
  rw [hP] at iq
  rw [hN, hW]
  have hWl : ((ws ++ [lpar]) ++ yieldW (grpd (bare e) (hole o false))).length ≤ ws.length + 1 + 4 * sizeE e := by simp; omega
  generalize hO1 : lay (grpd (bare e) (hole o false)) ns = O1 at *
  generalize hW1 : (ws ++ [lpar]) ++ yieldW (grpd (bare e) (hole o false)) = W1 at *
  have ew1 : IntKind.i64.wrap ((O1.length : Int) - 1) = (O1.length : Int) - 1 := wrap_i64 (by omega)
  have ew : IntKind.i64.wrap (O1.length : Int) = O1.length := wrap_i64 (by omega)
  refine vproc_start Tryz.func101 (by kernel_rfl) rfl (by simp [Tryz.ntmps101]) ?_; simp only [Tryz.ntmps101, Tryz.results101]; simp [go_sem]
  refine vcall_pure (c_applied_level o (.iface T1 U1) .nilIface (.inr ⟨_, _, rfl⟩) (.inl rfl) 0) ?_ ?_
  ·simp [go_sem]
  ·simp [go_sem, hm]
   refine ⟨by omega, by omega, _, zeroLeaf, ?_⟩
   refine vc_drawn [6] (.q 0 <| .q 1 <| .q 2 <| .q 3 <| .q 4 <| .or 5 (.or 6 (.done) (.nil)) (.nil)) (by kernel_rfl) ?_
   simp [go_sem]
   refine vcallV_pure (c4 false) ?_ ?_
   ·simp [go_sem]
   ·simp [go_sem]
    refine vcall_share [0, 1, 4] iq (by simp) ?_ ?_ trivial ?_
    ·simp [go_sem]
    ·simp [go_sem, prOb, nodRow, wdRow]
     exact ⟨sh0N, sh1W lpar (by simp) rfl (by simp) (by simp)⟩
    ·rintro av mem maps ⟨rfl, rfl, rfl⟩
     simp [go_sem, prOb, nodRow, wdRow, ew1]
     refine ⟨by omega, ?_⟩
     refine vc_drawnE (⟨[(0, .ptr 0 4 0 0), (6, .lit (.bool true)), (8, .ptr 3 7 0 0), (9, .ptr 4 4 0 0)], [prOb b1 b2 5 6, none, none, some ⟨164, 7, 1, fun _ => [.lit (.string o.text), .lit (.int .i64 o.kind), .lit (.int .i64 o.level), .lit (.int .i64 o.side), .lit (.iface T1 U1), .lit .nilIface, .lit (.int .i64 0)]⟩, some ⟨77, 4, 1, fun _ => [.lit (.int .i64 (o.kind + 2)), .lit (.string o.text), .lit (.int .i64 ((O1.length : Int) - 1)), .lit (.int .i64 0)]⟩, nodRow O1, wdRow (W1 ++ [opWord o])], [], 3⟩) [14,17] (.q 1 <| .q 2 <| .q 3 <| .q 4 <| .q 5 <| .q 6 <| .q 7 <| .q 8 <| .q 9 <| .q 10 <| .q 11 <| .q 12 <| .or 0 (.or 13 (.or 14 (.q 15 <| .q 16 <| .or 17 (.done) (.nil)) (.nil)) (.nil)) (.or 13 (.or 0 (.or 14 (.q 15 <| .q 16 <| .or 17 (.done) (.nil)) (.nil)) (.or 14 (.q 0 <| .q 15 <| .q 16 <| .or 17 (.done) (.nil)) (.nil))) (.nil))) (by kernel_rfl) ?_ ?_
     ·simp [go_sem]
      refine ⟨⟨by omega, by omega, ?_⟩, ⟨by omega, by omega, ?_⟩, ⟨by omega, by omega, ?_⟩⟩
      all_goals
       refine ent_ks [0, 1, 2, 5, 6, 7, 10] (by simp) (by simp) (by simp) (by decide) (by simp [go_sem]) ?_ ?_
       ·simp [go_sem]
       ·simp [go_sem, prOb, nodRow, wdRow, ewk]
        exact ⟨.inr sh0N, .inr (sh1W (opWord o) (by simp) (by simp [opWord, PWord.cells, hk]) (by simp) (by simp))⟩
     ·simp [go_sem, prOb, nodRow, wdRow, hkb]
      refine vc_drawnE (⟨[(0, .ptr 0 4 0 0), (6, .lit (.bool true))], [prOb b1 b2 3 4, none, none, nodRow (O1 ++ [⟨o.text, o.kind + 2, (O1.length : Int) - 1, 0⟩]), wdRow (W1 ++ [opWord o])], [], 3⟩) [7,10] (.q 1 <| .q 2 <| .q 3 <| .q 4 <| .q 5 <| .or 0 (.or 6 (.or 7 (.q 8 <| .q 9 <| .or 10 (.done) (.nil)) (.nil)) (.nil)) (.or 6 (.or 0 (.or 7 (.q 8 <| .q 9 <| .or 10 (.done) (.nil)) (.nil)) (.or 7 (.q 0 <| .q 8 <| .q 9 <| .or 10 (.done) (.nil)) (.nil))) (.nil))) (by kernel_rfl) ?_ ?_
      ·simp [go_sem]
       refine ⟨⟨by omega, by omega, ?_⟩, ⟨by omega, by omega, ?_⟩, ⟨by omega, by omega, ?_⟩⟩
       all_goals
        refine ent_ks [0, 1, 2, 8, 6] (by simp) (by simp) (by simp) (by decide) (by simp [go_sem]) ?_ ?_
        ·simp [go_sem]
        ·simp [go_sem, prOb, nodRow, wdRow]
         exact ⟨.inr (sh1N ⟨o.text, o.kind + 2, (O1.length : Int) - 1, 0⟩ (by simp) rfl (by simp) (by simp)), .inr sh0W⟩
      ·simp [go_sem, prOb, nodRow, wdRow, ew]
       refine ⟨by omega, by omega, ?_⟩
       refine vc_drawnE (⟨[(0, .ptr 0 4 0 0)], [prOb b1 b2 3 4, none, none, nodRow (O1 ++ [⟨o.text, o.kind + 2, (O1.length : Int) - 1, 0⟩, grpNode O1.length]), wdRow ((W1 ++ [opWord o]) ++ [rpar])], [], 3⟩) [13,16] (.q 1 <| .q 2 <| .q 3 <| .q 4 <| .q 5 <| .q 6 <| .q 7 <| .q 8 <| .q 9 <| .q 10 <| .q 11 <| .or 0 (.or 12 (.or 13 (.q 14 <| .q 15 <| .or 16 (.done) (.nil)) (.nil)) (.nil)) (.or 12 (.or 0 (.or 13 (.q 14 <| .q 15 <| .or 16 (.done) (.nil)) (.nil)) (.or 13 (.q 0 <| .q 14 <| .q 15 <| .or 16 (.done) (.nil)) (.nil))) (.nil))) (by kernel_rfl) ?_ ?_
       ·simp [go_sem]
        refine ⟨by omega, ⟨by omega, by omega, ?_⟩, ⟨by omega, by omega, ?_⟩, ⟨by omega, by omega, ?_⟩⟩
        all_goals
         refine ent_ks [0, 1, 2, 8, 6] (by simp) (by simp) (by simp) (by decide) (by simp [go_sem]) ?_ ?_
         ·simp [go_sem]
         ·simp [go_sem, prOb, nodRow, wdRow, ew]
          exact ⟨.inr (sh1N (grpNode O1.length) (by simp) rfl (by simp) (by simp)), .inr (sh1W rpar (by simp) rfl (by simp) (by simp))⟩
       ·simp [go_sem, prOb, nodRow, wdRow]
        refine ⟨rfl, [3, 4], [prOb b1 b2 3 4, none, none, nodRow (O1 ++ [⟨o.text, o.kind + 2, (O1.length : Int) - 1, 0⟩, grpNode O1.length]), wdRow ((W1 ++ [opWord o]) ++ [rpar])], by simp, by simp, by simp [go_sem], ?_, by simp [go_sem], ?_⟩
        ·simp [go_sem, prOb, nodRow, wdRow]
         exact ⟨prOut, out0N, out0W⟩
        ·simp [go_sem, prOb, nodRow, wdRow]
 ·have hN : lay (grpd (bare (.post o e)) m) ns = lay (grpd (bare e) (hole o false)) ns ++ [⟨o.text, o.kind + 2, (lay (grpd (bare e) (hole o false)) ns).length - 1, 0⟩] := by simp [bare, grpd, hm, lay, grpNode]
  have hW : ws ++ yieldW (grpd (bare (.post o e)) m) = ((ws ++ yieldW (grpd (bare e) (hole o false))) ++ [opWord o]) := by simp [bare, grpd, hm, yieldW]
  have iq := ih (hole o false) ns ws (by omega) (by omega)
  rw [hP] at iq
  rw [hN, hW]
  have hWl : (ws ++ yieldW (grpd (bare e) (hole o false))).length ≤ ws.length + 1 + 4 * sizeE e := by simp; omega
  generalize hO1 : lay (grpd (bare e) (hole o false)) ns = O1 at *
  generalize hW1 : ws ++ yieldW (grpd (bare e) (hole o false)) = W1 at *
  have ew1 : IntKind.i64.wrap ((O1.length : Int) - 1) = (O1.length : Int) - 1 := wrap_i64 (by omega)
  refine vproc_start Tryz.func101 (by kernel_rfl) rfl (by simp [Tryz.ntmps101]) ?_; simp only [Tryz.ntmps101, Tryz.results101]; simp [go_sem]
  refine vcall_pure (c_applied_level o (.iface T1 U1) .nilIface (.inr ⟨_, _, rfl⟩) (.inl rfl) 0) ?_ ?_
  ·simp [go_sem]
  ·simp [go_sem, hm]
   refine ⟨_, zeroLeaf, ?_⟩
   refine vc_drawn [6] (.q 0 <| .q 1 <| .q 2 <| .q 3 <| .q 4 <| .or 5 (.or 6 (.done) (.nil)) (.nil)) (by kernel_rfl) ?_
   simp [go_sem]
   refine vcallV_pure (c4 false) ?_ ?_
   ·simp [go_sem]
   ·simp [go_sem]
    refine vcall_share [0, 1, 2] iq (by simp) ?_ ?_ trivial ?_
    ·simp [go_sem]
    ·simp [go_sem, prOb, nodRow, wdRow]
     exact ⟨sh0N, sh0W⟩
    ·rintro av mem maps ⟨rfl, rfl, rfl⟩
     simp [go_sem, prOb, nodRow, wdRow, ew1]
     refine ⟨by omega, ?_⟩
     refine vc_drawnE (⟨[(0, .ptr 0 4 0 0), (6, .lit (.bool false)), (8, .ptr 3 7 0 0), (9, .ptr 4 4 0 0)], [prOb b1 b2 5 6, none, none, some ⟨164, 7, 1, fun _ => [.lit (.string o.text), .lit (.int .i64 o.kind), .lit (.int .i64 o.level), .lit (.int .i64 o.side), .lit (.iface T1 U1), .lit .nilIface, .lit (.int .i64 0)]⟩, some ⟨77, 4, 1, fun _ => [.lit (.int .i64 (o.kind + 2)), .lit (.string o.text), .lit (.int .i64 ((O1.length : Int) - 1)), .lit (.int .i64 0)]⟩, nodRow O1, wdRow (W1 ++ [opWord o])], [], 3⟩) [14,17] (.q 1 <| .q 2 <| .q 3 <| .q 4 <| .q 5 <| .q 6 <| .q 7 <| .q 8 <| .q 9 <| .q 10 <| .q 11 <| .q 12 <| .or 0 (.or 13 (.or 14 (.q 15 <| .q 16 <| .or 17 (.done) (.nil)) (.nil)) (.nil)) (.or 13 (.or 0 (.or 14 (.q 15 <| .q 16 <| .or 17 (.done) (.nil)) (.nil)) (.or 14 (.q 0 <| .q 15 <| .q 16 <| .or 17 (.done) (.nil)) (.nil))) (.nil))) (by kernel_rfl) ?_ ?_
     ·simp [go_sem]
      refine ⟨⟨by omega, by omega, ?_⟩, ⟨by omega, by omega, ?_⟩, ⟨by omega, by omega, ?_⟩⟩
      all_goals
       refine ent_ks [0, 1, 2, 3, 4, 5, 8] (by simp) (by simp) (by simp) (by decide) (by simp [go_sem]) ?_ ?_
       ·simp [go_sem]
       ·simp [go_sem, prOb, nodRow, wdRow, ewk]
        exact ⟨.inr sh0N, .inr (sh1W (opWord o) (by simp) (by simp [opWord, PWord.cells, hk]) (by simp) (by simp))⟩
     ·simp [go_sem, prOb, nodRow, wdRow, hkb]
      refine vc_drawnE (⟨[(0, .ptr 0 4 0 0), (6, .lit (.bool false))], [prOb b1 b2 3 4, none, none, nodRow (O1 ++ [⟨o.text, o.kind + 2, (O1.length : Int) - 1, 0⟩]), wdRow (W1 ++ [opWord o])], [], 3⟩) [7,10] (.q 1 <| .q 2 <| .q 3 <| .q 4 <| .q 5 <| .or 0 (.or 6 (.or 7 (.q 8 <| .q 9 <| .or 10 (.done) (.nil)) (.nil)) (.nil)) (.or 6 (.or 0 (.or 7 (.q 8 <| .q 9 <| .or 10 (.done) (.nil)) (.nil)) (.or 7 (.q 0 <| .q 8 <| .q 9 <| .or 10 (.done) (.nil)) (.nil))) (.nil))) (by kernel_rfl) ?_ ?_
      ·simp [go_sem]
       refine ⟨⟨by omega, by omega, ?_⟩, ⟨by omega, by omega, ?_⟩, ⟨by omega, by omega, ?_⟩⟩
       all_goals
        refine ent_ks [0, 1, 2, 8, 6] (by simp) (by simp) (by simp) (by decide) (by simp [go_sem]) ?_ ?_
        ·simp [go_sem]
        ·simp [go_sem, prOb, nodRow, wdRow]
         exact ⟨.inr (sh1N ⟨o.text, o.kind + 2, (O1.length : Int) - 1, 0⟩ (by simp) rfl (by simp) (by simp)), .inr sh0W⟩
      ·simp [go_sem, prOb, nodRow, wdRow]
       refine ⟨rfl, [3, 4], [prOb b1 b2 3 4, none, none, nodRow (O1 ++ [⟨o.text, o.kind + 2, (O1.length : Int) - 1, 0⟩]), wdRow ((W1 ++ [opWord o]))], by simp, by simp, by simp [go_sem], ?_, by simp [go_sem], ?_⟩
       ·simp [go_sem, prOb, nodRow, wdRow]
        exact ⟨prOut, out0N, out0W⟩
       ·simp [go_sem, prOb, nodRow, wdRow]
set_option maxRecDepth 100000 in
theorem say_inf {b1 b2 : Nat} {o : POp} {e y : ET} (ho : o.wf) (hk : o.kind = 2) (ih : SayOk b1 b2 e) (ihy : SayOk b1 b2 y) : SayOk b1 b2 (.inf o e y) := by
 intro m ns ws h1 h2
 have c4 := c_Hole o ho
 obtain ⟨T1, U1, hP⟩ := partV_iface e
 obtain ⟨T2, U2, hP2⟩ := partV_iface y
 simp only [partV, prOb, nodRow, wdRow, sizeE, POp.cells, hP, hP2] at h1 h2 c4 ⊢
 have hz := size_grpd (bare e) (hole o false)
 have hz2 := sizeE_bare e
 have hy := yieldW_len (grpd (bare e) (hole o false))
 have hO := lay_len (grpd (bare e) (hole o false)) ns
 have hz3 := size_grpd (bare y) (hole o true)
 have hz4 := sizeE_bare y
 have hy2 := yieldW_len (grpd (bare y) (hole o true))
 have hO2 := lay_len (grpd (bare y) (hole o true)) (lay (grpd (bare e) (hole o false)) ns)
 have hkb : (o.kind == 2) = true := by simp [hk]
 have ewk : IntKind.i64.wrap (o.kind + 2) = o.kind + 2 := wrap_i64 (by omega)
 by_cases hm : o.level < m
 ·have hN : lay (grpd (bare (.inf o e y)) m) ns = lay (grpd (bare y) (hole o true)) (lay (grpd (bare e) (hole o false)) ns) ++ [⟨o.text, o.kind + 2, (lay (grpd (bare e) (hole o false)) ns).length - 1, (lay (grpd (bare y) (hole o true)) (lay (grpd (bare e) (hole o false)) ns)).length - 1⟩, grpNode (lay (grpd (bare y) (hole o true)) (lay (grpd (bare e) (hole o false)) ns)).length] := by simp [bare, grpd, hm, lay, grpNode]
  have hW : ws ++ yieldW (grpd (bare (.inf o e y)) m) = (((ws ++ [lpar]) ++ yieldW (grpd (bare e) (hole o false))) ++ [opWord o]) ++ yieldW (grpd (bare y) (hole o true)) ++ [rpar] := by simp [bare, grpd, hm, yieldW]
  have iq := ih (hole o false) ns (ws ++ [lpar]) (by omega) (by simp; omega)
  rw [hP] at iq
  rw [hN, hW]
  have hWl : ((ws ++ [lpar]) ++ yieldW (grpd (bare e) (hole o false))).length ≤ ws.length + 1 + 4 * sizeE e := by simp; omega
  generalize hO1 : lay (grpd (bare e) (hole o false)) ns = O1 at *
  generalize hW1 : (ws ++ [lpar]) ++ yieldW (grpd (bare e) (hole o false)) = W1 at *
  have ew1 : IntKind.i64.wrap ((O1.length : Int) - 1) = (O1.length : Int) - 1 := wrap_i64 (by omega)
  have iq2 := ihy (hole o true) O1 (W1 ++ [opWord o]) (by omega) (by simp; omega)
  rw [hP2] at iq2
  have hWl2 : (W1 ++ [opWord o] ++ yieldW (grpd (bare y) (hole o true))).length ≤ ws.length + 2 + 4 * sizeE e + 4 * sizeE y := by simp; omega
  generalize hO2' : lay (grpd (bare y) (hole o true)) O1 = O2 at *
  generalize hW2 : W1 ++ [opWord o] ++ yieldW (grpd (bare y) (hole o true)) = W2 at *
  have ew2 : IntKind.i64.wrap ((O2.length : Int) - 1) = (O2.length : Int) - 1 := wrap_i64 (by omega)
  have ew : IntKind.i64.wrap (O2.length : Int) = O2.length := wrap_i64 (by omega)
  refine vproc_start Tryz.func101 (by kernel_rfl) rfl (by simp [Tryz.ntmps101]) ?_; simp only [Tryz.ntmps101, Tryz.results101]; simp [go_sem]
  refine vcall_pure (c_applied_level o (.iface T1 U1) (.iface T2 U2) (.inr ⟨_, _, rfl⟩) (.inr ⟨_, _, rfl⟩) 0) ?_ ?_
  ·simp [go_sem]
  ·simp [go_sem, hm]
   refine ⟨by omega, by omega, _, zeroLeaf, ?_⟩
   refine vc_drawn [6] (.q 0 <| .q 1 <| .q 2 <| .q 3 <| .q 4 <| .or 5 (.or 6 (.done) (.nil)) (.nil)) (by kernel_rfl) ?_
   simp [go_sem]
   refine vcallV_pure (c4 false) ?_ ?_
   ·simp [go_sem]
   ·simp [go_sem]
    refine vcall_share [0, 1, 4] iq (by simp) ?_ ?_ trivial ?_
    ·simp [go_sem]
    ·simp [go_sem, prOb, nodRow, wdRow]
     exact ⟨sh0N, sh1W lpar (by simp) rfl (by simp) (by simp)⟩
    ·rintro av mem maps ⟨rfl, rfl, rfl⟩
     simp [go_sem, prOb, nodRow, wdRow, ew1]
     refine ⟨by omega, ?_⟩
     refine vc_drawnE (⟨[(0, .ptr 0 4 0 0), (6, .lit (.bool true)), (8, .ptr 3 7 0 0), (9, .ptr 4 4 0 0)], [prOb b1 b2 5 6, none, none, some ⟨164, 7, 1, fun _ => [.lit (.string o.text), .lit (.int .i64 o.kind), .lit (.int .i64 o.level), .lit (.int .i64 o.side), .lit (.iface T1 U1), .lit (.iface T2 U2), .lit (.int .i64 0)]⟩, some ⟨77, 4, 1, fun _ => [.lit (.int .i64 (o.kind + 2)), .lit (.string o.text), .lit (.int .i64 ((O1.length : Int) - 1)), .lit (.int .i64 0)]⟩, nodRow O1, wdRow (W1 ++ [opWord o])], [], 3⟩) [14,17] (.q 1 <| .q 2 <| .q 3 <| .q 4 <| .q 5 <| .q 6 <| .q 7 <| .q 8 <| .q 9 <| .q 10 <| .q 11 <| .q 12 <| .or 0 (.or 13 (.or 14 (.q 15 <| .q 16 <| .or 17 (.done) (.nil)) (.nil)) (.nil)) (.or 13 (.or 0 (.or 14 (.q 15 <| .q 16 <| .or 17 (.done) (.nil)) (.nil)) (.or 14 (.q 0 <| .q 15 <| .q 16 <| .or 17 (.done) (.nil)) (.nil))) (.nil))) (by kernel_rfl) ?_ ?_
     ·simp [go_sem]
      refine ⟨⟨by omega, by omega, ?_⟩, ⟨by omega, by omega, ?_⟩, ⟨by omega, by omega, ?_⟩⟩
      all_goals
       refine ent_ks [0, 1, 2, 5, 6, 7, 10] (by simp) (by simp) (by simp) (by decide) (by simp [go_sem]) ?_ ?_
       ·simp [go_sem]
       ·simp [go_sem, prOb, nodRow, wdRow, ewk]
        exact ⟨.inr sh0N, .inr (sh1W (opWord o) (by simp) (by simp [opWord, PWord.cells, hk]) (by simp) (by simp))⟩
     ·simp [go_sem, prOb, nodRow, wdRow, hkb]
      refine vc_drawn [10] (.q 0 <| .q 1 <| .q 2 <| .q 3 <| .q 4 <| .q 5 <| .q 6 <| .q 7 <| .q 8 <| .or 9 (.or 10 (.done) (.nil)) (.nil)) (by kernel_rfl) ?_
      simp [go_sem, hkb]
      refine vcallV_pure (c4 true) ?_ ?_
      ·simp [go_sem, hkb]
      ·simp [go_sem]
       refine vcall_share [0, 5, 6] iq2 (by simp) ?_ ?_ trivial ?_
       ·simp [go_sem]
       ·simp [go_sem, prOb, nodRow, wdRow]
        exact ⟨sh0N, sh0W⟩
       ·rintro av mem maps ⟨rfl, rfl, rfl⟩
        simp [go_sem, prOb, nodRow, wdRow, ew2]
        refine ⟨by omega, ?_⟩
        refine vc_drawnE (⟨[(0, .ptr 0 4 0 0), (6, .lit (.bool true))], [prOb b1 b2 3 4, none, none, nodRow (O2 ++ [⟨o.text, o.kind + 2, (O1.length : Int) - 1, (O2.length : Int) - 1⟩]), wdRow W2], [], 3⟩) [7,10] (.q 1 <| .q 2 <| .q 3 <| .q 4 <| .q 5 <| .or 0 (.or 6 (.or 7 (.q 8 <| .q 9 <| .or 10 (.done) (.nil)) (.nil)) (.nil)) (.or 6 (.or 0 (.or 7 (.q 8 <| .q 9 <| .or 10 (.done) (.nil)) (.nil)) (.or 7 (.q 0 <| .q 8 <| .q 9 <| .or 10 (.done) (.nil)) (.nil))) (.nil))) (by kernel_rfl) ?_ ?_
        ·simp [go_sem]
         refine ⟨⟨by omega, by omega, ?_⟩, ⟨by omega, by omega, ?_⟩, ⟨by omega, by omega, ?_⟩⟩
         all_goals
          refine ent_ks [0, 1, 2, 10, 8] (by simp) (by simp) (by simp) (by decide) (by simp [go_sem]) ?_ ?_
          ·simp [go_sem]
          ·simp [go_sem, prOb, nodRow, wdRow]
           exact ⟨.inr (sh1N ⟨o.text, o.kind + 2, (O1.length : Int) - 1, (O2.length : Int) - 1⟩ (by simp) rfl (by simp) (by simp)), .inr sh0W⟩
        ·simp [go_sem, prOb, nodRow, wdRow, ew]
         refine ⟨by omega, by omega, ?_⟩
         refine vc_drawnE (⟨[(0, .ptr 0 4 0 0)], [prOb b1 b2 3 4, none, none, nodRow (O2 ++ [⟨o.text, o.kind + 2, (O1.length : Int) - 1, (O2.length : Int) - 1⟩, grpNode O2.length]), wdRow (W2 ++ [rpar])], [], 3⟩) [13,16] (.q 1 <| .q 2 <| .q 3 <| .q 4 <| .q 5 <| .q 6 <| .q 7 <| .q 8 <| .q 9 <| .q 10 <| .q 11 <| .or 0 (.or 12 (.or 13 (.q 14 <| .q 15 <| .or 16 (.done) (.nil)) (.nil)) (.nil)) (.or 12 (.or 0 (.or 13 (.q 14 <| .q 15 <| .or 16 (.done) (.nil)) (.nil)) (.or 13 (.q 0 <| .q 14 <| .q 15 <| .or 16 (.done) (.nil)) (.nil))) (.nil))) (by kernel_rfl) ?_ ?_
         ·simp [go_sem]
          refine ⟨by omega, ⟨by omega, by omega, ?_⟩, ⟨by omega, by omega, ?_⟩, ⟨by omega, by omega, ?_⟩⟩
          all_goals
           refine ent_ks [0, 1, 2, 8, 6] (by simp) (by simp) (by simp) (by decide) (by simp [go_sem]) ?_ ?_
           ·simp [go_sem]
           ·simp [go_sem, prOb, nodRow, wdRow, ew]
            exact ⟨.inr (sh1N (grpNode O2.length) (by simp) rfl (by simp) (by simp)), .inr (sh1W rpar (by simp) rfl (by simp) (by simp))⟩
         ·simp [go_sem, prOb, nodRow, wdRow]
          refine ⟨rfl, [3, 4], [prOb b1 b2 3 4, none, none, nodRow (O2 ++ [⟨o.text, o.kind + 2, (O1.length : Int) - 1, (O2.length : Int) - 1⟩, grpNode O2.length]), wdRow (W2 ++ [rpar])], by simp, by simp, by simp [go_sem], ?_, by simp [go_sem], ?_⟩
          ·simp [go_sem, prOb, nodRow, wdRow]
           exact ⟨prOut, out0N, out0W⟩
          ·simp [go_sem, prOb, nodRow, wdRow]
 ·have hN : lay (grpd (bare (.inf o e y)) m) ns = lay (grpd (bare y) (hole o true)) (lay (grpd (bare e) (hole o false)) ns) ++ [⟨o.text, o.kind + 2, (lay (grpd (bare e) (hole o false)) ns).length - 1, (lay (grpd (bare y) (hole o true)) (lay (grpd (bare e) (hole o false)) ns)).length - 1⟩] := by simp [bare, grpd, hm, lay, grpNode]
  have hW : ws ++ yieldW (grpd (bare (.inf o e y)) m) = ((ws ++ yieldW (grpd (bare e) (hole o false))) ++ [opWord o]) ++ yieldW (grpd (bare y) (hole o true)) := by simp [bare, grpd, hm, yieldW]
  have iq := ih (hole o false) ns ws (by omega) (by omega)
  rw [hP] at iq
  rw [hN, hW]
  have hWl : (ws ++ yieldW (grpd (bare e) (hole o false))).length ≤ ws.length + 1 + 4 * sizeE e := by simp; omega
  generalize hO1 : lay (grpd (bare e) (hole o false)) ns = O1 at *
  generalize hW1 : ws ++ yieldW (grpd (bare e) (hole o false)) = W1 at *
  have ew1 : IntKind.i64.wrap ((O1.length : Int) - 1) = (O1.length : Int) - 1 := wrap_i64 (by omega)
  have iq2 := ihy (hole o true) O1 (W1 ++ [opWord o]) (by omega) (by simp; omega)
  rw [hP2] at iq2
  have hWl2 : (W1 ++ [opWord o] ++ yieldW (grpd (bare y) (hole o true))).length ≤ ws.length + 2 + 4 * sizeE e + 4 * sizeE y := by simp; omega
  generalize hO2' : lay (grpd (bare y) (hole o true)) O1 = O2 at *
  generalize hW2 : W1 ++ [opWord o] ++ yieldW (grpd (bare y) (hole o true)) = W2 at *
  have ew2 : IntKind.i64.wrap ((O2.length : Int) - 1) = (O2.length : Int) - 1 := wrap_i64 (by omega)
  refine vproc_start Tryz.func101 (by kernel_rfl) rfl (by simp [Tryz.ntmps101]) ?_; simp only [Tryz.ntmps101, Tryz.results101]; simp [go_sem]
  refine vcall_pure (c_applied_level o (.iface T1 U1) (.iface T2 U2) (.inr ⟨_, _, rfl⟩) (.inr ⟨_, _, rfl⟩) 0) ?_ ?_
  ·simp [go_sem]
  ·simp [go_sem, hm]
   refine ⟨_, zeroLeaf, ?_⟩
   refine vc_drawn [6] (.q 0 <| .q 1 <| .q 2 <| .q 3 <| .q 4 <| .or 5 (.or 6 (.done) (.nil)) (.nil)) (by kernel_rfl) ?_
   simp [go_sem]
   refine vcallV_pure (c4 false) ?_ ?_
   ·simp [go_sem]
   ·simp [go_sem]
    refine vcall_share [0, 1, 2] iq (by simp) ?_ ?_ trivial ?_
    ·simp [go_sem]
    ·simp [go_sem, prOb, nodRow, wdRow]
     exact ⟨sh0N, sh0W⟩
    ·rintro av mem maps ⟨rfl, rfl, rfl⟩
     simp [go_sem, prOb, nodRow, wdRow, ew1]
     refine ⟨by omega, ?_⟩
     refine vc_drawnE (⟨[(0, .ptr 0 4 0 0), (6, .lit (.bool false)), (8, .ptr 3 7 0 0), (9, .ptr 4 4 0 0)], [prOb b1 b2 5 6, none, none, some ⟨164, 7, 1, fun _ => [.lit (.string o.text), .lit (.int .i64 o.kind), .lit (.int .i64 o.level), .lit (.int .i64 o.side), .lit (.iface T1 U1), .lit (.iface T2 U2), .lit (.int .i64 0)]⟩, some ⟨77, 4, 1, fun _ => [.lit (.int .i64 (o.kind + 2)), .lit (.string o.text), .lit (.int .i64 ((O1.length : Int) - 1)), .lit (.int .i64 0)]⟩, nodRow O1, wdRow (W1 ++ [opWord o])], [], 3⟩) [14,17] (.q 1 <| .q 2 <| .q 3 <| .q 4 <| .q 5 <| .q 6 <| .q 7 <| .q 8 <| .q 9 <| .q 10 <| .q 11 <| .q 12 <| .or 0 (.or 13 (.or 14 (.q 15 <| .q 16 <| .or 17 (.done) (.nil)) (.nil)) (.nil)) (.or 13 (.or 0 (.or 14 (.q 15 <| .q 16 <| .or 17 (.done) (.nil)) (.nil)) (.or 14 (.q 0 <| .q 15 <| .q 16 <| .or 17 (.done) (.nil)) (.nil))) (.nil))) (by kernel_rfl) ?_ ?_
     ·simp [go_sem]
      refine ⟨⟨by omega, by omega, ?_⟩, ⟨by omega, by omega, ?_⟩, ⟨by omega, by omega, ?_⟩⟩
      all_goals
       refine ent_ks [0, 1, 2, 3, 4, 5, 8] (by simp) (by simp) (by simp) (by decide) (by simp [go_sem]) ?_ ?_
       ·simp [go_sem]
       ·simp [go_sem, prOb, nodRow, wdRow, ewk]
        exact ⟨.inr sh0N, .inr (sh1W (opWord o) (by simp) (by simp [opWord, PWord.cells, hk]) (by simp) (by simp))⟩
     ·simp [go_sem, prOb, nodRow, wdRow, hkb]
      refine vc_drawn [10] (.q 0 <| .q 1 <| .q 2 <| .q 3 <| .q 4 <| .q 5 <| .q 6 <| .q 7 <| .q 8 <| .or 9 (.or 10 (.done) (.nil)) (.nil)) (by kernel_rfl) ?_
      simp [go_sem, hkb]
      refine vcallV_pure (c4 true) ?_ ?_
      ·simp [go_sem, hkb]
      ·simp [go_sem]
       refine vcall_share [0, 5, 6] iq2 (by simp) ?_ ?_ trivial ?_
       ·simp [go_sem]
       ·simp [go_sem, prOb, nodRow, wdRow]
        exact ⟨sh0N, sh0W⟩
       ·rintro av mem maps ⟨rfl, rfl, rfl⟩
        simp [go_sem, prOb, nodRow, wdRow, ew2]
        refine ⟨by omega, ?_⟩
        refine vc_drawnE (⟨[(0, .ptr 0 4 0 0), (6, .lit (.bool false))], [prOb b1 b2 3 4, none, none, nodRow (O2 ++ [⟨o.text, o.kind + 2, (O1.length : Int) - 1, (O2.length : Int) - 1⟩]), wdRow W2], [], 3⟩) [7,10] (.q 1 <| .q 2 <| .q 3 <| .q 4 <| .q 5 <| .or 0 (.or 6 (.or 7 (.q 8 <| .q 9 <| .or 10 (.done) (.nil)) (.nil)) (.nil)) (.or 6 (.or 0 (.or 7 (.q 8 <| .q 9 <| .or 10 (.done) (.nil)) (.nil)) (.or 7 (.q 0 <| .q 8 <| .q 9 <| .or 10 (.done) (.nil)) (.nil))) (.nil))) (by kernel_rfl) ?_ ?_
        ·simp [go_sem]
         refine ⟨⟨by omega, by omega, ?_⟩, ⟨by omega, by omega, ?_⟩, ⟨by omega, by omega, ?_⟩⟩
         all_goals
          refine ent_ks [0, 1, 2, 10, 8] (by simp) (by simp) (by simp) (by decide) (by simp [go_sem]) ?_ ?_
          ·simp [go_sem]
          ·simp [go_sem, prOb, nodRow, wdRow]
           exact ⟨.inr (sh1N ⟨o.text, o.kind + 2, (O1.length : Int) - 1, (O2.length : Int) - 1⟩ (by simp) rfl (by simp) (by simp)), .inr sh0W⟩
        ·simp [go_sem, prOb, nodRow, wdRow]
         refine ⟨rfl, [3, 4], [prOb b1 b2 3 4, none, none, nodRow (O2 ++ [⟨o.text, o.kind + 2, (O1.length : Int) - 1, (O2.length : Int) - 1⟩]), wdRow (W2)], by simp, by simp, by simp [go_sem], ?_, by simp [go_sem], ?_⟩
         ·simp [go_sem, prOb, nodRow, wdRow]
          exact ⟨prOut, out0N, out0W⟩
         ·simp [go_sem, prOb, nodRow, wdRow]
def PWord.cellsY (o : PWord) : List AV := [.lit (.string o.text), .lit (.bool o.op), .lit (.bool o.infix_)]
def ysCells (l : List PWord) (i : Nat) : List AV := (l.getD i default).cellsY
theorem ysCells_at (l : List PWord) (i : Nat) : ysCells l i = [.lit (.string (wdAt l i).text), .lit (.bool (wdAt l i).op), .lit (.bool (wdAt l i).infix_)] := rfl
theorem ysLit (l : List PWord) (i : Nat) : (ysCells l i).all isLit = true := rfl
@[go_sem] theorem ysCells_ren (f : Nat → Nat) (l : List PWord) (i : Nat) : (ysCells l i).map (ren1 f) = ysCells l i := rfl
def ysRow (t : List PWord) : Option Ob := some ⟨83, 3, t.length, ysCells t⟩
theorem ys_app {T : List PWord} {n : Nat} {g : Nat → List AV} (o : PWord) (hn : n = T.length) (hg : g 0 = o.cellsY) (j : Nat) (hj : j < n + 1) : joinF n (ysCells T) g j = ysCells (T ++ [o]) j := by
 subst hn
 unfold joinF
 by_cases e : j < T.length
 ·rw [if_pos e]
  unfold ysCells
  rw [List.getD_eq_getElem?_getD, List.getD_eq_getElem?_getD, List.getElem?_append_left e]
 ·have e1 : j = T.length := by omega
  subst e1
  rw [if_neg e, Nat.sub_self, hg]
  simp [ysCells]
theorem sh0Y {idx : Nat → Nat} {m k : Nat} {T : List PWord} : ∀ i, i < k → CellsRn idx m (ysCells T i) (ysCells T i) := fun i _ => cellsRn_lits (ysLit _ i)
theorem sh1Y {idx : Nat → Nat} {m n k : Nat} {T T' : List PWord} {g : Nat → List AV} (o : PWord) (hn : n = T'.length) (hg : g 0 = o.cellsY) (e : T' ++ [o] = T) (hk : k = T.length) : ∀ i, i < k → CellsRn idx m (joinF n (ysCells T') g i) (ysCells T i) := fun i hi => by
 subst e; subst hk
 rw [ys_app o hn hg i (by rw [hn]; simpa using hi)]
 exact cellsRn_lits (ysLit _ i)
theorem out0Y {idx : Nat → Nat} {ks : List Nat} {T : List PWord} {n ty : Nat} : OutAt idx ks ⟨ty, 3, n, ysCells T⟩ (some (some ⟨ty, 3, n, ysCells T⟩)) := outAt_lits (fun _ _ => rfl) (fun j _ => ysLit _ j)
theorem out1Y {idx : Nat → Nat} {ks : List Nat} {T T' : List PWord} {g : Nat → List AV} {n k ty : Nat} (o : PWord) (hn : n = T'.length) (hg : g 0 = o.cellsY) (e : T' ++ [o] = T) (hk : k = T.length) : OutAt idx ks ⟨ty, 3, k, ysCells T⟩ (some (some ⟨ty, 3, k, joinF n (ysCells T') g⟩)) := by
 subst e; subst hk
 exact outAt_lits (fun i hi => ys_app o hn hg i (by rw [hn]; simpa using hi)) (fun j _ => ysLit _ j)
def YOk (g : List PNode) (e : ET) : Prop := ∀ pre : List PNode, (∀ j, j < (lay e pre).length → nodAt g j = nodAt (lay e pre) j) → (lay e pre).length ≤ g.length → ∀ (ws : List PWord), ws.length + 2 * sizeE e ≤ 6000000 →
 VProc Tryz.prog 47 [.sl 4 g.length (nodCells g), .lit (.int .i64 ((lay e pre).length - 1 : Nat)), .own 0] [ysRow ws] [] (fun av mem maps => av = .own 1 ∧ mem = [none, ysRow (ws ++ yieldW e)] ∧ maps = [])
theorem layPre {e : ET} {pre : List PNode} {g : List PNode} {n : PNode} (hn : ∀ j, j < (lay e pre ++ [n]).length → nodAt g j = nodAt (lay e pre ++ [n]) j) : (∀ j, j < (lay e pre).length → nodAt g j = nodAt (lay e pre) j) ∧ nodAt g (lay e pre).length = n := by
 refine ⟨fun j hj => ?_, ?_⟩
 ·rw [hn j (by simp; omega)]
  simp only [nodAt, List.getD_eq_getElem?_getD]
  rw [List.getElem?_append_left hj]
 ·rw [hn _ (by simp), nodAt_end _ _ rfl]
set_option maxRecDepth 100000 in
theorem yield_leaf (g : List PNode) (hg : g.length ≤ 1048576) (b : Int × ByteArray) (hk : b.1 = 1 ∨ b.1 = 2) : YOk g (.leaf b) := by
 have clg : ∀ (i : Nat) (c : AV), i < g.length → c ∈ nodCells g i → Closed c := fun i c _ h => nodClosed g i c h
 intro pre hn hl ws hw
 have hn' := hn pre.length (by simp [lay])
 simp only [lay] at hn' hl
 rw [nodAt_end _ _ rfl] at hn'
 simp only [List.length_append, List.length_singleton] at hl
 have hi : (lay (.leaf b) pre).length - 1 = pre.length := by simp [lay]
 rw [hi]
 generalize hq : pre.length = q at *
 have c1 := c_l3IsOp (nodAt g q)
 have c2 := c_l3Kids b.1
 have e1 : isOpN (nodAt g q) = false := by simp [isOpN, hn']; omega
 rw [hn'] at e1
 have k0 : kidsN b.1 = 0 := by rcases hk with h | h <;> simp [kidsN, h]
 have k4 : (b.1 == 4) = false := by rcases hk with h | h <;> simp [h]
 simp only [PNode.cells, hn', sizeE, yieldW, ysRow] at c1 hw ⊢
 refine vproc_start Tryz.func47 (by kernel_rfl) rfl (by simp [Tryz.ntmps47]) ?_; simp only [Tryz.ntmps47, Tryz.results47]; simp [go_sem]
 simp [nodCells_at, hn']
 refine ⟨by omega, ?_⟩
 refine vc_drawnE (⟨[(2, .own 0), (7, .ptr 1 4 0 0), (8, .ptr 2 3 0 0)], [ysRow ws, some ⟨77, 4, 1, fun _ => [.lit (.int .i64 b.1), .lit (.string b.2), .lit (.int .i64 0), .lit (.int .i64 0)]⟩, some ⟨83, 3, 1, fun _ => [.lit (.string b.2), .lit (.bool false), .lit (.bool false)]⟩], [], 1⟩) [9] (.q 0 <| .q 1 <| .q 2 <| .q 4 <| .q 5 <| .q 6 <| .or 3 (.q 7 <| .or 8 (.or 9 (.done) (.nil)) (.nil)) (.or 8 (.or 3 (.q 7 <| .or 9 (.done) (.nil)) (.nil)) (.nil))) (by kernel_rfl) ?_ ?_
 ·simp [go_sem]
  refine ⟨vcallV_pure c1 ?_ ?_, vcallV_pure c1 ?_ ?_⟩
  ·simp [go_sem]
  ·simp [go_sem, e1, k4]
   refine ent_ks [0, 1, 2] (by simp) (by simp) (by simp) (by simp) (by simp [go_sem]) ?_ ?_
   ·simp [go_sem]
   ·simp [go_sem, ysRow]
    exact .inr sh0Y
  ·simp [go_sem]
  ·simp [go_sem, e1, k4]
   refine ent_ks [0, 1, 2] (by simp) (by simp) (by simp) (by simp) (by simp [go_sem]) ?_ ?_
   ·simp [go_sem]
   ·simp [go_sem, ysRow]
    exact .inr sh0Y
 ·simp [go_sem, ysRow]
  refine vcall_pure c2 ?_ ?_
  ·simp [go_sem]
  ·simp [go_sem, k0]
   refine ⟨by omega, by omega, ?_⟩
   refine ⟨rfl, [4], [none, ysRow (ws ++ [⟨b.2, false, false⟩])], by simp, by simp, by simp [go_sem], ?_, by simp [go_sem], ?_⟩
   ·simp [go_sem, ysRow]
    exact out1Y ⟨b.2, false, false⟩ rfl rfl rfl (by simp)
   ·simp [go_sem, ysRow]
set_option maxRecDepth 100000 in
theorem yield_pre (g : List PNode) (hg : g.length ≤ 1048576) {o : POp} {e : ET} (hk : o.kind = 1) (ih : YOk g e) : YOk g (.pre o e) := by
 have clg : ∀ (i : Nat) (c : AV), i < g.length → c ∈ nodCells g i → Closed c := fun i c _ h => nodClosed g i c h
 obtain ⟨z, k, lv, sd⟩ := o
 simp only at hk
 subst hk
 intro pre hn hl ws hw
 simp only [lay] at hn hl ⊢
 obtain ⟨hsub, hn''⟩ := layPre hn
 have hle1 := lay_len e pre
 have hp := sizeE_pos e
 have hyl := yieldW_len e
 simp only [List.length_append, List.length_singleton, Nat.add_sub_cancel] at hl ⊢
 simp only [sizeE] at hw
 have ih1 := ih pre hsub (by omega) (ws ++ [⟨z, false, true⟩]) (by simp; omega)
 have hn' : nodAt g (lay e pre).length = ⟨z, 3, ((lay e pre).length : Int) - 1, 0⟩ := by rw [hn'']; rfl
 generalize hq : (lay e pre).length = q at *
 have ea : (q : Int) - 1 = ((q - 1 : Nat) : Int) := by omega
 have c1 := c_l3IsOp (nodAt g q)
 have c2 := c_l3Kids 3
 have e1 : isOpN (nodAt g q) = true := by simp [isOpN, hn']
 have kk : kidsN 3 = 1 := by simp [kidsN]
 rw [hn'] at e1
 simp only [PNode.cells, hn', yieldW, ysRow] at c1 ⊢
 refine vproc_start Tryz.func47 (by kernel_rfl) rfl (by simp [Tryz.ntmps47]) ?_; simp only [Tryz.ntmps47, Tryz.results47]; simp [go_sem]
 simp [nodCells_at, hn']
 refine ⟨by omega, ?_⟩
 refine vc_drawnE (⟨[(0, .sl 4 g.length (nodCells g)), (2, .own 0), (7, .ptr 1 4 0 0), (8, .ptr 2 3 0 0)], [ysRow ws, some ⟨77, 4, 1, fun _ => [.lit (.int .i64 3), .lit (.string z), .lit (.int .i64 ((q : Int) - 1)), .lit (.int .i64 (0))]⟩, some ⟨83, 3, 1, fun _ => [.lit (.string z), .lit (.bool true), .lit (.bool false)]⟩], [], 1⟩) [9] (.q 0 <| .q 1 <| .q 2 <| .q 4 <| .q 5 <| .q 6 <| .or 3 (.q 7 <| .or 8 (.or 9 (.done) (.nil)) (.nil)) (.or 8 (.or 3 (.q 7 <| .or 9 (.done) (.nil)) (.nil)) (.nil))) (by kernel_rfl) ?_ ?_
 ·simp [go_sem]
  refine ⟨vcallV_pure c1 ?_ ?_, vcallV_pure c1 ?_ ?_⟩
  ·simp [go_sem]
  ·simp [go_sem, e1]
   refine ent_ks [0, 1, 2] (by simp) (by simp) (by simp) (by simp) (by simp [go_sem]) ?_ ?_
   ·simp [go_sem]
    exact clg
   ·simp [go_sem, ysRow]
    exact .inr sh0Y
  ·simp [go_sem]
  ·simp [go_sem, e1]
   refine ent_ks [0, 1, 2] (by simp) (by simp) (by simp) (by simp) (by simp [go_sem]) ?_ ?_
   ·simp [go_sem]
    exact clg
   ·simp [go_sem, ysRow]
    exact .inr sh0Y
 ·simp [go_sem, ysRow]
  refine vcall_pure c2 ?_ ?_
  ·simp [go_sem]
  ·simp [go_sem, kk]
   refine vc_drawnE (⟨[(6, .own 1)], [none, ysRow (ws ++ [⟨z, false, true⟩] ++ yieldW e)], [], 1⟩) [6,7] (.q 3 <| .q 4 <| .or 0 (.or 1 (.or 2 (.or 5 (.or 6 (.or 7 (.q 8 <| .done) (.nil)) (.nil)) (.nil)) (.or 5 (.or 2 (.or 6 (.or 7 (.q 8 <| .done) (.nil)) (.nil)) (.or 6 (.q 2 <| .or 7 (.q 8 <| .done) (.nil)) (.nil))) (.nil))) (.or 5 (.or 1 (.or 2 (.or 6 (.or 7 (.q 8 <| .done) (.nil)) (.nil)) (.or 6 (.q 2 <| .or 7 (.q 8 <| .done) (.nil)) (.nil))) (.or 6 (.q 1 <| .q 2 <| .or 7 (.q 8 <| .done) (.nil)) (.nil))) (.nil))) (.or 1 (.or 0 (.or 2 (.or 5 (.or 6 (.or 7 (.q 8 <| .done) (.nil)) (.nil)) (.nil)) (.or 5 (.or 2 (.or 6 (.or 7 (.q 8 <| .done) (.nil)) (.nil)) (.or 6 (.q 2 <| .or 7 (.q 8 <| .done) (.nil)) (.nil))) (.nil))) (.or 2 (.or 0 (.or 5 (.or 6 (.or 7 (.q 8 <| .done) (.nil)) (.nil)) (.nil)) (.or 5 (.or 0 (.or 6 (.or 7 (.q 8 <| .done) (.nil)) (.nil)) (.or 6 (.q 0 <| .or 7 (.q 8 <| .done) (.nil)) (.nil))) (.nil))) (.or 5 (.or 0 (.or 2 (.or 6 (.or 7 (.q 8 <| .done) (.nil)) (.nil)) (.or 6 (.q 2 <| .or 7 (.q 8 <| .done) (.nil)) (.nil))) (.or 2 (.or 0 (.or 6 (.or 7 (.q 8 <| .done) (.nil)) (.nil)) (.or 6 (.q 0 <| .or 7 (.q 8 <| .done) (.nil)) (.nil))) (.or 6 (.q 0 <| .q 2 <| .or 7 (.q 8 <| .done) (.nil)) (.nil)))) (.nil)))) (.or 5 (.or 0 (.or 1 (.or 2 (.or 6 (.or 7 (.q 8 <| .done) (.nil)) (.nil)) (.or 6 (.q 2 <| .or 7 (.q 8 <| .done) (.nil)) (.nil))) (.or 6 (.q 1 <| .q 2 <| .or 7 (.q 8 <| .done) (.nil)) (.nil))) (.or 1 (.or 0 (.or 2 (.or 6 (.or 7 (.q 8 <| .done) (.nil)) (.nil)) (.or 6 (.q 2 <| .or 7 (.q 8 <| .done) (.nil)) (.nil))) (.or 2 (.or 0 (.or 6 (.or 7 (.q 8 <| .done) (.nil)) (.nil)) (.or 6 (.q 0 <| .or 7 (.q 8 <| .done) (.nil)) (.nil))) (.or 6 (.q 0 <| .q 2 <| .or 7 (.q 8 <| .done) (.nil)) (.nil)))) (.or 6 (.q 0 <| .q 1 <| .q 2 <| .or 7 (.q 8 <| .done) (.nil)) (.nil)))) (.nil)))) (by kernel_rfl) ?_ ?_
   ·simp [go_sem]
    repeat' apply And.intro
    all_goals first | omega | skip
    all_goals
     refine vcall_share [4] ih1 (by simp) ?_ ?_ trivial ?_
     ·simp [go_sem, ea]
      exact clg
     ·simp [go_sem, ysRow]
      exact sh1Y ⟨z, false, true⟩ (by simp) rfl rfl (by simp)
     ·rintro av mem maps ⟨rfl, rfl, rfl⟩
      simp [go_sem, ysRow]
      refine ent_ks [0, 5] (by simp) (by simp) (by simp) (by simp) (by simp [go_sem]) ?_ ?_
      ·simp [go_sem]
      ·simp [go_sem, ysRow]
       exact .inr sh0Y
   ·simp [go_sem, ysRow]
    refine ⟨rfl, [1], [none, ysRow (ws ++ opWord ⟨z, 1, lv, sd⟩ :: yieldW e)], by simp, by simp, by simp [go_sem], ?_, by simp [go_sem], ?_⟩
    ·simp [go_sem, ysRow, opWord]
     exact out0Y
    ·simp [go_sem, ysRow]
set_option maxRecDepth 100000 in
theorem yield_post (g : List PNode) (hg : g.length ≤ 1048576) {o : POp} {e : ET} (hk : o.kind = 3) (ih : YOk g e) : YOk g (.post o e) := by
 have clg : ∀ (i : Nat) (c : AV), i < g.length → c ∈ nodCells g i → Closed c := fun i c _ h => nodClosed g i c h
 obtain ⟨z, k, lv, sd⟩ := o
 simp only at hk
 subst hk
 intro pre hn hl ws hw
 simp only [lay] at hn hl ⊢
 obtain ⟨hsub, hn''⟩ := layPre hn
 have hle1 := lay_len e pre
 have hp := sizeE_pos e
 have hyl := yieldW_len e
 simp only [List.length_append, List.length_singleton, Nat.add_sub_cancel] at hl ⊢
 simp only [sizeE] at hw
 have ih1 := ih pre hsub (by omega) (ws) (by omega)
 have hn' : nodAt g (lay e pre).length = ⟨z, 5, ((lay e pre).length : Int) - 1, 0⟩ := by rw [hn'']; rfl
 generalize hq : (lay e pre).length = q at *
 have ea : (q : Int) - 1 = ((q - 1 : Nat) : Int) := by omega
 have c1 := c_l3IsOp (nodAt g q)
 have c2 := c_l3Kids 5
 have e1 : isOpN (nodAt g q) = true := by simp [isOpN, hn']
 have kk : kidsN 5 = 1 := by simp [kidsN]
 rw [hn'] at e1
 simp only [PNode.cells, hn', yieldW, ysRow] at c1 ⊢
 refine vproc_start Tryz.func47 (by kernel_rfl) rfl (by simp [Tryz.ntmps47]) ?_; simp only [Tryz.ntmps47, Tryz.results47]; simp [go_sem]
 simp [nodCells_at, hn']
 refine ⟨by omega, ?_⟩
 refine vc_drawnE (⟨[(0, .sl 4 g.length (nodCells g)), (2, .own 0), (7, .ptr 1 4 0 0), (8, .ptr 2 3 0 0)], [ysRow ws, some ⟨77, 4, 1, fun _ => [.lit (.int .i64 5), .lit (.string z), .lit (.int .i64 ((q : Int) - 1)), .lit (.int .i64 (0))]⟩, some ⟨83, 3, 1, fun _ => [.lit (.string z), .lit (.bool true), .lit (.bool false)]⟩], [], 1⟩) [9] (.q 0 <| .q 1 <| .q 2 <| .q 4 <| .q 5 <| .q 6 <| .or 3 (.q 7 <| .or 8 (.or 9 (.done) (.nil)) (.nil)) (.or 8 (.or 3 (.q 7 <| .or 9 (.done) (.nil)) (.nil)) (.nil))) (by kernel_rfl) ?_ ?_
 ·simp [go_sem]
  refine ⟨vcallV_pure c1 ?_ ?_, vcallV_pure c1 ?_ ?_⟩
  ·simp [go_sem]
  ·simp [go_sem, e1]
   refine ent_ks [0, 1, 2] (by simp) (by simp) (by simp) (by simp) (by simp [go_sem]) ?_ ?_
   ·simp [go_sem]
    exact clg
   ·simp [go_sem, ysRow]
    exact .inr sh0Y
  ·simp [go_sem]
  ·simp [go_sem, e1]
   refine ent_ks [0, 1, 2] (by simp) (by simp) (by simp) (by simp) (by simp [go_sem]) ?_ ?_
   ·simp [go_sem]
    exact clg
   ·simp [go_sem, ysRow]
    exact .inr sh0Y
 ·simp [go_sem, ysRow]
  refine vcall_pure c2 ?_ ?_
  ·simp [go_sem]
  ·simp [go_sem, kk]
   refine vc_drawnE (⟨[(0, .sl 4 g.length (nodCells g)), (2, .own 2), (7, .ptr 1 4 0 0)], [none, some ⟨77, 4, 1, fun _ => [.lit (.int .i64 5), .lit (.string z), .lit (.int .i64 ((q : Int) - 1)), .lit (.int .i64 (0))]⟩, ysRow (ws ++ yieldW e ++ [⟨z, false, true⟩])], [], 1⟩) [7,4] (.q 0 <| .q 1 <| .q 2 <| .q 3 <| .or 4 (.q 5 <| .or 6 (.or 7 (.q 8 <| .done) (.nil)) (.nil)) (.or 5 (.or 4 (.or 6 (.or 7 (.q 8 <| .done) (.nil)) (.nil)) (.or 6 (.or 4 (.or 7 (.q 8 <| .done) (.nil)) (.nil)) (.nil))) (.nil))) (by kernel_rfl) ?_ ?_
   ·simp [go_sem]
    repeat' apply And.intro
    all_goals first | omega | skip
    all_goals
     refine vcall_share [0] ih1 (by simp) ?_ ?_ trivial ?_
     ·simp [go_sem, ea]
      exact clg
     ·simp [go_sem, ysRow]
      exact sh0Y
     ·rintro av mem maps ⟨rfl, rfl, rfl⟩
      simp [go_sem, ysRow]
      refine ⟨by omega, by omega, ?_⟩
      refine ent_ks [0, 1, 5] (by simp) (by simp) (by simp) (by simp) (by simp [go_sem]) ?_ ?_
      ·simp [go_sem]
       exact clg
      ·simp [go_sem, ysRow]
       exact .inr ⟨by omega, sh1Y ⟨z, false, true⟩ (by simp) rfl (by simp) (by simp)⟩
   ·simp [go_sem, ysRow]
    refine ⟨rfl, [2], [none, ysRow (ws ++ (yieldW e ++ [opWord ⟨z, 3, lv, sd⟩]))], by simp, by simp, by simp [go_sem], ?_, by simp [go_sem], ?_⟩
    ·simp [go_sem, ysRow, opWord]
     exact out0Y
    ·simp [go_sem, ysRow]
set_option maxRecDepth 100000 in
theorem yield_inf (g : List PNode) (hg : g.length ≤ 1048576) {o : POp} {e y : ET} (hk : o.kind = 2) (ih : YOk g e) (ihy : YOk g y) : YOk g (.inf o e y) := by
 have clg : ∀ (i : Nat) (c : AV), i < g.length → c ∈ nodCells g i → Closed c := fun i c _ h => nodClosed g i c h
 obtain ⟨z, k, lv, sd⟩ := o
 simp only at hk
 subst hk
 intro pre hn hl ws hw
 simp only [lay] at hn hl ⊢
 obtain ⟨hsuby, hn''⟩ := layPre hn
 have hle := lay_len y (lay e pre)
 have hp2 := sizeE_pos y
 have hsub : ∀ j, j < (lay e pre).length → nodAt g j = nodAt (lay e pre) j := fun j hj => by rw [hsuby j (by omega), lay_pre y _ j hj]
 have hle1 := lay_len e pre
 have hp := sizeE_pos e
 have hyl := yieldW_len e
 simp only [List.length_append, List.length_singleton, Nat.add_sub_cancel] at hl ⊢
 simp only [sizeE] at hw
 have ih1 := ih pre hsub (by omega) (ws) (by omega)
 have ih2 := ihy (lay e pre) hsuby (by omega) (ws ++ yieldW e ++ [⟨z, true, true⟩]) (by simp; omega)
 have hn' : nodAt g (lay y (lay e pre)).length = ⟨z, 4, ((lay e pre).length : Int) - 1, ((lay y (lay e pre)).length : Int) - 1⟩ := by rw [hn'']; rfl
 generalize hq : (lay y (lay e pre)).length = q at *
 generalize hr : (lay e pre).length = r at *
 have ea : (r : Int) - 1 = ((r - 1 : Nat) : Int) := by omega
 have eb : (q : Int) - 1 = ((q - 1 : Nat) : Int) := by omega
 have c1 := c_l3IsOp (nodAt g q)
 have c2 := c_l3Kids 4
 have e1 : isOpN (nodAt g q) = true := by simp [isOpN, hn']
 have kk : kidsN 4 = 2 := by simp [kidsN]
 rw [hn'] at e1
 simp only [PNode.cells, hn', yieldW, ysRow] at c1 ⊢
 refine vproc_start Tryz.func47 (by kernel_rfl) rfl (by simp [Tryz.ntmps47]) ?_; simp only [Tryz.ntmps47, Tryz.results47]; simp [go_sem]
 simp [nodCells_at, hn']
 refine ⟨by omega, ?_⟩
 refine vc_drawnE (⟨[(0, .sl 4 g.length (nodCells g)), (2, .own 0), (7, .ptr 1 4 0 0), (8, .ptr 2 3 0 0)], [ysRow ws, some ⟨77, 4, 1, fun _ => [.lit (.int .i64 4), .lit (.string z), .lit (.int .i64 ((r : Int) - 1)), .lit (.int .i64 ((q : Int) - 1))]⟩, some ⟨83, 3, 1, fun _ => [.lit (.string z), .lit (.bool true), .lit (.bool true)]⟩], [], 1⟩) [9] (.q 0 <| .q 1 <| .q 2 <| .q 4 <| .q 5 <| .q 6 <| .or 3 (.q 7 <| .or 8 (.or 9 (.done) (.nil)) (.nil)) (.or 8 (.or 3 (.q 7 <| .or 9 (.done) (.nil)) (.nil)) (.nil))) (by kernel_rfl) ?_ ?_
 ·simp [go_sem]
  refine ⟨vcallV_pure c1 ?_ ?_, vcallV_pure c1 ?_ ?_⟩
  ·simp [go_sem]
  ·simp [go_sem, e1]
   refine ent_ks [0, 1, 2] (by simp) (by simp) (by simp) (by simp) (by simp [go_sem]) ?_ ?_
   ·simp [go_sem]
    exact clg
   ·simp [go_sem, ysRow]
    exact .inr sh0Y
  ·simp [go_sem]
  ·simp [go_sem, e1]
   refine ent_ks [0, 1, 2] (by simp) (by simp) (by simp) (by simp) (by simp [go_sem]) ?_ ?_
   ·simp [go_sem]
    exact clg
   ·simp [go_sem, ysRow]
    exact .inr sh0Y
 ·simp [go_sem, ysRow]
  refine vcall_pure c2 ?_ ?_
  ·simp [go_sem]
  ·simp [go_sem, kk]
   refine vc_drawnE (⟨[(0, .sl 4 g.length (nodCells g)), (2, .own 2), (7, .ptr 1 4 0 0)], [none, some ⟨77, 4, 1, fun _ => [.lit (.int .i64 4), .lit (.string z), .lit (.int .i64 ((r : Int) - 1)), .lit (.int .i64 ((q : Int) - 1))]⟩, ysRow (ws ++ yieldW e ++ [⟨z, true, true⟩])], [], 1⟩) [7,4] (.q 0 <| .q 1 <| .q 2 <| .q 3 <| .or 4 (.q 5 <| .or 6 (.or 7 (.q 8 <| .done) (.nil)) (.nil)) (.or 5 (.or 4 (.or 6 (.or 7 (.q 8 <| .done) (.nil)) (.nil)) (.or 6 (.or 4 (.or 7 (.q 8 <| .done) (.nil)) (.nil)) (.nil))) (.nil))) (by kernel_rfl) ?_ ?_
   ·simp [go_sem]
    repeat' apply And.intro
    all_goals first | omega | skip
    all_goals
     refine vcall_share [0] ih1 (by simp) ?_ ?_ trivial ?_
     ·simp [go_sem, ea]
      exact clg
     ·simp [go_sem, ysRow]
      exact sh0Y
     ·rintro av mem maps ⟨rfl, rfl, rfl⟩
      simp [go_sem, ysRow]
      refine ⟨by omega, by omega, ?_⟩
      refine ent_ks [0, 1, 5] (by simp) (by simp) (by simp) (by simp) (by simp [go_sem]) ?_ ?_
      ·simp [go_sem]
       exact clg
      ·simp [go_sem, ysRow]
       exact .inr ⟨by omega, sh1Y ⟨z, true, true⟩ (by simp) rfl (by simp) (by simp)⟩
   ·simp [go_sem, ysRow]
    refine vcall_share [2] ih2 (by simp) ?_ ?_ trivial ?_
    ·simp [go_sem, eb]
     exact clg
    ·simp [go_sem, ysRow]
     exact sh0Y
    ·rintro av mem maps ⟨rfl, rfl, rfl⟩
     simp [go_sem, ysRow]
     refine ⟨rfl, [3], [none, ysRow (ws ++ (yieldW e ++ opWord ⟨z, 2, lv, sd⟩ :: yieldW y))], by simp, by simp, by simp [go_sem], ?_, by simp [go_sem], ?_⟩
     ·simp [go_sem, ysRow, opWord]
      exact out0Y
     ·simp [go_sem, ysRow]
set_option maxRecDepth 100000 in
theorem yield_grp (g : List PNode) (hg : g.length ≤ 1048576) {e : ET} (ih : YOk g e) : YOk g (.grp e) := by
 have clg : ∀ (i : Nat) (c : AV), i < g.length → c ∈ nodCells g i → Closed c := fun i c _ h => nodClosed g i c h
 intro pre hn hl ws hw
 simp only [lay] at hn hl ⊢
 obtain ⟨hsub, hn''⟩ := layPre hn
 have hle1 := lay_len e pre
 have hp := sizeE_pos e
 have hyl := yieldW_len e
 simp only [List.length_append, List.length_singleton, Nat.add_sub_cancel] at hl ⊢
 simp only [sizeE] at hw
 have ih1 := ih pre hsub (by omega) (ws ++ [lpar]) (by simp; omega)
 have hn' : nodAt g (lay e pre).length = ⟨⟨#[]⟩, 6, ((lay e pre).length : Int) - 1, 0⟩ := by rw [hn'']
 generalize hq : (lay e pre).length = q at *
 have ea : (q : Int) - 1 = ((q - 1 : Nat) : Int) := by omega
 have c1 := c_l3IsOp (nodAt g q)
 have c2 := c_l3Kids 6
 have e1 : isOpN (nodAt g q) = false := by simp [isOpN, hn']
 have kk : kidsN 6 = 1 := by simp [kidsN]
 rw [hn'] at e1
 simp only [PNode.cells, hn', yieldW, ysRow] at c1 ⊢
 refine vproc_start Tryz.func47 (by kernel_rfl) rfl (by simp [Tryz.ntmps47]) ?_; simp only [Tryz.ntmps47, Tryz.results47]; simp [go_sem]
 simp [nodCells_at, hn']
 refine ⟨by omega, ?_⟩
 refine vc_drawnE (⟨[(0, .sl 4 g.length (nodCells g)), (2, .own 0), (7, .ptr 1 4 0 0), (8, .ptr 2 3 0 0)], [ysRow ws, some ⟨77, 4, 1, fun _ => [.lit (.int .i64 6), .lit (.string ⟨#[]⟩), .lit (.int .i64 ((q : Int) - 1)), .lit (.int .i64 (0))]⟩, some ⟨83, 3, 1, fun _ => [.lit (.string ⟨#[]⟩), .lit (.bool false), .lit (.bool false)]⟩], [], 1⟩) [9] (.q 0 <| .q 1 <| .q 2 <| .q 4 <| .q 5 <| .q 6 <| .or 3 (.q 7 <| .or 8 (.or 9 (.done) (.nil)) (.nil)) (.or 8 (.or 3 (.q 7 <| .or 9 (.done) (.nil)) (.nil)) (.nil))) (by kernel_rfl) ?_ ?_
 ·simp [go_sem]
  refine ⟨vcallV_pure c1 ?_ ?_, vcallV_pure c1 ?_ ?_⟩
  ·simp [go_sem]
  ·simp [go_sem, e1]
   refine ent_ks [0, 1, 2] (by simp) (by simp) (by simp) (by simp) (by simp [go_sem]) ?_ ?_
   ·simp [go_sem]
    exact clg
   ·simp [go_sem, ysRow]
    exact .inr sh0Y
  ·simp [go_sem]
  ·simp [go_sem, e1]
   refine ent_ks [0, 1, 2] (by simp) (by simp) (by simp) (by simp) (by simp [go_sem]) ?_ ?_
   ·simp [go_sem]
    exact clg
   ·simp [go_sem, ysRow]
    exact .inr sh0Y
 ·simp [go_sem, ysRow]
  refine vcall_pure c2 ?_ ?_
  ·simp [go_sem]
  ·simp [go_sem, kk]
   refine vc_drawnE (⟨[(2, .own 1)], [none, ysRow (ws ++ [lpar] ++ yieldW e)], [], 1⟩) [6,7] (.q 3 <| .q 4 <| .or 0 (.or 1 (.or 2 (.or 5 (.or 6 (.or 7 (.q 8 <| .done) (.nil)) (.nil)) (.nil)) (.or 5 (.or 2 (.or 6 (.or 7 (.q 8 <| .done) (.nil)) (.nil)) (.or 6 (.q 2 <| .or 7 (.q 8 <| .done) (.nil)) (.nil))) (.nil))) (.or 5 (.or 1 (.or 2 (.or 6 (.or 7 (.q 8 <| .done) (.nil)) (.nil)) (.or 6 (.q 2 <| .or 7 (.q 8 <| .done) (.nil)) (.nil))) (.or 6 (.q 1 <| .q 2 <| .or 7 (.q 8 <| .done) (.nil)) (.nil))) (.nil))) (.or 1 (.or 0 (.or 2 (.or 5 (.or 6 (.or 7 (.q 8 <| .done) (.nil)) (.nil)) (.nil)) (.or 5 (.or 2 (.or 6 (.or 7 (.q 8 <| .done) (.nil)) (.nil)) (.or 6 (.q 2 <| .or 7 (.q 8 <| .done) (.nil)) (.nil))) (.nil))) (.or 2 (.or 0 (.or 5 (.or 6 (.or 7 (.q 8 <| .done) (.nil)) (.nil)) (.nil)) (.or 5 (.or 0 (.or 6 (.or 7 (.q 8 <| .done) (.nil)) (.nil)) (.or 6 (.q 0 <| .or 7 (.q 8 <| .done) (.nil)) (.nil))) (.nil))) (.or 5 (.or 0 (.or 2 (.or 6 (.or 7 (.q 8 <| .done) (.nil)) (.nil)) (.or 6 (.q 2 <| .or 7 (.q 8 <| .done) (.nil)) (.nil))) (.or 2 (.or 0 (.or 6 (.or 7 (.q 8 <| .done) (.nil)) (.nil)) (.or 6 (.q 0 <| .or 7 (.q 8 <| .done) (.nil)) (.nil))) (.or 6 (.q 0 <| .q 2 <| .or 7 (.q 8 <| .done) (.nil)) (.nil)))) (.nil)))) (.or 5 (.or 0 (.or 1 (.or 2 (.or 6 (.or 7 (.q 8 <| .done) (.nil)) (.nil)) (.or 6 (.q 2 <| .or 7 (.q 8 <| .done) (.nil)) (.nil))) (.or 6 (.q 1 <| .q 2 <| .or 7 (.q 8 <| .done) (.nil)) (.nil))) (.or 1 (.or 0 (.or 2 (.or 6 (.or 7 (.q 8 <| .done) (.nil)) (.nil)) (.or 6 (.q 2 <| .or 7 (.q 8 <| .done) (.nil)) (.nil))) (.or 2 (.or 0 (.or 6 (.or 7 (.q 8 <| .done) (.nil)) (.nil)) (.or 6 (.q 0 <| .or 7 (.q 8 <| .done) (.nil)) (.nil))) (.or 6 (.q 0 <| .q 2 <| .or 7 (.q 8 <| .done) (.nil)) (.nil)))) (.or 6 (.q 0 <| .q 1 <| .q 2 <| .or 7 (.q 8 <| .done) (.nil)) (.nil)))) (.nil)))) (by kernel_rfl) ?_ ?_
   ·simp [go_sem]
    repeat' apply And.intro
    all_goals first | omega | skip
    all_goals
     refine vcall_share [4] ih1 (by simp) ?_ ?_ trivial ?_
     ·simp [go_sem, ea]
      exact clg
     ·simp [go_sem, ysRow]
      exact sh1Y lpar (by simp) rfl rfl (by simp)
     ·rintro av mem maps ⟨rfl, rfl, rfl⟩
      simp [go_sem, ysRow]
      refine ent_ks [0, 5] (by simp) (by simp) (by simp) (by simp) (by simp [go_sem]) ?_ ?_
      ·simp [go_sem]
      ·simp [go_sem, ysRow]
       exact .inr sh0Y
   ·simp [go_sem, ysRow]
    refine ⟨by omega, by omega, ?_⟩
    refine ⟨rfl, [3], [none, ysRow (ws ++ lpar :: (yieldW e ++ [rpar]))], by simp, by simp, by simp [go_sem], ?_, by simp [go_sem], ?_⟩
    ·simp [go_sem, ysRow]
     exact out1Y rpar (by simp) rfl (by simp) (by simp)
    ·simp [go_sem, ysRow]
theorem c_say {l : List POp} (hw : opsWf l) (b1 b2 : Nat) : ∀ e : ET, InTab l e → SayOk b1 b2 e
 | .leaf b, _ => say_leaf b1 b2 b
 | .grp e, h => say_grp (c_say hw b1 b2 e h)
 | .pre o e, ⟨h1, h2, h3, h4⟩ => say_pre (by rw [← h3]; exact opAt_wf hw h2) h1 (c_say hw b1 b2 e h4)
 | .post o e, ⟨h1, h2, h3, h4⟩ => say_post (by rw [← h3]; exact opAt_wf hw h2) h1 (c_say hw b1 b2 e h4)
 | .inf o x y, ⟨h1, h2, h3, h4, h5⟩ => say_inf (by rw [← h3]; exact opAt_wf hw h2) h1 (c_say hw b1 b2 x h4) (c_say hw b1 b2 y h5)
theorem c_say0 {l : List POp} (hw : opsWf l) (b1 b2 : Nat) (e : ET) (hT : InTab l e) (hs : sizeE e ≤ 1000000) (m : Int) :
  VProc Tryz.prog 101 [.ptr 0 4 0 0, .lit (partV e), .lit (.int .i64 m)] [some ⟨106, 4, 1, fun _ => [.lit (.map (some b1)), .lit (.map (some b2)), .lit (.slice none 0 0), .lit (.slice none 0 0)]⟩] [] (fun av mem maps => av = .tup [] ∧ mem = [prOb b1 b2 3 4, none, none, nodRow (lay (grpd (bare e) m) []), wdRow (yieldW (grpd (bare e) m))] ∧ maps = []) := by
 have h := c_say hw b1 b2 e hT m [] [] (by simp; omega) (by simp; omega)
 simp only [List.nil_append] at h
 have h1 : VProc Tryz.prog 101 [.ptr 0 4 0 0, .lit (partV e), .lit (.int .i64 m)] (adoptM [some ⟨106, 4, 1, fun _ => [.lit (.map (some b1)), .lit (.map (some b2)), .lit (.slice none 0 0), .lit (.slice none 0 0)]⟩] 0 ⟨106, 4, 1, fun _ => [.lit (.map (some b1)), .lit (.map (some b2)), .lit (.slice none 0 0), .lit (.slice none 0 0)]⟩ 2 77 4 (nodCells [])) [] (fun av mem maps => av = .tup [] ∧ mem = [prOb b1 b2 3 4, none, none, nodRow (lay (grpd (bare e) m) []), wdRow (yieldW (grpd (bare e) m))] ∧ maps = []) :=
  VProc.adopt (j := 0) (ob := ⟨106, 4, 1, fun _ => [.lit (.map (some b1)), .lit (.map (some b2)), .own 1, .lit (.slice none 0 0)]⟩) (c := 3) (ty := 113) (sz := 3) (g := wdCells []) h rfl rfl rfl (by omega)
 exact VProc.adopt h1 rfl rfl rfl (by omega)
set_option maxRecDepth 100000 in
theorem c_printed (l : List POp) (hl : l.length ≤ 9223372036854775807) (hw : opsWf l) (t : List PNode) (ht : t.length ≤ 1048576) (hwt : ∀ i, i < t.length → (nodAt t i).wf) : VProc Tryz.prog 57 [.agg [.sl 4 l.length (opCells l)], .agg [.sl 4 t.length (nodCells t)]] [] [] (fun av mem maps =>
  (wellF l t = false ∧ av = .tup [.lit (.pointer none), .lit (.bool false)] ∧ mem = []) ∨ (wellF l t = true ∧ av = .tup [.ptr 0 4 0 0, .lit (.bool (decide (sizeE (groupE l t) ≤ 20000)))] ∧ ∃ b1 b2, mem = [prOb b1 b2 1 2, nodRow (lay (groupE l t) []), wdRow (yieldW (groupE l t))])) := by
 have cl : ∀ (i : Nat) (c : AV), i < l.length → c ∈ opCells l i → Closed c := fun i c _ h => opClosed l i c h
 have clt : ∀ (i : Nat) (c : AV), i < t.length → c ∈ nodCells t i → Closed c := fun i c _ h => nodClosed t i c h
 by_cases h0 : tblOk l = 0
 ·have hu := uniq_of_ok h0
  refine vproc_start Tryz.func57 (by kernel_rfl) rfl (by simp [Tryz.ntmps57]) ?_; simp only [Tryz.ntmps57, Tryz.results57]; simp [go_sem]
  refine vcall_pure (c_TableOk l hl hw) ?_ ?_
  ·simp [go_sem]
   exact argSl_refl (by omega) cl
  ·simp [go_sem, h0]
   refine vcall_pure (c_inOrder t (by omega) hwt) ?_ ?_
   ·simp [go_sem]
    exact argSl_refl (by omega) clt
   ·cases h1 : inOrd t with
    | false =>
     have hwf : wellF l t = false := by simp [wellF, h1]
     simp [go_sem]
     refine ⟨rfl, [], [], by simp, by simp, by simp [go_sem], by simp [go_sem], by simp [go_sem], ?_⟩
     simp [go_sem, hwf]
    | true =>
     have hkid := fun i hi => inOrd_kid h1 (i := i) hi
     simp [go_sem]
     refine vcall_share [] (c_indexOf l hl hw) (by simp) ?_ ?_ ?_ ?_
     ·simp [go_sem]
      exact cl
     ·simp [go_sem]
     ·simp [go_sem]
     ·rintro av mem maps ⟨b1, b2, e1, e2, rfl, rfl, rfl, hb, hat, htx⟩
      have hb' : ¬ b2 = b1 := fun e => hb e.symm
      simp [go_sem]
      refine vcall_share [] (c_levels l hu b1 b2 e1 hat t ht hwt fun i hi => (hkid i hi).2.1) (by simp) ?_ ?_ ?_ ?_
      ·simp [go_sem]
       exact clt
      ·simp [go_sem]
      ·simp [go_sem, hb']
      ·rintro av mem maps ⟨hm, ⟨h2, rfl, rfl⟩ | ⟨h2, rfl, rfl⟩⟩
       ·have hwf : wellF l t = true := by simp [wellF, h0, h1, h2]
        have hkind : ∀ i, i < t.length → isOpN (nodAt t i) = true → opHas l (nodAt t i).text ((nodAt t i).kind - 2) = true := fun i hi e => by
         have := List.all_eq_true.1 h2 i (List.mem_range.2 hi)
         simpa [e] using this
        simp [go_sem]
        refine vcall_share [] (c_partsOf l hu b1 b2 e1 hat t ht hwt h1 hkind) (by simp) ?_ ?_ ?_ ?_
        ·simp [go_sem]
         exact clt
        ·simp [go_sem]
        ·rcases hm with rfl | rfl <;> simp [go_sem, hb']
        ·rintro av mem maps' ⟨hm', rfl, rfl⟩
         obtain ⟨g1, g2, g3, g4, g5, g6, g7, g8, g9, g10⟩ := bare_facts hwf
         have e0 : IntKind.i64.wrap ((t.length : Int) - 1) = ((t.length - 1 : Nat) : Int) := by rw [wrap_i64 (by omega)]; omega
         obtain ⟨T1, U1, hP⟩ := partV_iface (rootE l t)
         have hp : paFill l t t.length (t.length - 1) = [.lit (.iface T1 U1)] := by
          rw [← hP, paFill_at, paN, if_pos (by omega)]; rfl
         have hs : sizeE (rootE l t) = t.length := by rw [g4, lay_len]; simp [← g4]
         have hs2 := size_grpd (bare (rootE l t)) 0
         have hs3 := sizeE_bare (rootE l t)
         have c1 := c_say0 hw b1 b2 (rootE l t) g3 (by omega) 0
         have hy := yieldW_len (grpd (bare (rootE l t)) 0)
         have hO := lay_len (grpd (bare (rootE l t)) 0) []
         rw [hP] at c1
         have hgE : grpd (bare (rootE l t)) 0 = groupE l t := rfl
         rw [hgE] at c1 hs2 hy hO
         simp at hO
         simp [go_sem, e0, hp]
         refine ⟨by omega, by omega, ?_⟩
         refine vcall_share [5] c1 (by simp) ?_ ?_ trivial ?_
         ·simp [go_sem]
         ·simp [go_sem]
         ·rintro av mem maps'' ⟨rfl, rfl, rfl⟩
          simp [go_sem, prOb, nodRow, wdRow]
          refine vc_drawn [] (.q 0 <| .q 1 <| .q 2 <| .q 3 <| .q 4 <| .q 5 <| .q 6 <| .q 7 <| .q 8 <| .done) (by kernel_rfl) ?_
          simp [go_sem, hO]
          refine ⟨by omega, rfl, [5, 8, 9], [prOb b1 b2 1 2, nodRow (lay (groupE l t) []), wdRow (yieldW (groupE l t))], by simp, by simp, by simp [go_sem], ?_, by simp [go_sem], ?_⟩
          ·simp [go_sem, prOb, nodRow, wdRow, hO]
           refine ⟨⟨rfl, rfl, rfl, fun i hi => ⟨rfl, flatC_all rfl, fun c hc q hq => ?_⟩⟩, out0N, out0W⟩
           simp at hc
           rcases hc with rfl | rfl | rfl | rfl <;> simp [owns1] at hq <;> simp [hq]
          ·simp [go_sem, prOb, nodRow, wdRow, hO, hwf]
           exact ⟨by omega, b1, b2, rfl⟩
       ·have hwf : wellF l t = false := by simp [wellF, h2]
        simp [go_sem]
        refine ⟨rfl, [], [], by simp, by simp, by simp [go_sem], by simp [go_sem], by simp [go_sem], ?_⟩
        simp [go_sem, hwf]
 ·have hwf : wellF l t = false := by simp [wellF, h0]
  refine vproc_start Tryz.func57 (by kernel_rfl) rfl (by simp [Tryz.ntmps57]) ?_; simp only [Tryz.ntmps57, Tryz.results57]; simp [go_sem]
  refine vcall_pure (c_TableOk l hl hw) ?_ ?_
  ·simp [go_sem]
   exact argSl_refl (by omega) cl
  ·simp [go_sem, h0]
   refine ⟨rfl, [], [], by simp, by simp, by simp [go_sem], by simp [go_sem], by simp [go_sem], ?_⟩
   simp [go_sem, hwf]
set_option maxRecDepth 100000 in
theorem c_Group1 (l : List POp) (hl : l.length ≤ 9223372036854775807) (hw : opsWf l) (t : List PNode) (ht : t.length ≤ 1048576) (hwt : ∀ i, i < t.length → (nodAt t i).wf) : VFun Tryz.prog 23 [.agg [.sl 4 l.length (opCells l)], .agg [.sl 4 t.length (nodCells t)]] (grR l t) := by
 have cl : ∀ (i : Nat) (c : AV), i < l.length → c ∈ opCells l i → Closed c := fun i c _ h => opClosed l i c h
 have clt : ∀ (i : Nat) (c : AV), i < t.length → c ∈ nodCells t i → Closed c := fun i c _ h => nodClosed t i c h
 refine vfun_start Tryz.func23 (by kernel_rfl) rfl (by simp [Tryz.ntmps23]) ?_; simp only [Tryz.ntmps23, Tryz.results23]; simp [go_sem]
 refine vcall_share [] (c_printed l hl hw t ht hwt) (by simp) ?_ ?_ ?_ ?_
 ·simp [go_sem]
  exact ⟨cl, clt⟩
 ·simp [go_sem]
 ·simp [go_sem]
 ·rintro av mem maps (⟨h, rfl, rfl⟩ | ⟨h, rfl, b1, b2, rfl⟩)
  ·simp [go_sem]
   exact .inr ⟨by simp [groupOk, h], rfl, rfl⟩
  ·have hO := lay_len (groupE l t) []
   simp at hO
   by_cases hs : sizeE (groupE l t) ≤ 20000
   ·have e2 : groupOk l t = true := by simp [groupOk, h, hs]
    have e3 : groupZ l t = lay (groupE l t) [] := by rw [groupZ, e2]; rfl
    simp [go_sem, hs, prOb, nodRow, wdRow, hO]
    refine ⟨_, obsSame_one.mpr ⟨⟨77, 4, sizeE (groupE l t), nodCells (lay (groupE l t) [])⟩, ⟨rfl, rfl, rfl, fun j hj => ⟨rfl, nodLit _ j⟩⟩, rfl⟩, ?_⟩
    exact .inl ⟨e2, rfl, by rw [e3, hO]⟩
   ·simp [go_sem, hs]
    exact .inr ⟨by simp [groupOk, hs], rfl, rfl⟩
theorem c_Group (l : List POp) (hl : l.length ≤ 9223372036854775807) (hw : opsWf l) (t : List PNode) (ht : t.length ≤ 1048576) (hwt : ∀ i, i < t.length → (nodAt t i).wf) : VFun Tryz.prog 23 [.agg [.sl 4 l.length (opCells l)], .agg [.sl 4 t.length (nodCells t)]] (fun av obs => av = .tup [.agg [.own 0], .lit (.bool (groupOk l t))] ∧ obs = [⟨77, 4, (groupZ l t).length, nodCells (groupZ l t)⟩]) :=
 (c_Group1 l hl hw t ht hwt).adoptA 77 4 (by omega) (nodCells []) fun av obs h => grR_own h
theorem c_l4Yield {l : List POp} (g : List PNode) (hg : g.length ≤ 1048576) : ∀ e : ET, InTab l e → YOk g e
 | .leaf b, h => yield_leaf g hg b h
 | .grp e, h => yield_grp g hg (c_l4Yield g hg e h)
 | .pre o e, ⟨h1, _, _, h4⟩ => yield_pre g hg h1 (c_l4Yield g hg e h4)
 | .post o e, ⟨h1, _, _, h4⟩ => yield_post g hg h1 (c_l4Yield g hg e h4)
 | .inf o x y, ⟨h1, _, _, h4, h5⟩ => yield_inf g hg h1 (c_l4Yield g hg x h4) (c_l4Yield g hg y h5)
def gapW (a b : PWord) : Bool := b.infix_ || a.infix_ || (b.op && a.op)
def outW (ws : List PWord) : Nat → ByteArray
 | 0 => ByteArray.empty
 | i + 1 => (if 0 < i ∧ gapW (wdAt ws (i - 1)) (wdAt ws i) = true then outW ws i ++ ⟨#[32]⟩ else outW ws i) ++ (wdAt ws i).text
def TxB (B : Nat) : ET → Prop
 | .leaf b => b.2.size ≤ B
 | .grp e => TxB B e
 | .pre o e => o.text.size ≤ B ∧ TxB B e
 | .post o e => o.text.size ≤ B ∧ TxB B e
 | .inf o x y => o.text.size ≤ B ∧ TxB B x ∧ TxB B y
theorem yieldW_tx {B : Nat} (hB : 1 ≤ B) : ∀ {e : ET}, TxB B e → ∀ w, w ∈ yieldW e → w.text.size ≤ B
 | .leaf b, h, w, hw => by simp only [yieldW, List.mem_singleton] at hw; subst hw; exact h
 | .grp e, h, w, hw => by
  simp only [yieldW, List.mem_cons, List.mem_append, List.mem_nil_iff, or_false] at hw
  rcases hw with rfl | hw | rfl
  ·exact hB
  ·exact yieldW_tx hB (e := e) h w hw
  ·exact hB
 | .pre o e, ⟨h1, h2⟩, w, hw => by
  simp only [yieldW, List.mem_cons] at hw
  rcases hw with rfl | hw
  ·exact h1
  ·exact yieldW_tx hB h2 w hw
 | .post o e, ⟨h1, h2⟩, w, hw => by
  simp only [yieldW, List.mem_append, List.mem_singleton] at hw
  rcases hw with hw | rfl
  ·exact yieldW_tx hB h2 w hw
  ·exact h1
 | .inf o x y, ⟨h1, h2, h3⟩, w, hw => by
  simp only [yieldW, List.mem_cons, List.mem_append] at hw
  rcases hw with hw | rfl | hw
  ·exact yieldW_tx hB h2 w hw
  ·exact h1
  ·exact yieldW_tx hB h3 w hw
theorem lay_mem : ∀ (e : ET) (out : List PNode) (n : PNode), n ∈ out → n ∈ lay e out
 | .leaf b, out, n, h => by simp only [lay, List.mem_append]; exact .inl h
 | .grp e, out, n, h => by simp only [lay, List.mem_append]; exact .inl (lay_mem e out n h)
 | .pre o e, out, n, h => by simp only [lay, List.mem_append]; exact .inl (lay_mem e out n h)
 | .post o e, out, n, h => by simp only [lay, List.mem_append]; exact .inl (lay_mem e out n h)
 | .inf o x y, out, n, h => by simp only [lay, List.mem_append]; exact .inl (lay_mem y _ n (lay_mem x out n h))
theorem lay_tx {B : Nat} : ∀ (e : ET) (out : List PNode), (∀ n, n ∈ lay e out → n.text.size ≤ B) → TxB B e
 | .leaf b, out, h => h ⟨b.2, b.1, 0, 0⟩ (by simp [lay])
 | .grp e, out, h => lay_tx e out fun n hn => h n (by simp only [lay, List.mem_append]; exact .inl hn)
 | .pre o e, out, h => ⟨h ⟨o.text, o.kind + 2, (lay e out).length - 1, 0⟩ (by simp [lay]), lay_tx e out fun n hn => h n (by simp only [lay, List.mem_append]; exact .inl hn)⟩
 | .post o e, out, h => ⟨h ⟨o.text, o.kind + 2, (lay e out).length - 1, 0⟩ (by simp [lay]), lay_tx e out fun n hn => h n (by simp only [lay, List.mem_append]; exact .inl hn)⟩
 | .inf o x y, out, h => ⟨h ⟨o.text, o.kind + 2, (lay x out).length - 1, (lay y (lay x out)).length - 1⟩ (by simp [lay]), lay_tx x out fun n hn => h n (by simp only [lay, List.mem_append]; exact .inl (lay_mem y _ n hn)), lay_tx y _ fun n hn => h n (by simp only [lay, List.mem_append]; exact .inl hn)⟩
theorem spc_bytes (a : ByteArray) {g : Nat → List AV} (hg : g 0 = [.lit (.int .u8 32)]) (j : Nat) (hj : j < a.size + 1) : joinF a.size (byteCells a) g j = byteCells (a ++ ⟨#[32]⟩) j := by
 rw [← join_bytes a ⟨#[32]⟩ j hj]
 unfold joinF
 by_cases h : j < a.size
 ·rw [if_pos h, if_pos h]
 ·have e : j - a.size = 0 := by omega
  rw [if_neg h, if_neg h, e, hg]
  rfl
theorem sh1B {idx : Nat → Nat} {m n k : Nat} {a b c : ByteArray} (hn : n = a.size) (e : c = a ++ b) (hk : k = c.size) : ∀ j, j < k → CellsRn idx m (joinF n (byteCells a) (byteCells b) j) (byteCells c j) := fun j hj => by
 subst hn; subst e; subst hk
 rw [join_bytes a b j (by simpa using hj)]
 exact cellsRn_lits rfl
theorem sh2B {idx : Nat → Nat} {m n n' k : Nat} {a b c : ByteArray} {g : Nat → List AV} (hn : n = a.size) (hn' : n' = a.size + 1) (hg : g 0 = [.lit (.int .u8 32)]) (e : c = (a ++ ⟨#[32]⟩) ++ b) (hk : k = c.size) : ∀ j, j < k → CellsRn idx m (joinF n' (joinF n (byteCells a) g) (byteCells b) j) (byteCells c j) := fun j hj => by
 subst hn; subst hn'; subst e; subst hk
 have hs : (a ++ ⟨#[32]⟩ : ByteArray).size = a.size + 1 := by rw [ByteArray.size_append]; rfl
 rw [← join_bytes (a ++ ⟨#[32]⟩) b j (by simpa using hj)]
 unfold joinF
 rw [hs]
 by_cases h : j < a.size + 1
 ·rw [if_pos h, if_pos h]
  rw [show (if j < a.size then byteCells a j else g (j - a.size)) = joinF a.size (byteCells a) g j from rfl, spc_bytes a hg j h]
  exact cellsRn_lits rfl
 ·rw [if_neg h, if_neg h]
  exact cellsRn_lits rfl
def printZ (l : List POp) (t : List PNode) : ByteArray := if groupOk l t then outW (yieldW (groupE l t)) (yieldW (groupE l t)).length else ByteArray.empty
def NodTx (B : Nat) (T : List PNode) : Prop := ∀ i, i < T.length → (nodAt T i).text.size ≤ B
theorem nodTx_app {B : Nat} {T : List PNode} {n : PNode} (h : NodTx B T) (hn : n.text.size ≤ B) : NodTx B (T ++ [n]) := fun i hi => by
 simp only [List.length_append, List.length_singleton] at hi
 by_cases e : i < T.length
 ·rw [nodAt_old e]; exact h i e
 ·obtain rfl : i = T.length := by omega
  rw [nodAt_new]; exact hn
theorem nodTx_nil (B : Nat) : NodTx B [] := fun i hi => by simp at hi
theorem nodTx_mem {B : Nat} {T : List PNode} : NodTx B T ↔ ∀ n, n ∈ T → n.text.size ≤ B := by
 refine ⟨fun h n hn => ?_, fun h i hi => ?_⟩
 ·obtain ⟨i, hi, rfl⟩ := List.getElem_of_mem hn
  have := h i hi
  unfold nodAt at this
  rwa [List.getD_eq_getElem?_getD, List.getElem?_eq_getElem hi] at this
 ·refine h _ ?_
  unfold nodAt
  rw [List.getD_eq_getElem?_getD, List.getElem?_eq_getElem hi]
  exact List.getElem_mem hi
theorem nodTx_le {B C : Nat} {T : List PNode} (h : NodTx B T) (hc : B ≤ C) : NodTx C T := fun i hi => Nat.le_trans (h i hi) hc
def ETx (B : Nat) : ET → Prop
 | .leaf b => b.2.size ≤ B
 | .grp e => ETx B e
 | .pre o e => o.text.size ≤ B ∧ ETx B e
 | .post o e => o.text.size ≤ B ∧ ETx B e
 | .inf o x y => o.text.size ≤ B ∧ ETx B x ∧ ETx B y
theorem lay_txN {B : Nat} : ∀ (e : ET) (out : List PNode), ETx B e → NodTx B out → NodTx B (lay e out)
 | .leaf b, out, h, ho => nodTx_app ho h
 | .grp e, out, h, ho => nodTx_app (lay_txN e out h ho) (Nat.zero_le _)
 | .pre o e, out, h, ho => nodTx_app (lay_txN e out h.2 ho) h.1
 | .post o e, out, h, ho => nodTx_app (lay_txN e out h.2 ho) h.1
 | .inf o x y, out, h, ho => nodTx_app (lay_txN y _ h.2.2 (lay_txN x out h.2.1 ho)) h.1
theorem tx_layN {B : Nat} : ∀ (e : ET) (out : List PNode), NodTx B (lay e out) → ETx B e ∧ NodTx B out
 | .leaf b, out, h => by
  simp only [lay, nodTx_mem, List.mem_append, List.mem_singleton] at h ⊢
  exact ⟨h _ (.inr rfl), fun n hn => h n (.inl hn)⟩
 | .grp e, out, h => by
  simp only [lay, nodTx_mem, List.mem_append, List.mem_singleton] at h
  exact tx_layN e out (nodTx_mem.2 fun n hn => h n (.inl hn))
 | .pre o e, out, h => by
  simp only [lay, nodTx_mem, List.mem_append, List.mem_singleton] at h
  obtain ⟨h1, h2⟩ := tx_layN e out (nodTx_mem.2 fun n hn => h n (.inl hn))
  exact ⟨⟨h _ (.inr rfl), h1⟩, h2⟩
 | .post o e, out, h => by
  simp only [lay, nodTx_mem, List.mem_append, List.mem_singleton] at h
  obtain ⟨h1, h2⟩ := tx_layN e out (nodTx_mem.2 fun n hn => h n (.inl hn))
  exact ⟨⟨h _ (.inr rfl), h1⟩, h2⟩
 | .inf o x y, out, h => by
  simp only [lay, nodTx_mem, List.mem_append, List.mem_singleton] at h
  obtain ⟨h1, h2⟩ := tx_layN y _ (nodTx_mem.2 fun n hn => h n (.inl hn))
  obtain ⟨h3, h4⟩ := tx_layN x out h2
  exact ⟨⟨h _ (.inr rfl), h3, h1⟩, h4⟩
theorem bare_txN {B : Nat} : ∀ {e : ET}, ETx B e → ETx B (bare e)
 | .leaf b, h => h
 | .grp e, h => bare_txN (e := e) h
 | .pre o e, h => ⟨h.1, bare_txN h.2⟩
 | .post o e, h => ⟨h.1, bare_txN h.2⟩
 | .inf o x y, h => ⟨h.1, bare_txN h.2.1, bare_txN h.2.2⟩
theorem grpd_txN {B : Nat} : ∀ {e : ET} (m : Int), ETx B e → ETx B (grpd e m)
 | .leaf b, m, h => by simp only [grpd]; split <;> exact h
 | .grp e, m, h => by simp only [grpd]; split <;> exact grpd_txN (e := e) 0 h
 | .pre o e, m, h => by simp only [grpd]; split <;> exact ⟨h.1, grpd_txN _ h.2⟩
 | .post o e, m, h => by simp only [grpd]; split <;> exact ⟨h.1, grpd_txN _ h.2⟩
 | .inf o x y, m, h => by simp only [grpd]; split <;> exact ⟨h.1, grpd_txN _ h.2.1, grpd_txN _ h.2.2⟩
theorem groupZ_tx {B : Nat} {l : List POp} {T : List PNode} (h : NodTx B T) : NodTx B (groupZ l T) := by
 unfold groupZ
 split
 ·rename_i hg
  simp only [groupOk, Bool.and_eq_true] at hg
  have hb := bare_facts hg.1
  have h2 : NodTx B (lay (rootE l T) []) := by rw [← hb.2.2.2.1]; exact h
  exact lay_txN _ _ (grpd_txN 0 (bare_txN (tx_layN _ _ h2).1)) (nodTx_nil B)
 ·exact nodTx_nil B
end Go.Proofs.YtjdmmhcogmepaaaGreatDoor.V
