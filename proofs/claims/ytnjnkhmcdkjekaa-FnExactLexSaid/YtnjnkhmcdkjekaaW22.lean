/- Contracts: the program's Union. -/
import Derived.Test.YtnjnkhmcdkjekaaW21
namespace Go.Proofs.Ytnjnkhmcdkjekaa.V
open Go.RowKit
open Go.Maps (Keyed)
set_option linter.unusedVariables false
set_option linter.unusedSimpArgs false
set_option linter.constructorNameAsVariable false
/-- the set holds the first i operators -/
def SetIs (l : List POp) (i : Nat) (es : List (Value × Value)) : Prop := (∀ j, j < i → (mget es (opV (opAt l j))).isSome = true) ∧ ∀ x v, mget es x = some v → ∃ j, j < i ∧ x = opV (opAt l j)
theorem set_has {l : List POp} {i : Nat} {es : List (Value × Value)} (h : SetIs l i es) : (mget es (opV (opAt l i))).isSome = opsHas l i (opAt l i) := by
  rw [Bool.eq_iff_iff]
  simp only [opsHas, List.any_eq_true, List.mem_range]
  constructor
  · intro h0
    obtain ⟨v, hv⟩ := Option.isSome_iff_exists.1 h0
    obtain ⟨j, hj, e⟩ := h.2 _ v hv
    exact ⟨j, hj, opV_eq.1 e.symm⟩
  · rintro ⟨j, hj, e⟩
    rw [← opV_eq.2 e]
    exact h.1 j hj
theorem set_step {l : List POp} {i : Nat} {es : List (Value × Value)} (h : SetIs l i es) : SetIs l (i + 1) (addEs es (opAt l i)) := by
  unfold addEs
  split
  · rename_i h0
    refine ⟨fun j hj => ?_, fun x v hv => ?_⟩
    · rcases Nat.lt_succ_iff_lt_or_eq.mp hj with hj | rfl
      · exact h.1 j hj
      · exact h0
    · obtain ⟨j, hj, e⟩ := h.2 x v hv
      exact ⟨j, by omega, e⟩
  · refine ⟨fun j hj => ?_, fun x v hv => ?_⟩
    · rw [mget_mput]
      split
      · rfl
      · rename_i hne
        rcases Nat.lt_succ_iff_lt_or_eq.mp hj with hj | rfl
        · exact h.1 j hj
        · exact absurd rfl hne
    · rw [mget_mput] at hv
      split at hv
      · rename_i e
        exact ⟨i, by omega, e.symm⟩
      · obtain ⟨j, hj, e⟩ := h.2 x v hv
        exact ⟨j, by omega, e⟩
def sel (a b : List POp) (q : Nat) : List POp := if q = 0 then a else b
def posQ (a b : List POp) (q : Nat) : Nat := if q = 0 then 0 else if q = 1 then a.length else a.length + b.length
theorem posQ_step (a b : List POp) (q : Nat) (h : q < 2) : posQ a b (q + 1) = posQ a b q + (sel a b q).length := by
  rcases (by omega : q = 0 ∨ q = 1) with rfl | rfl <;> simp [posQ, sel]
theorem opAt_sel (a b : List POp) (q i : Nat) (h : q < 2) (hi : i < (sel a b q).length) : opAt (a ++ b) (posQ a b q + i) = opAt (sel a b q) i := by
  rcases (by omega : q = 0 ∨ q = 1) with rfl | rfl
  · simp only [posQ, sel, if_true] at hi ⊢
    rw [opAt_app, if_pos (by omega), Nat.zero_add]
  · simp only [posQ, sel, if_true, show ((1 : Nat) = 0) = False by decide, if_false] at hi ⊢
    rw [opAt_app, if_neg (by omega), Nat.add_sub_cancel_left]
def opsRng (l : List POp) : Prop := ∀ i, i < l.length → (opAt l i).rng
theorem c_Union (a b : List POp) (h : a.length + b.length ≤ 1048576) (hwa : opsWf a) (hwb : opsWf b) (hra : opsRng a) (hrb : opsRng b) : VFun Try.prog 18 [.agg [.sl 4 a.length (opCells a)], .agg [.sl 4 b.length (opCells b)]] (fun av obs => av = .agg [.own 0] ∧ obs = [⟨81, 4, (union a b).length, opCells (union a b)⟩]) := by
  have cla : ∀ (i : Nat) (c : AV), i < a.length → c ∈ opCells a i → Closed c := fun i c _ h => opClosed a i c h
  have clb : ∀ (i : Nat) (c : AV), i < b.length → c ∈ opCells b i → Closed c := fun i c _ h => opClosed b i c h
  refine vfun_start Try.func18 (by kernel_rfl) rfl (by simp [Try.ntmps18]) ?_
  simp only [Try.ntmps18, Try.results18]
  simp [go_sem]
  refine fun bm => ?_
  have hL : (a ++ b).length = a.length + b.length := by simp
  have clS : ∀ q i (c : AV), c ∈ opCells (sel a b q) i → Closed c := fun q i c h => opClosed _ i c h
  refine vc_loopE (fun p : Nat × List (Value × Value) => p.1 ≤ 2 ∧ SetIs (a ++ b) (posQ a b p.1) p.2) (fun p => 2 - p.1)
    (fun p => ⟨[(4, .ptr 0 1 0 0), (5, .ptr 1 1 0 0), (6, .lit (.map (some bm))), (17, .own 2), (18, .lit (.int .i64 2)), (19, .lit (.int .i64 p.1))],
      [some ⟨35, 1, 1, fun _ => [.lit (.slice none 0 0)]⟩, some ⟨35, 1, 1, fun _ => [.own 3]⟩, some ⟨33, 1, 2, fun i => [.sl 4 (sel a b i).length (opCells (sel a b i))]⟩, some ⟨81, 4, (uniq (a ++ b) (posQ a b p.1)).length, opCells (uniq (a ++ b) (posQ a b p.1))⟩], [(bm, ⟨81, p.2⟩)], 0⟩) ⟨(0, []), ⟨by omega, by simp [posQ], by simp [mget]⟩, ?_⟩ (fun p hp => ?_)
  · refine (Ent.adopt (j := 3) (c := 0) rfl rfl rfl 81 4 (by omega) (fun _ => [])).trans ?_
    refine ent_ks [2, 3, 4, 5] (by simp) (by simp) (by simp) (by simp) (by simp [go_sem]) ?_ ?_
    · simp [go_sem]
    · simp [go_sem]
      refine ⟨.inl fun i hi => ⟨?_, fun j c _ hc => clS i j c hc⟩, .inl ⟨rfl, fun i hi => by simp [posQ, uniq] at hi⟩⟩
      rcases (by omega : i = 0 ∨ i = 1) with rfl | rfl <;> rfl
  · obtain ⟨q, es⟩ := p
    simp only at hp
    simp [go_sem]
    refine ⟨fun h1 => ?_, fun h1 => ?_⟩
    · have hq : q < 2 := by omega
      have hsl : (sel a b q).length ≤ a.length + b.length := by
        unfold sel; split <;> omega
      have hpl : posQ a b q + (sel a b q).length ≤ a.length + b.length := by
        rcases (by omega : q = 0 ∨ q = 1) with rfl | rfl <;> simp [posQ, sel]
      refine ⟨h1, hq, by omega, ?_⟩
      refine vc_loopE (fun p : Nat × List (Value × Value) => p.1 ≤ (sel a b q).length ∧ SetIs (a ++ b) (posQ a b q + p.1) p.2) (fun p => (sel a b q).length - p.1)
        (fun p => ⟨[(4, .ptr 0 1 0 0), (5, .ptr 1 1 0 0), (6, .lit (.map (some bm))), (17, .own 2), (18, .lit (.int .i64 2)), (19, .lit (.int .i64 q)), (23, .sl 4 (sel a b q).length (opCells (sel a b q))), (24, .lit (.int .i64 (sel a b q).length)), (25, .lit (.int .i64 p.1))],
          [some ⟨35, 1, 1, fun _ => [.lit (.slice none 0 0)]⟩, some ⟨35, 1, 1, fun _ => [.own 3]⟩, some ⟨33, 1, 2, fun i => [.sl 4 (sel a b i).length (opCells (sel a b i))]⟩, some ⟨81, 4, (uniq (a ++ b) (posQ a b q + p.1)).length, opCells (uniq (a ++ b) (posQ a b q + p.1))⟩], [(bm, ⟨81, p.2⟩)], 0⟩) ⟨(0, es), ⟨by omega, by simpa using hp.2⟩, ?_⟩ (fun p hp2 => ?_)
      · refine ent_ks [0, 1, 2, 3] (by simp) (by simp) (by simp) (by simp) (by simp [go_sem]) ?_ ?_
        · simp [go_sem]
          exact fun i c _ hc => clS q i c hc
        · simp [go_sem]
          refine ⟨fun i _ j c _ hc => clS i j c hc, .inl fun i _ => opClosed _ _⟩
      · obtain ⟨i, es2⟩ := p
        simp only at hp2
        simp [go_sem, opCells_at]
        refine ⟨fun h2 => ⟨h2, ?_⟩, fun h2 => ?_⟩
        · have he := opAt_sel a b q i hq h2
          have hw : (opAt (sel a b q) i).wf := by
            rcases (by omega : q = 0 ∨ q = 1) with rfl | rfl
            · exact hwa i h2
            · exact hwb i h2
          have hr : (opAt (sel a b q) i).rng := by
            rcases (by omega : q = 0 ∨ q = 1) with rfl | rfl
            · exact hra i h2
            · exact hrb i h2
          have hst := set_step hp2.2
          have hsh := set_has hp2.2
          rw [he] at hst hsh
          have hu := uniq_len (a ++ b) (posQ a b q + i)
          refine vcall_share [] (c_add bm es2 (opAt (sel a b q) i) hw hr) (by simp) ?_ ?_ ?_ ?_
          · simp [go_sem, POp.cells]
          · simp [go_sem]
          · simp [go_sem]
          · rintro av mem maps ⟨rfl, rfl, rfl⟩
            simp [go_sem]
            have hsi : SetIs (a ++ b) (posQ a b q + (i + 1)) (addEs es2 (opAt (sel a b q) i)) := hst
            refine ⟨fun hn => ⟨by omega, by omega, i + 1, _, ⟨by omega, hsi⟩, by omega, ?_⟩, fun hn => ⟨i + 1, _, ⟨by omega, hsi⟩, by omega, ?_⟩⟩
            · have hh : opsHas (a ++ b) (posQ a b q + i) (opAt (sel a b q) i) = false := by rw [← hsh, hn]; rfl
              have e2 : uniq (a ++ b) (posQ a b q + (i + 1)) = uniq (a ++ b) (posQ a b q + i) ++ [opAt (sel a b q) i] := by
                show uniq (a ++ b) (posQ a b q + i + 1) = _
                simp only [uniq, he, hh]; rfl
              refine ent_ks [0, 1, 2, 6] (by simp) (by simp) (by simp) (by simp) (by simp [go_sem]) ?_ ?_
              · simp [go_sem]
                exact ⟨fun i c _ hc => clS q i c hc, wrap_succ (by omega)⟩
              · simp [go_sem, e2]
                refine ⟨fun i _ j c _ hc => clS i j c hc, .inl fun j hj => ⟨?_, opClosed _ _⟩⟩
                rw [← opCells_one _ _ _ hj]
                unfold joinF
                split
                · rfl
                · have : j - (uniq (a ++ b) (posQ a b q + i)).length = 0 := by omega
                  rw [this]; rfl
            · have hh : opsHas (a ++ b) (posQ a b q + i) (opAt (sel a b q) i) = true := by rw [← hsh, hn]
              have e2 : uniq (a ++ b) (posQ a b q + (i + 1)) = uniq (a ++ b) (posQ a b q + i) := by
                show uniq (a ++ b) (posQ a b q + i + 1) = _
                simp only [uniq, he, hh]; rfl
              refine ent_ks [0, 1, 2, 3] (by simp) (by simp) (by simp) (by simp) (by simp [go_sem]) ?_ ?_
              · simp [go_sem]
                exact ⟨fun i c _ hc => clS q i c hc, wrap_succ (by omega)⟩
              · simp [go_sem, e2]
                exact ⟨fun i _ j c _ hc => clS i j c hc, .inl fun j _ => opClosed _ _⟩
        · have hi : i = (sel a b q).length := by omega
          have hps := posQ_step a b q hq
          subst hi
          refine ⟨q + 1, es2, ⟨by omega, by rw [hps]; exact hp2.2⟩, by omega, ?_⟩
          refine ent_ks [0, 1, 2, 3] (by simp) (by simp) (by simp) (by simp) (by simp [go_sem]) ?_ ?_
          · simp [go_sem]
            exact wrap_succ (by omega)
          · simp [go_sem, hps]
            exact ⟨fun i _ j c _ hc => clS i j c hc, .inl fun j _ => opClosed _ _⟩
    · have hq : q = 2 := by omega
      subst hq
      have e3 : posQ a b 2 = a.length + b.length := rfl
      rw [e3]
      exact obsSame_one.mpr ⟨⟨81, 4, (union a b).length, opCells (union a b)⟩, ⟨rfl, rfl, rfl, fun j hj => ⟨rfl, rfl⟩⟩, rfl⟩
end Go.Proofs.Ytnjnkhmcdkjekaa.V
