/- The value machine, part C: code, loops. -/
import Derived.Test.YtnjnkhmcdkjekaaVR
import Derived.Scope
namespace Go.Proofs.Ytnjnkhmcdkjekaa.V
open Go.RowKit
set_option linter.unusedVariables false
set_option linter.unusedSimpArgs false
section
variable {P : Program} {n : Nat} {base : Fr} {w0 w : World} {hd : Nat → Value} {s : VS} {a : Act} {k : AV → VS → Prop}
def vc (P : Program) (n : Nat) : Code → VS → (VX → VS → Prop) → Prop
  | .skip, s, K => K .normal s
  | .region _ ops false, s, K => vops P n ops.toList ops.toList s (K .normal)
  | .region _ ops true, s, K => ∃ fin p, regionOk P ops fin p = true ∧ (vplan P n ops.toList fin p s (K .normal) ∨ ∃ S1, vplan P n ops.toList fin p s (fun s' => Ent s' S1) ∧ K .normal S1)
  | .seq x y, s, K => vc P n x s (fun e s' => match e with
    | .normal => vc P n y s' K
    | e => K e s')
  | .cond c x y, s, K => match ev s c with
    | .lit (.bool t) => (t = true → vc P n x s K) ∧ (t = false → vc P n y s K)
    | _ => False
  | .block id x, s, K => vc P n x s (fun e s' => match e with
    | .exit i => if i = id then K .normal s' else K (.exit i) s'
    | e => K e s')
  | .loop x, s, K => ∃ (ι : Type) (I : ι → Prop) (μ : ι → Nat) (S : ι → VS) (F : ι → LeK), (∃ i, I i ∧ Ent s (S i)) ∧ ∀ i, I i → vc P n x (S i) (fun e s' => match e with
    | .normal => ∃ j, I j ∧ μ j < μ i ∧ LeX (F i) s' (S j)
    | e => K e s')
  | .exit id, s, K => K (.exit id) s
  | .ret, s, K => K .ret s
  | .scope x, s, K => vc P n x s K
  | .label _, s, K => K .normal s
  | _, _, _ => False

theorem wp_loop_of {ι : Type} {c : Code} {Q : Exit → Act → World → Prop} (I : ι → Act → World → Prop) (μ : ι → Nat) (round : ∀ i a w, I i a w → c.wp P (Exit.then (fun a' w' => ∃ j, I j a' w' ∧ μ j < μ i) Q) a w) :
    ∀ {i : ι} {a : Act} {w : World}, I i a w → (Code.loop c).wp P Q a w := by
  intro i a w h₀ b k cs
  have key : ∀ m i a w, μ i = m → I i a w → ∃ e a' w', Q e a' w' ∧ Arrives P (lone (b.at a (.code c :: .inLoop c :: k)) cs w) b k cs e a' w' := by
    intro m
    induction m using Nat.strongRecOn with
    | _ m ih =>
      intro i a w hm hI
      obtain ⟨e, a₁, w₁, hq, harr⟩ := round i a w hI b (.inLoop c :: k) cs
      cases e with
      | normal =>
        obtain ⟨j, hI₁, hlt⟩ := hq
        obtain ⟨e₂, a₂, w₂, hq₂, harr₂⟩ := ih (μ j) (hm ▸ hlt) j a₁ w₁ rfl hI₁
        exact ⟨e₂, a₂, w₂, hq₂, .of_steps (Steps.trans harr (.one step_inLoop)) harr₂⟩
      | exit id => exact ⟨_, a₁, w₁, hq, .pass (x := .inLoop c) rfl (fun _ _ => .inl (by simp)) harr⟩
      | goto l => exact ⟨_, a₁, w₁, hq, .pass (x := .inLoop c) rfl (fun _ _ => .inl (by simp)) harr⟩
      | ret => exact ⟨_, a₁, w₁, hq, .pass (x := .inLoop c) rfl (fun _ _ => .inl (by simp)) harr⟩
      | panic ch => exact ⟨_, a₁, w₁, hq, .pass (x := .inLoop c) rfl (fun _ _ => .inl (by simp)) harr⟩
      | outgrown => exact ⟨_, a₁, w₁, hq, .pass (x := .inLoop c) rfl (fun _ _ => .inl (by simp)) harr⟩
  obtain ⟨e, a', w', hq, harr⟩ := key _ i a w rfl h₀
  exact ⟨e, a', w', hq, .of_steps (.one step_loop) harr⟩

theorem vc_sound (hP : base.P = P) : ∀ (c : Code) {hd : Nat → Value} {s : VS} {a : Act} {w : World} {K : VX → VS → Prop} {Q : Exit → Act → World → Prop}, RelH n base w0 hd s a w → vc P n c s K →
    (∀ x hd' s' a' w', RelH n base w0 hd' s' a' w' → K x s' → Q x.out a' w') → c.wp P Q a w := by
  intro c
  induction c with
  | skip => intro hd s a w K Q h hv hQ; exact wp_skip (hQ .normal _ _ _ _ h hv)
  | region id ops draw =>
    intro hd s a w K Q h hv hQ
    cases draw with
    | true =>
      obtain ⟨fin, p, h1, h2 | ⟨S1, h2, h3⟩⟩ := hv
      · exact vregion_sound h hP (all := ops.toList) h1 h2 fun hd' s' a' w' h' hk => hQ .normal _ _ _ _ h' hk
      · refine vregion_sound h hP (all := ops.toList) h1 h2 fun hd' s' a' w' h' hk => ?_
        obtain ⟨hd2, h4⟩ := hk _ _ _ _ _ _ h'
        exact hQ .normal _ _ _ _ h4 h3
    | false => exact wp_region_list (vops_sound hP ops.toList h hv fun hd' s' a' w' h' hk => hQ .normal _ _ _ _ h' hk)
  | seq x y ihx ihy =>
    intro hd s a w K Q h hv hQ
    refine wp_seq (ihx h hv fun e hd' s' a' w' h' hk => ?_)
    cases e with
    | normal => exact ihy h' hk hQ
    | exit id => exact hQ _ _ _ _ _ h' hk
    | ret => exact hQ _ _ _ _ _ h' hk
  | cond c x y ihx ihy =>
    intro hd s a w K Q h hv hQ
    simp only [vc] at hv
    split at hv
    · rename_i t e
      have hc := (h.ev_ c).val_ (toVal_lit e)
      cases t with
      | true => exact wp_cond_true hc (ihx h (hv.1 rfl) hQ)
      | false => exact wp_cond_false hc (ihy h (hv.2 rfl) hQ)
    · exact hv.elim
  | block id x ih =>
    intro hd s a w K Q h hv hQ
    refine wp_block (ih h hv fun e hd' s' a' w' h' hk => ?_)
    cases e with
    | normal => exact hQ .normal _ _ _ _ h' hk
    | exit i =>
      simp only at hk
      simp only [VX.out, Exit.inBlock]
      split at hk
      · rename_i e; rw [if_pos e]; exact hQ .normal _ _ _ _ h' hk
      · rename_i e; rw [if_neg e]; exact hQ (.exit i) _ _ _ _ h' hk
    | ret => exact hQ .ret _ _ _ _ h' hk
  | loop x ih =>
    intro hd s a w K Q h hv hQ
    obtain ⟨ι, I, μ, S, F, ⟨i0, hI0, hle0⟩, hround⟩ := hv
    refine wp_loop_of (ι := ι) (fun i a w => I i ∧ ∃ hd, RelH n base w0 hd (S i) a w) μ (fun i a w hI => ?_) (i := i0) ⟨hI0, hle0 _ _ _ _ _ _ h⟩
    obtain ⟨hIi, hd1, h1⟩ := hI
    refine ih h1 (hround i hIi) fun e hd' s' a' w' h' hk => ?_
    cases e with
    | normal =>
      obtain ⟨j, hj, hlt, hle⟩ := hk
      exact ⟨j, ⟨hj, h'.leX hle⟩, hlt⟩
    | exit id => exact hQ (.exit id) _ _ _ _ h' hk
    | ret => exact hQ .ret _ _ _ _ h' hk
  | exit id => intro hd s a w K Q h hv hQ; exact wp_exit (hQ (.exit id) _ _ _ _ h hv)
  | ret => intro hd s a w K Q h hv hQ; exact wp_ret (hQ .ret _ _ _ _ h hv)
  | scope x ih =>
    intro hd s a w K Q h hv hQ
    refine wp_scope_straight (ih h hv fun x hd' s' a' w' h' hk => ?_)
    cases x with
    | normal => exact hQ .normal _ _ _ _ h' hk
    | exit i => exact hQ (.exit i) _ _ _ _ h' hk
    | ret => exact hQ .ret _ _ _ _ h' hk
  | label l => intro hd s a w K Q h hv hQ; exact wp_label (hQ .normal _ _ _ _ h hv)
  | _ => intro hd s a w K Q h hv hQ; exact hv.elim
end
end Go.Proofs.Ytnjnkhmcdkjekaa.V
