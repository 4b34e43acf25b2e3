/- The value machine, part 9: code, loops, whole functions. -/
import Derived.Test.YthhgckbfmpkipaaV8
namespace Go.Proofs.Ythhgckbfmpkipaa.V
open Go.RowKit
set_option linter.unusedVariables false
set_option linter.unusedSimpArgs false
section
variable {P : Program} {n base : Nat} {w0 w : World} {hd : Nat → Value} {s : VS} {a : Act} {k : AV → VS → Prop}

theorem run_call_of {f : FuncId} (hf : FnOk P f) (args : Array Value) (w : World) : (callFunc f args).run P w = .ok (.enter f args) w := by
  obtain ⟨fn, h1, h2, h3⟩ := hf
  unfold callFunc program
  have a1 : fn.name ≠ "runtime.NumGoroutine" := by simpa using h2
  have a2 : fn.body ≠ none := by intro e; rw [e] at h3; simp at h3
  simp only [bind, Sem.bind, Sem.run, h1]
  simp [a1, a2, Sem.run, pure]

theorem putO_sound (h : RelH n base w0 hd s a w) {dst : Option Tmp} {av : AV} {v : Value} {k : VS → Prop} (hv : Rep w (okOf s.mem hd) hd s.mem.length av v) (hk : putO n dst av s k) :
    ∃ s', RelH n base w0 hd s' (a.put dst v) w ∧ k s' := by
  cases dst with
  | none => exact ⟨s, h, hk⟩
  | some t => exact ⟨_, h.put hk.1 hv, hk.2⟩

theorem vstep_sound (h : RelH n base w0 hd s a w) {o : Oper} {k : VS → Prop} (hv : vstep P n o s k) {K : Act → World → Prop} {Q : Exit → Act → World → Prop} (hK : ∀ hd' s' a' w', RelH n base w0 hd' s' a' w' → k s' → K a' w') : o.wp P a w K Q := by
  unfold vstep at hv
  split at hv
  · rename_i f xs hcall
    obtain ⟨args', hargs, hfn, hc⟩ := hv
    have hrun : (execOp a.eval o).run P w = .ok (.enter f (xs.map a.eval).toArray) w := by
      unfold callOf at hcall
      split at hcall
      · rename_i c hop
        split at hcall
        · rename_i f' hcal
          simp only [Option.some.injEq, Prod.mk.injEq] at hcall
          obtain ⟨rfl, rfl⟩ := hcall
          unfold execOp
          simp only [hop]
          have e : c.args.map a.eval = (c.args.toList.map a.eval).toArray := by
            apply Array.ext'; simp
          simp only [resolve, hcal, Act.eval, Deferred.ofValue, Sem.run_bind, Sem.run_pure, Result.andThen_ok, invoke]
          simp only [List.append_toArray, Array.append_empty, Array.empty_append, e, List.nil_append, List.append_nil]
          exact run_call_of hfn _ w
        · simp at hcall
      · simp at hcall
    obtain ⟨hl, hrep⟩ := argsOk_rep h xs args' hargs
    have hcalls := hc w _ hl hrep
    unfold Oper.wp
    rw [hrun]
    simp only [Oper.upon]
    refine hcalls.mono ?_
    rintro e w' ⟨v, rfl, hg, hdc, av, obs, hk, hfl, hlit, hm, hv⟩
    have hR := h.import hg hm hlit
    have hrv : Rep w' (okOf (s.mem ++ obs.map some) (fun j => if j < s.mem.length then hd j else hdc (j - s.mem.length))) (fun j => if j < s.mem.length then hd j else hdc (j - s.mem.length)) (s.mem ++ obs.map some).length (ren (· + s.mem.length) av) v := by
      refine hv.ren_ hfl fun q _ hq => ⟨by simp; omega, ?_⟩
      rw [if_neg (by omega), Nat.add_sub_cancel]
    obtain ⟨s', h1, h2⟩ := putO_sound hR hrv hk
    exact hK _ s' _ _ h1 h2
  · obtain ⟨v, w', hr, hd', s', av, h1, h2, h3⟩ := vop2_sound h o hv
    obtain ⟨s'', h4, h5⟩ := putO_sound h1 h2 h3
    unfold Oper.wp
    rcases hr with hr | ⟨hr, rfl⟩
    · rw [hr]; exact hK _ s'' _ _ h4 h5
    · rw [hr]; exact hK _ s'' _ _ h4 h5

theorem yield_of (h : RelH n base w0 hd s a w) {all : List Oper} {g : Nat} {t : Tmp} {c : Bool} (hs : slotOf all g = some t) (hl : lk s.tmps t = .lit (.bool c)) : yielded all.toArray a.tmps g = some c := by
  have ht := h.tm t
  rw [hl] at ht
  have e : a.tmps.getD t undef = .bool c := by
    generalize a.tmps.getD t undef = v at ht
    cases ht; rfl
  unfold yielded
  have : ((all.toArray[g]?).bind (·.dst)) = some t := by simpa [slotOf] using hs
  rw [this]
  simp only [Option.bind_some]
  rw [Array.getD_eq_getD_getElem?] at e
  cases h2 : a.tmps[t]? with
  | none => rw [h2] at e; simp [undef] at e
  | some v => rw [h2] at e; simp only [Option.getD_some] at e; rw [e]

theorem yield_no (h : RelH n base w0 hd s a w) {all : List Oper} {g : Nat} {t : Tmp} {q : Array Value} (hs : slotOf all g = some t) (hl : lk s.tmps t = .lit (.tuple q)) (b : Bool) : yielded all.toArray a.tmps g ≠ some b := by
  have ht := h.tm t
  rw [hl] at ht
  have e : a.tmps.getD t undef = .tuple q := by
    generalize a.tmps.getD t undef = v at ht
    cases ht; rfl
  unfold yielded
  have : ((all.toArray[g]?).bind (·.dst)) = some t := by simpa [slotOf] using hs
  rw [this]
  simp only [Option.bind_some]
  rw [Array.getD_eq_getD_getElem?] at e
  cases h2 : a.tmps[t]? with
  | none => simp
  | some v => rw [h2] at e; simp only [Option.getD_some] at e; rw [e]; simp

theorem RelH.again (h : RelH n base w0 hd s a w) {t : Tmp} {av : AV} (hav : av = lk s.tmps t) : RelH n base w0 hd { s with tmps := (t, av) :: s.tmps } a w := by
  refine ⟨h.defers, h.size, h.below, h.le, fun u => ?_, h.me⟩
  simp only [lk]
  split
  · rename_i e; subst e; rw [hav]; exact h.tm t
  · exact h.tm u

theorem vops_sound {all : List Oper} {Q : Exit → Act → World → Prop} : ∀ (ops : List Oper) {hd : Nat → Value} {s : VS} {a : Act} {w : World} {k : VS → Prop}, RelH n base w0 hd s a w → vops P n all ops s k →
    (∀ hd' s' a' w', RelH n base w0 hd' s' a' w' → k s' → Q .normal a' w') → wpList P all.toArray Q ops a w
  | [], hd, s, a, w, k, h, hv, hQ => hQ hd s a w h hv
  | o :: r, hd, s, a, w, k, h, hv, hQ => by
    simp only [vops] at hv
    unfold wpList
    split at hv
    · rename_i hg
      rw [if_pos (by simp [Region.wanted, hg])]
      exact .inl (vstep_sound h hv fun hd' s' a' w' h' hk => vops_sound r h' hk hQ)
    · rename_i g b hg
      split at hv
      · rename_i t hs
        split at hv
        · rename_i c hl
          have hy := yield_of h hs hl
          by_cases hcb : c = b
          · have hR := h.again (t := t) (av := .lit (.bool b)) (by rw [hl, hcb])
            rw [if_pos (by simp [Region.wanted, hg, hy, hcb])]
            exact .inl (vstep_sound hR (hv.1 hcb) fun hd' s' a' w' h' hk => vops_sound r h' hk hQ)
          · have hcb' : c = !b := by cases c <;> cases b <;> simp_all
            have hR := h.again (t := t) (av := .lit (.bool (!b))) (by rw [hl, hcb'])
            rw [if_neg (by simp [Region.wanted, hg, hy, hcb])]
            obtain ⟨s', h1, h2⟩ := putO_sound hR (.lit undef) (hv.2 hcb')
            exact vops_sound r h1 h2 hQ
        · rename_i q hl
          have hy := yield_no h hs hl b
          rw [if_neg (by simp [Region.wanted, hg, hy])]
          obtain ⟨s', h1, h2⟩ := putO_sound h (.lit undef) hv
          exact vops_sound r h1 h2 hQ
        · exact hv.elim
      · exact hv.elim

/-- ways out of code -/
inductive VX where
  | normal
  | exit (id : Nat)
  | ret
def VX.out : VX → Exit
  | .normal => .normal
  | .exit id => .exit id
  | .ret => .ret

/-- own references stay below m -/
inductive Bd (m : Nat) : AV → Prop
  | undef : Bd m .undef
  | closed (av : AV) (h : Closed av) : Bd m av
  | own (k : Nat) (h : k < m) : Bd m (.own k)
  | sub (k sz lo n : Nat) (h : k < m) : Bd m (.sub k sz lo n)
  | ptr (k sz i j : Nat) (h : k < m) : Bd m (.ptr k sz i j)
  | agg (cs : List AV) (h : ∀ c, c ∈ cs → Bd m c) : Bd m (.agg cs)
  | tup (cs : List AV) (h : ∀ c, c ∈ cs → Bd m c) : Bd m (.tup cs)

theorem Rep.bd {w : World} {ok ok' : Nat → Prop} {m m' : Nat} {av : AV} (hb : Bd m' av) (hok : ∀ b, ok b → ok' b) : ∀ {v : Value}, Rep w ok hd m av v → Rep w ok' hd m' av v := by
  induction hb with
  | undef => intro v _; exact .undef v
  | closed av hc => intro v h; exact Rep.closed hc (fun a u h1 h2 => ⟨h2, hok _ h1⟩) h
  | own k hk => intro v h; cases h; exact .own k hk
  | sub k sz lo n hk => intro v h; cases h with | sub _ _ _ _ A c _ hc ha => exact .sub k sz lo n A c hk hc ha
  | ptr k sz i j hk => intro v h; cases h with | ptr _ _ _ _ b n' c' _ hh => exact .ptr k sz i j b n' c' hk hh
  | agg cs _ ih => intro v h; cases h with | agg _ vs hl hr => exact .agg cs vs hl fun j a u h1 h2 => ih a (List.mem_of_getElem? h1) (hr j a u h1 h2)
  | tup cs _ ih => intro v h; cases h with | tup _ vs hl hr => exact .tup cs vs hl fun j a u h1 h2 => ih a (List.mem_of_getElem? h1) (hr j a u h1 h2)

def ObEq (m : Nat) (ob ob' : Ob) : Prop := ob.ty = ob'.ty ∧ ob.sz = ob'.sz ∧ ob.n = ob'.n ∧ ∀ i, i < ob'.n → ob.f i = ob'.f i ∧ ∀ c, c ∈ ob'.f i → Bd m c
/-- less is known, some objects are forgotten -/
structure Le (s s' : VS) : Prop where
  tmps : ∀ p, p ∈ s'.tmps → lk s.tmps p.1 = p.2 ∧ Bd s'.mem.length p.2
  len : s'.mem.length ≤ s.mem.length
  mem : ∀ (k : Nat) (ob' : Ob), s'.mem[k]? = some (some ob') → ∃ ob, s.mem[k]? = some (some ob) ∧ ObEq s'.mem.length ob ob'

theorem lk_mem : ∀ (l : List (Nat × AV)) (t : Nat), lk l t = .undef ∨ (t, lk l t) ∈ l
  | [], t => .inl rfl
  | (u, v) :: r, t => by
    simp only [lk]
    split
    · rename_i e; subst e; exact .inr (by simp)
    · rcases lk_mem r t with h | h
      · exact .inl h
      · exact .inr (by simp [h])

theorem RelH.le_ {s' : VS} (h : RelH n base w0 hd s a w) (hle : Le s s') : RelH n base w0 hd s' a w := by
  have hok : ∀ b, okOf s.mem hd b → okOf s'.mem hd b := fun b hb k ob' hk => by
    obtain ⟨ob, h1, _⟩ := hle.mem k ob' hk
    exact hb k ob h1
  refine ⟨h.defers, h.size, h.below, h.le, fun t => ?_, ⟨fun k ob' hk => ?_, fun k hk => h.me.hds k (by have := hle.len; omega), fun k k' ob ob' hk hk' hne => ?_⟩⟩
  · rcases lk_mem s'.tmps t with e | e
    · rw [e]; exact .undef _
    · obtain ⟨h1, h2⟩ := hle.tmps _ e
      simp only at h1
      have := h.tm t
      rw [h1] at this
      exact this.bd h2 hok
  · obtain ⟨ob, h1, e1, e2, e3, h2⟩ := hle.mem k ob' hk
    obtain ⟨hs, vals, ho, hr⟩ := h.me.obs k ob h1
    rw [e2] at hs
    refine ⟨hs, vals, by rw [← e1, ← e2, ← e3]; exact ho, fun i hi => ?_⟩
    obtain ⟨g1, g2⟩ := hr i (by omega)
    obtain ⟨f1, f2⟩ := h2 i hi
    rw [f1] at g1 g2
    rw [e2] at g1 g2
    refine ⟨g1, fun j av hj => ?_⟩
    obtain ⟨u, q1, q2, q3⟩ := g2 j av hj
    exact ⟨u, q1, q2, q3.bd (f2 av (List.mem_of_getElem? hj)) hok⟩
  · obtain ⟨o1, g1, _⟩ := hle.mem k ob hk
    obtain ⟨o2, g2, _⟩ := hle.mem k' ob' hk'
    exact h.me.apart k k' o1 o2 g1 g2 hne

def vc (P : Program) (n : Nat) : Code → VS → (VX → VS → Prop) → Prop
  | .skip, s, K => K .normal s
  | .region _ ops false, s, K => vops P n ops.toList ops.toList s (K .normal)
  | .seq x y, s, K => vc P n x s (fun e s' => match e with
    | .normal => vc P n y s' K
    | e => K e s')
  | .cond c x y, s, K => match ev s c with
    | .lit (.bool t) => (t = true → vc P n x s K) ∧ (t = false → vc P n y s K)
    | _ => False
  | .block id x, s, K => vc P n x s (fun e s' => match e with
    | .exit i => if i = id then K .normal s' else K (.exit i) s'
    | e => K e s')
  | .loop x, s, K => ∃ (ι : Type) (I : ι → Prop) (μ : ι → Nat) (S : ι → VS), (∃ i, I i ∧ Le s (S i)) ∧ ∀ i, I i → vc P n x (S i) (fun e s' => match e with
    | .normal => ∃ j, I j ∧ μ j < μ i ∧ Le s' (S j)
    | e => K e s')
  | .exit id, s, K => K (.exit id) s
  | .ret, s, K => K .ret s
  | _, _, _ => False

theorem wp_loop_of {ι : Type} {c : Code} {Q : Exit → Act → World → Prop} (I : ι → Act → World → Prop) (μ : ι → Nat) (round : ∀ i a w, I i a w → c.wp P (Exit.then (fun a' w' => ∃ j, I j a' w' ∧ μ j < μ i) Q) a w) :
    ∀ {i : ι} {a : Act} {w : World}, I i a w → (Code.loop c).wp P Q a w := by
  intro i a w h₀ b k cs
  have key : ∀ m i a w, μ i = m → I i a w → ∃ e a' w', Q e a' w' ∧ Arrives P (lone (b.at a (.code c :: .inLoop c :: k)) cs w) b k cs e a' w' := by
    intro m
    induction m using Nat.strongRecOn with
    | _ m ih =>
      intro i a w hm hI
      obtain ⟨e, a₁, w₁, hq, harr⟩ := round i a w hI b (.inLoop c :: k) cs
      cases e with
      | normal =>
        obtain ⟨j, hI₁, hlt⟩ := hq
        obtain ⟨e₂, a₂, w₂, hq₂, harr₂⟩ := ih (μ j) (hm ▸ hlt) j a₁ w₁ rfl hI₁
        exact ⟨e₂, a₂, w₂, hq₂, .of_steps (Steps.trans harr (.one step_inLoop)) harr₂⟩
      | exit id => exact ⟨_, a₁, w₁, hq, .pass (x := .inLoop c) rfl (fun _ _ => .inl (by simp)) harr⟩
      | goto l => exact ⟨_, a₁, w₁, hq, .pass (x := .inLoop c) rfl (fun _ _ => .inl (by simp)) harr⟩
      | ret => exact ⟨_, a₁, w₁, hq, .pass (x := .inLoop c) rfl (fun _ _ => .inl (by simp)) harr⟩
      | panic ch => exact ⟨_, a₁, w₁, hq, .pass (x := .inLoop c) rfl (fun _ _ => .inl (by simp)) harr⟩
      | outgrown => exact ⟨_, a₁, w₁, hq, .pass (x := .inLoop c) rfl (fun _ _ => .inl (by simp)) harr⟩
  obtain ⟨e, a', w', hq, harr⟩ := key _ i a w rfl h₀
  exact ⟨e, a', w', hq, .of_steps (.one step_loop) harr⟩

theorem vc_sound : ∀ (c : Code) {hd : Nat → Value} {s : VS} {a : Act} {w : World} {K : VX → VS → Prop} {Q : Exit → Act → World → Prop}, RelH n base w0 hd s a w → vc P n c s K →
    (∀ x hd' s' a' w', RelH n base w0 hd' s' a' w' → K x s' → Q x.out a' w') → c.wp P Q a w := by
  intro c
  induction c with
  | skip => intro hd s a w K Q h hv hQ; exact wp_skip (hQ .normal _ _ _ _ h hv)
  | region id ops draw =>
    intro hd s a w K Q h hv hQ
    cases draw with
    | true => exact hv.elim
    | false => exact wp_region_list (vops_sound ops.toList h hv fun hd' s' a' w' h' hk => hQ .normal _ _ _ _ h' hk)
  | seq x y ihx ihy =>
    intro hd s a w K Q h hv hQ
    refine wp_seq (ihx h hv fun e hd' s' a' w' h' hk => ?_)
    cases e with
    | normal => exact ihy h' hk hQ
    | exit id => exact hQ _ _ _ _ _ h' hk
    | ret => exact hQ _ _ _ _ _ h' hk
  | cond c x y ihx ihy =>
    intro hd s a w K Q h hv hQ
    simp only [vc] at hv
    split at hv
    · rename_i t e
      have hc := (h.ev_ c).val_ (toVal_lit e)
      cases t with
      | true => exact wp_cond_true hc (ihx h (hv.1 rfl) hQ)
      | false => exact wp_cond_false hc (ihy h (hv.2 rfl) hQ)
    · exact hv.elim
  | block id x ih =>
    intro hd s a w K Q h hv hQ
    refine wp_block (ih h hv fun e hd' s' a' w' h' hk => ?_)
    cases e with
    | normal => exact hQ .normal _ _ _ _ h' hk
    | exit i =>
      simp only at hk
      simp only [VX.out, Exit.inBlock]
      split at hk
      · rename_i e; rw [if_pos e]; exact hQ .normal _ _ _ _ h' hk
      · rename_i e; rw [if_neg e]; exact hQ (.exit i) _ _ _ _ h' hk
    | ret => exact hQ .ret _ _ _ _ h' hk
  | loop x ih =>
    intro hd s a w K Q h hv hQ
    obtain ⟨ι, I, μ, S, ⟨i0, hI0, hle0⟩, hround⟩ := hv
    refine wp_loop_of (ι := ι) (fun i a w => I i ∧ ∃ hd, RelH n base w0 hd (S i) a w) μ (fun i a w hI => ?_) (i := i0) ⟨hI0, hd, h.le_ hle0⟩
    obtain ⟨hIi, hd1, h1⟩ := hI
    refine ih h1 (hround i hIi) fun e hd' s' a' w' h' hk => ?_
    cases e with
    | normal =>
      obtain ⟨j, hj, hlt, hle⟩ := hk
      exact ⟨j, ⟨hj, hd', h'.le_ hle⟩, hlt⟩
    | exit id => exact hQ (.exit id) _ _ _ _ h' hk
    | ret => exact hQ .ret _ _ _ _ h' hk
  | exit id => intro hd s a w K Q h hv hQ; exact wp_exit (hQ (.exit id) _ _ _ _ h hv)
  | ret => intro hd s a w K Q h hv hQ; exact wp_ret (hQ .ret _ _ _ _ h hv)
  | _ => intro hd s a w K Q h hv hQ; exact hv.elim
end
end Go.Proofs.Ythhgckbfmpkipaa.V
