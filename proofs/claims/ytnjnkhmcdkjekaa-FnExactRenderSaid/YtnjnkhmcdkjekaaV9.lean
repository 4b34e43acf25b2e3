/- The value machine, part 9: code, loops, whole functions. -/
import Derived.Test.YtnjnkhmcdkjekaaVP
import Derived.Laws.Externs
import Derived.Lib.Builder
namespace Go.Proofs.Ytnjnkhmcdkjekaa.V
open Go.RowKit
set_option linter.unusedVariables false
set_option linter.unusedSimpArgs false
section
variable {P : Program} {n : Nat} {base : Fr} {w0 w : World} {hd : Nat → Value} {s : VS} {a : Act} {k : AV → VS → Prop}

theorem run_call_of {f : FuncId} (hf : FnOk P f) (args : Array Value) (w : World) : (callFunc f args).run P w = .ok (.enter f args) w := by
  obtain ⟨fn, h1, h2, h3⟩ := hf
  unfold callFunc program
  have a1 : fn.name ≠ "runtime.NumGoroutine" := by simpa using h2
  have a2 : fn.body ≠ none := by intro e; rw [e] at h3; simp at h3
  simp only [bind, Sem.bind, Sem.run, h1]
  simp [a1, a2, Sem.run, pure]

theorem putO_sound (h : RelH n base w0 hd s a w) {dst : Option Tmp} {av : AV} {v : Value} {k : VS → Prop} (hv : Rep w (okOf s.mem hd) hd s.mem.length av v) (hk : putO n dst av s k) :
    ∃ s', RelH n base w0 hd s' (a.put dst v) w ∧ k s' := by
  cases dst with
  | none => exact ⟨s, h, hk⟩
  | some t => exact ⟨_, h.put hk.1 hv, hk.2⟩

/-- what is handed over, as the callee sees it -/
theorem shared_rel (h : RelH n base w0 hd s a w) {ks : List Nat} {mem0 : List (Option Ob)} (hnd : ks.Nodup) (hsh : ShMem (fun j => ks.getD j 0) ks.length s.mem ks mem0) :
    MemRel (fun _ => True) w (fun j => hd (ks.getD j 0)) mem0 ∧ ∀ b, okOf s.mem hd b → okOf mem0 (fun j => hd (ks.getD j 0)) b := by
  obtain ⟨f0, f1⟩ := shMem_get hsh
  have at_ : ∀ j ob', mem0[j]? = some (some ob') → j < ks.length ∧ ∃ ob, s.mem[ks.getD j 0]? = some (some ob) ∧ ShOb (fun j => ks.getD j 0) ks.length ob ob' := by
    intro j ob' hj
    have hl : j < ks.length := by have := (List.getElem?_eq_some_iff.1 hj).1; omega
    obtain ⟨ob, ob2, h1, h2, h3⟩ := f1 j (ks.getD j 0) (by rw [List.getD_eq_getElem?_getD, List.getElem?_eq_getElem hl]; rfl)
    rw [hj] at h1
    simp only [Option.some.injEq] at h1
    subst h1
    exact ⟨hl, ob, h2, h3⟩
  have hok : ∀ b, okOf s.mem hd b → okOf mem0 (fun j => hd (ks.getD j 0)) b := by
    intro b hb j ob' hj
    obtain ⟨_, ob, h1, _⟩ := at_ j ob' hj
    exact hb _ ob h1
  refine ⟨⟨fun _ _ _ _ _ => trivial, fun j ob' hj => ?_, fun j hj => ?_, fun j j' o o' hj hj' hne => ?_⟩, hok⟩
  · obtain ⟨hl, ob, h1, e1, e2, e3, h2⟩ := at_ j ob' hj
    obtain ⟨hs, vals, ho, hr⟩ := h.me.obs _ ob h1
    rw [e2] at hs
    refine ⟨hs, vals, by rw [← e1, ← e2, ← e3]; exact ho, fun i hi => ?_⟩
    obtain ⟨g1, g2⟩ := cellsRn_get (h2 i hi)
    obtain ⟨q1, q2⟩ := hr i (by omega)
    refine ⟨by omega, fun c av hc => ?_⟩
    have hcl : c < (ob.f i).length := by have := (List.getElem?_eq_some_iff.1 hc).1; omega
    obtain ⟨u, r1, r2, r3⟩ := q2 c _ (List.getElem?_eq_getElem hcl)
    refine ⟨u, by rw [← e2]; exact r1, r2, ?_⟩
    rw [f0]
    exact r3.rn (g2 c _ av (List.getElem?_eq_getElem hcl) hc) hok
  · obtain ⟨ob, ob', _, h2, _⟩ := f1 j (ks.getD j 0) (by rw [List.getD_eq_getElem?_getD, List.getElem?_eq_getElem (by omega)]; rfl)
    exact h.me.hds _ (List.getElem?_eq_some_iff.1 h2).1
  · obtain ⟨hl, ob, h1, _⟩ := at_ j o hj
    obtain ⟨hl', ob', h1', _⟩ := at_ j' o' hj'
    refine h.me.apart _ _ ob ob' h1 h1' fun e => hne ?_
    rw [List.getD_eq_getElem?_getD, List.getD_eq_getElem?_getD, List.getElem?_eq_getElem hl, List.getElem?_eq_getElem hl'] at e
    exact (List.getElem_inj hnd).1 e

theorem vcall_sound (h : RelH n base w0 hd s a w) (hP : base.P = P) {o : Oper} {f : FuncId} {xs : List Operand} (hcall : callOf o.op = some (f, xs)) (hv : vcall P f xs s k) {K : Act → World → Prop} {Q : Exit → Act → World → Prop}
    (hK : ∀ hd' s' w' av v, RelH n base w0 hd' s' a w' → Rep w' (okOf s'.mem hd') hd' s'.mem.length av v → k av s' → K (a.put o.dst v) w') : o.wp P a w K Q := by
  have hrun0 : (execOp a.eval o).run P w = (callFunc f (xs.map a.eval).toArray).run P w := by
    unfold callOf at hcall
    split at hcall
    · rename_i c hop
      split at hcall
      · rename_i f' hcal
        simp only [Option.some.injEq, Prod.mk.injEq] at hcall
        obtain ⟨rfl, rfl⟩ := hcall
        unfold execOp
        simp only [hop]
        have e : c.args.map a.eval = (c.args.toList.map a.eval).toArray := by
          apply Array.ext'; simp
        simp only [resolve, hcal, Act.eval, Deferred.ofValue, Sem.run_bind, Sem.run_pure, Result.andThen_ok, invoke]
        simp only [List.append_toArray, Array.append_empty, Array.empty_append, e, List.nil_append, List.append_nil]
      · simp at hcall
    · simp at hcall
  have hrun : FnOk P f → (execOp a.eval o).run P w = .ok (.enter f (xs.map a.eval).toArray) w := fun hfn => hrun0.trans (run_call_of hfn _ w)
  rcases hv with ⟨args', hargs, hfn, hc⟩ | ⟨ks, args', mem0, maps0, hnd, hargs, hsh, hmaps, hfn, hc⟩ | ⟨⟨fn, hf1, hf2, hf3, hf4, hf5⟩, av, hav, hk⟩
  · obtain ⟨hl, hrep⟩ := argsOk_rep h xs args' hargs
    have hcalls := hc w _ hl hrep
    unfold Oper.wp
    rw [hrun hfn]
    simp only [Oper.upon]
    refine hcalls.mono ?_
    rintro e w' ⟨v, rfl, hg, hdc, av, obs, hk, hfl, hlit, hm, hv⟩
    have hR := h.import hg hm hlit
    refine hK _ _ _ _ _ hR (hv.ren_ hfl fun q _ hq => ⟨by simp; omega, ?_⟩) hk
    rw [if_neg (by omega), Nat.add_sub_cancel]
  · obtain ⟨hm0, hok⟩ := shared_rel h hnd hsh
    obtain ⟨g1, g2⟩ := cellsRn_get hargs
    have hlen := (shMem_get hsh).1
    have hcalls := hc w (xs.map a.eval) (fun j => hd (ks.getD j 0)) (by simpa using g1.symm) (fun j b u hb hu => by
      rw [List.getElem?_map, Option.map_eq_some_iff] at hu
      obtain ⟨x, hx, rfl⟩ := hu
      rw [hlen]
      exact (h.ev_ x).rn (g2 j (ev s x) b (by rw [List.getElem?_map, hx]; rfl) hb) hok) hm0 (fun b mp hb => by
      obtain ⟨_, es, clock, q1, q2⟩ := h.mp b mp (hmaps _ (lkm_mem hb))
      exact ⟨trivial, es, clock, q1, by rw [← hP]; exact q2⟩)
    unfold Oper.wp
    rw [hrun hfn]
    simp only [Oper.upon]
    refine hcalls.mono ?_
    rintro e w' ⟨v, rfl, hb, hdc, av, mem', maps', hk, hpo, hhd, hm, hmp, hv⟩
    obtain ⟨hR, f3⟩ := h.importS hP hnd hsh hmaps hb hpo hhd hm hmp
    exact hK _ _ _ _ _ hR (hv.ren_ hpo.flat fun q _ hq => f3 q hq) hk
  · match xs, hav with
    | [x], hav =>
      simp only [List.map_cons, List.map_nil, List.cons.injEq, and_true] at hav
      have hx := h.ev_ x
      rw [hav] at hx
      have hr : (execOp a.eval o).run P w = .ok (.value (a.eval x)) w := by
        rw [hrun0, run_callFunc_extern hf1 hf2 hf3 hf4 hf5]
        show ((Extern.AbiNoEscape.same #[a.eval x]).run P w).andThen _ = _
        rw [Lib.run_noEscape]
        rfl
      unfold Oper.wp
      rw [hr]
      exact hK _ _ _ _ _ h hx hk

theorem vstep_sound (h : RelH n base w0 hd s a w) (hP : base.P = P) {o : Oper} {k : VS → Prop} (hv : vstep P n o s k) {K : Act → World → Prop} {Q : Exit → Act → World → Prop} (hK : ∀ hd' s' a' w', RelH n base w0 hd' s' a' w' → k s' → K a' w') : o.wp P a w K Q := by
  unfold vstep at hv
  split at hv
  · rename_i f xs hcall
    refine vcall_sound h hP hcall hv fun hd' s' w' av v h1 h2 h3 => ?_
    obtain ⟨s'', h4, h5⟩ := putO_sound h1 h2 h3
    exact hK _ s'' _ _ h4 h5
  · obtain ⟨v, w', hr, hd', s', av, h1, h2, h3⟩ := vop4_sound h hP o hv
    obtain ⟨s'', h4, h5⟩ := putO_sound h1 h2 h3
    unfold Oper.wp
    rcases hr with hr | ⟨hr, rfl⟩
    · rw [hr]; exact hK _ s'' _ _ h4 h5
    · rw [hr]; exact hK _ s'' _ _ h4 h5

theorem yield_of (h : RelH n base w0 hd s a w) {all : List Oper} {g : Nat} {t : Tmp} {c : Bool} (hs : slotOf all g = some t) (hl : lk s.tmps t = .lit (.bool c)) : yielded all.toArray a.tmps g = some c := by
  have ht := h.tm t
  rw [hl] at ht
  have e : a.tmps.getD t undef = .bool c := by
    generalize a.tmps.getD t undef = v at ht
    cases ht; rfl
  unfold yielded
  have : ((all.toArray[g]?).bind (·.dst)) = some t := by simpa [slotOf] using hs
  rw [this]
  simp only [Option.bind_some]
  rw [Array.getD_eq_getD_getElem?] at e
  cases h2 : a.tmps[t]? with
  | none => rw [h2] at e; simp [undef] at e
  | some v => rw [h2] at e; simp only [Option.getD_some] at e; rw [e]

theorem yield_no (h : RelH n base w0 hd s a w) {all : List Oper} {g : Nat} {t : Tmp} {q : Array Value} (hs : slotOf all g = some t) (hl : lk s.tmps t = .lit (.tuple q)) (b : Bool) : yielded all.toArray a.tmps g ≠ some b := by
  have ht := h.tm t
  rw [hl] at ht
  have e : a.tmps.getD t undef = .tuple q := by
    generalize a.tmps.getD t undef = v at ht
    cases ht; rfl
  unfold yielded
  have : ((all.toArray[g]?).bind (·.dst)) = some t := by simpa [slotOf] using hs
  rw [this]
  simp only [Option.bind_some]
  rw [Array.getD_eq_getD_getElem?] at e
  cases h2 : a.tmps[t]? with
  | none => simp
  | some v => rw [h2] at e; simp only [Option.getD_some] at e; rw [e]; simp

theorem RelH.again (h : RelH n base w0 hd s a w) {t : Tmp} {av : AV} (hav : av = lk s.tmps t) : RelH n base w0 hd { s with tmps := (t, av) :: s.tmps } a w := by
  refine ⟨h.defers, h.size, h.below, h.le, h.fixl, h.fix, h.mp, fun u => ?_, h.me⟩
  simp only [lk]
  split
  · rename_i e; subst e; rw [hav]; exact h.tm t
  · exact h.tm u

theorem vops_sound (hP : base.P = P) {all : List Oper} {Q : Exit → Act → World → Prop} : ∀ (ops : List Oper) {hd : Nat → Value} {s : VS} {a : Act} {w : World} {k : VS → Prop}, RelH n base w0 hd s a w → vops P n all ops s k →
    (∀ hd' s' a' w', RelH n base w0 hd' s' a' w' → k s' → Q .normal a' w') → wpList P all.toArray Q ops a w
  | [], hd, s, a, w, k, h, hv, hQ => hQ hd s a w h hv
  | o :: r, hd, s, a, w, k, h, hv, hQ => by
    simp only [vops] at hv
    unfold wpList
    split at hv
    · rename_i hg
      rw [if_pos (by simp [Region.wanted, hg])]
      exact .inl (vstep_sound h hP hv fun hd' s' a' w' h' hk => vops_sound hP r h' hk hQ)
    · rename_i g b hg
      split at hv
      · rename_i t hs
        split at hv
        · rename_i c hl
          have hy := yield_of h hs hl
          by_cases hcb : c = b
          · have hR := h.again (t := t) (av := .lit (.bool b)) (by rw [hl, hcb])
            rw [if_pos (by simp [Region.wanted, hg, hy, hcb])]
            exact .inl (vstep_sound hR hP (hv.1 hcb) fun hd' s' a' w' h' hk => vops_sound hP r h' hk hQ)
          · have hcb' : c = !b := by cases c <;> cases b <;> simp_all
            have hR := h.again (t := t) (av := .lit (.bool (!b))) (by rw [hl, hcb'])
            rw [if_neg (by simp [Region.wanted, hg, hy, hcb])]
            obtain ⟨s', h1, h2⟩ := putO_sound hR (.lit undef) (hv.2 hcb')
            exact vops_sound hP r h1 h2 hQ
        · rename_i q hl
          have hy := yield_no h hs hl b
          rw [if_neg (by simp [Region.wanted, hg, hy])]
          obtain ⟨s', h1, h2⟩ := putO_sound h (.lit undef) hv
          exact vops_sound hP r h1 h2 hQ
        · exact hv.elim
      · exact hv.elim

/-- ways out of code -/
inductive VX where
  | normal
  | exit (id : Nat)
  | ret
def VX.out : VX → Exit
  | .normal => .normal
  | .exit id => .exit id
  | .ret => .ret

/-- own references stay below m -/
inductive Bd (m : Nat) : AV → Prop
  | undef : Bd m .undef
  | closed (av : AV) (h : Closed av) : Bd m av
  | own (k : Nat) (h : k < m) : Bd m (.own k)
  | sub (k sz lo n : Nat) (h : k < m) : Bd m (.sub k sz lo n)
  | ptr (k sz i j : Nat) (h : k < m) : Bd m (.ptr k sz i j)
  | agg (cs : List AV) (h : ∀ c, c ∈ cs → Bd m c) : Bd m (.agg cs)
  | tup (cs : List AV) (h : ∀ c, c ∈ cs → Bd m c) : Bd m (.tup cs)

theorem Rep.bd {w : World} {ok ok' : Nat → Prop} {m m' : Nat} {av : AV} (hb : Bd m' av) (hok : ∀ b, ok b → ok' b) : ∀ {v : Value}, Rep w ok hd m av v → Rep w ok' hd m' av v := by
  induction hb with
  | undef => intro v _; exact .undef v
  | closed av hc => intro v h; exact Rep.closed hc (fun a u h1 h2 => ⟨h2, hok _ h1⟩) h
  | own k hk => intro v h; cases h; exact .own k hk
  | sub k sz lo n hk => intro v h; cases h with | sub _ _ _ _ A c _ hc ha => exact .sub k sz lo n A c hk hc ha
  | ptr k sz i j hk => intro v h; cases h with | ptr _ _ _ _ b n' c' _ hh => exact .ptr k sz i j b n' c' hk hh
  | agg cs _ ih => intro v h; cases h with | agg _ vs hl hr => exact .agg cs vs hl fun j a u h1 h2 => ih a (List.mem_of_getElem? h1) (hr j a u h1 h2)
  | tup cs _ ih => intro v h; cases h with | tup _ vs hl hr => exact .tup cs vs hl fun j a u h1 h2 => ih a (List.mem_of_getElem? h1) (hr j a u h1 h2)

def ObEq (m : Nat) (ob ob' : Ob) : Prop := ob.ty = ob'.ty ∧ ob.sz = ob'.sz ∧ ob.n = ob'.n ∧ ∀ i, i < ob'.n → ob.f i = ob'.f i ∧ ∀ c, c ∈ ob'.f i → Bd m c
/-- less is known, some objects are forgotten -/
structure Le (s s' : VS) : Prop where
  fix : s'.fix = s.fix ∧ s'.fix ≤ s'.mem.length
  maps : ∀ p, p ∈ s'.maps → lkm s.maps p.1 = some p.2
  tmps : ∀ p, p ∈ s'.tmps → lk s.tmps p.1 = p.2 ∧ Bd s'.mem.length p.2
  len : s'.mem.length ≤ s.mem.length
  mem : ∀ (k : Nat) (ob' : Ob), s'.mem[k]? = some (some ob') → ∃ ob, s.mem[k]? = some (some ob) ∧ ObEq s'.mem.length ob ob'

theorem lk_mem : ∀ (l : List (Nat × AV)) (t : Nat), lk l t = .undef ∨ (t, lk l t) ∈ l
  | [], t => .inl rfl
  | (u, v) :: r, t => by
    simp only [lk]
    split
    · rename_i e; subst e; exact .inr (by simp)
    · rcases lk_mem r t with h | h
      · exact .inl h
      · exact .inr (by simp [h])

theorem RelH.le_ {s' : VS} (h : RelH n base w0 hd s a w) (hle : Le s s') : RelH n base w0 hd s' a w := by
  have hok : ∀ b, okOf s.mem hd b → okOf s'.mem hd b := fun b hb k ob' hk => by
    obtain ⟨ob, h1, _⟩ := hle.mem k ob' hk
    exact hb k ob h1
  refine ⟨h.defers, h.size, h.below, h.le, hle.fix.2, by rw [hle.fix.1]; exact h.fix, fun b mp hb => h.mp b mp (hle.maps (b, mp) (lkm_mem hb)), fun t => ?_, ⟨fun k ob' hk => (by obtain ⟨ob, h1, _⟩ := hle.mem k ob' hk; exact h.me.alw k ob h1), fun k ob' hk => ?_, fun k hk => h.me.hds k (by have := hle.len; omega), fun k k' ob ob' hk hk' hne => ?_⟩⟩
  · rcases lk_mem s'.tmps t with e | e
    · rw [e]; exact .undef _
    · obtain ⟨h1, h2⟩ := hle.tmps _ e
      simp only at h1
      have := h.tm t
      rw [h1] at this
      exact this.bd h2 hok
  · obtain ⟨ob, h1, e1, e2, e3, h2⟩ := hle.mem k ob' hk
    obtain ⟨hs, vals, ho, hr⟩ := h.me.obs k ob h1
    rw [e2] at hs
    refine ⟨hs, vals, by rw [← e1, ← e2, ← e3]; exact ho, fun i hi => ?_⟩
    obtain ⟨g1, g2⟩ := hr i (by omega)
    obtain ⟨f1, f2⟩ := h2 i hi
    rw [f1] at g1 g2
    rw [e2] at g1 g2
    refine ⟨g1, fun j av hj => ?_⟩
    obtain ⟨u, q1, q2, q3⟩ := g2 j av hj
    exact ⟨u, q1, q2, q3.bd (f2 av (List.mem_of_getElem? hj)) hok⟩
  · obtain ⟨o1, g1, _⟩ := hle.mem k ob hk
    obtain ⟨o2, g2, _⟩ := hle.mem k' ob' hk'
    exact h.me.apart k k' o1 o2 g1 g2 hne

def ObRn (f : Nat → Nat) (m : Nat) (ob ob' : Ob) : Prop := ob.ty = ob'.ty ∧ ob.sz = ob'.sz ∧ ob.n = ob'.n ∧ ∀ i, i < ob'.n → ob.f i = ob'.f i ∧ ∀ c, c ∈ ob'.f i → Closed c
structure LeR (f : Nat → Nat) (s s' : VS) : Prop where
  fix : s'.fix = s.fix ∧ s'.fix ≤ s'.mem.length ∧ ∀ k, k < s.fix → f k = k
  maps : ∀ p, p ∈ s'.maps → lkm s.maps p.1 = some p.2
  tmps : ∀ p, p ∈ s'.tmps → Rn f s'.mem.length (lk s.tmps p.1) p.2
  lt : ∀ k, k < s'.mem.length → f k < s.mem.length
  inj : ∀ k k', k < s'.mem.length → k' < s'.mem.length → f k = f k' → k = k'
  mem : ∀ (k : Nat) (ob' : Ob), s'.mem[k]? = some (some ob') → ∃ ob, s.mem[f k]? = some (some ob) ∧ ObRn f s'.mem.length ob ob'
theorem RelH.leR {f : Nat → Nat} {s' : VS} (h : RelH n base w0 hd s a w) (hle : LeR f s s') : RelH n base w0 (fun k => hd (f k)) s' a w := by
  have hok : ∀ b, okOf s.mem hd b → okOf s'.mem (fun k => hd (f k)) b := fun b hb k ob' hk => by
    obtain ⟨ob, h1, _⟩ := hle.mem k ob' hk
    exact hb (f k) ob h1
  have hkl : ∀ (k : Nat) (ob : Ob), s'.mem[k]? = some (some ob) → k < s'.mem.length := fun k ob hk => (List.getElem?_eq_some_iff.1 hk).1
  refine ⟨h.defers, h.size, h.below, h.le, hle.fix.2.1, fun k hk => by rw [hle.fix.1] at hk; rw [hle.fix.2.2 k hk]; exact h.fix k hk, fun b mp hb => h.mp b mp (hle.maps (b, mp) (lkm_mem hb)), fun t => ?_, ⟨fun k ob' hk => (by obtain ⟨ob, h1, _⟩ := hle.mem k ob' hk; exact h.me.alw (f k) ob h1), fun k ob' hk => ?_, fun k hk => h.me.hds (f k) (hle.lt k hk), fun k k' ob ob' hk hk' hne => ?_⟩⟩
  · rcases lk_mem s'.tmps t with e | e
    · rw [e]; exact .undef _
    · exact (h.tm t).rn (hle.tmps _ e) hok
  · obtain ⟨ob, h1, e1, e2, e3, h2⟩ := hle.mem k ob' hk
    obtain ⟨hs, vals, ho, hr⟩ := h.me.obs (f k) ob h1
    rw [e2] at hs
    refine ⟨hs, vals, by rw [← e1, ← e2, ← e3]; exact ho, fun i hi => ?_⟩
    obtain ⟨g1, g2⟩ := hr i (by omega)
    obtain ⟨f1, f2⟩ := h2 i hi
    rw [f1] at g1 g2
    rw [e2] at g1 g2
    refine ⟨g1, fun j av hj => ?_⟩
    obtain ⟨u, q1, q2, q3⟩ := g2 j av hj
    exact ⟨u, q1, q2, q3.rn (.closed _ (f2 av (List.mem_of_getElem? hj))) hok⟩
  · obtain ⟨o1, g1, _⟩ := hle.mem k ob hk
    obtain ⟨o2, g2, _⟩ := hle.mem k' ob' hk'
    exact h.me.apart (f k) (f k') o1 o2 g1 g2 (fun e => hne (hle.inj k k' (hkl _ _ hk) (hkl _ _ hk') e))
/-- what may be said instead of a state -/
def Ent (s s' : VS) : Prop := ∀ (n : Nat) (base : Fr) (w0 : World) (hd : Nat → Value) (a : Act) (w : World), RelH n base w0 hd s a w → ∃ hd', RelH n base w0 hd' s' a w
theorem Ent.refl (s : VS) : Ent s s := fun _ _ _ hd _ _ h => ⟨hd, h⟩
theorem Ent.trans {s s' s'' : VS} (h : Ent s s') (h' : Ent s' s'') : Ent s s'' := fun n base w0 hd a w hr => by
  obtain ⟨hd1, h1⟩ := h n base w0 hd a w hr
  exact h' n base w0 hd1 a w h1
theorem Ent.of_le {s s' : VS} (h : Le s s') : Ent s s' := fun n base w0 hd a w hr => ⟨hd, hr.le_ h⟩
theorem Ent.of_leR {f : Nat → Nat} {s s' : VS} (h : LeR f s s') : Ent s s' := fun n base w0 hd a w hr => ⟨_, hr.leR h⟩
inductive LeK where
  | le
  | ren (f : Nat → Nat)
  | ent
def LeX : LeK → VS → VS → Prop
  | .le, s, s' => Le s s'
  | .ren f, s, s' => LeR f s s'
  | .ent, s, s' => Ent s s'
theorem RelH.leX {o : LeK} {s' : VS} (h : RelH n base w0 hd s a w) (hle : LeX o s s') : ∃ hd', RelH n base w0 hd' s' a w := by
  cases o with
  | le => exact ⟨_, h.le_ hle⟩
  | ren f => exact ⟨_, h.leR hle⟩
  | ent => exact hle _ _ _ _ _ _ h
/-- under other numbers, own objects inside own objects too -/
structure LeS (f : Nat → Nat) (s s' : VS) : Prop where
  fix : s'.fix = s.fix ∧ s'.fix ≤ s'.mem.length ∧ ∀ k, k < s.fix → f k = k
  maps : ∀ p, p ∈ s'.maps → lkm s.maps p.1 = some p.2
  tmps : ∀ p, p ∈ s'.tmps → Rn f s'.mem.length (lk s.tmps p.1) p.2
  lt : ∀ k, k < s'.mem.length → f k < s.mem.length
  inj : ∀ k k', k < s'.mem.length → k' < s'.mem.length → f k = f k' → k = k'
  mem : ∀ (k : Nat) (ob' : Ob), s'.mem[k]? = some (some ob') → ∃ ob, s.mem[f k]? = some (some ob) ∧ (ObRn f s'.mem.length ob ob' ∨ ShOb f s'.mem.length ob ob')
theorem RelH.leS {f : Nat → Nat} {s' : VS} (h : RelH n base w0 hd s a w) (hle : LeS f s s') : RelH n base w0 (fun k => hd (f k)) s' a w := by
  have hok : ∀ b, okOf s.mem hd b → okOf s'.mem (fun k => hd (f k)) b := fun b hb k ob' hk => by
    obtain ⟨ob, h1, _⟩ := hle.mem k ob' hk
    exact hb (f k) ob h1
  have hkl : ∀ (k : Nat) (ob : Ob), s'.mem[k]? = some (some ob) → k < s'.mem.length := fun k ob hk => (List.getElem?_eq_some_iff.1 hk).1
  refine ⟨h.defers, h.size, h.below, h.le, hle.fix.2.1, fun k hk => by rw [hle.fix.1] at hk; rw [hle.fix.2.2 k hk]; exact h.fix k hk, fun b mp hb => h.mp b mp (hle.maps (b, mp) (lkm_mem hb)), fun t => ?_, ⟨fun k ob' hk => (by obtain ⟨ob, h1, _⟩ := hle.mem k ob' hk; exact h.me.alw (f k) ob h1), fun k ob' hk => ?_, fun k hk => h.me.hds (f k) (hle.lt k hk), fun k k' ob ob' hk hk' hne => ?_⟩⟩
  · rcases lk_mem s'.tmps t with e | e
    · rw [e]; exact .undef _
    · exact (h.tm t).rn (hle.tmps _ e) hok
  · obtain ⟨ob, h1, h2⟩ := hle.mem k ob' hk
    obtain ⟨hs, vals, ho, hr⟩ := h.me.obs (f k) ob h1
    rcases h2 with ⟨e1, e2, e3, h2⟩ | ⟨e1, e2, e3, h2⟩
    · rw [e2] at hs
      refine ⟨hs, vals, by rw [← e1, ← e2, ← e3]; exact ho, fun i hi => ?_⟩
      obtain ⟨g1, g2⟩ := hr i (by omega)
      obtain ⟨f1, f2⟩ := h2 i hi
      rw [f1] at g1 g2
      rw [e2] at g1 g2
      refine ⟨g1, fun j av hj => ?_⟩
      obtain ⟨u, q1, q2, q3⟩ := g2 j av hj
      exact ⟨u, q1, q2, q3.rn (.closed _ (f2 av (List.mem_of_getElem? hj))) hok⟩
    · rw [e2] at hs
      refine ⟨hs, vals, by rw [← e1, ← e2, ← e3]; exact ho, fun i hi => ?_⟩
      obtain ⟨g1, g2⟩ := hr i (by omega)
      obtain ⟨f1, f2⟩ := cellsRn_get (h2 i hi)
      refine ⟨by omega, fun j av hj => ?_⟩
      have hjl : j < (ob.f i).length := by have := (List.getElem?_eq_some_iff.1 hj).1; omega
      obtain ⟨u, q1, q2, q3⟩ := g2 j _ (List.getElem?_eq_getElem hjl)
      exact ⟨u, by rw [← e2]; exact q1, q2, q3.rn (f2 j _ av (List.getElem?_eq_getElem hjl) hj) hok⟩
  · obtain ⟨o1, g1, _⟩ := hle.mem k ob hk
    obtain ⟨o2, g2, _⟩ := hle.mem k' ob' hk'
    exact h.me.apart (f k) (f k') o1 o2 g1 g2 (fun e => hne (hle.inj k k' (hkl _ _ hk) (hkl _ _ hk') e))
theorem Ent.of_leS {f : Nat → Nat} {s s' : VS} (h : LeS f s s') : Ent s s' := fun n base w0 hd a w hr => ⟨_, hr.leS h⟩
/-- a nil slice in an own object's cell is a row of no elements -/
theorem Ent.adopt {s : VS} {j : Nat} {ob : Ob} (hj : s.mem[j]? = some (some ob)) (hn : ob.n = 1) {c : Nat} (hc : (ob.f 0)[c]? = some (.lit (.slice none 0 0))) (ty sz : Nat) (hsz : 0 < sz) (g : Nat → List AV) :
    Ent s { s with mem := s.mem.set j (some { ob with f := fun _ => (ob.f 0).set c (.own s.mem.length) }) ++ [some ⟨ty, sz, 0, g⟩] } := by
  intro n base w0 hd a w h
  obtain ⟨HD, hHD⟩ : ∃ HD : Nat → Value, HD = fun k => if k = s.mem.length then .slice none 0 0 else hd k := ⟨_, rfl⟩
  have hlow : ∀ k, k < s.mem.length → HD k = hd k := fun k hk => by rw [hHD]; exact if_neg (by omega)
  have hnew : HD s.mem.length = .slice none 0 0 := by rw [hHD]; exact if_pos rfl
  have hjl : j < s.mem.length := (List.getElem?_eq_some_iff.1 hj).1
  obtain ⟨mem', hmem'⟩ : ∃ mem', mem' = s.mem.set j (some { ob with f := fun _ => (ob.f 0).set c (.own s.mem.length) }) ++ [some (⟨ty, sz, 0, g⟩ : Ob)] := ⟨_, rfl⟩
  rw [← hmem']
  have hlen' : mem'.length = s.mem.length + 1 := by rw [hmem']; simp
  have live : ∀ k o', mem'[k]? = some (some o') → (k = s.mem.length ∧ o' = ⟨ty, sz, 0, g⟩) ∨ (k < s.mem.length ∧ k ≠ j ∧ s.mem[k]? = some (some o')) ∨ (k = j ∧ o' = { ob with f := fun _ => (ob.f 0).set c (.own s.mem.length) }) := by
    intro k o' hk
    rw [hmem', List.getElem?_append] at hk
    simp only [List.length_set] at hk
    split at hk
    · rename_i hkl
      by_cases e : j = k
      · subst e
        rw [List.getElem?_set_self hjl] at hk
        simp only [Option.some.injEq] at hk
        exact .inr (.inr ⟨rfl, hk.symm⟩)
      · rw [List.getElem?_set_ne e] at hk
        exact .inr (.inl ⟨hkl, fun e2 => e e2.symm, hk⟩)
    · rename_i hkl
      have : k = s.mem.length := by
        have := (List.getElem?_eq_some_iff.1 hk).1
        simp at this; omega
      subst this
      simp at hk
      exact .inl ⟨rfl, hk.symm⟩
  have old : ∀ k o', mem'[k]? = some (some o') → k < s.mem.length → ∃ o, s.mem[k]? = some (some o) := by
    intro k o' hk hkl
    rcases live k o' hk with ⟨e, _⟩ | ⟨_, _, h2⟩ | ⟨rfl, _⟩
    · omega
    · exact ⟨o', h2⟩
    · exact ⟨ob, hj⟩
  have hok : ∀ ad u, okOf s.mem hd ad.block → w.cell? ad = some u → w.cell? ad = some u ∧ okOf mem' HD ad.block := by
    intro ad u ho hcl
    refine ⟨hcl, fun k o' hk e => ?_⟩
    by_cases hkl : k < s.mem.length
    · obtain ⟨o, h1⟩ := old k o' hk hkl
      rw [hlow k hkl] at e
      exact ho k o h1 e
    · have : k = s.mem.length := by have := (List.getElem?_eq_some_iff.1 hk).1; omega
      subst this
      rw [hnew] at e; simp [Value.ownBlock] at e
  have hle : s.mem.length ≤ mem'.length := by omega
  have ltOf : ∀ k o', mem'[k]? = some (some o') → k < s.mem.length + 1 := fun k o' hk => by rw [← hlen']; exact (List.getElem?_eq_some_iff.1 hk).1
  refine ⟨HD, h.defers, h.size, h.below, h.le, Nat.le_trans h.fixl hle, fun k hk => ?_, h.mp, fun t => (h.tm t).mono hok hlow hle, ⟨fun k o' hk b hb => ?_, fun k o' hk => ?_, fun k hk => ?_, fun k k' o o' hk hk' hne => ?_⟩⟩
  · have hk' : k < s.fix := hk
    have := h.fixl
    rw [hlow k (by omega)]; exact h.fix k hk'
  · by_cases hkl : k < s.mem.length
    · obtain ⟨o, h1⟩ := old k o' hk hkl
      rw [hlow k hkl] at hb
      exact h.me.alw k o h1 b hb
    · have : k = s.mem.length := by have := ltOf k o' hk; omega
      subst this
      rw [hnew] at hb; simp [Value.ownBlock] at hb
  · rcases live k o' hk with ⟨rfl, rfl⟩ | ⟨hkl, _, h2⟩ | ⟨rfl, rfl⟩
    · rw [hnew]
      exact ⟨hsz, [], ⟨by simp, .inl ⟨rfl, rfl⟩⟩, fun i hi => by simp at hi⟩
    · obtain ⟨hs, vals, ho, hr⟩ := h.me.obs k o' h2
      rw [hlow k hkl]
      refine ⟨hs, vals, ho, fun i hi => ⟨(hr i hi).1, fun q av hq => ?_⟩⟩
      obtain ⟨u, g1, g2, g3⟩ := (hr i hi).2 q av hq
      exact ⟨u, g1, g2, g3.mono hok hlow hle⟩
    · obtain ⟨hs, vals, ho, hr⟩ := h.me.obs k ob hj
      rw [hlow k hjl]
      refine ⟨hs, vals, ho, fun i hi => ?_⟩
      have hi0 : i = 0 := by have hi' : i < ob.n := hi; omega
      subst hi0
      obtain ⟨q1, q2⟩ := hr 0 hi
      refine ⟨by simpa using q1, fun q av hq => ?_⟩
      simp only at hq
      by_cases e : c = q
      · subst e
        have hcl : c < (ob.f 0).length := (List.getElem?_eq_some_iff.1 hc).1
        rw [List.getElem?_set_self hcl] at hq
        simp only [Option.some.injEq] at hq
        subst hq
        obtain ⟨u, g1, g2, g3⟩ := q2 c _ hc
        cases g3
        refine ⟨_, g1, g2, ?_⟩
        rw [← hnew]
        exact .own _ (by show s.mem.length < mem'.length; omega)
      · rw [List.getElem?_set_ne e] at hq
        obtain ⟨u, g1, g2, g3⟩ := q2 q av hq
        exact ⟨u, g1, g2, g3.mono hok hlow hle⟩
  · by_cases hkl : k < s.mem.length
    · rw [hlow k hkl]; exact h.me.hds k hkl
    · have : k = s.mem.length := by have hk' : k < mem'.length := hk; omega
      subst this
      exact ⟨none, 0, 0, hnew⟩
  · by_cases e1 : k = s.mem.length
    · subst e1; rw [hnew]; exact .inl rfl
    · by_cases e2 : k' = s.mem.length
      · subst e2
        rw [hnew]
        cases hq : (HD k).ownBlock with
        | none => exact .inl rfl
        | some b => exact .inr (by simp [Value.ownBlock])
      · have l1 : k < s.mem.length := by have := ltOf k o hk; omega
        have l2 : k' < s.mem.length := by have := ltOf k' o' hk'; omega
        obtain ⟨o1, h1⟩ := old k o hk l1
        obtain ⟨o2, h2⟩ := old k' o' hk' l2
        rw [hlow k l1, hlow k' l2]
        exact h.me.apart k k' o1 o2 h1 h2 hne
end
end Go.Proofs.Ytnjnkhmcdkjekaa.V
