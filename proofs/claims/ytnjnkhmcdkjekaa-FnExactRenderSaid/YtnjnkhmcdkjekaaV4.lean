/- The value machine, part 4: the model does what 'vop' says. -/
import Derived.Test.YtnjnkhmcdkjekaaV3
namespace Go.Proofs.Ytnjnkhmcdkjekaa.V
open Go.RowKit
set_option linter.unusedVariables false
set_option linter.unusedSimpArgs false
section
variable {P : Program} {n : Nat} {base : Fr} {w0 w : World} {hd : Nat → Value} {s : VS} {a : Act} {k : AV → VS → Prop}

theorem Ends.of_eq {res res' : Result Next} (h : Ends P n base w0 a res k) (e : res' = res) : Ends P n base w0 a res' k := e ▸ h

theorem run_v {x : Sem Value} {v : Value} {w w' : World} (h : x.run P w = .ok v w') : (do pure (Next.value (← x)) : Sem Next).run P w = .ok (.value v) w' := by
  simp only [Sem.run_bind, h, Result.andThen_ok]; rfl
theorem run_u {x : Sem Unit} {w w' : World} (h : x.run P w = .ok () w') : (do x; pure Next.skip : Sem Next).run P w = .ok .skip w' := by
  simp only [Sem.run_bind, h, Result.andThen_ok]; rfl

theorem toVal_lit {av : AV} {v : Value} (h : av = .lit v) : toVal av = some v := by rw [h]; rfl

theorem load_sound (h : RelH n base w0 hd s a w) {T : TypeId} {x : Operand} (hv : vop P (.load T x) s k) : ∃ v av, (Instr.loadAt T (a.eval x)).run P w = .ok v w ∧ Rep w (okOf s.mem hd) hd s.mem.length av v ∧ k av s := by
  simp only [vop] at hv
  have hx := h.ev_ x
  generalize ev s x = ax at *
  cases ax with
  | ptr j sz i c =>
    simp only at hv
    cases hx' : a.eval x with
    | pointer ad =>
      rw [hx'] at hx
      cases hx with
      | ptr _ _ _ _ b n' c' hk hb =>
        split at hv
        · rename_i ob hob
          obtain ⟨rfl, hi, hrd⟩ := hv
          obtain ⟨v, av, h1, h2, h3⟩ := load_of (w := w) hrd ⟨b, i * ob.sz, none⟩ (h.cells_ hob hb hi)
          refine ⟨v, av, ?_, h2, h3⟩
          unfold Instr.loadAt Instr.sureAddr
          simp only [Sem.run_bind, Sem.run_pure, Result.andThen_ok]
          have e : (⟨b, i * ob.sz, none⟩ : Addr).add c = ⟨b, i * ob.sz + c, none⟩ := by
            unfold Addr.add; split
            · rename_i h0; simp [h0]
            · rfl
          rw [← e]; exact h1
        · exact hv.elim
    | _ => rw [hx'] at hx; cases hx
  | bptr cs =>
    simp only at hv
    cases hx' : a.eval x with
    | pointer ad =>
      rw [hx'] at hx
      cases hx with
      | bptr _ ad u hne hok hc hr =>
        obtain ⟨v, av, h1, h2, h3⟩ := load_of (w := w) hv ad (fun j av hj => ⟨u j, hc j (List.getElem?_eq_some_iff.1 hj).1, hr j av hj⟩)
        refine ⟨v, av, ?_, h2, h3⟩
        unfold Instr.loadAt Instr.sureAddr
        simp only [Sem.run_bind, Sem.run_pure, Result.andThen_ok]
        have e : ad.add 0 = ad := by simp [Addr.add]
        rw [e] at h1; exact h1
    | _ => rw [hx'] at hx; cases hx
  | _ => exact hv.elim

theorem box_sound (h : RelH n base w0 hd s a w) {T : TypeId} {x : Operand} {o : Oper} (ho : o.op = .box T x) (hv : vop P (.box T x) s k) : Ends P n base w0 a ((execOp a.eval o).run P w) k := by
  simp only [vop] at hv
  split at hv
  · rename_i sz hsz
    obtain ⟨h0, hl, h1, hk⟩ := hv
    have hx := h.ev_ x
    obtain ⟨g1, g2⟩ := hx.cells_ (.inl (by intro e; rw [e] at hl; simp at hl; omega)) h.me.hds
    have hnew := h.new (T := T) (sz := sz) (cnt := 1) (vals := (a.eval x).cells.toList) (f := fun _ => avCells (ev s x)) h0 (by simp [g1, hl]) (by omega) (fun i hi => ⟨hl, fun j av hj => by
      obtain ⟨u, e1, e2⟩ := g2 j av hj
      have hi0 : i = 0 := by omega
      subst hi0
      exact ⟨u, by simpa using e1, e2.one_ (List.all_eq_true.1 h1 av (List.mem_of_getElem? hj)) h.me.hds, e2⟩⟩)
    refine ⟨.pointer (some ⟨w.heap.size, 0, none⟩), _, .inl ?_, _, _, _, hnew, ?_, hk⟩
    · unfold execOp; simp only [ho]
      refine run_v ?_
      rw [show (a.eval x).cells.toList.toArray = (a.eval x).cells by simp]
      rfl
    · have := Rep.ptr (w := w.alloc (.cells (a.eval x).cells.toList.toArray T)) (ok := okOf (s.mem ++ [some ⟨T, sz, 1, fun _ => avCells (ev s x)⟩]) (fun j => if j = s.mem.length then .slice (some ⟨w.heap.size, 0, none⟩) 1 1 else hd j)) (hd := fun j => if j = s.mem.length then .slice (some ⟨w.heap.size, 0, none⟩) 1 1 else hd j) (m := (s.mem ++ [some (⟨T, sz, 1, fun _ => avCells (ev s x)⟩ : Ob)]).length) s.mem.length sz 0 0 w.heap.size 1 1 (by simp) (by simp)
      simpa using this
  · exact hv.elim

theorem store_sound (h : RelH n base w0 hd s a w) {T : TypeId} {p x : Operand} {o : Oper} (ho : o.op = .store T p x) (hv : vop P (.store T p x) s k) : Ends P n base w0 a ((execOp a.eval o).run P w) k := by
  simp only [vop] at hv
  have hp := h.ev_ p
  split at hv
  · rename_i j sz i c sn ep hsz
    split at hv
    · rename_i ob hob
      obtain ⟨rfl, hi, hl, h0, hc, h1, hk⟩ := hv
      have hx := h.ev_ x
      obtain ⟨g1, g2⟩ := hx.cells_ (.inl (by intro e; rw [e] at hl; simp at hl; omega)) h.me.hds
      rw [ep] at hp
      cases hp' : a.eval p with
      | pointer ad =>
        rw [hp'] at hp
        cases hp with
        | ptr _ _ _ _ b n' c' hkm hb =>
          obtain ⟨w', e1, e2⟩ := h.store (P := P) hob hb (i := i) (c := c) (cells := avCells (ev s x)) hi (by omega) (vs := (a.eval x).cells.toList) (by simp [g1]) (fun j av hj => by
            obtain ⟨u, q1, q2⟩ := g2 j av hj
            exact ⟨u, by simpa using q1, q2⟩) (fun u hu => by
            obtain ⟨j, hj⟩ := List.getElem?_of_mem hu
            have hjl : j < (avCells (ev s x)).length := by
              rw [← g1]; simpa using (List.getElem?_eq_some_iff.1 hj).1
            obtain ⟨u', q1, q2⟩ := g2 j _ (List.getElem?_eq_getElem hjl)
            have : u' = u := by
              have : (a.eval x).cells.toList[j]? = some u' := by simpa using q1
              rw [hj] at this; exact (Option.some.inj this).symm
            subst this
            exact q2.one_ (List.all_eq_true.1 h1 _ (List.getElem_mem hjl)) h.me.hds)
          refine ⟨undef, w', .inr ⟨?_, rfl⟩, hd, _, .undef, e2, .undef _, hk⟩
          unfold execOp; simp only [ho, hp']
          refine run_u ?_
          unfold Instr.storeAt Instr.sureAddr storeVar
          simp only [Sem.run_bind, Sem.run_pure, Result.andThen_ok, tsz_run hsz]
          rw [if_neg (by rw [g1, hl]; simp)]
          exact e1
      | _ => rw [hp'] at hp; cases hp
    · exact hv.elim
  · exact hv.elim

theorem fieldAddr_sound (h : RelH n base w0 hd s a w) {T : TypeId} {x : Operand} {f : Nat} {o : Oper} (ho : o.op = .fieldAddr T x f) (hv : vop P (.fieldAddr T x f) s k) : Ends P n base w0 a ((execOp a.eval o).run P w) k := by
  simp only [vop] at hv
  split at hv
  · rename_i ft off hf
    obtain ⟨⟨m, hm, hm0⟩, hv⟩ := hv
    have hx := h.ev_ x
    split at hv
    · rename_i j sz i c e
      rw [e] at hx
      cases hx' : a.eval x with
      | pointer ad =>
        rw [hx'] at hx
        cases hx with
        | ptr _ _ _ _ b n' c' hk hb =>
          refine Ends.same h (.ptr j sz i (c + off) b n' c' hk hb) hv ?_
          unfold execOp; simp only [ho, hx']
          refine run_v ((fieldAt_run hf hm hm0 _ _).trans ?_)
          congr 3
          unfold Addr.add; split
          · rename_i h0; subst h0; simp
          · simp [Nat.add_assoc]
      | _ => rw [hx'] at hx; cases hx
    · rename_i cs e
      rw [e] at hx
      cases hx' : a.eval x with
      | pointer ad =>
        rw [hx'] at hx
        cases hx with
        | bptr _ ad u hne hok hc hr =>
          have add2 : ∀ j, (ad.add off).add j = ad.add (off + j) := by
            intro j
            unfold Addr.add
            by_cases h1 : off = 0 <;> by_cases h2 : j = 0 <;> simp [h1, h2]; omega
          have hblk : (ad.add off).block = ad.block := by unfold Addr.add; split <;> rfl
          refine Ends.same h (.bptr (cs.drop off) (ad.add off) (fun j => u (off + j)) (by intro e2; rw [List.drop_eq_nil_iff] at e2; omega) (by rw [hblk]; exact hok) (fun j hj => by rw [add2]; exact hc _ (by simp at hj; omega)) (fun j av hj => hr _ av (by rw [List.getElem?_drop] at hj; exact hj))) hv.2 ?_
          unfold execOp; simp only [ho, hx']
          exact run_v (fieldAt_run hf hm hm0 _ _)
      | _ => rw [hx'] at hx; cases hx
    · exact hv.elim
  · exact hv.elim

theorem field_sound (h : RelH n base w0 hd s a w) {T : TypeId} {x : Operand} {f : Nat} {o : Oper} (ho : o.op = .field T x f) (hv : vop P (.field T x f) s k) : Ends P n base w0 a ((execOp a.eval o).run P w) k := by
  simp only [vop] at hv
  split at hv
  · rename_i ft off cs hf e
    have hx := h.ev_ x
    rw [e] at hx
    cases hx' : a.eval x with
    | agg arr =>
      rw [hx'] at hx
      cases hx with
      | agg _ vs hl hr =>
        obtain ⟨fs, fl, h1, h2, rfl, rfl⟩ := fieldOff_run hf
        unfold rd at hv
        split at hv
        · rename_i ht
          obtain ⟨hlt, hk⟩ := hv
          refine Ends.same h (v := vs[fl.offset]'(by omega)) (av := cs.getD fl.offset .undef) ?_ hk ?_
          · rw [List.getD_eq_getElem?_getD, List.getElem?_eq_getElem hlt]
            exact hr fl.offset _ _ (List.getElem?_eq_getElem hlt) (List.getElem?_eq_getElem (by omega))
          · unfold execOp; simp only [ho, hx']
            refine run_v ?_
            unfold Instr.field part
            simp only [Sem.run_bind, und_run h1, Result.andThen_ok, h2, asAgg, Sem.run_pure, tagg_run ht, Bool.false_eq_true, if_false]
            simp [show fl.offset < vs.length by omega]
        · rename_i m ht hm
          obtain ⟨hlt, hk⟩ := hv
          refine Ends.same h (v := .agg ((vs.drop fl.offset).take m).toArray) ?_ hk ?_
          · refine .agg _ _ (by simp; omega) fun j av u h3 h4 => ?_
            rw [List.getElem?_take] at h3 h4
            split at h3
            · rename_i hj
              rw [if_pos hj] at h4
              rw [List.getElem?_drop] at h3 h4
              exact hr _ av u h3 h4
            · simp at h3
          · unfold execOp; simp only [ho, hx']
            refine run_v ?_
            unfold Instr.field part
            simp only [Sem.run_bind, und_run h1, Result.andThen_ok, h2, asAgg, Sem.run_pure, tagg_run ht, if_true, tsz_run hm]
            congr 2
            apply Array.ext'
            simp [List.extract_eq_take_drop]
        · exact hv.elim
    | _ => rw [hx'] at hx; cases hx
  · exact hv.elim
end
end Go.Proofs.Ytnjnkhmcdkjekaa.V
