/- The value machine, part Q: the operations that leave the state alone yield ONE value at every later world. -/
import Derived.Test.YtnjnkhmcdkjekaaVM
namespace Go.Proofs.Ytnjnkhmcdkjekaa.V
open Go.RowKit
open Go.Maps (Keyed)
set_option linter.unusedVariables false
set_option linter.unusedSimpArgs false
theorem load_of_q {P : Program} {w : World} {G : World → Prop} {ok : Nat → Prop} {hd : Nat → Value} {m : Nat} {T : TypeId} {cs : List AV} {c : Nat} {k : AV → Prop} (h : rd P T cs c k) (ad : Addr)
    (hc : ∀ (j : Nat) a, cs[j]? = some a → ∃ u, (∀ w', G w' → w'.cell? (ad.add j) = some u) ∧ Rep w ok hd m a u) : ∃ v av, (∀ w', G w' → (loadVar T (ad.add c)).run P w' = .ok v w') ∧ Rep w ok hd m av v ∧ k av := by
  unfold rd at h
  have add2 : ∀ j, (ad.add c).add j = ad.add (c + j) := by
    intro j
    unfold Addr.add
    by_cases h1 : c = 0 <;> by_cases h2 : j = 0 <;> simp [h1, h2]; omega
  split at h
  · rename_i h1
    obtain ⟨hl, hk⟩ := h
    obtain ⟨u, hu, hr⟩ := hc c cs[c] (by simp [hl])
    refine ⟨u, _, ?_, ?_, hk⟩
    · intro w' hw
      unfold loadVar
      simp only [Sem.run_bind, tagg_run h1, Result.andThen_ok, Bool.false_eq_true, if_false]
      simp [load, Sem.run, hu w' hw]
    · rw [List.getD_eq_getElem?_getD, List.getElem?_eq_getElem hl]; exact hr
  · rename_i n h1 h2
    obtain ⟨hl, hk⟩ := h
    have hf : ∀ j : Nat, ∃ u, j < n → (∀ w', G w' → w'.cell? ((ad.add c).add j) = some u) ∧ ∀ a, cs[c + j]? = some a → Rep w ok hd m a u := by
      intro j
      by_cases hj : j < n
      · obtain ⟨u, hu, hr⟩ := hc (c + j) (cs[c + j]'(by omega)) (by simp [show c + j < cs.length by omega])
        refine ⟨u, fun _ => ⟨fun w' hw => by rw [add2]; exact hu w' hw, fun a ha => ?_⟩⟩
        rw [List.getElem?_eq_getElem (by omega)] at ha
        simp only [Option.some.injEq] at ha
        subst ha; exact hr
      · exact ⟨undef, fun h => absurd h hj⟩
    obtain ⟨g, hg⟩ : ∃ g : Nat → Value, ∀ j, j < n → (∀ w', G w' → w'.cell? ((ad.add c).add j) = some (g j)) ∧ ∀ a, cs[c + j]? = some a → Rep w ok hd m a (g j) := ⟨fun j => (hf j).choose, fun j => (hf j).choose_spec⟩
    refine ⟨.agg ((List.range n).map g).toArray, _, ?_, ?_, hk⟩
    · intro w' hw
      unfold loadVar
      simp only [Sem.run_bind, tagg_run h1, Result.andThen_ok, if_true, tsz_run h2]
      rw [run_loadCells (P := P) w' (ad.add c) n g (fun j hj => (hg j hj).1 w' hw)]
      simp [Sem.run, pure]
    · refine .agg _ _ (by simp; omega) fun j a u h3 h4 => ?_
      simp only [List.getElem?_map, Option.map_eq_some_iff] at h4
      obtain ⟨j', h5, rfl⟩ := h4
      have : j' = j ∧ j < n := by
        by_cases hj : j < n
        · rw [List.getElem?_range hj] at h5
          simp only [Option.some.injEq] at h5
          omega
        · rw [List.getElem?_eq_none (by simpa using hj)] at h5; simp at h5
      obtain ⟨rfl, hj⟩ := this
      refine (hg j' hj).2 a ?_
      rw [List.getElem?_take] at h3
      rw [if_pos hj, List.getElem?_drop] at h3
      exact h3
  · exact h.elim
section
variable {P : Program} {n : Nat} {base : Fr} {w0 w : World} {hd : Nat → Value} {s : VS} {a : Act} {k : AV → VS → Prop}
def QEnds (P : Program) (w : World) (hd : Nat → Value) (s : VS) (a : Act) (o : Oper) (k : AV → VS → Prop) : Prop :=
  ∃ v av, (∀ w', w.grownBy w' none → (execOp a.eval o).run P w' = .ok (.value v) w') ∧ Rep w (okOf s.mem hd) hd s.mem.length av v ∧ k av s
theorem QEnds.same {o : Oper} {v : Value} {av : AV} (hv : Rep w (okOf s.mem hd) hd s.mem.length av v) (hk : k av s) (hr : ∀ w', w.grownBy w' none → (execOp a.eval o).run P w' = .ok (.value v) w') : QEnds P w hd s a o k := ⟨v, av, hr, hv, hk⟩
def quietOp : Op → Bool
  | .box .. | .store .. => false
  | _ => true
theorem same_q {w' : World} (hg : w.grownBy w' none) {ad : Addr} {u : Value} (hc : w.cell? ad = some u) : w'.cell? ad = some u :=
  cell_same (hg.block _ (World.block_lt_of_cell? w _ hc) (by simp)) hc
theorem cells_q (h : RelH n base w0 hd s a w) {j b n' c' : Nat} {ob : Ob} (hob : s.mem[j]? = some (some ob)) (hb : hd j = .slice (some ⟨b, 0, none⟩) n' c') {i : Nat} (hi : i < ob.n) :
    ∀ (c : Nat) av, (ob.f i)[c]? = some av → ∃ u, (∀ w', w.grownBy w' none → w'.cell? ((⟨b, i * ob.sz, none⟩ : Addr).add c) = some u) ∧ Rep w (okOf s.mem hd) hd s.mem.length av u := fun c av hc => by
  obtain ⟨u, h1, h2⟩ := h.cells_ hob hb hi c av hc
  exact ⟨u, fun w' hg => same_q hg h1, h2⟩
theorem load_sound_q (h : RelH n base w0 hd s a w) {T : TypeId} {x : Operand} (hv : vop P (.load T x) s k) : ∃ v av, (∀ w', w.grownBy w' none → (Instr.loadAt T (a.eval x)).run P w' = .ok v w') ∧ Rep w (okOf s.mem hd) hd s.mem.length av v ∧ k av s := by
  simp only [vop] at hv
  have hx := h.ev_ x
  generalize ev s x = ax at *
  cases ax with
  | ptr j sz i c =>
    simp only at hv
    cases hx' : a.eval x with
    | pointer ad =>
      rw [hx'] at hx
      cases hx with
      | ptr _ _ _ _ b n' c' hk hb =>
        split at hv
        · rename_i ob hob
          obtain ⟨rfl, hi, hrd⟩ := hv
          obtain ⟨v, av, h1, h2, h3⟩ := load_of_q (w := w) (G := fun w' => w.grownBy w' none) hrd ⟨b, i * ob.sz, none⟩ (cells_q h hob hb hi)
          refine ⟨v, av, ?_, h2, h3⟩
          intro w' hg
          unfold Instr.loadAt Instr.sureAddr
          simp only [Sem.run_bind, Sem.run_pure, Result.andThen_ok]
          have e : (⟨b, i * ob.sz, none⟩ : Addr).add c = ⟨b, i * ob.sz + c, none⟩ := by
            unfold Addr.add; split
            · rename_i h0; simp [h0]
            · rfl
          rw [← e]; exact h1 w' hg
        · exact hv.elim
    | _ => rw [hx'] at hx; cases hx
  | bptr cs =>
    simp only at hv
    cases hx' : a.eval x with
    | pointer ad =>
      rw [hx'] at hx
      cases hx with
      | bptr _ ad u hne hok hc hr =>
        obtain ⟨v, av, h1, h2, h3⟩ := load_of_q (w := w) (G := fun w' => w.grownBy w' none) hv ad (fun j av hj => ⟨u j, fun w' hg => same_q hg (hc j (List.getElem?_eq_some_iff.1 hj).1), hr j av hj⟩)
        refine ⟨v, av, ?_, h2, h3⟩
        intro w' hg
        unfold Instr.loadAt Instr.sureAddr
        simp only [Sem.run_bind, Sem.run_pure, Result.andThen_ok]
        have e : ad.add 0 = ad := by simp [Addr.add]
        rw [e] at h1; exact h1 w' hg
    | _ => rw [hx'] at hx; cases hx
  | _ => exact hv.elim
theorem fieldAddr_sound_q (h : RelH n base w0 hd s a w) {T : TypeId} {x : Operand} {f : Nat} {o : Oper} (ho : o.op = .fieldAddr T x f) (hv : vop P (.fieldAddr T x f) s k) : QEnds P w hd s a o k := by
  simp only [vop] at hv
  split at hv
  · rename_i ft off hf
    obtain ⟨⟨m, hm, hm0⟩, hv⟩ := hv
    have hx := h.ev_ x
    split at hv
    · rename_i j sz i c e
      rw [e] at hx
      cases hx' : a.eval x with
      | pointer ad =>
        rw [hx'] at hx
        cases hx with
        | ptr _ _ _ _ b n' c' hk hb =>
          refine QEnds.same (.ptr j sz i (c + off) b n' c' hk hb) hv ?_
          intro w' hg; unfold execOp; simp only [ho, hx']
          refine run_v ((fieldAt_run hf hm hm0 _ _).trans ?_)
          congr 3
          unfold Addr.add; split
          · rename_i h0; subst h0; simp
          · simp [Nat.add_assoc]
      | _ => rw [hx'] at hx; cases hx
    · rename_i cs e
      rw [e] at hx
      cases hx' : a.eval x with
      | pointer ad =>
        rw [hx'] at hx
        cases hx with
        | bptr _ ad u hne hok hc hr =>
          have add2 : ∀ j, (ad.add off).add j = ad.add (off + j) := by
            intro j
            unfold Addr.add
            by_cases h1 : off = 0 <;> by_cases h2 : j = 0 <;> simp [h1, h2]; omega
          have hblk : (ad.add off).block = ad.block := by unfold Addr.add; split <;> rfl
          refine QEnds.same (.bptr (cs.drop off) (ad.add off) (fun j => u (off + j)) (by intro e2; rw [List.drop_eq_nil_iff] at e2; omega) (by rw [hblk]; exact hok) (fun j hj => by rw [add2]; exact hc _ (by simp at hj; omega)) (fun j av hj => hr _ av (by rw [List.getElem?_drop] at hj; exact hj))) hv.2 ?_
          intro w' hg; unfold execOp; simp only [ho, hx']
          exact run_v (fieldAt_run hf hm hm0 _ _)
      | _ => rw [hx'] at hx; cases hx
    · exact hv.elim
  · exact hv.elim

theorem field_sound_q (h : RelH n base w0 hd s a w) {T : TypeId} {x : Operand} {f : Nat} {o : Oper} (ho : o.op = .field T x f) (hv : vop P (.field T x f) s k) : QEnds P w hd s a o k := by
  simp only [vop] at hv
  split at hv
  · rename_i ft off cs hf e
    have hx := h.ev_ x
    rw [e] at hx
    cases hx' : a.eval x with
    | agg arr =>
      rw [hx'] at hx
      cases hx with
      | agg _ vs hl hr =>
        obtain ⟨fs, fl, h1, h2, rfl, rfl⟩ := fieldOff_run hf
        unfold rd at hv
        split at hv
        · rename_i ht
          obtain ⟨hlt, hk⟩ := hv
          refine QEnds.same (v := vs[fl.offset]'(by omega)) (av := cs.getD fl.offset .undef) ?_ hk ?_
          · rw [List.getD_eq_getElem?_getD, List.getElem?_eq_getElem hlt]
            exact hr fl.offset _ _ (List.getElem?_eq_getElem hlt) (List.getElem?_eq_getElem (by omega))
          · intro w' hg; unfold execOp; simp only [ho, hx']
            refine run_v ?_
            unfold Instr.field part
            simp only [Sem.run_bind, und_run h1, Result.andThen_ok, h2, asAgg, Sem.run_pure, tagg_run ht, Bool.false_eq_true, if_false]
            simp [show fl.offset < vs.length by omega]
        · rename_i m ht hm
          obtain ⟨hlt, hk⟩ := hv
          refine QEnds.same (v := .agg ((vs.drop fl.offset).take m).toArray) ?_ hk ?_
          · refine .agg _ _ (by simp; omega) fun j av u h3 h4 => ?_
            rw [List.getElem?_take] at h3 h4
            split at h3
            · rename_i hj
              rw [if_pos hj] at h4
              rw [List.getElem?_drop] at h3 h4
              exact hr _ av u h3 h4
            · simp at h3
          · intro w' hg; unfold execOp; simp only [ho, hx']
            refine run_v ?_
            unfold Instr.field part
            simp only [Sem.run_bind, und_run h1, Result.andThen_ok, h2, asAgg, Sem.run_pure, tagg_run ht, if_true, tsz_run hm]
            congr 2
            apply Array.ext'
            simp [List.extract_eq_take_drop]
        · exact hv.elim
    | _ => rw [hx'] at hx; cases hx
  · exact hv.elim

theorem indexAddr_sound_q (h : RelH n base w0 hd s a w) {T : TypeId} {x ix : Operand} {o : Oper} (ho : o.op = .indexAddr T x ix) (hv : vop P (.indexAddr T x ix) s k) : QEnds P w hd s a o k := by
  simp only [vop] at hv
  split at hv
  · rename_i e q i hT hi
    split at hv
    · rename_i sz hsz
      have hx := h.ev_ x
      have hix := (h.ev_ ix).val_ hi
      have key : ∀ (A : Option Addr) (len cap : Nat) (ad : Addr), a.eval x = .slice A len cap → A = some ad → 0 ≤ i → i < len → ∀ w', w.grownBy w' none → (execOp a.eval o).run P w' = .ok (.value (.pointer (some (ad.add (i.toNat * sz))))) w' := by
        intro A len cap ad hx' hA h0 h1
        intro w' hg; unfold execOp; simp only [ho, hx', hix]
        refine run_v ?_
        unfold Instr.indexAt asIntOf
        simp only [Sem.run_bind, Sem.run_pure, Result.andThen_ok, und_run hT, hA]
        rw [if_pos ⟨h0, h1⟩]
        simp [Sem.run_bind, tsz_run hsz]
      split at hv
      · rename_i sz' m f e1
        obtain ⟨rfl, h0, h1, hk⟩ := hv
        rw [e1] at hx
        cases hx' : a.eval x with
        | slice A len cap =>
          rw [hx'] at hx
          cases hx with
          | sl _ _ _ _ _ u hc hm hsz' hl ha hr =>
            have hlt : i.toNat < m := by omega
            obtain ⟨ad, hA, hok, hcell⟩ := ha (by omega)
            refine QEnds.same (.bptr (f i.toNat) (ad.add (i.toNat * sz')) (fun j => u i.toNat j) (by intro e2; have := hl _ hlt; rw [e2] at this; simp at this; omega) (by unfold Addr.add; split <;> exact hok) (fun j hj => ?_) (fun j av hj => hr _ _ av hlt hj)) hk (key A m cap ad hx' hA h0 h1)
            have : (ad.add (i.toNat * sz')).add j = ad.add (i.toNat * sz' + j) := by
              unfold Addr.add
              by_cases h1 : i.toNat * sz' = 0 <;> by_cases h2 : j = 0 <;> simp [h1, h2]; omega
            rw [this]
            exact hcell _ _ hlt (by rw [← hl _ hlt]; exact hj)
        | _ => rw [hx'] at hx; cases hx
      · rename_i j e1
        split at hv
        · rename_i ob hob
          obtain ⟨rfl, h0, h1, hk⟩ := hv
          rw [e1] at hx
          obtain ⟨hs0, vals, hown, _⟩ := h.me.obs j ob hob
          rcases hown.2 with ⟨_, h00⟩ | ⟨g, cap, cur, hh, _⟩
          · omega
          · have hx' : a.eval x = hd j := by
              generalize a.eval x = vx at hx
              cases hx; rfl
            have hkm : j < s.mem.length := (List.getElem?_eq_some_iff.1 hob).1
            have e2 := key (some ⟨g, 0, none⟩) ob.n cap ⟨g, 0, none⟩ (by rw [hx', hh]) rfl h0 h1
            refine QEnds.same (.ptr j ob.sz i.toNat 0 g ob.n cap hkm hh) hk ?_
            intro w' hg
            rw [e2 w' hg]
            congr 4
            unfold Addr.add; split
            · rename_i h3; simp [h3]
            · simp
        · exact hv.elim
      · exact hv.elim
    · exact hv.elim
  · exact hv.elim

theorem index_sound_q (h : RelH n base w0 hd s a w) {T : TypeId} {x ix : Operand} {o : Oper} (ho : o.op = .index T x ix) (hv : vop P (.index T x ix) s k) : QEnds P w hd s a o k := by
  simp only [vop] at hv
  split at hv
  · rename_i z q i hT hx hi
    obtain ⟨h0, h1, hk⟩ := hv
    refine QEnds.same (.lit _) hk ?_
    intro w' hg; unfold execOp; simp only [ho, (h.ev_ x).val_ hx, (h.ev_ ix).val_ hi]
    refine run_v ?_
    unfold Instr.index asIntOf
    have hlt : i.toNat < z.size := by omega
    simp only [Sem.run_bind, Sem.run_pure, Result.andThen_ok, und_run hT]
    rw [if_pos h0]
    have : z[i.toNat]? = some (z[i.toNat]'hlt) := getElem?_pos z i.toNat hlt
    rw [this]
    simp [byteAt, hlt]
  · exact hv.elim

theorem slice_sound_q (h : RelH n base w0 hd s a w) {T : TypeId} {x : Operand} {lo hi mx : Option Operand} {o : Oper} (ho : o.op = .slice T x lo hi mx) (hv : vop P (.slice T x lo hi mx) s k) : QEnds P w hd s a o k := by
  cases mx with
  | some _ => exact hv.elim
  | none =>
    simp only [vop] at hv
    have hx := h.ev_ x
    have at_ : (∀ n e, P.underlying T ≠ some (.array n e)) → ∀ (d : TypeDesc), P.underlying T = some d → ∀ w', w.grownBy w' none → (execOp a.eval o).run P w' = ((do pure (Next.value (← Instr.slice T (a.eval x) (lo.map a.eval) (hi.map a.eval) none)) : Sem Next)).run P w' := by
      intro hna d hd'
      intro w' hg; unfold execOp; simp only [ho]
      simp only [Sem.run_bind, Option.map_none]
      congr 1
      unfold Instr.sliceAt
      simp only [Sem.run_bind, und_run hd', Result.andThen_ok]
      cases d <;> first | rfl | exact absurd hd' (hna _ _)
    split at hv
    · rename_i z l hT e1 hl
      split at hv
      · rename_i e he
        obtain ⟨h0, h1, h2, hk⟩ := hv
        refine QEnds.same (.lit _) hk ?_
        intro w' hg; rw [at_ (by rw [hT]; simp) _ hT w' hg]
        refine run_v ?_
        have hz := (h.ev_ x).val_ (toVal_lit e1)
        unfold Instr.slice
        simp only [Sem.run_bind, und_run hT, Result.andThen_ok, hz, bounds_run (P := P) h (isS := false) hl he h0 h1 h2 (Nat.le_refl _), Sem.run_pure]
        simp [Sem.run_bind, bounds_run (P := P) h (isS := false) hl he h0 h1 h2 (Nat.le_refl _)]
      · exact hv.elim
    · rename_i el sz m f l hT e1 hl
      split at hv
      · rename_i e he
        obtain ⟨hsz, h0, h1, h2, hk⟩ := hv
        rw [e1] at hx
        cases hx' : a.eval x with
        | slice A len cap =>
          rw [hx'] at hx
          cases hx with
          | sl _ _ _ _ _ u hc hm hsz' hll ha hr =>
            refine QEnds.same (v := .slice (if cap = l.toNat then A else A.map (·.add (l.toNat * sz))) (e.toNat - l.toNat) (cap - l.toNat)) (.sl sz (e.toNat - l.toNat) (fun i => f (l.toNat + i)) _ _ (fun i j => u (l.toNat + i) j) (by omega) (by omega) hsz' (fun i hi => hll _ (by omega)) (fun hp => ?_) (fun i j av hi hj => hr _ _ av (by omega) hj)) hk ?_
            · obtain ⟨ad, hA, hok, hcell⟩ := ha (by omega)
              refine ⟨ad.add (l.toNat * sz), by rw [hA, if_neg (by omega)]; rfl, by unfold Addr.add; split <;> exact hok, fun i j hi hj => ?_⟩
              have : (ad.add (l.toNat * sz)).add (i * sz + j) = ad.add ((l.toNat + i) * sz + j) := by
                rw [add_add, Nat.add_mul, Nat.add_assoc]
              rw [this]; exact hcell _ _ (by omega) hj
            · intro w' hg; rw [at_ (by rw [hT]; simp) _ hT w' hg]
              refine run_v ?_
              unfold Instr.slice
              simp only [Sem.run_bind, und_run hT, Result.andThen_ok, hx', bounds_run (P := P) h (isS := true) hl he h0 h1 h2 hc, tsz_run hsz, Sem.run_pure]
        | _ => rw [hx'] at hx; cases hx
      · exact hv.elim
    · rename_i el j l hT e1 hl
      split at hv
      · rename_i ob hob
        split at hv
        · rename_i e he
          obtain ⟨hsz, h0, h1, h2, hk⟩ := hv
          rw [e1] at hx
          have hx' : a.eval x = hd j := by
            generalize a.eval x = vx at hx
            cases hx; rfl
          have hkm : j < s.mem.length := (List.getElem?_eq_some_iff.1 hob).1
          obtain ⟨hs0, vals, hown, _⟩ := h.me.obs j ob hob
          obtain ⟨A, cap, hform, hcap, hA⟩ : ∃ A cap, hd j = .slice A ob.n cap ∧ ob.n ≤ cap ∧ (0 < ob.n → ∃ g, A = some ⟨g, 0, none⟩) := by
            rcases hown.2 with ⟨e2, h00⟩ | ⟨g, cap, cur, hh, _, _, hc, _⟩
            · exact ⟨none, 0, by rw [e2, h00], by omega, fun h => by omega⟩
            · exact ⟨some ⟨g, 0, none⟩, cap, hh, hc, fun _ => ⟨g, rfl⟩⟩
          refine QEnds.same (v := .slice (if cap = l.toNat then A else A.map (·.add (l.toNat * ob.sz))) (e.toNat - l.toNat) (cap - l.toNat)) (.sub j ob.sz l.toNat (e.toNat - l.toNat) _ _ hkm (by omega) (fun hp => ?_)) hk ?_
          · obtain ⟨g, hg⟩ := hA (by omega)
            refine ⟨g, ob.n, cap, by rw [hform, hg], ?_⟩
            rw [if_neg (by omega), hg]
            simp only [Option.map_some]
            congr 1
            unfold Addr.add; split
            · rename_i h3; simp [h3]
            · simp
          · intro w' hg; rw [at_ (by rw [hT]; simp) _ hT w' hg]
            refine run_v ?_
            unfold Instr.slice
            simp only [Sem.run_bind, und_run hT, Result.andThen_ok, hx', hform, bounds_run (P := P) h (isS := true) hl he h0 h1 h2 hcap, tsz_run hsz, Sem.run_pure]
        · exact hv.elim
      · exact hv.elim
    · exact hv.elim

theorem len_sound_q (h : RelH n base w0 hd s a w) {x : Operand} {t : TypeId} {o : Oper} (ho : o.op = .call { callee := .builtin .len, args := #[x], argTypes := #[t] })
    (hv : vlen P x t s k) : QEnds P w hd s a o k := by
  unfold vlen at hv
  have hrun : ∀ w', w.grownBy w' none → (execOp a.eval o).run P w' = ((do pure (Next.value (← Builtin.len_ #[t] o.type #[a.eval x])) : Sem Next)).run P w' := by
    intro w' hg; unfold execOp; simp only [ho]; simp [resolve, invoke, builtin, Sem.run_bind]
  split at hv
  · rename_i m hl ht
    obtain ⟨⟨z, hz⟩, hk⟩ := hv
    rw [hz] at hl
    simp only [avLen, Option.some.injEq] at hl
    subst hl
    refine QEnds.same (.lit _) hk ?_
    intro w' hg; rw [hrun w' hg]
    refine run_v ?_
    have := (h.ev_ x).val_ (toVal_lit hz)
    simp only [Builtin.len_, List.getElem?_toArray, List.getElem?_cons_zero, Sem.run_bind, und_run ht, Result.andThen_ok, this]
    rfl
  · rename_i m e hl ht
    obtain ⟨hns, hm, hk⟩ := hv
    have key : ∃ A c, a.eval x = .slice A m c := by
      have hx := h.ev_ x
      generalize hev : ev s x = ax at *
      cases ax with
      | sl sz m' f =>
        simp only [avLen, Option.some.injEq] at hl; subst hl
        generalize a.eval x = v at hx
        cases hx; exact ⟨_, _, rfl⟩
      | own q =>
        simp only [avLen] at hl
        split at hl
        · rename_i ob hob
          simp only [Option.some.injEq] at hl; subst hl
          obtain ⟨hs, vals, ho2, _⟩ := h.me.obs q ob hob
          rw [own_val h hev]
          rcases ho2.2 with ⟨e, h0⟩ | ⟨g, cap, cur, e, _⟩
          · exact ⟨none, 0, by rw [e, h0]⟩
          · exact ⟨_, _, e⟩
        · simp at hl
      | sub q sz lo m' =>
        simp only [avLen, Option.some.injEq] at hl; subst hl
        generalize a.eval x = v at hx
        cases hx; exact ⟨_, _, rfl⟩
      | lit v =>
        have e := (h.ev_ x).val_ (u := v) (by rw [hev]; rfl)
        cases v with
        | slice A m' c => simp only [avLen, Option.some.injEq] at hl; subst hl; exact ⟨_, _, e⟩
        | string z => exact absurd rfl (hns z)
        | _ => simp [avLen] at hl
      | _ => simp [avLen] at hl
    obtain ⟨A, c, hx'⟩ := key
    refine QEnds.same (.lit _) hk ?_
    intro w' hg; rw [hrun w' hg]
    refine run_v ?_
    simp only [Builtin.len_, List.getElem?_toArray, List.getElem?_cons_zero, Sem.run_bind, und_run ht, Result.andThen_ok, hx']
    rfl
  · exact hv.elim

/-- the first operand of an append: a row of the call's own -/

theorem build_sound_q (h : RelH n base w0 hd s a w) {t : TypeId} {parts : Array (Nat × Operand)} {o : Oper} (ho : o.op = .build t parts) (hv : vbuild P t parts.toList s k) : QEnds P w hd s a o k := by
  unfold vbuild at hv
  split at hv
  · rename_i fs ht
    split at hv
    · rename_i z sz by_ hinfo
      obtain ⟨hok, hv⟩ := hv
      obtain ⟨ti, hi1, hi2, hi3, hi4⟩ := tinfo_run hinfo
      split at hv
      · rename_i cells hb
        obtain ⟨out, g1, g2⟩ := build_fill h (places := fun i => (fs.toList.map fun f => (f.offset, (tsz P f.type).getD 0)).toArray[i]?) (fun i fl m hfl hm => by
          have : fs.toList[i]? = some fl := by simpa using hfl
          simp [hfl, hm]) parts.toList _ cells z.cells hb ⟨by simp, fun j c u h1 h2 => by
            simp only [List.getElem?_map, Option.map_eq_some_iff] at h1
            obtain ⟨u', h3, rfl⟩ := h1
            rw [h2] at h3
            simp only [Option.some.injEq] at h3
            subst h3; exact .lit _⟩
        have hagg : Rep w (okOf s.mem hd) hd s.mem.length (.agg cells) (.agg out) := by
          have := Rep.agg (w := w) (ok := okOf s.mem hd) (hd := hd) (m := s.mem.length) cells out.toList g2.1 g2.2
          simpa using this
        refine QEnds.same hagg hv ?_
        intro w' hg; unfold execOp; simp only [ho]
        refine run_v ?_
        have hzv : (zeroValue t).run P w' = .ok z w' := by simp [zeroValue, typeInfo, Sem.run_bind, hi1, hi2]
        have hpl : (fs.mapM (m := Sem) fun f => do pure (f.offset, ← sizeOf f.type)).run P w' = .ok (fs.toList.map fun f => (f.offset, (tsz P f.type).getD 0)).toArray w' := by
          rw [Array.mapM_eq_mapM_toList, Sem.run_map, mapM_places hok]; rfl
        unfold Instr.build
        simp only [Sem.run_bind, hzv, und_run ht, Result.andThen_ok]
        rw [hpl]
        simp only [Result.andThen_ok]
        have hp : (parts.map fun x => (x.1, a.eval x.2)).toList = parts.toList.map (fun x => (x.1, a.eval x.2)) := Array.toList_map
        rw [hp, g1]
        rfl
      · exact hv.elim
    · exact hv.elim
  · exact hv.elim
theorem vopq_sound (h : RelH n base w0 hd s a w) (o : Oper) (hq : quietOp o.op = true) (hv : vop P o.op s k) : QEnds P w hd s a o k := by
  obtain ⟨d, op, ty, pos, af, g⟩ := o
  cases op with
  | move x => exact QEnds.same (h.ev_ x) hv (fun _ _ => rfl)
  | assign x => exact QEnds.same (h.ev_ x) hv (fun _ _ => rfl)
  | pick c x y =>
    simp only [vop] at hv
    split at hv
    · rename_i t e
      have hc := (h.ev_ c).val_ (toVal_lit e)
      cases t with
      | true => exact QEnds.same (h.ev_ x) (hv.1 rfl) (fun w' hg => by simp [execOp, hc, asBool, Sem.run_bind])
      | false => exact QEnds.same (h.ev_ y) (hv.2 rfl) (fun w' hg => by simp [execOp, hc, asBool, Sem.run_bind])
    · exact hv.elim
  | box T x => cases hq
  | load T x =>
    obtain ⟨v, av, h1, h2, h3⟩ := load_sound_q h hv
    exact QEnds.same h2 h3 (fun w' hg => by unfold execOp; exact run_v (h1 w' hg))
  | store T p x => cases hq
  | fieldAddr T x f => exact fieldAddr_sound_q h rfl hv
  | field T x f => exact field_sound_q h rfl hv
  | indexAddr T x ix => exact indexAddr_sound_q h rfl hv
  | index T x ix => exact index_sound_q h rfl hv
  | slice T x lo hi mx => exact slice_sound_q h rfl hv
  | binOp b T x y T2 =>
    simp only [vop] at hv
    split at hv
    · rename_i vx vy hx hy
      obtain ⟨v, hrun, hk⟩ := hv
      refine QEnds.same (.lit v) hk ?_
      intro w' hg
      unfold execOp
      simp only [(h.ev_ x).val_ hx, (h.ev_ y).val_ hy]
      exact run_v (hrun w')
    · exact hv.elim
  | unOp b T x =>
    simp only [vop] at hv
    split at hv
    · rename_i vx hx
      obtain ⟨v, hrun, hk⟩ := hv
      refine QEnds.same (.lit v) hk ?_
      intro w' hg
      unfold execOp
      simp only [(h.ev_ x).val_ hx]
      exact run_v (hrun w')
    · exact hv.elim
  | convert c d x =>
    simp only [vop] at hv
    split at hv
    · rename_i vx hx
      obtain ⟨v, hrun, hk⟩ := hv
      refine QEnds.same (.lit v) hk ?_
      intro w' hg
      unfold execOp
      simp only [(h.ev_ x).val_ hx]
      exact run_v (hrun w')
    · exact hv.elim
  | extract x i =>
    simp only [vop] at hv
    split at hv
    · rename_i vs e
      obtain ⟨hlt, hk⟩ := hv
      have hx := h.ev_ x
      rw [e] at hx
      cases hx' : a.eval x with
      | tuple arr =>
        rw [hx'] at hx
        cases hx with
        | tup _ us hl hr =>
          refine QEnds.same (v := us[i]'(by omega)) (av := vs.getD i .undef) ?_ hk ?_
          · rw [List.getD_eq_getElem?_getD, List.getElem?_eq_getElem hlt]
            exact hr i _ _ (List.getElem?_eq_getElem hlt) (List.getElem?_eq_getElem (by omega))
          · intro w' hg; unfold execOp; simp only [hx']
            refine run_v ?_
            unfold Instr.extract
            simp [show i < us.length by omega]
      | _ => rw [hx'] at hx; cases hx
    · exact hv.elim
  | nilCheck x =>
    simp only [vop] at hv
    have hx := h.ev_ x
    split at hv
    · rename_i e
      have hx0 := hx
      rw [e] at hx
      cases hx' : a.eval x with
      | pointer ad =>
        rw [hx'] at hx
        cases hx with
        | ptr => exact QEnds.same hx0 (by rw [e] at hv ⊢; exact hv) (fun w' hg => by unfold execOp; simp only [hx']; rfl)
      | _ => rw [hx'] at hx; cases hx
    · rename_i e
      have hx0 := hx
      rw [e] at hx
      cases hx' : a.eval x with
      | pointer ad =>
        rw [hx'] at hx
        cases hx with
        | bptr => exact QEnds.same hx0 (by rw [e] at hv ⊢; exact hv) (fun w' hg => by unfold execOp; simp only [hx']; rfl)
      | _ => rw [hx'] at hx; cases hx
    · exact hv.elim
  | _ => exact hv.elim
/-- operations that leave the state alone -/
def quiet4 (P : Program) : Op → Bool
  | .move _ | .assign _ | .pick _ _ _ | .load _ _ | .fieldAddr _ _ _ | .field _ _ _ | .indexAddr _ _ _ | .index _ _ _ | .slice _ _ _ _ _ | .binOp _ _ _ _ _ | .unOp _ _ _ | .extract _ _ | .nilCheck _ | .lookup _ _ _ _ | .build _ _ => true
  | .call c => match c.callee, c.args.toList, c.argTypes.toList with
    | .builtin .len, [_], [_] => true
    | _, _, _ => false
  | _ => false
theorem vop4q_sound (h : RelH n base w0 hd s a w) (hP : base.P = P) (o : Oper) (hq : quiet4 P o.op = true) (hv : vop4 P o.op s k) : QEnds P w hd s a o k := by
  obtain ⟨d, op, ty, pos, af, g⟩ := o
  cases op with
  | lookup t m x ok =>
    obtain ⟨v, av, h1, h2, h3⟩ := look_sound (o := ⟨d, .lookup t m x ok, ty, pos, af, g⟩) h hP rfl hv
    exact ⟨v, av, h1, h2, h3⟩
  | build t parts => exact build_sound_q h rfl hv
  | call c =>
    obtain ⟨cal, args, tys⟩ := c
    simp only [quiet4] at hq
    simp only [vop4] at hv
    split at hq
    · rename_i x t h1 h2
      simp only [h1, h2] at hv
      have e1 : args = #[x] := Array.toList_inj.1 h1
      have e2 : tys = #[t] := Array.toList_inj.1 h2
      subst e1; subst e2
      rcases hv with ⟨_, hv⟩ | ⟨_, hv⟩
      · obtain ⟨v, av, h1, h2, h3⟩ := mlen_sound (o := ⟨d, .call ⟨.builtin .len, #[x], #[t]⟩, ty, pos, af, g⟩) h rfl rfl rfl rfl hv
        exact ⟨v, av, h1, h2, h3⟩
      · exact len_sound_q h rfl hv
    · cases hq
  | move x => exact vopq_sound h _ rfl hv
  | assign x => exact vopq_sound h _ rfl hv
  | pick c x y => exact vopq_sound h _ rfl hv
  | load T x => exact vopq_sound h _ rfl hv
  | fieldAddr T x f => exact vopq_sound h _ rfl hv
  | field T x f => exact vopq_sound h _ rfl hv
  | indexAddr T x ix => exact vopq_sound h _ rfl hv
  | index T x ix => exact vopq_sound h _ rfl hv
  | slice T x lo hi mx => exact vopq_sound h _ rfl hv
  | binOp b T x y T2 =>
    simp only [vop4] at hv
    split at hv
    · rename_i k0 sz i j ex
      obtain ⟨v, av, h1, h2, h3⟩ := peq_sound (o := ⟨d, .binOp b T x y T2, ty, pos, af, g⟩) h rfl ex hv
      exact ⟨v, av, h1, h2, h3⟩
    · exact vopq_sound h _ rfl hv
  | unOp b T x => exact vopq_sound h _ rfl hv
  | extract x i => exact vopq_sound h _ rfl hv
  | nilCheck x => exact vopq_sound h _ rfl hv
  | _ => simp [quiet4] at hq
theorem Ends.ofQ {o : Oper} (h : RelH n base w0 hd s a w) (hq : QEnds P w hd s a o k) : Ends P n base w0 a ((execOp a.eval o).run P w) k := by
  obtain ⟨v, av, h1, h2, h3⟩ := hq
  exact ⟨v, w, .inl (h1 w ⟨rfl, rfl, rfl, Nat.le_refl _, fun _ _ _ => rfl⟩), hd, s, av, h, h2, h3⟩
theorem vop4_sound (h : RelH n base w0 hd s a w) (hP : base.P = P) (o : Oper) (hv : vop4 P o.op s k) : Ends P n base w0 a ((execOp a.eval o).run P w) k := by
  unfold vop4 at hv
  split at hv
  · rename_i t hc; exact mmake_sound h hc hv
  · rename_i t m x ok hc
    obtain ⟨v, av, h1, h2, h3⟩ := look_sound h hP hc hv
    exact Ends.ofQ h ⟨v, av, h1, h2, h3⟩
  · rename_i t m x v hc; exact mset_sound h hP hc hv
  · rename_i c hc
    obtain ⟨cal, args, tys⟩ := c
    simp only at hv
    split at hv
    · rename_i x t h1 h2
      have e1 : args = #[x] := Array.toList_inj.1 h1
      have e2 : tys = #[t] := Array.toList_inj.1 h2
      subst e1; subst e2
      rcases hv with ⟨_, hv⟩ | ⟨_, hv⟩
      · obtain ⟨v, av, h1, h2, h3⟩ := mlen_sound h hc rfl rfl rfl hv
        exact Ends.ofQ h ⟨v, av, h1, h2, h3⟩
      · exact len_sound h hc hv
    · rename_i x y t t' h1 h2
      have e1 : args = #[x, y] := Array.toList_inj.1 h1
      have e2 : tys = #[t, t'] := Array.toList_inj.1 h2
      subst e1; subst e2
      obtain ⟨v, av, h1, h2, h3⟩ := min_sound h hc hv
      exact Ends.ofQ h ⟨v, av, h1, h2, h3⟩
    · rename_i x y t t' h1 h2
      have e1 : args = #[x, y] := Array.toList_inj.1 h1
      have e2 : tys = #[t, t'] := Array.toList_inj.1 h2
      subst e1; subst e2
      split at hv
      · rename_i z ey
        exact apps_sound h hc ey hv
      · exact vop3_sound h o (by rw [hc]; exact hv)
    · exact vop3_sound h o (by rw [hc]; exact hv)
  · rename_i b T x y T2 hc
    split at hv
    · rename_i k0 sz i j ex
      obtain ⟨v, av, h1, h2, h3⟩ := peq_sound h hc ex hv
      exact Ends.ofQ h ⟨v, av, h1, h2, h3⟩
    · exact vop3_sound h o (by rw [hc]; exact hv)
  · rename_i t1 t2 x hc
    split at hv
    · rename_i k0 sz i j ex
      exact pconv_sound h hc ex hv
    · exact vop3_sound h o (by rw [hc]; exact hv)
  · exact vop3_sound h o hv
end
end Go.Proofs.Ytnjnkhmcdkjekaa.V
