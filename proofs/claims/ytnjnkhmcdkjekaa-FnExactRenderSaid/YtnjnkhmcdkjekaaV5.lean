/- The value machine, part 5: the other operations without calls, joined. -/
import Derived.Test.YtnjnkhmcdkjekaaV4
namespace Go.Proofs.Ytnjnkhmcdkjekaa.V
open Go.RowKit
set_option linter.unusedVariables false
set_option linter.unusedSimpArgs false
section
variable {P : Program} {n : Nat} {base : Fr} {w0 w : World} {hd : Nat → Value} {s : VS} {a : Act} {k : AV → VS → Prop}

theorem optInt_run (h : RelH n base w0 hd s a w) {d : Int} {x : Operand} {i : Int} (he : optInt s d (some x) = some i) : ∃ q, a.eval x = .int q i := by
  simp only [optInt] at he
  split at he
  · rename_i q m hv
    simp only [Option.some.injEq] at he
    subst he
    exact ⟨q, (h.ev_ _).val_ hv⟩
  · simp at he

theorem bound_run {q : IntKind} {i : Int} {y : Nat} {c : BoundsCode} (h0 : 0 ≤ i) (h1 : i ≤ y) (w : World) : (Instr.sliceBound (.int q i) y c).run P w = .ok i.toNat w := by
  unfold Instr.sliceBound asIntOf
  simp only [Sem.run_bind, Sem.run_pure, Result.andThen_ok]
  rw [if_pos ⟨h0, h1⟩]; rfl

theorem bounds_run (h : RelH n base w0 hd s a w) {isS : Bool} {len cap : Nat} {lo hi : Option Operand} {l e : Int} (hlo : optInt s 0 lo = some l) (hhi : optInt s len hi = some e) (h0 : 0 ≤ l) (h1 : l ≤ e) (h2 : e ≤ len) (hc : len ≤ cap) (w' : World) :
    (Instr.sliceBounds isS len cap (lo.map a.eval) (hi.map a.eval) none).run P w' = .ok (l.toNat, e.toNat, cap) w' := by
  unfold Instr.sliceBounds
  cases lo with
  | none =>
    simp only [optInt, Option.some.injEq] at hlo
    subst hlo
    cases hi with
    | none =>
      simp only [optInt, Option.some.injEq] at hhi
      have : e.toNat = len := by omega
      simp [Sem.run_bind, this]
    | some x =>
      obtain ⟨q, hq⟩ := optInt_run h hhi
      simp [Sem.run_bind, hq, bound_run (c := _) (show 0 ≤ e by omega) (show e ≤ cap by omega)]
  | some y =>
    obtain ⟨q', hq'⟩ := optInt_run h hlo
    cases hi with
    | none =>
      simp only [optInt, Option.some.injEq] at hhi
      have : e.toNat = len := by omega
      simp [Sem.run_bind, hq', bound_run (c := _) h0 (show l ≤ (len : Int) by omega), this]
    | some x =>
      obtain ⟨q, hq⟩ := optInt_run h hhi
      simp [Sem.run_bind, hq, hq', bound_run (c := _) (show 0 ≤ e by omega) (show e ≤ cap by omega), bound_run (c := _) h0 (show l ≤ (e.toNat : Int) by omega)]

theorem add_add (ad : Addr) (x y : Nat) : (ad.add x).add y = ad.add (x + y) := by
  unfold Addr.add
  by_cases h1 : x = 0 <;> by_cases h2 : y = 0 <;> simp [h1, h2]; omega

theorem indexAddr_sound (h : RelH n base w0 hd s a w) {T : TypeId} {x ix : Operand} {o : Oper} (ho : o.op = .indexAddr T x ix) (hv : vop P (.indexAddr T x ix) s k) : Ends P n base w0 a ((execOp a.eval o).run P w) k := by
  simp only [vop] at hv
  split at hv
  · rename_i e q i hT hi
    split at hv
    · rename_i sz hsz
      have hx := h.ev_ x
      have hix := (h.ev_ ix).val_ hi
      have key : ∀ (A : Option Addr) (len cap : Nat) (ad : Addr), a.eval x = .slice A len cap → A = some ad → 0 ≤ i → i < len → (execOp a.eval o).run P w = .ok (.value (.pointer (some (ad.add (i.toNat * sz))))) w := by
        intro A len cap ad hx' hA h0 h1
        unfold execOp; simp only [ho, hx', hix]
        refine run_v ?_
        unfold Instr.indexAt asIntOf
        simp only [Sem.run_bind, Sem.run_pure, Result.andThen_ok, und_run hT, hA]
        rw [if_pos ⟨h0, h1⟩]
        simp [Sem.run_bind, tsz_run hsz]
      split at hv
      · rename_i sz' m f e1
        obtain ⟨rfl, h0, h1, hk⟩ := hv
        rw [e1] at hx
        cases hx' : a.eval x with
        | slice A len cap =>
          rw [hx'] at hx
          cases hx with
          | sl _ _ _ _ _ u hc hm hsz' hl ha hr =>
            have hlt : i.toNat < m := by omega
            obtain ⟨ad, hA, hok, hcell⟩ := ha (by omega)
            refine Ends.same h (.bptr (f i.toNat) (ad.add (i.toNat * sz')) (fun j => u i.toNat j) (by intro e2; have := hl _ hlt; rw [e2] at this; simp at this; omega) (by unfold Addr.add; split <;> exact hok) (fun j hj => ?_) (fun j av hj => hr _ _ av hlt hj)) hk (key A m cap ad hx' hA h0 h1)
            have : (ad.add (i.toNat * sz')).add j = ad.add (i.toNat * sz' + j) := by
              unfold Addr.add
              by_cases h1 : i.toNat * sz' = 0 <;> by_cases h2 : j = 0 <;> simp [h1, h2]; omega
            rw [this]
            exact hcell _ _ hlt (by rw [← hl _ hlt]; exact hj)
        | _ => rw [hx'] at hx; cases hx
      · rename_i j e1
        split at hv
        · rename_i ob hob
          obtain ⟨rfl, h0, h1, hk⟩ := hv
          rw [e1] at hx
          obtain ⟨hs0, vals, hown, _⟩ := h.me.obs j ob hob
          rcases hown.2 with ⟨_, h00⟩ | ⟨g, cap, cur, hh, _⟩
          · omega
          · have hx' : a.eval x = hd j := by
              generalize a.eval x = vx at hx
              cases hx; rfl
            have hkm : j < s.mem.length := (List.getElem?_eq_some_iff.1 hob).1
            have e2 := key (some ⟨g, 0, none⟩) ob.n cap ⟨g, 0, none⟩ (by rw [hx', hh]) rfl h0 h1
            refine Ends.same h (.ptr j ob.sz i.toNat 0 g ob.n cap hkm hh) hk ?_
            rw [e2]
            congr 4
            unfold Addr.add; split
            · rename_i h3; simp [h3]
            · simp
        · exact hv.elim
      · exact hv.elim
    · exact hv.elim
  · exact hv.elim

theorem index_sound (h : RelH n base w0 hd s a w) {T : TypeId} {x ix : Operand} {o : Oper} (ho : o.op = .index T x ix) (hv : vop P (.index T x ix) s k) : Ends P n base w0 a ((execOp a.eval o).run P w) k := by
  simp only [vop] at hv
  split at hv
  · rename_i z q i hT hx hi
    obtain ⟨h0, h1, hk⟩ := hv
    refine Ends.same h (.lit _) hk ?_
    unfold execOp; simp only [ho, (h.ev_ x).val_ hx, (h.ev_ ix).val_ hi]
    refine run_v ?_
    unfold Instr.index asIntOf
    have hlt : i.toNat < z.size := by omega
    simp only [Sem.run_bind, Sem.run_pure, Result.andThen_ok, und_run hT]
    rw [if_pos h0]
    have : z[i.toNat]? = some (z[i.toNat]'hlt) := getElem?_pos z i.toNat hlt
    rw [this]
    simp [byteAt, hlt]
  · exact hv.elim

theorem slice_sound (h : RelH n base w0 hd s a w) {T : TypeId} {x : Operand} {lo hi mx : Option Operand} {o : Oper} (ho : o.op = .slice T x lo hi mx) (hv : vop P (.slice T x lo hi mx) s k) : Ends P n base w0 a ((execOp a.eval o).run P w) k := by
  cases mx with
  | some _ => exact hv.elim
  | none =>
    simp only [vop] at hv
    have hx := h.ev_ x
    have at_ : (∀ n e, P.underlying T ≠ some (.array n e)) → ∀ (d : TypeDesc), P.underlying T = some d → (execOp a.eval o).run P w = ((do pure (Next.value (← Instr.slice T (a.eval x) (lo.map a.eval) (hi.map a.eval) none)) : Sem Next)).run P w := by
      intro hna d hd'
      unfold execOp; simp only [ho]
      simp only [Sem.run_bind, Option.map_none]
      congr 1
      unfold Instr.sliceAt
      simp only [Sem.run_bind, und_run hd', Result.andThen_ok]
      cases d <;> first | rfl | exact absurd hd' (hna _ _)
    split at hv
    · rename_i z l hT e1 hl
      split at hv
      · rename_i e he
        obtain ⟨h0, h1, h2, hk⟩ := hv
        refine Ends.same h (.lit _) hk ?_
        rw [at_ (by rw [hT]; simp) _ hT]
        refine run_v ?_
        have hz := (h.ev_ x).val_ (toVal_lit e1)
        unfold Instr.slice
        simp only [Sem.run_bind, und_run hT, Result.andThen_ok, hz, bounds_run (P := P) h (isS := false) hl he h0 h1 h2 (Nat.le_refl _), Sem.run_pure]
        simp [Sem.run_bind, bounds_run (P := P) h (isS := false) hl he h0 h1 h2 (Nat.le_refl _)]
      · exact hv.elim
    · rename_i el sz m f l hT e1 hl
      split at hv
      · rename_i e he
        obtain ⟨hsz, h0, h1, h2, hk⟩ := hv
        rw [e1] at hx
        cases hx' : a.eval x with
        | slice A len cap =>
          rw [hx'] at hx
          cases hx with
          | sl _ _ _ _ _ u hc hm hsz' hll ha hr =>
            refine Ends.same h (v := .slice (if cap = l.toNat then A else A.map (·.add (l.toNat * sz))) (e.toNat - l.toNat) (cap - l.toNat)) (.sl sz (e.toNat - l.toNat) (fun i => f (l.toNat + i)) _ _ (fun i j => u (l.toNat + i) j) (by omega) (by omega) hsz' (fun i hi => hll _ (by omega)) (fun hp => ?_) (fun i j av hi hj => hr _ _ av (by omega) hj)) hk ?_
            · obtain ⟨ad, hA, hok, hcell⟩ := ha (by omega)
              refine ⟨ad.add (l.toNat * sz), by rw [hA, if_neg (by omega)]; rfl, by unfold Addr.add; split <;> exact hok, fun i j hi hj => ?_⟩
              have : (ad.add (l.toNat * sz)).add (i * sz + j) = ad.add ((l.toNat + i) * sz + j) := by
                rw [add_add, Nat.add_mul, Nat.add_assoc]
              rw [this]; exact hcell _ _ (by omega) hj
            · rw [at_ (by rw [hT]; simp) _ hT]
              refine run_v ?_
              unfold Instr.slice
              simp only [Sem.run_bind, und_run hT, Result.andThen_ok, hx', bounds_run (P := P) h (isS := true) hl he h0 h1 h2 hc, tsz_run hsz, Sem.run_pure]
        | _ => rw [hx'] at hx; cases hx
      · exact hv.elim
    · rename_i el j l hT e1 hl
      split at hv
      · rename_i ob hob
        split at hv
        · rename_i e he
          obtain ⟨hsz, h0, h1, h2, hk⟩ := hv
          rw [e1] at hx
          have hx' : a.eval x = hd j := by
            generalize a.eval x = vx at hx
            cases hx; rfl
          have hkm : j < s.mem.length := (List.getElem?_eq_some_iff.1 hob).1
          obtain ⟨hs0, vals, hown, _⟩ := h.me.obs j ob hob
          obtain ⟨A, cap, hform, hcap, hA⟩ : ∃ A cap, hd j = .slice A ob.n cap ∧ ob.n ≤ cap ∧ (0 < ob.n → ∃ g, A = some ⟨g, 0, none⟩) := by
            rcases hown.2 with ⟨e2, h00⟩ | ⟨g, cap, cur, hh, _, _, hc, _⟩
            · exact ⟨none, 0, by rw [e2, h00], by omega, fun h => by omega⟩
            · exact ⟨some ⟨g, 0, none⟩, cap, hh, hc, fun _ => ⟨g, rfl⟩⟩
          refine Ends.same h (v := .slice (if cap = l.toNat then A else A.map (·.add (l.toNat * ob.sz))) (e.toNat - l.toNat) (cap - l.toNat)) (.sub j ob.sz l.toNat (e.toNat - l.toNat) _ _ hkm (by omega) (fun hp => ?_)) hk ?_
          · obtain ⟨g, hg⟩ := hA (by omega)
            refine ⟨g, ob.n, cap, by rw [hform, hg], ?_⟩
            rw [if_neg (by omega), hg]
            simp only [Option.map_some]
            congr 1
            unfold Addr.add; split
            · rename_i h3; simp [h3]
            · simp
          · rw [at_ (by rw [hT]; simp) _ hT]
            refine run_v ?_
            unfold Instr.slice
            simp only [Sem.run_bind, und_run hT, Result.andThen_ok, hx', hform, bounds_run (P := P) h (isS := true) hl he h0 h1 h2 hcap, tsz_run hsz, Sem.run_pure]
        · exact hv.elim
      · exact hv.elim
    · exact hv.elim

theorem vop_sound (h : RelH n base w0 hd s a w) (o : Oper) (hv : vop P o.op s k) : Ends P n base w0 a ((execOp a.eval o).run P w) k := by
  obtain ⟨d, op, ty, pos, af, g⟩ := o
  cases op with
  | move x => exact Ends.same h (h.ev_ x) hv rfl
  | assign x => exact Ends.same h (h.ev_ x) hv rfl
  | pick c x y =>
    simp only [vop] at hv
    split at hv
    · rename_i t e
      have hc := (h.ev_ c).val_ (toVal_lit e)
      cases t with
      | true => exact Ends.same h (h.ev_ x) (hv.1 rfl) (by simp [execOp, hc, asBool, Sem.run_bind])
      | false => exact Ends.same h (h.ev_ y) (hv.2 rfl) (by simp [execOp, hc, asBool, Sem.run_bind])
    · exact hv.elim
  | box T x => exact box_sound h rfl hv
  | load T x =>
    obtain ⟨v, av, h1, h2, h3⟩ := load_sound h hv
    exact Ends.same h h2 h3 (by unfold execOp; exact run_v h1)
  | store T p x => exact store_sound h rfl hv
  | fieldAddr T x f => exact fieldAddr_sound h rfl hv
  | field T x f => exact field_sound h rfl hv
  | indexAddr T x ix => exact indexAddr_sound h rfl hv
  | index T x ix => exact index_sound h rfl hv
  | slice T x lo hi mx => exact slice_sound h rfl hv
  | binOp b T x y T2 =>
    simp only [vop] at hv
    split at hv
    · rename_i vx vy hx hy
      obtain ⟨v, hrun, hk⟩ := hv
      refine Ends.same h (.lit v) hk ?_
      unfold execOp
      simp only [(h.ev_ x).val_ hx, (h.ev_ y).val_ hy]
      exact run_v (hrun w)
    · exact hv.elim
  | unOp b T x =>
    simp only [vop] at hv
    split at hv
    · rename_i vx hx
      obtain ⟨v, hrun, hk⟩ := hv
      refine Ends.same h (.lit v) hk ?_
      unfold execOp
      simp only [(h.ev_ x).val_ hx]
      exact run_v (hrun w)
    · exact hv.elim
  | convert c d x =>
    simp only [vop] at hv
    split at hv
    · rename_i vx hx
      obtain ⟨v, hrun, hk⟩ := hv
      refine Ends.same h (.lit v) hk ?_
      unfold execOp
      simp only [(h.ev_ x).val_ hx]
      exact run_v (hrun w)
    · exact hv.elim
  | extract x i =>
    simp only [vop] at hv
    split at hv
    · rename_i vs e
      obtain ⟨hlt, hk⟩ := hv
      have hx := h.ev_ x
      rw [e] at hx
      cases hx' : a.eval x with
      | tuple arr =>
        rw [hx'] at hx
        cases hx with
        | tup _ us hl hr =>
          refine Ends.same h (v := us[i]'(by omega)) (av := vs.getD i .undef) ?_ hk ?_
          · rw [List.getD_eq_getElem?_getD, List.getElem?_eq_getElem hlt]
            exact hr i _ _ (List.getElem?_eq_getElem hlt) (List.getElem?_eq_getElem (by omega))
          · unfold execOp; simp only [hx']
            refine run_v ?_
            unfold Instr.extract
            simp [show i < us.length by omega]
      | _ => rw [hx'] at hx; cases hx
    · exact hv.elim
  | nilCheck x =>
    simp only [vop] at hv
    have hx := h.ev_ x
    split at hv
    · rename_i e
      have hx0 := hx
      rw [e] at hx
      cases hx' : a.eval x with
      | pointer ad =>
        rw [hx'] at hx
        cases hx with
        | ptr => exact Ends.same h hx0 (by rw [e] at hv ⊢; exact hv) (by unfold execOp; simp only [hx']; rfl)
      | _ => rw [hx'] at hx; cases hx
    · rename_i e
      have hx0 := hx
      rw [e] at hx
      cases hx' : a.eval x with
      | pointer ad =>
        rw [hx'] at hx
        cases hx with
        | bptr => exact Ends.same h hx0 (by rw [e] at hv ⊢; exact hv) (by unfold execOp; simp only [hx']; rfl)
      | _ => rw [hx'] at hx; cases hx
    · exact hv.elim
  | _ => exact hv.elim
end
end Go.Proofs.Ytnjnkhmcdkjekaa.V
