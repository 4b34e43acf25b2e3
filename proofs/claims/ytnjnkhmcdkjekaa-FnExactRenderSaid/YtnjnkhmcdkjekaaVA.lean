/- The value machine, part A (between 7 and 8): made slices, texts as bytes and bytes as texts. -/
import Derived.Test.YtnjnkhmcdkjekaaV7
import Derived.Laws.MakeOwn
import Derived.Laws.IdiomStrings
namespace Go.Proofs.Ytnjnkhmcdkjekaa.V
open Go.RowKit
set_option linter.unusedVariables false
set_option linter.unusedSimpArgs false

def vmake (P : Program) (t : TypeId) (x y : Operand) (s : VS) (k : AV → VS → Prop) : Prop := match P.underlying t with
  | some (.slice e) => match tinfo P e, toVal (ev s x), toVal (ev s y) with
    | some (z, sz, by_), some (.int _ l), some (.int _ c) => l ≤ c ∧ 0 ≤ l ∧ z.cells.size = sz ∧ 0 < sz ∧ (z.cells.toList.all fun v => v.oneCell') = true ∧ (by_ : Int) * c ≤ 281474976710656 ∧ c ≤ 9223372036854775807 ∧
        k (.own s.mem.length) { s with mem := s.mem ++ [some ⟨e, sz, l.toNat, fun _ => z.cells.toList.map .lit⟩] }
    | _, _, _ => False
  | _ => False
def byteCells (z : ByteArray) (i : Nat) : List AV := [.lit (.int .u8 (byteAt z i))]
/-- a text's bytes -/
def vconvS (P : Program) (e : TypeId) (s : VS) (k : AV → VS → Prop) : AV → Prop
  | .lit (.string z) => P.underlying e = some (.int .u8) ∧ z.size ≤ 9223372036854775807 ∧ k (.sl 1 z.size (byteCells z)) s
  | _ => False
/-- bytes as a text -/
def vconvB (P : Program) (e : TypeId) (s : VS) (k : AV → VS → Prop) (av : AV) : Prop := match contents s.mem 1 av with
  | some (n, f) => P.underlying e = some (.int .u8) ∧ ∃ z : ByteArray, z.size = n ∧ (∀ i, i < n → f i = byteCells z i) ∧ k (.lit (.string z)) s
  | none => False
def vop3 (P : Program) (op : Op) (s : VS) (k : AV → VS → Prop) : Prop := match op with
  | .makeSlice t x y => vmake P t x y s k
  | .convert a b x => match P.underlying a, P.underlying b with
    | some .string, some (.slice e) => vconvS P e s k (ev s x)
    | some (.slice e), some .string => vconvB P e s k (ev s x)
    | _, _ => vop2 P (.convert a b x) s k
  | op => vop2 P op s k

section
variable {P : Program} {n : Nat} {base : Fr} {w0 w : World} {hd : Nat → Value} {s : VS} {a : Act} {k : AV → VS → Prop}
theorem toVal_int (h : RelH n base w0 hd s a w) {x : Operand} {v : Value} (e : toVal (ev s x) = some v) : a.eval x = v := (h.ev_ x).val_ e
theorem make_sound (h : RelH n base w0 hd s a w) {t : TypeId} {x y : Operand} {o : Oper} (ho : o.op = .makeSlice t x y) (hv : vmake P t x y s k) : Ends P n base w0 a ((execOp a.eval o).run P w) k := by
  unfold vmake at hv
  split at hv
  · rename_i e ht
    split at hv
    · rename_i z sz by_ q l q' c hinfo hx hy
      obtain ⟨hlc, h0, hz, hsz, h1, hb, hm, hk⟩ := hv
      have hln : l.toNat ≤ c.toNat := by omega

      obtain ⟨ti, hi1, hi2, hi3, hi4⟩ := tinfo_run hinfo
      subst hi3 hi4
      have ex := toVal_int h hx
      have ey := toVal_int h hy
      have hnew := h.newC (T := e) (sz := ti.size) (cnt := l.toNat) (cap := c.toNat) (vals := (madeCells z.cells (c.toNat * ti.size)).toList) (f := fun _ => z.cells.toList.map .lit) hsz (by simp [size_madeCells]) hln (by omega) (fun i hi => ⟨by simp [hz], fun j av hj => by
        simp only [List.getElem?_map, Option.map_eq_some_iff] at hj
        obtain ⟨u, q1, rfl⟩ := hj
        have hj2 : j < ti.size := by rw [← hz]; simpa using (List.getElem?_eq_some_iff.1 q1).1
        have hlt : i * ti.size + j < c.toNat * ti.size := by
          have : (i + 1) * ti.size ≤ c.toNat * ti.size := Nat.mul_le_mul_right _ (by omega)
          rw [Nat.add_mul] at this; omega
        refine ⟨u, ?_, List.all_eq_true.1 h1 u (List.mem_of_getElem? q1), .lit u⟩
        have e2 : (i * ti.size + j) % z.cells.size = j := by rw [hz, Nat.mul_comm, Nat.mul_add_mod, Nat.mod_eq_of_lt hj2]
        have hu : z.cells[j]? = some u := by simpa using q1
        have hj3 : j < z.cells.size := by omega
        simp [madeCells, hlt, e2]
        rw [getElem!_pos z.cells j hj3]
        exact Option.some.inj (by rw [← Array.getElem?_eq_getElem hj3, hu])⟩)
      refine ⟨.slice (some ⟨w.heap.size, 0, none⟩) l.toNat c.toNat, _, .inl ?_, _, _, _, hnew, ?_, hk⟩
      · unfold execOp; simp only [ho]
        refine run_v ?_
        rw [ex, ey, run_make w t e ti z ht hi1 hi2 q q' l c h0 hlc hb hm]
      · have := Rep.own (w := w.alloc (.cells (madeCells z.cells (c.toNat * ti.size)).toList.toArray e)) (ok := okOf (s.mem ++ [some ⟨e, ti.size, l.toNat, fun _ => z.cells.toList.map .lit⟩]) (fun j => if j = s.mem.length then .slice (some ⟨w.heap.size, 0, none⟩) l.toNat c.toNat else hd j)) (hd := fun j => if j = s.mem.length then .slice (some ⟨w.heap.size, 0, none⟩) l.toNat c.toNat else hd j) (m := (s.mem ++ [some (⟨e, ti.size, l.toNat, fun _ => z.cells.toList.map .lit⟩ : Ob)]).length) s.mem.length (by simp)
        simpa using this
    · exact hv.elim
  · exact hv.elim

theorem convS_sound (h : RelH n base w0 hd s a w) {t1 t2 e : TypeId} {x : Operand} {o : Oper} (ho : o.op = .convert t1 t2 x) (h1 : P.underlying t1 = some .string) (h2 : P.underlying t2 = some (.slice e)) (hv : vconvS P e s k (ev s x)) :
    Ends P n base w0 a ((execOp a.eval o).run P w) k := by
  have hx := h.ev_ x
  generalize ev s x = ax at hv hx
  unfold vconvS at hv
  split at hv
  · rename_i z
    obtain ⟨he, hm, hk⟩ := hv
    have ex : a.eval x = .string z := by
      generalize a.eval x = v at hx
      cases hx; rfl
    have hrun := run_bytes_of_string w t1 t2 e z h1 h2 he
    obtain ⟨w', hw'⟩ : ∃ w', w' = (w.drew.alloc (.cells (bytesRow z (grownCap w z.size 0 e)) e ((bytesRow z (grownCap w z.size 0 e)).size, (bytesRow z (grownCap w z.size 0 e)).size + 1))) := ⟨_, rfl⟩
    rw [← hw'] at hrun
    have hg0 := World.grownBy_alloc w.drew (.cells (bytesRow z (grownCap w z.size 0 e)) e ((bytesRow z (grownCap w z.size 0 e)).size, (bytesRow z (grownCap w z.size 0 e)).size + 1)) none
    have hg : w.grownBy w' none := by rw [hw']; exact ⟨hg0.os, hg0.tape, hg0.output, hg0.size, hg0.block⟩
    have low : ∀ q oq, s.mem[q]? = some (some oq) → (hd q).ownBlock ≠ some w.heap.size := by
      intro q oq hq e0
      obtain ⟨_, vals, ho', _⟩ := h.me.obs q oq hq
      have := (own_lt ho' e0).1
      omega
    have hcell : ∀ j, j < z.size → w'.cell? ⟨w.heap.size, j, none⟩ = some (.int .u8 (byteAt z j)) := by
      intro j hj
      have hj' : j < z.data.size := hj
      have hb := bytesRow_at z (grownCap w z.size 0 e) j hj'
      have e3 : byteAt z j = (z.data[j].toNat : Int) := by unfold byteAt; rw [dif_pos hj]; rfl
      rw [e3, hw']
      exact (World.cell?_alloc_mark w.drew _ _ _ j).trans hb
    refine ⟨.slice (some ⟨w.heap.size, 0, none⟩) z.size (grownCap w z.size 0 e), w', .inl ?_, hd, s, .sl 1 z.size (byteCells z), h.grown hg, ?_, hk⟩
    · unfold execOp; simp only [ho]
      exact run_v (by rw [ex]; exact hrun)
    · refine .sl 1 z.size (byteCells z) _ _ (fun i _ => .int .u8 (byteAt z i)) (grownCap_ge w z.size 0 e) hm (by omega) (fun i hi => rfl) (fun _ => ⟨_, rfl, low, fun i j hi hj => ?_⟩) (fun i j av hi hj => ?_)
      · have hj0 : j = 0 := by omega
        subst hj0
        have := hcell i hi
        simp only [Nat.mul_one, Nat.add_zero]
        unfold Addr.add
        split
        · rename_i h0; subst h0; exact this
        · simpa using this
      · cases j with
        | zero => simp [byteCells] at hj; subst hj; exact .lit _
        | succ j => simp [byteCells] at hj
  · exact hv.elim

theorem convB_sound (h : RelH n base w0 hd s a w) {t1 t2 e : TypeId} {x : Operand} {o : Oper} (ho : o.op = .convert t1 t2 x) (h1 : P.underlying t1 = some (.slice e)) (h2 : P.underlying t2 = some .string) (hv : vconvB P e s k (ev s x)) :
    Ends P n base w0 a ((execOp a.eval o).run P w) k := by
  unfold vconvB at hv
  split at hv
  · rename_i m f hc
    obtain ⟨he, z, rfl, hf, hk⟩ := hv
    obtain ⟨A, c, u, ex, hmc, hcell, hr⟩ := src_of h hc
    have hu : ∀ i, i < z.size → u i 0 = .int .u8 (byteAt z i) := by
      intro i hi
      have := (hr i hi).2 0 (.lit (.int .u8 (byteAt z i))) (by rw [hf i hi]; rfl)
      have h3 := this.1
      generalize u i 0 = q at h3
      cases h3; rfl
    refine Ends.same h (.lit (.string z)) hk ?_
    unfold execOp; simp only [ho]
    refine run_v ?_
    rw [ex]
    cases A with
    | none =>
      have hz : z.size = 0 := by
        rcases Nat.eq_zero_or_pos z.size with h0 | h0
        · exact h0
        · obtain ⟨_, e1, _⟩ := hcell h0; cases e1
      have ez : z = ⟨#[]⟩ := by
        obtain ⟨d⟩ := z
        have hz' : d.size = 0 := hz
        have : d = #[] := Array.eq_empty_of_size_eq_zero hz'
        rw [this]
      rw [hz, run_convert_bytes_string w t1 t2 e none 0 c h1 he h2, ez]
      simp [Conv.bytesToString]
      rfl
    | some ad =>
      have hl : z.size = z.data.toList.length := by simp
      have hb := run_convert_bytes_back w t1 t2 e ad c z.data.toList h1 he h2 (fun j hj => by
        have hj' : j < z.size := by rw [hl]; exact hj
        obtain ⟨ad', e1, hcell⟩ := hcell (by omega)
        cases e1
        have := hcell j 0 hj' (by omega)
        rw [hu j hj', Nat.mul_one, Nat.add_zero] at this
        rw [this]
        unfold byteAt
        rw [dif_pos hj']
        simp
        rfl)
      rw [← hl] at hb
      simpa using hb
  · exact hv.elim
theorem vop3_sound (h : RelH n base w0 hd s a w) (o : Oper) (hv : vop3 P o.op s k) : Ends P n base w0 a ((execOp a.eval o).run P w) k := by
  unfold vop3 at hv
  split at hv
  · rename_i t x y hc
    exact make_sound h hc hv
  · rename_i t1 t2 x hc
    split at hv
    · rename_i e h1 h2; exact convS_sound h hc h1 h2 hv
    · rename_i e h1 h2; exact convB_sound h hc h1 h2 hv
    · exact vop2_sound h o (by rw [hc]; exact hv)
  · exact vop2_sound h o hv
end
end Go.Proofs.Ytnjnkhmcdkjekaa.V
