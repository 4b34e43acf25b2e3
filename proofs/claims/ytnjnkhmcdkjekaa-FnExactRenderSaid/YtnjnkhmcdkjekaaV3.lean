/- The value machine, part 3: single operations. -/
import Derived.Test.YtnjnkhmcdkjekaaV2
import Derived.Laws.CopyRow
namespace Go.Proofs.Ytnjnkhmcdkjekaa.V
open Go.RowKit
set_option linter.unusedVariables false
set_option linter.unusedSimpArgs false

def byteAt (s : ByteArray) (i : Nat) : Int := if h : i < s.size then ((s[i]'h).toNat : Int) else 0
def splice (l : List AV) (c : Nat) (cells : List AV) : List AV := l.take c ++ cells ++ l.drop (c + cells.length)
def upd (ob : Ob) (i c : Nat) (cells : List AV) : Ob :=
  { ob with f := if ob.n = 1 then (fun _ => splice (ob.f 0) c cells) else fun j => if j = i then splice (ob.f i) c cells else ob.f j }
def optInt (s : VS) (d : Int) : Option Operand → Option Int
  | none => some d
  | some x => match toVal (ev s x) with
    | some (.int _ n) => some n
    | _ => none

/-- what an operation that makes no call does -/
def vop (P : Program) (op : Op) (s : VS) (k : AV → VS → Prop) : Prop :=
  match op with
  | .move x => k (ev s x) s
  | .assign x => k (ev s x) s
  | .pick c a b => match ev s c with
    | .lit (.bool t) => (t = true → k (ev s a) s) ∧ (t = false → k (ev s b) s)
    | _ => False
  | .box T x => match tsz P T with
    | some n => 0 < n ∧ (avCells (ev s x)).length = n ∧ (avCells (ev s x)).all oneAV = true ∧ k (.ptr s.mem.length n 0 0) { s with mem := s.mem ++ [some ⟨T, n, 1, fun _ => avCells (ev s x)⟩] }
    | none => False
  | .load T x => match ev s x with
    | .ptr j sz i c => match s.mem[j]? with
      | some (some ob) => ob.sz = sz ∧ i < ob.n ∧ rd P T (ob.f i) c (fun av => k av s)
      | _ => False
    | .bptr cs => rd P T cs 0 (fun av => k av s)
    | _ => False
  | .store T p x => match ev s p, tsz P T with
    | .ptr j sz i c, some n => match s.mem[j]? with
      | some (some ob) => ob.sz = sz ∧ i < ob.n ∧ (avCells (ev s x)).length = n ∧ 0 < n ∧ c + n ≤ sz ∧ (avCells (ev s x)).all oneAV = true ∧ k .undef { s with mem := s.mem.set j (some (upd ob i c (avCells (ev s x)))) }
      | _ => False
    | _, _ => False
  | .fieldAddr T x f => match fieldOff P T f with
    | some (ft, off) => (∃ n, tsz P ft = some n ∧ n ≠ 0) ∧ match ev s x with
      | .ptr j sz i c => k (.ptr j sz i (c + off)) s
      | .bptr cs => off < cs.length ∧ k (.bptr (cs.drop off)) s
      | _ => False
    | none => False
  | .indexAddr T x ix => match P.underlying T, toVal (ev s ix) with
    | some (.slice e), some (.int q i) => match tsz P e with
      | some sz => match ev s x with
        | .sl sz' n f => sz' = sz ∧ 0 ≤ i ∧ i < n ∧ k (.bptr (f i.toNat)) s
        | .own j => match s.mem[j]? with
          | some (some ob) => ob.sz = sz ∧ 0 ≤ i ∧ i < ob.n ∧ k (.ptr j sz i.toNat 0) s
          | _ => False
        | _ => False
      | none => False
    | _, _ => False
  | .index T x ix => match P.underlying T, toVal (ev s x), toVal (ev s ix) with
    | some .string, some (.string z), some (.int q i) => 0 ≤ i ∧ i < z.size ∧ k (.lit (.int .u8 (byteAt z i.toNat))) s
    | _, _, _ => False
  | .slice T x lo hi none => match P.underlying T, ev s x, optInt s 0 lo with
    | some .string, .lit (.string z), some l => match optInt s z.size hi with
      | some h => 0 ≤ l ∧ l ≤ h ∧ h ≤ z.size ∧ k (.lit (.string (z.extract l.toNat h.toNat))) s
      | none => False
    | some (.slice e), .sl sz n f, some l => match optInt s n hi with
      | some h => tsz P e = some sz ∧ 0 ≤ l ∧ l ≤ h ∧ h ≤ n ∧ k (.sl sz (h.toNat - l.toNat) (fun i => f (l.toNat + i))) s
      | none => False
    | some (.slice e), .own j, some l => match s.mem[j]? with
      | some (some ob) => match optInt s ob.n hi with
        | some h => tsz P e = some ob.sz ∧ 0 ≤ l ∧ l ≤ h ∧ h ≤ ob.n ∧ k (.sub j ob.sz l.toNat (h.toNat - l.toNat)) s
        | none => False
      | _ => False
    | _, _, _ => False
  | .field T x f => match fieldOff P T f, ev s x with
    | some (ft, off), .agg cs => rd P ft cs off (fun av => k av s)
    | _, _ => False
  | .binOp b T x y _ => match toVal (ev s x), toVal (ev s y) with
    | some vx, some vy => ∃ v, (∀ w, (do eqGuard b T x y vx vy; binOp b T vx vy : Sem Value).run P w = .ok v w) ∧ k (.lit v) s
    | _, _ => False
  | .unOp b _ x => match toVal (ev s x) with
    | some vx => ∃ v, (∀ w, (Op.unary b vx).run P w = .ok v w) ∧ k (.lit v) s
    | _ => False
  | .convert a b x => match toVal (ev s x) with
    | some vx => ∃ v, (∀ w, (convert a b vx).run P w = .ok v w) ∧ k (.lit v) s
    | _ => False
  | .extract x i => match ev s x with
    | .tup vs => i < vs.length ∧ k (vs.getD i .undef) s
    | _ => False
  | .nilCheck x => match ev s x with
    | .ptr _ _ _ _ => k (ev s x) s
    | .bptr _ => k (ev s x) s
    | _ => False
  | _ => False

def Ends (P : Program) (n : Nat) (base : Fr) (w0 : World) (a : Act) (res : Result Next) (k : AV → VS → Prop) : Prop :=
  ∃ v w', (res = .ok (.value v) w' ∨ (res = .ok .skip w' ∧ v = undef)) ∧ ∃ hd' s' av, RelH n base w0 hd' s' a w' ∧ Rep w' (okOf s'.mem hd') hd' s'.mem.length av v ∧ k av s'

theorem setRow_grown (w : World) (b : Nat) (new : Array Value) : w.grownBy (w.setRow b new) (some b) := by
  refine ⟨rfl, rfl, rfl, by simp [World.setRow], fun k _ hk => ?_⟩
  simp only [World.setRow, Array.getElem?_modify]
  rw [if_neg (fun e => hk (by rw [e]))]
section
variable {P : Program} {n : Nat} {base : Fr} {w0 w : World} {hd : Nat → Value} {s : VS} {a : Act} {k : AV → VS → Prop}
theorem Ends.same (h : RelH n base w0 hd s a w) {v : Value} {av : AV} (hv : Rep w (okOf s.mem hd) hd s.mem.length av v) (hk : k av s) {res : Result Next} (hr : res = .ok (.value v) w) : Ends P n base w0 a res k :=
  ⟨v, w, .inl hr, hd, s, av, h, hv, hk⟩

/-- the cells of an own object -/
theorem RelH.cells_ (h : RelH n base w0 hd s a w) {j : Nat} {ob : Ob} (hj : s.mem[j]? = some (some ob)) {b n' c' : Nat} (hb : hd j = .slice (some ⟨b, 0, none⟩) n' c') {i : Nat} (hi : i < ob.n) :
    ∀ (c : Nat) av, (ob.f i)[c]? = some av → ∃ u, w.cell? ((⟨b, i * ob.sz, none⟩ : Addr).add c) = some u ∧ Rep w (okOf s.mem hd) hd s.mem.length av u := by
  intro c av hc
  obtain ⟨hs, vals, ho, hr⟩ := h.me.obs j ob hj
  obtain ⟨hl, hr⟩ := hr i hi
  obtain ⟨u, hu, _, hrep⟩ := hr c av hc
  have hcl : c < ob.sz := by rw [← hl]; exact (List.getElem?_eq_some_iff.1 hc).1
  have hlt : i * ob.sz + c < ob.n * ob.sz := by
    have : (i + 1) * ob.sz ≤ ob.n * ob.sz := Nat.mul_le_mul_right _ (by omega)
    rw [Nat.add_mul] at this; omega
  refine ⟨u, ?_, hrep⟩
  have hn : n' = ob.n := by
    rcases ho.2 with ⟨e, h0⟩ | ⟨g, cap, cur, e, _⟩
    · rw [hb] at e; simp at e
    · rw [hb] at e; simp at e; exact e.2.1
  rw [hb, hn] at ho
  have := ho.cellAt (i * ob.sz + c) hlt
  rw [hu] at this
  have e : (⟨b, i * ob.sz, none⟩ : Addr).add c = ⟨b, i * ob.sz + c, none⟩ := by
    unfold Addr.add; split
    · rename_i h0; simp [h0]
    · rfl
  rw [e]; exact this

theorem fieldOff_run {T : TypeId} {f ft off : Nat} (h : fieldOff P T f = some (ft, off)) : ∃ fs fl, P.underlying T = some (.struct fs) ∧ fs[f]? = some fl ∧ fl.type = ft ∧ fl.offset = off := by
  unfold fieldOff at h
  split at h
  · rename_i fs e
    obtain ⟨fl, h1, h2⟩ := Option.map_eq_some_iff.1 h
    simp only [Prod.mk.injEq] at h2
    exact ⟨fs, fl, e, h1, h2.1, h2.2⟩
  · simp at h

theorem fieldAt_run {T : TypeId} {f ft off m : Nat} (h : fieldOff P T f = some (ft, off)) (hm : tsz P ft = some m) (h0 : m ≠ 0) (ad : Addr) (w : World) : (Instr.fieldAt T (.pointer (some ad)) f).run P w = .ok (.pointer (some (ad.add off))) w := by
  obtain ⟨fs, fl, h1, h2, rfl, rfl⟩ := fieldOff_run h
  unfold Instr.fieldAt fieldPlace
  simp only [Sem.run_bind, und_run h1, Result.andThen_ok, h2, Instr.sureAddr, Sem.run_pure, tsz_run hm, h0, if_false]

/-- a new object in a new block -/
theorem RelH.newC (h : RelH n base w0 hd s a w) {T sz cnt cap : Nat} {vals : List Value} {f : Nat → List AV} (hs : 0 < sz) (hl : vals.length = cap * sz) (hle : cnt ≤ cap) (hcnt : cap ≤ 9223372036854775807)
    (hf : ∀ i, i < cnt → (f i).length = sz ∧ ∀ (j : Nat) av, (f i)[j]? = some av → ∃ u, vals[i * sz + j]? = some u ∧ u.oneCell' = true ∧ Rep w (okOf s.mem hd) hd s.mem.length av u) :
    RelH n base w0 (fun j => if j = s.mem.length then .slice (some ⟨w.heap.size, 0, none⟩) cnt cap else hd j) { s with mem := s.mem ++ [some ⟨T, sz, cnt, f⟩] } a (w.alloc (.cells vals.toArray T)) := by
  have hg : w.grownBy (w.alloc (.cells vals.toArray T)) none := World.grownBy_alloc w _ none
  have hok : ∀ ad u, okOf s.mem hd ad.block → w.cell? ad = some u → (w.alloc (.cells vals.toArray T)).cell? ad = some u ∧ okOf (s.mem ++ [some ⟨T, sz, cnt, f⟩]) (fun j => if j = s.mem.length then .slice (some ⟨w.heap.size, 0, none⟩) cnt cap else hd j) ad.block := by
    intro ad u ho hc
    have hlt := World.block_lt_of_cell? w _ hc
    refine ⟨cell_same (hg.block _ hlt (by simp)) hc, fun k ob hk => ?_⟩
    simp only
    split
    · simp [Value.ownBlock]; omega
    · rename_i hne
      rw [List.getElem?_append] at hk
      split at hk
      · exact ho k ob hk
      · rw [List.getElem?_eq_none (by simp; omega)] at hk; simp at hk
  have hhd : ∀ k, k < s.mem.length → (fun j => if j = s.mem.length then (Value.slice (some ⟨w.heap.size, 0, none⟩) cnt cap) else hd j) k = hd k := by
    intro k hk; simp only; rw [if_neg (by omega)]
  have hlen : s.mem.length ≤ (s.mem ++ [some (⟨T, sz, cnt, f⟩ : Ob)]).length := by simp
  have hfixm : ∀ k, k < s.fix → k ≠ s.mem.length := fun k hk e => by have := h.fixl; omega
  refine ⟨h.defers, h.size, h.below.grown hg (by simp), h.le, by have := h.fixl; simp; omega, fun k hk => (if_neg (hfixm k hk)).trans (h.fix k hk), h.mp.grown hg (by simp), fun t => (h.tm t).mono hok hhd hlen, ⟨fun k ob hk b hb => ?_, fun k ob hk => ?_, fun k hk => ?_, fun k k' ob ob' hk hk' hne => ?_⟩⟩
  · split at hb
    · simp only [Value.ownBlock, Option.some.injEq] at hb
      subst hb
      exact h.le _ h.below.size
    · rename_i hne
      rw [List.getElem?_append] at hk
      split at hk
      · exact h.me.alw k ob hk b hb
      · rw [List.getElem?_eq_none (by simp; omega)] at hk; simp at hk
  · rw [List.getElem?_append] at hk
    split at hk
    · rename_i hlt
      obtain ⟨hs', vs, ho, hr⟩ := h.me.obs k ob hk
      refine ⟨hs', vs, by rw [if_neg (by omega)]; exact ho.kept hg (by cases (hd k).ownBlock <;> simp), fun i hi => ⟨(hr i hi).1, fun j av hj => ?_⟩⟩
      obtain ⟨u, h1, h2, h3⟩ := (hr i hi).2 j av hj
      exact ⟨u, h1, h2, h3.mono hok hhd hlen⟩
    · rename_i hge
      have hk0 : k = s.mem.length := by
        have := (List.getElem?_eq_some_iff.1 hk).1
        simp at this; omega
      subst hk0
      simp only [Nat.sub_self, List.getElem?_cons_zero, Option.some.injEq] at hk
      subst hk
      have hcs : cnt * sz ≤ cap * sz := Nat.mul_le_mul_right _ hle
      refine ⟨hs, vals.take (cnt * sz), ⟨by rw [List.length_take, hl]; exact Nat.min_eq_left hcs, .inr ⟨w.heap.size, cap, vals.toArray, by simp, Nat.zero_le _, heap_alloc_new w _, hle, by simp only [maxLen]; omega, by simp [hl], by simp⟩⟩, fun i hi => ⟨(hf i hi).1, fun j av hj => ?_⟩⟩
      obtain ⟨u, h1, h2, h3⟩ := (hf i hi).2 j av hj
      have hjs : j < sz := by rw [← (hf i hi).1]; exact (List.getElem?_eq_some_iff.1 hj).1
      have hlt : i * sz + j < cnt * sz := by
        have : (i + 1) * sz ≤ cnt * sz := Nat.mul_le_mul_right _ hi
        rw [Nat.add_mul] at this; omega
      exact ⟨u, by rw [List.getElem?_take, if_pos hlt]; exact h1, h2, h3.mono hok hhd hlen⟩
  · simp only [List.length_append, List.length_cons, List.length_nil] at hk
    split
    · exact ⟨_, _, _, rfl⟩
    · exact h.me.hds k (by omega)
  · have old : ∀ q oq, (s.mem ++ [some (⟨T, sz, cnt, f⟩ : Ob)])[q]? = some (some oq) → q ≠ s.mem.length → s.mem[q]? = some (some oq) := by
      intro q oq hq hqn
      rw [List.getElem?_append] at hq
      split at hq
      · exact hq
      · rw [List.getElem?_eq_none (by simp; omega)] at hq; simp at hq
    have low : ∀ q oq, s.mem[q]? = some (some oq) → (hd q).ownBlock ≠ some w.heap.size := by
      intro q oq hq e
      obtain ⟨_, vs, ho, _⟩ := h.me.obs q oq hq
      have := (own_lt ho e).1
      omega
    by_cases e1 : k = s.mem.length
    · have e2 : k' ≠ s.mem.length := by omega
      rw [if_pos e1, if_neg e2]
      right
      have := low k' ob' (old k' ob' hk' e2)
      simp only [Value.ownBlock]
      exact fun e => this e.symm
    · rw [if_neg e1]
      by_cases e2 : k' = s.mem.length
      · rw [if_pos e2]
        right
        have := low k ob (old k ob hk e1)
        simp only [Value.ownBlock]
        exact this
      · rw [if_neg e2]
        exact h.me.apart k k' ob ob' (old k ob hk e1) (old k' ob' hk' e2) hne

theorem RelH.new (h : RelH n base w0 hd s a w) {T sz cnt : Nat} {vals : List Value} {f : Nat → List AV} (hs : 0 < sz) (hl : vals.length = cnt * sz) (hcnt : cnt ≤ 9223372036854775807)
    (hf : ∀ i, i < cnt → (f i).length = sz ∧ ∀ (j : Nat) av, (f i)[j]? = some av → ∃ u, vals[i * sz + j]? = some u ∧ u.oneCell' = true ∧ Rep w (okOf s.mem hd) hd s.mem.length av u) :
    RelH n base w0 (fun j => if j = s.mem.length then .slice (some ⟨w.heap.size, 0, none⟩) cnt cnt else hd j) { s with mem := s.mem ++ [some ⟨T, sz, cnt, f⟩] } a (w.alloc (.cells vals.toArray T)) :=
  h.newC hs hl (Nat.le_refl _) hcnt hf

theorem splice_length (l : List AV) (c : Nat) (cells : List AV) (h : c + cells.length ≤ l.length) : (splice l c cells).length = l.length := by
  unfold splice; simp; omega
theorem splice_get {l : List AV} {c : Nat} {cells : List AV} (h : c + cells.length ≤ l.length) (j : Nat) : (splice l c cells)[j]? = if c ≤ j ∧ j < c + cells.length then cells[j - c]? else l[j]? := by
  unfold splice
  by_cases h1 : j < c
  · rw [if_neg (by omega), List.append_assoc, List.getElem?_append_left (by simp; omega), List.getElem?_take, if_pos h1]
  · by_cases h2 : j < c + cells.length
    · rw [if_pos ⟨by omega, h2⟩, List.getElem?_append_left (by simp; omega), List.getElem?_append_right (by simp; omega)]
      simp only [List.length_take]
      rw [Nat.min_eq_left (by omega)]
    · rw [if_neg (by omega), List.getElem?_append_right (by simp; omega), List.getElem?_drop]
      congr 1
      simp; omega

/-- a store into an own object -/
theorem RelH.store (h : RelH n base w0 hd s a w) {q : Nat} {ob : Ob} (hq : s.mem[q]? = some (some ob)) {b n' c' : Nat} (hb : hd q = .slice (some ⟨b, 0, none⟩) n' c') {i c : Nat} {cells : List AV} (hi : i < ob.n) (hc : c + cells.length ≤ ob.sz)
    {vs : List Value} (hl : vs.length = cells.length) (hv : ∀ (j : Nat) av, cells[j]? = some av → ∃ u, vs[j]? = some u ∧ Rep w (okOf s.mem hd) hd s.mem.length av u) (h1 : ∀ u ∈ vs, u.oneCell' = true) :
    ∃ w', (storeCells ⟨b, i * ob.sz + c, none⟩ vs).run P w = .ok () w' ∧ RelH n base w0 hd { s with mem := s.mem.set q (some (upd ob i c cells)) } a w' := by
  obtain ⟨hs, vals, ho, hr⟩ := h.me.obs q ob hq
  rcases id ho.2 with ⟨e, _⟩ | ⟨g, cap, cur, e, hbg, hgg, hnc, hcm, hcs, htake⟩
  · rw [hb] at e; simp at e
  rw [hb] at e
  simp only [Value.slice.injEq, Option.some.injEq, Addr.mk.injEq, and_true] at e
  obtain ⟨rfl, rfl, rfl⟩ := e
  have hin : (i + 1) * ob.sz ≤ ob.n * ob.sz := Nat.mul_le_mul_right _ (by omega)
  rw [Nat.add_mul, Nat.one_mul] at hin
  have hnc' : ob.n * ob.sz ≤ c' * ob.sz := Nat.mul_le_mul_right _ hnc
  have hrun := run_storeCells_at (P := P) b (i * ob.sz + c) ob.ty vs 0 cur w hgg (by rw [hl, hcs]; omega) h1
  rw [Nat.add_zero] at hrun
  generalize hnew : (cur.toList.take (i * ob.sz + c) ++ vs ++ cur.toList.drop (i * ob.sz + c + vs.length)).toArray = new at hrun
  refine ⟨_, hrun, ?_⟩
  have hng : (w.setRow b new).heap[b]? = some (.cells new ob.ty (0, 0)) := setRow_heap w b cur new ob.ty (0, 0) hgg
  have hgr : w.grownBy (w.setRow b new) (some b) := setRow_grown w b new
  have hlen : (s.mem.set q (some (upd ob i c cells))).length = s.mem.length := by simp
  have live : ∀ k ok', (s.mem.set q (some (upd ob i c cells)))[k]? = some (some ok') → ∃ ok0, s.mem[k]? = some (some ok0) ∧ (k ≠ q → ok0 = ok') := by
    intro k ok' hk
    by_cases e : q = k
    · subst e; exact ⟨ob, hq, fun h => absurd rfl h⟩
    · rw [List.getElem?_set_ne e] at hk; exact ⟨ok', hk, fun _ => rfl⟩
  have hok : ∀ ad u, okOf s.mem hd ad.block → w.cell? ad = some u → (w.setRow b new).cell? ad = some u ∧ okOf (s.mem.set q (some (upd ob i c cells))) hd ad.block := by
    intro ad u hoA hcA
    have hne : b ≠ ad.block := fun e => hoA q ob hq (by rw [hb, e]; rfl)
    refine ⟨cell_same (hgr.block _ (World.block_lt_of_cell? w _ hcA) (by simpa using fun e => hne e.symm)) hcA, fun k ok' hk => ?_⟩
    obtain ⟨ok0, h0, _⟩ := live k ok' hk
    exact hoA k ok0 h0
  have hmay : base.may b := h.me.alw q ob hq b (by rw [hb]; rfl)
  have hmp : MapRel base.P base.may (w.setRow b new) s.maps := h.mp.grownRow ho (by rw [hb]; exact hgr)
  refine ⟨h.defers, h.size, h.below.grown hgr (fun k hk => by simp only [Option.some.injEq] at hk; rw [← hk]; exact hmay), h.le, by simpa using h.fixl, h.fix, hmp, fun t => (h.tm t).mono hok (fun _ _ => rfl) (by simp), ⟨fun k ok' hk b' hb' => ?_, fun k ok' hk => ?_, fun k hk => h.me.hds k (by simpa using hk), fun k k' o o' hk hk' hne => ?_⟩⟩
  · obtain ⟨ok0, h0, _⟩ := live k ok' hk
    exact h.me.alw k ok0 h0 b' hb'
  · by_cases e : q = k
    · subst e
      rw [List.getElem?_set_self (List.getElem?_eq_some_iff.1 hq).1] at hk
      simp only [Option.some.injEq] at hk
      subst hk
      have hfi := hr i hi
      refine ⟨hs, new.toList.take (ob.n * ob.sz), ⟨?_, .inr ⟨b, c', new, hb, hbg, hng, hnc, hcm, ?_, rfl⟩⟩, ?_⟩
      · simp only [upd]
        rw [List.length_take, Nat.min_eq_left]
        rw [← hnew]; simp; rw [hl]; omega
      · simp only [upd]; rw [← hnew]; simp; omega
      · intro i' hi'
        have hi'' : i' < ob.n := hi'
        have hin2 : (i' + 1) * ob.sz ≤ ob.n * ob.sz := Nat.mul_le_mul_right _ (by omega)
        rw [Nat.add_mul, Nat.one_mul] at hin2
        -- a cell behind the store
        have get : ∀ p : Nat, p < ob.n * ob.sz → (new.toList.take (ob.n * ob.sz))[p]? = if i * ob.sz + c ≤ p ∧ p < i * ob.sz + c + cells.length then vs[p - (i * ob.sz + c)]? else vals[p]? := by
          intro p hp
          rw [List.getElem?_take, if_pos hp, ← hnew]
          simp only [List.toList_toArray]
          by_cases h1 : p < i * ob.sz + c
          · rw [if_neg (by omega), List.append_assoc, List.getElem?_append_left (by simp; omega), List.getElem?_take, if_pos h1, ← htake, List.getElem?_take, if_pos hp]
          · by_cases h2 : p < i * ob.sz + c + cells.length
            · rw [if_pos ⟨by omega, h2⟩, List.getElem?_append_left (by simp; omega), List.getElem?_append_right (by simp; omega)]
              simp only [List.length_take, Array.length_toList]
              rw [Nat.min_eq_left (by omega)]
            · rw [if_neg (by omega), List.getElem?_append_right (by simp; omega), List.getElem?_drop, ← htake, List.getElem?_take, if_pos hp]
              congr 1
              simp; omega
        have key : ∀ (L : List AV), L = (if i' = i then splice (ob.f i) c cells else ob.f i') → L.length = ob.sz ∧ ∀ (j : Nat) av, L[j]? = some av → ∃ u, (new.toList.take (ob.n * ob.sz))[i' * ob.sz + j]? = some u ∧ u.oneCell' = true ∧ Rep (w.setRow b new) (okOf (s.mem.set q (some (upd ob i c cells))) hd) hd (s.mem.set q (some (upd ob i c cells))).length av u := by
          intro L hL
          by_cases e : i' = i
          · subst e
            rw [if_pos rfl] at hL
            subst hL
            refine ⟨by rw [splice_length _ _ _ (by rw [hfi.1]; exact hc)]; exact hfi.1, fun j av hj => ?_⟩
            have hjl : j < ob.sz := by
              have := (List.getElem?_eq_some_iff.1 hj).1
              rw [splice_length _ _ _ (by rw [hfi.1]; exact hc), hfi.1] at this
              exact this
            rw [splice_get (by rw [hfi.1]; exact hc)] at hj
            rw [get _ (by omega)]
            split at hj
            · rename_i hin3
              rw [if_pos (by omega)]
              obtain ⟨u, hu, hrep⟩ := hv _ av hj
              refine ⟨u, ?_, h1 u (List.mem_of_getElem? hu), hrep.mono hok (fun _ _ => rfl) (by simp)⟩
              rw [show i' * ob.sz + j - (i' * ob.sz + c) = j - c by omega]; exact hu
            · rename_i hin3
              rw [if_neg (by omega)]
              obtain ⟨u, hu, h1u, hrep⟩ := hfi.2 j av hj
              exact ⟨u, hu, h1u, hrep.mono hok (fun _ _ => rfl) (by simp)⟩
          · rw [if_neg e] at hL
            subst hL
            have hfi' := hr i' hi''
            refine ⟨hfi'.1, fun j av hj => ?_⟩
            have hjl : j < ob.sz := by
              have := (List.getElem?_eq_some_iff.1 hj).1
              rw [hfi'.1] at this; exact this
            obtain ⟨u, hu, h1u, hrep⟩ := hfi'.2 j av hj
            refine ⟨u, ?_, h1u, hrep.mono hok (fun _ _ => rfl) (by simp)⟩
            rw [get _ (by omega), if_neg, hu]
            intro ⟨g1, g2⟩
            rcases Nat.lt_or_ge i' i with hlt | hge
            · have : (i' + 1) * ob.sz ≤ i * ob.sz := Nat.mul_le_mul_right _ (by omega)
              rw [Nat.add_mul, Nat.one_mul] at this; omega
            · have : (i + 1) * ob.sz ≤ i' * ob.sz := Nat.mul_le_mul_right _ (by omega)
              rw [Nat.add_mul, Nat.one_mul] at this; omega
        refine key _ ?_
        simp only [upd]
        by_cases h1n : ob.n = 1
        · have : i' = i := by omega
          have : i = 0 := by omega
          subst this; subst i'
          simp [h1n]
        · simp [h1n]
    · rw [List.getElem?_set_ne e] at hk
      obtain ⟨hs', vs', ho', hr'⟩ := h.me.obs k ok' hk
      have hne : (hd k).ownBlock = none ∨ (hd k).ownBlock ≠ some b := by
        have := h.me.apart k q ok' ob hk hq (fun e' => e e'.symm)
        rw [hb] at this; exact this
      refine ⟨hs', vs', ho'.kept hgr hne, fun i hi => ⟨(hr' i hi).1, fun j av hj => ?_⟩⟩
      obtain ⟨u, g1, g2, g3⟩ := (hr' i hi).2 j av hj
      exact ⟨u, g1, g2, g3.mono hok (fun _ _ => rfl) (by simp)⟩
  · obtain ⟨o1, g1, _⟩ := live k o hk
    obtain ⟨o2, g2, _⟩ := live k' o' hk'
    exact h.me.apart k k' o1 o2 g1 g2 hne
end
end Go.Proofs.Ytnjnkhmcdkjekaa.V
