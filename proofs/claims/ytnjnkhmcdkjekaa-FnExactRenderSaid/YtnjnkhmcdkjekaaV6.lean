/- The value machine, part 6: len, append, literals and make of slices, structs built. -/
import Derived.Test.YtnjnkhmcdkjekaaV5
namespace Go.Proofs.Ytnjnkhmcdkjekaa.V
open Go.RowKit
set_option linter.unusedVariables false
set_option linter.unusedSimpArgs false

/-- zero value, cells, bytes of a type -/
def tinfo (P : Program) (t : TypeId) : Option (Value × Nat × Nat) := match P.info? t with
  | some i => i.zero.map fun z => (z, i.size, i.bytes)
  | none => none
theorem tinfo_run {P : Program} {t : TypeId} {z : Value} {sz by_ : Nat} (h : tinfo P t = some (z, sz, by_)) : ∃ i, P.info? t = some i ∧ i.zero = some z ∧ i.size = sz ∧ i.bytes = by_ := by
  unfold tinfo at h
  split at h
  · rename_i i hi
    obtain ⟨z', h1, h2⟩ := Option.map_eq_some_iff.1 h
    simp only [Prod.mk.injEq] at h2
    exact ⟨i, hi, by rw [h1, h2.1], h2.2.1, h2.2.2⟩
  · simp at h

/-- what a slice value holds: cells of an element, length, elements -/
def contents (mem : List (Option Ob)) (sz : Nat) : AV → Option (Nat × (Nat → List AV))
  | .sl sz' n f => if sz' = sz then some (n, f) else none
  | .own k => match mem[k]? with
    | some (some ob) => if ob.sz = sz then some (ob.n, ob.f) else none
    | _ => none
  | .sub k sz' lo n => match mem[k]? with
    | some (some ob) => if ob.sz = sz ∧ sz' = sz ∧ lo + n ≤ ob.n then some (n, fun i => ob.f (lo + i)) else none
    | _ => none
  | .lit (.slice none 0 0) => some (0, fun _ => [])
  | _ => none
def avLen (mem : List (Option Ob)) : AV → Option Nat
  | .sl _ n _ => some n
  | .own k => match mem[k]? with
    | some (some ob) => some ob.n
    | _ => none
  | .sub _ _ _ n => some n
  | .lit (.slice _ n _) => some n
  | .lit (.string s) => some s.size
  | _ => none

def ownOf (mem : List (Option Ob)) (e : TypeId) (sz : Nat) : AV → Option (List (Option Ob) × Nat × (Nat → List AV))
  | .own k => match mem[k]? with
    | some (some ob) => if ob.sz = sz ∧ ob.ty = e then some (mem.set k none, ob.n, ob.f) else none
    | _ => none
  | .lit (.slice none 0 0) => some (mem, 0, fun _ => [])
  | _ => none

def joinF (n : Nat) (f g : Nat → List AV) (i : Nat) : List AV := if i < n then f i else g (i - n)

def partsCells (s : VS) : List (Nat × Operand) → Nat → Option (List (List AV))
  | [], _ => some []
  | (i, x) :: r, j => if i = j then (partsCells s r (j + 1)).map (avCells (ev s x) :: ·) else none

def vlen (P : Program) (x : Operand) (t : TypeId) (s : VS) (k : AV → VS → Prop) : Prop :=
  match avLen s.mem (ev s x), P.underlying t with
  | some n, some .string => (∃ z, ev s x = .lit (.string z)) ∧ k (.lit (.int .i64 n)) s
  | some n, some (.slice _) => (∀ z, ev s x ≠ .lit (.string z)) ∧ n ≤ 9223372036854775807 ∧ k (.lit (.int .i64 n)) s
  | _, _ => False
def vapp (P : Program) (x y : Operand) (t t' : TypeId) (s : VS) (k : AV → VS → Prop) : Prop :=
  t = t' ∧ match P.underlying t with
  | some (.slice e) => match tinfo P e with
    | some (z, sz, by_) => z.cells.size = sz ∧ 0 < sz ∧ match ownOf s.mem e sz (ev s x), contents s.mem sz (ev s y) with
      | some (mem, n, f), some (m, g) => ev s y ≠ ev s x ∧ (∀ i, i < m → (g i).all oneAV = true) ∧ n + m ≤ 9223372036854775807 ∧ (n + m) * by_ ≤ 140737488355328 ∧ k (.own s.mem.length) { s with mem := mem ++ [some ⟨e, sz, n + m, joinF n f g⟩] }
      | _, _ => False
    | none => False
  | _ => False
def vlitS (P : Program) (t : TypeId) (len : Nat) (parts : List (Nat × Operand)) (s : VS) (k : AV → VS → Prop) : Prop :=
  match P.underlying t with
  | some (.slice e) => match tinfo P e, partsCells s parts 0 with
    | some (z, sz, by_), some css => z.cells.size = sz ∧ 0 < sz ∧ css.length = len ∧ len * sz ≤ 16777216 ∧ (∀ c ∈ css, c.length = sz ∧ c.all oneAV = true) ∧ k (.own s.mem.length) { s with mem := s.mem ++ [some ⟨e, sz, len, fun i => css.getD i []⟩] }
    | _, _ => False
  | _ => False
def valloc (P : Program) (t : TypeId) (s : VS) (k : AV → VS → Prop) : Prop :=
  match tinfo P t with
  | some (z, sz, _) => 0 < sz ∧ z.cells.size = sz ∧ (z.cells.toList.all fun v => v.oneCell') = true ∧ k (.ptr s.mem.length sz 0 0) { s with mem := s.mem ++ [some ⟨t, sz, 1, fun _ => z.cells.toList.map .lit⟩] }
  | none => False
def vbuildL (P : Program) (fs : Array Field) (s : VS) : List (Nat × Operand) → List AV → Option (List AV)
  | [], cells => some cells
  | (i, x) :: r, cells => match fs[i]? with
    | some fl => match tsz P fl.type with
      | some m => if (avCells (ev s x)).length = m ∧ 0 < m ∧ fl.offset + m ≤ cells.length then vbuildL P fs s r (splice cells fl.offset (avCells (ev s x))) else none
      | none => none
    | none => none
def fieldsOk (P : Program) (fs : List Field) : Bool := fs.all fun fl => (tsz P fl.type).isSome
def vbuild (P : Program) (t : TypeId) (parts : List (Nat × Operand)) (s : VS) (k : AV → VS → Prop) : Prop :=
  match P.underlying t with
  | some (.struct fs) => match tinfo P t with
    | some (z, _, _) => fieldsOk P fs.toList = true ∧ match vbuildL P fs s parts (z.cells.toList.map .lit) with
      | some cells => k (.agg cells) s
      | none => False
    | none => False
  | _ => False
def vop2 (P : Program) (op : Op) (s : VS) (k : AV → VS → Prop) : Prop :=
  match op with
  | .call c => match c.callee, c.args.toList, c.argTypes.toList with
    | .builtin .len, [x], [t] => vlen P x t s k
    | .builtin .append, [x, y], [t, t'] => vapp P x y t t' s k
    | .builtin .min, _, _ => match litsOf (c.args.toList.map (ev s)) with
      | some vs => ∃ v, (∀ ty w, (Builtin.min_ c.argTypes ty vs.toArray).run P w = .ok v w) ∧ k (.lit v) s
      | none => False
    | .builtin .max, _, _ => match litsOf (c.args.toList.map (ev s)) with
      | some vs => ∃ v, (∀ ty w, (Builtin.max_ c.argTypes ty vs.toArray).run P w = .ok v w) ∧ k (.lit v) s
      | none => False
    | _, _, _ => False
  | .buildSlice t len parts => vlitS P t len parts.toList s k
  | .alloc t => valloc P t s k
  | .build t parts => vbuild P t parts.toList s k
  | op => vop P op s k

section
variable {P : Program} {n : Nat} {base : Fr} {w0 w : World} {hd : Nat → Value} {s : VS} {a : Act} {k : AV → VS → Prop}

theorem own_val (h : RelH n base w0 hd s a w) {x : Operand} {j : Nat} (e : ev s x = .own j) : a.eval x = hd j := by
  have hx := h.ev_ x
  rw [e] at hx
  generalize a.eval x = vx at hx
  cases hx; rfl

/-- a slice that is read: its cells -/
theorem src_of (h : RelH n base w0 hd s a w) {x : Operand} {sz m : Nat} {f : Nat → List AV} (hc : contents s.mem sz (ev s x) = some (m, f)) :
    ∃ A c, ∃ u : Nat → Nat → Value, a.eval x = .slice A m c ∧ m ≤ c ∧ (0 < m → ∃ ad, A = some ad ∧ ∀ i j, i < m → j < sz → w.cell? (ad.add (i * sz + j)) = some (u i j)) ∧
      ∀ i, i < m → (f i).length = sz ∧ ∀ (j : Nat) av, (f i)[j]? = some av → Rep w (okOf s.mem hd) hd s.mem.length av (u i j) ∧ (oneAV av = true → (u i j).oneCell' = true) := by
  have hx := h.ev_ x
  have fromOwn : ∀ (q lo m : Nat) (ob : Ob), s.mem[q]? = some (some ob) → ob.sz = sz → lo + m ≤ ob.n →
      ∃ u : Nat → Nat → Value, (0 < m → ∀ b n' c', hd q = .slice (some ⟨b, 0, none⟩) n' c' → ∀ i j, i < m → j < sz → w.cell? ⟨b, (lo + i) * sz + j, none⟩ = some (u i j)) ∧
        ∀ i, i < m → (ob.f (lo + i)).length = sz ∧ ∀ (j : Nat) av, (ob.f (lo + i))[j]? = some av → Rep w (okOf s.mem hd) hd s.mem.length av (u i j) ∧ (oneAV av = true → (u i j).oneCell' = true) := by
    intro q lo m ob hob hsz hle
    subst hsz
    obtain ⟨hs, vals, ho, hr⟩ := h.me.obs q ob hob
    refine ⟨fun i j => vals.getD ((lo + i) * ob.sz + j) undef, fun hp b n' c' hb i j hi hj => ?_, fun i hi => ⟨(hr _ (by omega)).1, fun j av hj => ?_⟩⟩
    · have hn : n' = ob.n := by
        rcases ho.2 with ⟨e, h0⟩ | ⟨g, cap, cur, e, _⟩
        · rw [hb] at e; simp at e
        · rw [hb] at e; simp at e; exact e.2.1
      rw [hb, hn] at ho
      have hin : (lo + i + 1) * ob.sz ≤ ob.n * ob.sz := Nat.mul_le_mul_right _ (by omega)
      rw [Nat.add_mul, Nat.one_mul] at hin
      have := ho.cellAt ((lo + i) * ob.sz + j) (by omega)
      rw [this]
      simp only [List.getD_eq_getElem?_getD]
      rw [List.getElem?_eq_getElem (by rw [ho.1]; omega)]
      rfl
    · obtain ⟨u, hu, hu1, hrep⟩ := (hr (lo + i) (by omega)).2 j av hj
      simp only [List.getD_eq_getElem?_getD, hu, Option.getD_some]
      exact ⟨hrep, fun _ => hu1⟩
  have hds := h.me.hds
  generalize hev : ev s x = ax at *
  cases ax with
  | sl sz' m' f' =>
    simp only [contents] at hc
    split at hc
    · rename_i hsz
      simp only [Option.some.injEq, Prod.mk.injEq] at hc
      obtain ⟨rfl, rfl⟩ := hc
      subst hsz
      cases hx' : a.eval x with
      | slice A len cap =>
        rw [hx'] at hx
        cases hx with
        | sl _ _ _ _ _ u hcn hm hsz' hl ha hr =>
          refine ⟨A, cap, u, rfl, hcn, fun hp => ?_, fun i hi => ⟨hl i hi, fun j av hj => ⟨hr i j av hi hj, fun h1 => ?_⟩⟩⟩
          · obtain ⟨ad, e1, _, e2⟩ := ha hp
            exact ⟨ad, e1, e2⟩
          · exact (hr i j av hi hj).one_ h1 hds
      | _ => rw [hx'] at hx; cases hx
    · simp at hc
  | own q =>
    simp only [contents] at hc
    split at hc
    · rename_i ob hob
      split at hc
      · rename_i hsz
        simp only [Option.some.injEq, Prod.mk.injEq] at hc
        obtain ⟨rfl, rfl⟩ := hc
        obtain ⟨u, g1, g2⟩ := fromOwn q 0 ob.n ob hob hsz (by omega)
        have hval := own_val h hev
        obtain ⟨hs, vals, ho, hr⟩ := h.me.obs q ob hob
        rcases ho.2 with ⟨e, h0⟩ | ⟨g, cap, cur, e, _, _, hcc, _⟩
        · exact ⟨none, 0, u, by rw [hval, e, h0], by omega, fun hp => by omega, fun i hi => by omega⟩
        · refine ⟨some ⟨g, 0, none⟩, cap, u, by rw [hval, e], hcc, fun hp => ⟨_, rfl, fun i j hi hj => ?_⟩, fun i hi => by have := g2 i hi; rw [Nat.zero_add] at this; exact this⟩
          have := g1 hp g ob.n cap e i j hi hj
          rw [Nat.zero_add] at this
          have e2 : (⟨g, 0, none⟩ : Addr).add (i * sz + j) = ⟨g, i * sz + j, none⟩ := by
            unfold Addr.add; split
            · rename_i h3; rw [h3]
            · simp
          rw [e2]; exact this
      · simp at hc
    · simp at hc
  | sub q sz' lo m' =>
    simp only [contents] at hc
    split at hc
    · rename_i ob hob
      split at hc
      · rename_i hsz
        simp only [Option.some.injEq, Prod.mk.injEq] at hc
        obtain ⟨rfl, rfl⟩ := hc
        obtain ⟨u, g1, g2⟩ := fromOwn q lo m' ob hob hsz.1 hsz.2.2
        cases hx' : a.eval x with
        | slice A len cap =>
          rw [hx'] at hx
          cases hx with
          | sub _ _ _ _ _ _ hk hcn ha =>
            refine ⟨A, cap, u, rfl, hcn, fun hp => ?_, g2⟩
            obtain ⟨b, n', c', e1, e2⟩ := ha hp
            obtain ⟨hs, vals, ho, hr⟩ := h.me.obs q ob hob
            refine ⟨_, e2, fun i j hi hj => ?_⟩
            obtain rfl : sz' = sz := hsz.2.1
            have := g1 hp b n' c' e1 i j hi hj
            have e3 : (⟨b, lo * sz', none⟩ : Addr).add (i * sz' + j) = ⟨b, (lo + i) * sz' + j, none⟩ := by
              rw [Nat.add_mul]
              unfold Addr.add; split <;> first | (simp; done) | (simp; omega)
            rw [e3]; exact this
        | _ => rw [hx'] at hx; cases hx
      · simp at hc
    · simp at hc
  | lit v =>
    unfold contents at hc
    split at hc
    · rename_i e; cases e
    · rename_i e; cases e
    · rename_i e; cases e
    · rename_i e
      cases e
      simp only [Option.some.injEq, Prod.mk.injEq] at hc
      obtain ⟨rfl, rfl⟩ := hc
      exact ⟨none, 0, fun _ _ => undef, (h.ev_ x).val_ (by rw [hev]; rfl), by omega, fun hp => by omega, fun i hi => by omega⟩
    · simp at hc
  | _ => simp [contents] at hc

theorem len_sound (h : RelH n base w0 hd s a w) {x : Operand} {t : TypeId} {o : Oper} (ho : o.op = .call { callee := .builtin .len, args := #[x], argTypes := #[t] })
    (hv : vlen P x t s k) : Ends P n base w0 a ((execOp a.eval o).run P w) k := by
  unfold vlen at hv
  have hrun : (execOp a.eval o).run P w = ((do pure (Next.value (← Builtin.len_ #[t] o.type #[a.eval x])) : Sem Next)).run P w := by
    unfold execOp; simp only [ho]; simp [resolve, invoke, builtin, Sem.run_bind]
  split at hv
  · rename_i m hl ht
    obtain ⟨⟨z, hz⟩, hk⟩ := hv
    rw [hz] at hl
    simp only [avLen, Option.some.injEq] at hl
    subst hl
    refine Ends.same h (.lit _) hk ?_
    rw [hrun]
    refine run_v ?_
    have := (h.ev_ x).val_ (toVal_lit hz)
    simp only [Builtin.len_, List.getElem?_toArray, List.getElem?_cons_zero, Sem.run_bind, und_run ht, Result.andThen_ok, this]
    rfl
  · rename_i m e hl ht
    obtain ⟨hns, hm, hk⟩ := hv
    have key : ∃ A c, a.eval x = .slice A m c := by
      have hx := h.ev_ x
      generalize hev : ev s x = ax at *
      cases ax with
      | sl sz m' f =>
        simp only [avLen, Option.some.injEq] at hl; subst hl
        generalize a.eval x = v at hx
        cases hx; exact ⟨_, _, rfl⟩
      | own q =>
        simp only [avLen] at hl
        split at hl
        · rename_i ob hob
          simp only [Option.some.injEq] at hl; subst hl
          obtain ⟨hs, vals, ho2, _⟩ := h.me.obs q ob hob
          rw [own_val h hev]
          rcases ho2.2 with ⟨e, h0⟩ | ⟨g, cap, cur, e, _⟩
          · exact ⟨none, 0, by rw [e, h0]⟩
          · exact ⟨_, _, e⟩
        · simp at hl
      | sub q sz lo m' =>
        simp only [avLen, Option.some.injEq] at hl; subst hl
        generalize a.eval x = v at hx
        cases hx; exact ⟨_, _, rfl⟩
      | lit v =>
        have e := (h.ev_ x).val_ (u := v) (by rw [hev]; rfl)
        cases v with
        | slice A m' c => simp only [avLen, Option.some.injEq] at hl; subst hl; exact ⟨_, _, e⟩
        | string z => exact absurd rfl (hns z)
        | _ => simp [avLen] at hl
      | _ => simp [avLen] at hl
    obtain ⟨A, c, hx'⟩ := key
    refine Ends.same h (.lit _) hk ?_
    rw [hrun]
    refine run_v ?_
    simp only [Builtin.len_, List.getElem?_toArray, List.getElem?_cons_zero, Sem.run_bind, und_run ht, Result.andThen_ok, hx']
    rfl
  · exact hv.elim

/-- the first operand of an append: a row of the call's own -/
theorem ownOf_run (h : RelH n base w0 hd s a w) {x : Operand} {e : TypeId} {sz : Nat} {mem : List (Option Ob)} {m : Nat} {f : Nat → List AV} (hsz : 0 < sz) (ho : ownOf s.mem e sz (ev s x) = some (mem, m, f)) :
    ∃ vals, w.ownsRow 0 e sz (a.eval x) m vals ∧ mem.length = s.mem.length ∧ (∀ k ob, mem[k]? = some (some ob) → s.mem[k]? = some (some ob) ∧ ((hd k).ownBlock = none ∨ (hd k).ownBlock ≠ (a.eval x).ownBlock)) ∧
      (∀ b, okOf s.mem hd b → (a.eval x).ownBlock ≠ some b) ∧ (∀ b, (a.eval x).ownBlock = some b → base.may b) ∧
      ∀ i, i < m → (f i).length = sz ∧ ∀ (j : Nat) av, (f i)[j]? = some av → ∃ u, vals[i * sz + j]? = some u ∧ u.oneCell' = true ∧ Rep w (okOf s.mem hd) hd s.mem.length av u := by
  generalize hev : ev s x = ax at ho
  cases ax with
  | own q =>
    simp only [ownOf] at ho
    split at ho
    · rename_i ob hob
      split at ho
      · rename_i hc
        simp only [Option.some.injEq, Prod.mk.injEq] at ho
        obtain ⟨rfl, rfl, rfl⟩ := ho
        obtain ⟨rfl, rfl⟩ := hc
        obtain ⟨hs, vals, hown, hr⟩ := h.me.obs q ob hob
        rw [own_val h hev]
        refine ⟨vals, hown, by simp, fun k ob' hk => ?_, fun b hb => hb q ob hob, fun b hb => h.me.alw q ob hob b hb, hr⟩
        by_cases e : q = k
        · subst e; rw [List.getElem?_set_self (List.getElem?_eq_some_iff.1 hob).1] at hk; simp at hk
        · rw [List.getElem?_set_ne e] at hk
          exact ⟨hk, h.me.apart k q ob' ob hk hob (fun e' => e e'.symm)⟩
      · simp at ho
    · simp at ho
  | lit v =>
    unfold ownOf at ho
    split at ho
    · rename_i e; cases e
    · rename_i e
      cases e
      simp only [Option.some.injEq, Prod.mk.injEq] at ho
      obtain ⟨rfl, rfl, rfl⟩ := ho
      have e := (h.ev_ x).val_ (u := .slice none 0 0) (by rw [hev]; rfl)
      rw [e]
      exact ⟨[], World.ownsRow_nil _ _ _ _, rfl, fun k ob hk => ⟨hk, by
        cases hb : (hd k).ownBlock with
        | none => exact .inl rfl
        | some b => exact .inr (by simp [Value.ownBlock])⟩, fun b hb => by simp [Value.ownBlock], fun b hb => by simp [Value.ownBlock] at hb, fun i hi => by omega⟩
    · simp at ho
  | _ => simp [ownOf] at ho
end
end Go.Proofs.Ytnjnkhmcdkjekaa.V
