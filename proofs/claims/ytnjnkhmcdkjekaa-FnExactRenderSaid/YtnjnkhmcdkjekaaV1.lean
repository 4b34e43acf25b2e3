/- The value machine, part 1: abstract values, how they stand for the model's values in a world, and what memory of the call's own looks like. -/
import Derived.WalkKit
import Derived.WalkSpells
import Derived.WalkLawsBesides
import Derived.Maps.AppendAt
import Derived.Laws.OwnMore
import Derived.Laws.MakeOwn
import Derived.Laws.Slices
import Derived.Below
import Derived.Deep.Quiet
import Derived.Maps.OwnSet
namespace Go.Proofs.Ytnjnkhmcdkjekaa.V
open Go.RowKit
set_option linter.unusedVariables false

/-- abstract values -/
inductive AV where
  | undef
  | lit (v : Value)
  | agg (cs : List AV)
  | tup (vs : List AV)
  | sl (sz n : Nat) (f : Nat → List AV)
  | own (k : Nat)
  | sub (k sz lo n : Nat)
  | ptr (k sz i j : Nat)
  | bptr (cs : List AV)

/-- an object of the call's own: n elements of sz cells -/
structure Ob where
  ty : TypeId
  sz : Nat
  n : Nat
  f : Nat → List AV

/-- a map: how its keys read, its entries in the order in which they came -/
structure Mp where
  kt : TypeId
  es : List (Value × Value)

structure VS where
  tmps : List (Nat × AV)
  mem : List (Option Ob)
  maps : List (Nat × Mp) := []
  fix : Nat := 0
/-- a state without maps and without objects of others -/
abbrev VS.of (tmps : List (Nat × AV)) (mem : List (Option Ob)) : VS := { tmps, mem }

inductive Rep (w : World) (ok : Nat → Prop) (hd : Nat → Value) (m : Nat) : AV → Value → Prop
  | undef (v : Value) : Rep w ok hd m .undef v
  | lit (v : Value) : Rep w ok hd m (.lit v) v
  | agg (cs : List AV) (vs : List Value) (hl : cs.length = vs.length) (h : ∀ (j : Nat) a u, cs[j]? = some a → vs[j]? = some u → Rep w ok hd m a u) : Rep w ok hd m (.agg cs) (.agg vs.toArray)
  | tup (cs : List AV) (vs : List Value) (hl : cs.length = vs.length) (h : ∀ (j : Nat) a u, cs[j]? = some a → vs[j]? = some u → Rep w ok hd m a u) : Rep w ok hd m (.tup cs) (.tuple vs.toArray)
  | sl (sz n : Nat) (f : Nat → List AV) (A : Option Addr) (c : Nat) (u : Nat → Nat → Value) (hc : n ≤ c) (hm : n ≤ 9223372036854775807) (hsz : 0 < sz) (hl : ∀ i, i < n → (f i).length = sz)
      (ha : 0 < n → ∃ ad, A = some ad ∧ ok ad.block ∧ ∀ i j, i < n → j < sz → w.cell? (ad.add (i * sz + j)) = some (u i j)) (h : ∀ (i j : Nat) a, i < n → (f i)[j]? = some a → Rep w ok hd m a (u i j)) : Rep w ok hd m (.sl sz n f) (.slice A n c)
  | own (k : Nat) (hk : k < m) : Rep w ok hd m (.own k) (hd k)
  | sub (k sz lo n : Nat) (A : Option Addr) (c : Nat) (hk : k < m) (hc : n ≤ c) (ha : 0 < n → ∃ b n' c', hd k = .slice (some ⟨b, 0, none⟩) n' c' ∧ A = some ⟨b, lo * sz, none⟩) : Rep w ok hd m (.sub k sz lo n) (.slice A n c)
  | ptr (k sz i j b n' c' : Nat) (hk : k < m) (h : hd k = .slice (some ⟨b, 0, none⟩) n' c') : Rep w ok hd m (.ptr k sz i j) (.pointer (some ⟨b, i * sz + j, none⟩))
  | bptr (cs : List AV) (ad : Addr) (u : Nat → Value) (hne : cs ≠ []) (hok : ok ad.block) (hc : ∀ j, j < cs.length → w.cell? (ad.add j) = some (u j)) (h : ∀ (j : Nat) a, cs[j]? = some a → Rep w ok hd m a (u j)) : Rep w ok hd m (.bptr cs) (.pointer (some ad))

theorem Rep.mono {w w' : World} {ok ok' : Nat → Prop} {hd hd' : Nat → Value} {m m' : Nat} (hc : ∀ a u, ok a.block → w.cell? a = some u → w'.cell? a = some u ∧ ok' a.block)
    (hh : ∀ k, k < m → hd' k = hd k) (hm : m ≤ m') {av : AV} {v : Value} (h : Rep w ok hd m av v) : Rep w' ok' hd' m' av v := by
  induction h with
  | undef v => exact .undef v
  | lit v => exact .lit v
  | agg cs vs hl _ ih => exact .agg cs vs hl ih
  | tup cs vs hl _ ih => exact .tup cs vs hl ih
  | sl sz n f A c u hcn hmn hsz hl ha _ ih =>
    refine .sl sz n f A c u hcn hmn hsz hl (fun hn => ?_) ih
    obtain ⟨ad, e, hok, hcell⟩ := ha hn
    have h0 := hc (ad.add (0 * sz + 0)) _ (by rw [show 0 * sz + 0 = 0 by omega]; simpa [Addr.add] using hok) (hcell 0 0 hn hsz)
    refine ⟨ad, e, by rw [show 0 * sz + 0 = 0 by omega] at h0; simpa [Addr.add] using h0.2, fun i j hi hj => (hc _ _ ?_ (hcell i j hi hj)).1⟩
    unfold Addr.add; split <;> exact hok
  | own k hk => rw [← hh k hk]; exact .own k (by omega)
  | sub k sz lo n A c hk hcn ha =>
    refine .sub k sz lo n A c (by omega) hcn fun hn => ?_
    rw [hh k hk]; exact ha hn
  | ptr k sz i j b n' c' hk h => exact .ptr k sz i j b n' c' (by omega) (by rw [hh k hk]; exact h)
  | bptr cs ad u hne hok hcell _ ih =>
    have hp : 0 < cs.length := by cases cs with
      | nil => exact absurd rfl hne
      | cons _ _ => simp
    have h0 := hc (ad.add 0) _ (by simpa [Addr.add] using hok) (hcell 0 hp)
    refine .bptr cs ad u hne (by simpa [Addr.add] using h0.2) (fun j hj => (hc _ _ ?_ (hcell j hj)).1) ih
    unfold Addr.add; split <;> exact hok

/-- a block that none of the live objects lies in -/
def okOf (mem : List (Option Ob)) (hd : Nat → Value) (b : Nat) : Prop := ∀ k ob, mem[k]? = some (some ob) → (hd k).ownBlock ≠ some b

/-- what code may have done to a world: it has written only where it may -/
structure Bel (may : Nat → Prop) (w w' : World) : Prop where
  os : w'.os = w.os
  tape : w'.tape = w.tape
  output : w'.output = w.output
  size : w.heap.size ≤ w'.heap.size
  block : ∀ k, k < w.heap.size → ¬ may k → w'.heap[k]? = w.heap[k]?
theorem Bel.refl (may : Nat → Prop) (w : World) : Bel may w w := ⟨rfl, rfl, rfl, Nat.le_refl _, fun _ _ _ => rfl⟩
theorem Bel.grown {may : Nat → Prop} {a w w' : World} {row : Option Nat} (h : Bel may a w) (hg : w.grownBy w' row) (hr : ∀ k, row = some k → may k) : Bel may a w' :=
  ⟨hg.os.trans h.os, hg.tape.trans h.tape, hg.output.trans h.output, Nat.le_trans h.size hg.size, fun k hk hm => (hg.block k (Nat.lt_of_lt_of_le hk h.size) (fun e => hm (hr k e.symm))).trans (h.block k hk hm)⟩

structure MemRel (base : Nat → Prop) (w : World) (hd : Nat → Value) (mem : List (Option Ob)) : Prop where
  alw : ∀ k ob, mem[k]? = some (some ob) → ∀ b, (hd k).ownBlock = some b → base b
  obs : ∀ k ob, mem[k]? = some (some ob) → 0 < ob.sz ∧ ∃ vals, w.ownsRow 0 ob.ty ob.sz (hd k) ob.n vals ∧
    ∀ i, i < ob.n → (ob.f i).length = ob.sz ∧ ∀ (j : Nat) a, (ob.f i)[j]? = some a → ∃ u, vals[i * ob.sz + j]? = some u ∧ u.oneCell' = true ∧ Rep w (okOf mem hd) hd mem.length a u
  hds : ∀ k, k < mem.length → ∃ A n c, hd k = .slice A n c
  apart : ∀ k k' ob ob', mem[k]? = some (some ob) → mem[k']? = some (some ob') → k ≠ k' → (hd k).ownBlock = none ∨ (hd k).ownBlock ≠ (hd k').ownBlock

def lkm : List (Nat × Mp) → Nat → Option Mp
  | [], _ => none
  | (u, v) :: r, t => if u = t then some v else lkm r t
/-- the entries of a map stand for a list of keys and values -/
structure MapIs (P : Program) (mp : Mp) (es : Array MapEntry) : Prop where
  eq : es.toList.map (fun e => (e.key, e.val)) = mp.es
  key : ∀ e, e ∈ es.toList → ∃ l, keyOf P mp.kt e.key = some l
  apart : mp.es.Pairwise (fun p q => p.1 ≠ q.1)
def MapRel (P : Program) (base : Nat → Prop) (w : World) (maps : List (Nat × Mp)) : Prop :=
  ∀ b mp, lkm maps b = some mp → base b ∧ ∃ es clock, w.heap[b]? = some (.map es clock) ∧ MapIs P mp es

def lk : List (Nat × AV) → Nat → AV
  | [], _ => .undef
  | (u, v) :: r, t => if u = t then v else lk r t

/-- the frame of a call: what it may write, the objects of others that it was handed -/
structure Fr where
  P : Program
  may : Nat → Prop
  hd0 : Nat → Value
structure RelH (n : Nat) (base : Fr) (w0 : World) (hd : Nat → Value) (s : VS) (a : Act) (w : World) : Prop where
  defers : a.defers = []
  size : a.tmps.size = n
  below : Bel base.may w0 w
  le : ∀ b, w0.heap.size ≤ b → base.may b
  fixl : s.fix ≤ s.mem.length
  fix : ∀ k, k < s.fix → hd k = base.hd0 k
  mp : MapRel base.P base.may w s.maps
  tm : ∀ t, Rep w (okOf s.mem hd) hd s.mem.length (lk s.tmps t) (a.tmps.getD t undef)
  me : MemRel base.may w hd s.mem

def ev (s : VS) : Operand → AV
  | .tmp t => lk s.tmps t
  | .const v => .lit v
  | .global _ => .undef
  | .func f => .lit (.func (.func f) #[] #[])

theorem RelH.ev_ {n : Nat} {base : Fr} {w0 w : World} {hd : Nat → Value} {s : VS} {a : Act} (h : RelH n base w0 hd s a w) (x : Operand) : Rep w (okOf s.mem hd) hd s.mem.length (ev s x) (a.eval x) := by
  cases x with
  | tmp t => exact h.tm t
  | const v => exact .lit v
  | global g => exact .undef _
  | func f => exact .lit _

/-! what a step may do to the world -/
theorem cell_same {w w' : World} {a : Addr} {u : Value} (h : w'.heap[a.block]? = w.heap[a.block]?) (hc : w.cell? a = some u) : w'.cell? a = some u := by
  unfold World.cell? at *; rw [h]; exact hc

theorem own_lt {w : World} {base e size n : Nat} {v : Value} {xs : List Value} (h : w.ownsRow base e size v n xs) {k : Nat} (hk : v.ownBlock = some k) : k < w.heap.size ∧ base ≤ k := by
  rcases h.2 with ⟨rfl, _⟩ | ⟨g, cap, cur, rfl, hb, hh, _⟩
  · simp [Value.ownBlock] at hk
  · have : g = k := by simpa [Value.ownBlock] using hk
    subst this
    exact ⟨(Array.getElem?_eq_some_iff.1 hh).1, hb⟩

/-- nothing of what is live has been touched: blocks may have come -/
theorem MapRel.grown {P : Program} {may : Nat → Prop} {w w' : World} {maps : List (Nat × Mp)} {row : Option Nat} (h : MapRel P may w maps) (hg : w.grownBy w' row) (hr : ∀ b mp, row = some b → lkm maps b = some mp → False) : MapRel P may w' maps := by
  intro b mp hb
  obtain ⟨h1, es, clock, h2, h3⟩ := h b mp hb
  exact ⟨h1, es, clock, (hg.block b (Array.getElem?_eq_some_iff.1 h2).1 (fun e => hr b mp e.symm hb)).trans h2, h3⟩
/-- a row's block is no map -/
theorem MapRel.grownRow {P : Program} {may : Nat → Prop} {w w' : World} {maps : List (Nat × Mp)} {base e size n : Nat} {v : Value} {xs : List Value} (h : MapRel P may w maps) (ho : w.ownsRow base e size v n xs) (hg : w.grownBy w' v.ownBlock) : MapRel P may w' maps := by
  refine h.grown hg fun b mp hb hm => ?_
  obtain ⟨_, es, clock, h2, _⟩ := h b mp hm
  rcases ho.2 with ⟨rfl, _⟩ | ⟨g, cap, cur, rfl, _, hh, _⟩
  · simp [Value.ownBlock] at hb
  · simp only [Value.ownBlock, Option.some.injEq] at hb
    subst hb
    rw [h2] at hh; simp at hh

theorem RelH.grown {n : Nat} {base : Fr} {w0 w w' : World} {hd : Nat → Value} {s : VS} {a : Act} (h : RelH n base w0 hd s a w) (hg : w.grownBy w' none) : RelH n base w0 hd s a w' := by
  have hc : ∀ ad u, okOf s.mem hd ad.block → w.cell? ad = some u → w'.cell? ad = some u ∧ okOf s.mem hd ad.block := fun ad u ho hc => ⟨cell_same (hg.block _ (World.block_lt_of_cell? w _ hc) (by simp)) hc, ho⟩
  refine ⟨h.defers, h.size, h.below.grown hg (by simp), h.le, h.fixl, h.fix, h.mp.grown hg (by simp), fun t => (h.tm t).mono hc (fun _ _ => rfl) (Nat.le_refl _), ⟨h.me.alw, fun k ob hk => ?_, h.me.hds, h.me.apart⟩⟩
  obtain ⟨hs, vals, ho, hr⟩ := h.me.obs k ob hk
  refine ⟨hs, vals, ho.kept hg (by cases (hd k).ownBlock <;> simp), fun i hi => ⟨(hr i hi).1, fun j av hj => ?_⟩⟩
  obtain ⟨u, h1, h2, h3⟩ := (hr i hi).2 j av hj
  exact ⟨u, h1, h2, h3.mono hc (fun _ _ => rfl) (Nat.le_refl _)⟩

theorem put_getD (a : Act) (t : Nat) (v : Value) (ht : t < a.tmps.size) (u : Nat) : (a.put (some t) v).tmps.getD u undef = if t = u then v else a.tmps.getD u undef := by
  simp only [Act.put, Array.getD_eq_getD_getElem?, Array.getElem?_setIfInBounds]
  by_cases h : t = u
  · subst h; simp [ht]
  · simp [h]

theorem RelH.put {n : Nat} {base : Fr} {w0 w : World} {hd : Nat → Value} {s : VS} {a : Act} (h : RelH n base w0 hd s a w) {t : Nat} (ht : t < n) {av : AV} {v : Value} (hv : Rep w (okOf s.mem hd) hd s.mem.length av v) :
    RelH n base w0 hd { s with tmps := (t, av) :: s.tmps } (a.put (some t) v) w := by
  refine ⟨h.defers, by simp [Act.put, h.size], h.below, h.le, h.fixl, h.fix, h.mp, fun u => ?_, h.me⟩
  rw [put_getD a t v (by rw [h.size]; exact ht) u]
  simp only [lk]
  split
  · exact hv
  · exact h.tm u

/-- what is known may be forgotten -/
def Wk (l l' : List (Nat × AV)) : Prop := ∀ t, lk l' t = .undef ∨ lk l' t = lk l t
theorem RelH.weak {n : Nat} {base : Fr} {w0 w : World} {hd : Nat → Value} {s s' : VS} {a : Act} (h : RelH n base w0 hd s a w) (hm : s'.mem = s.mem) (hm2 : s'.maps = s.maps) (hm3 : s'.fix = s.fix) (hw : Wk s.tmps s'.tmps) : RelH n base w0 hd s' a w := by
  refine ⟨h.defers, h.size, h.below, h.le, by rw [hm, hm3]; exact h.fixl, by rw [hm3]; exact h.fix, by rw [hm2]; exact h.mp, fun t => ?_, by rw [hm]; exact h.me⟩
  rw [hm]
  rcases hw t with e | e
  · rw [e]; exact .undef _
  · rw [e]; exact h.tm t

end Go.Proofs.Ytnjnkhmcdkjekaa.V
