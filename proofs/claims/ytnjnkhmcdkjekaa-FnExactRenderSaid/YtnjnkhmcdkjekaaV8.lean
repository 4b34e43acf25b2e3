/- The value machine, part 8: contracts of functions, calls, lists of operations. -/
import Derived.Test.YtnjnkhmcdkjekaaVQ
namespace Go.Proofs.Ytnjnkhmcdkjekaa.V
open Go.RowKit
set_option linter.unusedVariables false
set_option linter.unusedSimpArgs false

/-- nothing of the call's own inside -/
inductive Closed : AV → Prop
  | lit (v : Value) : Closed (.lit v)
  | agg (cs : List AV) (h : ∀ c, c ∈ cs → Closed c) : Closed (.agg cs)
  | sl (sz n : Nat) (f : Nat → List AV) (h : ∀ (i : Nat) c, i < n → c ∈ f i → Closed c) : Closed (.sl sz n f)
  | bptr (cs : List AV) (h : ∀ c, c ∈ cs → Closed c) : Closed (.bptr cs)

theorem Rep.closed {w w' : World} {ok ok' : Nat → Prop} {hd hd' : Nat → Value} {m m' : Nat} {av : AV} (hcl : Closed av) : (∀ a u, ok a.block → w.cell? a = some u → w'.cell? a = some u ∧ ok' a.block) →
    ∀ {v : Value}, Rep w ok hd m av v → Rep w' ok' hd' m' av v := by
  intro hc
  induction hcl with
  | lit v => intro v h; cases h; exact .lit _
  | agg cs _ ih =>
    intro v h
    cases h with
    | agg _ vs hl h => exact .agg cs vs hl fun j a u h1 h2 => ih a (List.mem_of_getElem? h1) (h j a u h1 h2)
  | sl sz n f _ ih =>
    intro v h
    cases h with
    | sl _ _ _ A c u hcn hmn hsz hl ha hr =>
      refine .sl sz n f A c u hcn hmn hsz hl (fun hn => ?_) fun i j a hi hj => ih i a hi (List.mem_of_getElem? hj) (hr i j a hi hj)
      obtain ⟨ad, e, hok, hcell⟩ := ha hn
      have h0 := hc (ad.add (0 * sz + 0)) _ (by rw [show 0 * sz + 0 = 0 by omega]; simpa [Addr.add] using hok) (hcell 0 0 hn hsz)
      refine ⟨ad, e, by rw [show 0 * sz + 0 = 0 by omega] at h0; simpa [Addr.add] using h0.2, fun i j hi hj => (hc _ _ ?_ (hcell i j hi hj)).1⟩
      unfold Addr.add; split <;> exact hok
  | bptr cs _ ih =>
    intro v h
    cases h with
    | bptr _ ad u hne hok hcell hr =>
      have hp : 0 < cs.length := by cases cs with
        | nil => exact absurd rfl hne
        | cons _ _ => simp
      have h0 := hc (ad.add 0) _ (by simpa [Addr.add] using hok) (hcell 0 hp)
      refine .bptr cs ad u hne (by simpa [Addr.add] using h0.2) (fun j hj => (hc _ _ ?_ (hcell j hj)).1) fun j a hj => ih a (List.mem_of_getElem? hj) (hr j a hj)
      unfold Addr.add; split <;> exact hok

def isLit : AV → Bool
  | .lit _ => true
  | _ => false
theorem Closed.of_lit {av : AV} (h : isLit av = true) : Closed av := by cases av <;> simp [isLit] at h; exact .lit _
def flat1 : AV → Bool
  | .lit _ => true
  | .own _ => true
  | .ptr _ _ _ _ => true
  | .sub _ _ _ _ => true
  | _ => false
def flat2 : AV → Bool
  | .agg cs => cs.all flat1
  | x => flat1 x
def flatV : AV → Bool
  | .tup vs => vs.all flat2
  | x => flat2 x
/-- the same, the call's own objects numbered by g -/
def ren1 (g : Nat → Nat) : AV → AV
  | .own k => .own (g k)
  | .ptr k sz i j => .ptr (g k) sz i j
  | .sub k sz i j => .sub (g k) sz i j
  | x => x
def ren2 (g : Nat → Nat) : AV → AV
  | .agg cs => .agg (cs.map (ren1 g))
  | x => ren1 g x
def ren (g : Nat → Nat) : AV → AV
  | .tup vs => .tup (vs.map (ren2 g))
  | x => ren2 g x
def owns1 : AV → List Nat
  | .own k => [k]
  | .ptr k _ _ _ => [k]
  | .sub k _ _ _ => [k]
  | _ => []
def owns2 : AV → List Nat
  | .agg cs => cs.flatMap owns1
  | x => owns1 x
def ownsV : AV → List Nat
  | .tup vs => vs.flatMap owns2
  | x => owns2 x

section
variable {w w' : World} {ok ok' : Nat → Prop} {hd hd' : Nat → Value} {m m' : Nat} {g : Nat → Nat}
theorem Rep.ren1_ {av : AV} {v : Value} (hf : flat1 av = true) (hg : ∀ k, k ∈ owns1 av → k < m → g k < m' ∧ hd' (g k) = hd k) (h : Rep w ok hd m av v) : Rep w' ok' hd' m' (ren1 g av) v := by
  cases h with
  | lit v => exact .lit v
  | own k hk =>
    obtain ⟨h1, h2⟩ := hg k (by simp [owns1]) hk
    rw [← h2]; exact .own _ h1
  | ptr k sz i j b n' c' hk h =>
    obtain ⟨h1, h2⟩ := hg k (by simp [owns1]) hk
    exact .ptr _ sz i j b n' c' h1 (by rw [h2]; exact h)
  | sub k sz lo n A c hk hc ha =>
    obtain ⟨h1, h2⟩ := hg k (by simp [owns1]) hk
    exact .sub _ sz lo n A c h1 hc (fun hn => by rw [h2]; exact ha hn)
  | _ => simp [flat1] at hf
theorem Rep.ren2_ {av : AV} {v : Value} (hf : flat2 av = true) (hg : ∀ k, k ∈ owns2 av → k < m → g k < m' ∧ hd' (g k) = hd k) (h : Rep w ok hd m av v) : Rep w' ok' hd' m' (ren2 g av) v := by
  cases h with
  | agg cs vs hl h =>
    simp only [flat2, List.all_eq_true] at hf
    refine .agg _ vs (by simpa using hl) fun j a u h1 h2 => ?_
    rw [List.getElem?_map, Option.map_eq_some_iff] at h1
    obtain ⟨a0, h3, h4⟩ := h1
    subst h4
    exact (h j a0 u h3 h2).ren1_ (hf _ (List.mem_of_getElem? h3)) fun k hk => hg k (List.mem_flatMap.2 ⟨a0, List.mem_of_getElem? h3, hk⟩)
  | lit v => exact .lit v
  | own k hk => exact Rep.ren1_ (av := .own k) (w := w) (ok := ok) rfl hg (.own k hk)
  | ptr k sz i j b n' c' hk h => exact Rep.ren1_ (av := .ptr k sz i j) (w := w) (ok := ok) rfl hg (.ptr k sz i j b n' c' hk h)
  | sub k sz lo n A c hk hc ha => exact Rep.ren1_ (av := .sub k sz lo n) (w := w) (ok := ok) rfl hg (.sub k sz lo n A c hk hc ha)
  | _ => simp [flat2, flat1] at hf
theorem Rep.ren_ {av : AV} {v : Value} (hf : flatV av = true) (hg : ∀ k, k ∈ ownsV av → k < m → g k < m' ∧ hd' (g k) = hd k) (h : Rep w ok hd m av v) : Rep w' ok' hd' m' (ren g av) v := by
  cases h with
  | tup cs vs hl h =>
    simp only [flatV, List.all_eq_true] at hf
    refine .tup _ vs (by simpa using hl) fun j a u h1 h2 => ?_
    rw [List.getElem?_map, Option.map_eq_some_iff] at h1
    obtain ⟨a0, h3, h4⟩ := h1
    subst h4
    exact (h j a0 u h3 h2).ren2_ (hf _ (List.mem_of_getElem? h3)) fun k hk => hg k (List.mem_flatMap.2 ⟨a0, List.mem_of_getElem? h3, hk⟩)
  | agg cs vs hl h => exact Rep.ren2_ (av := .agg cs) hf hg (.agg cs vs hl h)
  | lit v => exact .lit v
  | own k hk => exact Rep.ren2_ (av := .own k) (w := w) (ok := ok) rfl hg (.own k hk)
  | ptr k sz i j b n' c' hk h => exact Rep.ren2_ (av := .ptr k sz i j) (w := w) (ok := ok) rfl hg (.ptr k sz i j b n' c' hk h)
  | sub k sz lo n A c hk hc ha => exact Rep.ren2_ (av := .sub k sz lo n) (w := w) (ok := ok) rfl hg (.sub k sz lo n A c hk hc ha)
  | _ => simp [flatV, flat2, flat1] at hf
end

/-- an argument, as the callee sees it -/
def ArgSl (mem : List (Option Ob)) (av : AV) (sz n : Nat) (f' : Nat → List AV) : Prop :=
  0 < sz ∧ ∃ f, contents mem sz av = some (n, f) ∧ ∀ i, i < n → f i = f' i ∧ ∀ c, c ∈ f' i → Closed c
def ArgOk1 (mem : List (Option Ob)) (c : AV) : AV → Prop
  | .lit v => c = .lit v
  | .sl sz n f' => ArgSl mem c sz n f'
  | _ => False
def ArgOk (mem : List (Option Ob)) (av : AV) : AV → Prop
  | .agg cs' => ∃ cs, av = .agg cs ∧ cs.length = cs'.length ∧ ∀ (j : Nat) c c', cs[j]? = some c → cs'[j]? = some c' → ArgOk1 mem c c'
  | x => ArgOk1 mem av x
def ArgsOk (mem : List (Option Ob)) : List AV → List AV → Prop
  | [], [] => True
  | a :: r, b :: r' => ArgOk mem a b ∧ ArgsOk mem r r'
  | _, _ => False

def FnOk (P : Program) (f : FuncId) : Prop := ∃ fn, P.funcs[f]? = some fn ∧ (fn.name == "runtime.NumGoroutine") = false ∧ fn.body.isNone = false

/-- a contract: called with values that read as args, the function returns a value that reads as an av with R av obs, obs: new objects -/
def VFun (P : Program) (f : FuncId) (args : List AV) (R : AV → List Ob → Prop) : Prop :=
  FnOk P f ∧ ∀ (w : World) (vs : List Value), args.length = vs.length → (∀ (j : Nat) a u, args[j]? = some a → vs[j]? = some u → Rep w (fun _ => True) (fun _ => undef) 0 a u) →
    Calls P f vs.toArray w (fun e w' => ∃ v, e = .returned v ∧ w.grownBy w' none ∧ ∃ hd av obs, R av obs ∧ flatV av = true ∧ (∀ ob, ob ∈ obs → ∀ i, i < ob.n → (ob.f i).all isLit = true) ∧
      MemRel (fun b => w.heap.size ≤ b) w' hd (obs.map some) ∧ Rep w' (fun _ => True) hd obs.length av v)

theorem VFun.mono {P : Program} {f : FuncId} {args : List AV} {R R' : AV → List Ob → Prop} (h : VFun P f args R) (hr : ∀ av obs, R av obs → R' av obs) : VFun P f args R' :=
  ⟨h.1, fun w vs hl hv => (h.2 w vs hl hv).mono fun e w' ⟨v, e1, g, hd, av, obs, r, rest⟩ => ⟨v, e1, g, hd, av, obs, hr _ _ r, rest⟩⟩

section
variable {P : Program} {n : Nat} {base : Fr} {w0 w : World} {hd : Nat → Value} {s : VS} {a : Act} {k : AV → VS → Prop}

theorem argSl_rep (h : RelH n base w0 hd s a w) {x : Operand} {sz m : Nat} {f' : Nat → List AV} (ha : ArgSl s.mem (ev s x) sz m f') : Rep w (fun _ => True) (fun _ => undef) 0 (.sl sz m f') (a.eval x) := by
  obtain ⟨hsz, f, hc, hf⟩ := ha
  obtain ⟨A, c, u, hv, hmc, hcell, hr⟩ := src_of h hc
  rw [hv]
  have hmax : m ≤ 9223372036854775807 := by
    have hx := h.ev_ x
    generalize ev s x = ax at *
    cases ax with
    | sl sz' m' f0 =>
      simp only [contents] at hc
      split at hc
      · simp only [Option.some.injEq, Prod.mk.injEq] at hc
        obtain ⟨rfl, rfl⟩ := hc
        rw [hv] at hx
        cases hx; assumption
      · simp at hc
    | own q =>
      simp only [contents] at hc
      split at hc
      · rename_i ob hob
        split at hc
        · simp only [Option.some.injEq, Prod.mk.injEq] at hc
          obtain ⟨rfl, rfl⟩ := hc
          obtain ⟨_, vals, ho, _⟩ := h.me.obs q ob hob
          rcases ho.2 with ⟨_, h0⟩ | ⟨g, cap, cur, _, _, _, h1, h2, _⟩
          · omega
          · simp only [maxLen] at h2; omega
        · simp at hc
      · simp at hc
    | sub q sz' lo m' =>
      simp only [contents] at hc
      split at hc
      · rename_i ob hob
        split at hc
        · rename_i hh
          simp only [Option.some.injEq, Prod.mk.injEq] at hc
          obtain ⟨rfl, rfl⟩ := hc
          obtain ⟨_, vals, ho, _⟩ := h.me.obs q ob hob
          rcases ho.2 with ⟨_, h0⟩ | ⟨g, cap, cur, _, _, _, h1, h2, _⟩
          · omega
          · simp only [maxLen] at h2; omega
        · simp at hc
      · simp at hc
    | lit v =>
      unfold contents at hc
      split at hc
      · rename_i e; cases e
      · rename_i e; cases e
      · rename_i e; cases e
      · simp only [Option.some.injEq, Prod.mk.injEq] at hc
        obtain ⟨rfl, rfl⟩ := hc
        omega
      · simp at hc
    | _ => simp [contents] at hc
  refine .sl sz m f' A c u hmc hmax hsz (fun i hi => by rw [← (hf i hi).1]; exact (hr i hi).1) (fun hp => ?_) fun i j av hi hj => ?_
  · obtain ⟨ad, e1, e2⟩ := hcell hp
    exact ⟨ad, e1, trivial, e2⟩
  · have hcl := (hf i hi).2 av (List.mem_of_getElem? hj)
    rw [← (hf i hi).1] at hj
    exact Rep.closed hcl (fun _ _ _ hc => ⟨hc, trivial⟩) ((hr i hi).2 j av hj).1

/-- a cell's value, where an aggregate's part is handed over: as if it were an operand -/
theorem argOk_rep (h : RelH n base w0 hd s a w) {x : Operand} {av' : AV} (ha : ArgOk s.mem (ev s x) av') : Rep w (fun _ => True) (fun _ => undef) 0 av' (a.eval x) := by
  have one : ∀ (y : Operand) c', ArgOk1 s.mem (ev s y) c' → Rep w (fun _ => True) (fun _ => undef) 0 c' (a.eval y) := by
    intro y c' h1
    cases c' with
    | lit v =>
      have hy := h.ev_ y
      simp only [ArgOk1] at h1
      rw [h1] at hy
      generalize a.eval y = u at hy
      cases hy; exact .lit _
    | sl sz m f' => exact argSl_rep h h1
    | _ => exact h1.elim
  cases av' with
  | agg cs' =>
    obtain ⟨cs, e, hl, hc⟩ := ha
    have hx := h.ev_ x
    rw [e] at hx
    generalize a.eval x = u at hx
    cases hx with
    | agg _ vs hl' hr =>
      refine .agg cs' vs (by omega) fun j c' u h1 h2 => ?_
      have hjl : j < cs.length := by rw [hl]; exact (List.getElem?_eq_some_iff.1 h1).1
      -- the part as an operand of a frame that holds it
      have hp := hr j cs[j] u (List.getElem?_eq_getElem hjl) h2
      have h3 := hc j _ c' (List.getElem?_eq_getElem hjl) h1
      have h' : RelH (n + 1) base w0 hd { s with tmps := (n, cs[j]) :: s.tmps } ⟨a.tmps.push u, a.defers⟩ w := by
        refine ⟨h.defers, by simp [h.size], h.below, h.le, h.fixl, h.fix, h.mp, fun t => ?_, h.me⟩
        simp only [lk, Array.getD_eq_getD_getElem?, Array.getElem?_push, h.size]
        by_cases e2 : n = t
        · subst e2; simp; exact hp
        · rw [if_neg e2, if_neg (fun e3 => e2 e3.symm)]
          have := h.tm t
          rwa [Array.getD_eq_getD_getElem?] at this
      have e4 : ev { s with tmps := (n, cs[j]) :: s.tmps } (.tmp n) = cs[j] := by simp [ev, lk]
      have e5 : (⟨a.tmps.push u, a.defers⟩ : Act).eval (.tmp n) = u := by simp [Act.eval, ← h.size]
      cases c' with
      | lit v =>
        simp only [ArgOk1] at h3
        rw [h3] at hp
        cases hp; exact .lit _
      | sl sz m f' =>
        have := argSl_rep h' (x := .tmp n) (sz := sz) (m := m) (f' := f') (by rw [e4]; exact h3)
        rw [e5] at this; exact this
      | _ => exact h3.elim
  | lit v => exact one x _ ha
  | sl sz m f' => exact one x _ ha
  | _ => exact (ha : False).elim

theorem argsOk_rep (h : RelH n base w0 hd s a w) : ∀ (xs : List Operand) (args' : List AV), ArgsOk s.mem (xs.map (ev s)) args' →
    args'.length = (xs.map a.eval).length ∧ ∀ (j : Nat) b u, args'[j]? = some b → (xs.map a.eval)[j]? = some u → Rep w (fun _ => True) (fun _ => undef) 0 b u
  | [], [], _ => ⟨rfl, fun j b u hb => by simp at hb⟩
  | x :: xs, b :: bs, ha => by
    obtain ⟨h1, h2⟩ := ha
    obtain ⟨g1, g2⟩ := argsOk_rep h xs bs h2
    refine ⟨by simpa using g1, fun j c u hc hu => ?_⟩
    cases j with
    | zero =>
      simp only [List.getElem?_cons_zero, Option.some.injEq, List.map_cons] at hc hu
      subst hc; subst hu
      exact argOk_rep h h1
    | succ j => exact g2 j c u (by simpa using hc) (by simpa using hu)
  | [], _ :: _, ha => ha.elim
  | _ :: _, [], ha => ha.elim

theorem own_weaken' {w : World} {base base' e size m : Nat} {v : Value} {xs : List Value} (h : w.ownsRow base e size v m xs) (hb : base' ≤ base) : w.ownsRow base' e size v m xs := by
  refine ⟨h.1, ?_⟩
  rcases h.2 with h0 | ⟨g, cap, cur, e, h1, r⟩
  · exact .inl h0
  · exact .inr ⟨g, cap, cur, e, by omega, r⟩

/-- what a call has made comes to what there is -/
theorem RelH.import (h : RelH n base w0 hd s a w) {w' : World} (hg : w.grownBy w' none) {hdc : Nat → Value} {obs : List Ob} (hm : MemRel (fun b => w.heap.size ≤ b) w' hdc (obs.map some)) (hlit : ∀ ob, ob ∈ obs → ∀ i, i < ob.n → (ob.f i).all isLit = true) :
    RelH n base w0 (fun j => if j < s.mem.length then hd j else hdc (j - s.mem.length)) { s with mem := s.mem ++ obs.map some } a w' := by
  have hlen : s.mem.length ≤ (s.mem ++ obs.map some).length := by simp
  have hhd : ∀ q, q < s.mem.length → (fun j => if j < s.mem.length then hd j else hdc (j - s.mem.length)) q = hd q := by
    intro q hq; simp only; rw [if_pos hq]
  have newB : ∀ q ob, (obs.map some)[q]? = some (some ob) → ∀ b, (hdc q).ownBlock = some b → w.heap.size ≤ b := by
    intro q ob hq b hb
    exact hm.alw q ob hq b hb
  have hok : ∀ ad v, okOf s.mem hd ad.block → w.cell? ad = some v → w'.cell? ad = some v ∧ okOf (s.mem ++ obs.map some) (fun j => if j < s.mem.length then hd j else hdc (j - s.mem.length)) ad.block := by
    intro ad v hoA hcA
    have hlt := World.block_lt_of_cell? w _ hcA
    refine ⟨cell_same (hg.block _ hlt (by simp)) hcA, fun q oq hq => ?_⟩
    simp only
    rw [List.getElem?_append] at hq
    split at hq
    · rename_i hql; rw [if_pos hql]; exact hoA q oq hq
    · rename_i hql
      rw [if_neg hql]
      intro e
      have := newB _ oq hq _ e
      omega
  refine ⟨h.defers, h.size, h.below.grown hg (by simp), h.le, by have := h.fixl; simp; omega, fun q hq => (if_pos (by have := h.fixl; have hq' : q < s.fix := hq; omega)).trans (h.fix q hq), h.mp.grown hg (by simp), fun q => (h.tm q).mono hok hhd hlen, ⟨fun q oq hq b hb => ?_, fun q oq hq => ?_, fun q hq => ?_, fun q q' oq oq' hq hq' hqq => ?_⟩⟩
  · rw [List.getElem?_append] at hq
    split at hq
    · rename_i hql
      rw [if_pos hql] at hb
      exact h.me.alw q oq hq b hb
    · rename_i hql
      rw [if_neg hql] at hb
      exact h.le _ (Nat.le_trans h.below.size (newB _ oq hq b hb))
  · simp only
    rw [List.getElem?_append] at hq
    split at hq
    · rename_i hql
      rw [if_pos hql]
      obtain ⟨hs', vs', ho', hr'⟩ := h.me.obs q oq hq
      refine ⟨hs', vs', ho'.kept hg (by cases (hd q).ownBlock <;> simp), fun i hi => ⟨(hr' i hi).1, fun j av hj => ?_⟩⟩
      obtain ⟨v, q1, q2, q3⟩ := (hr' i hi).2 j av hj
      exact ⟨v, q1, q2, q3.mono hok hhd hlen⟩
    · rename_i hql
      rw [if_neg hql]
      obtain ⟨hs', vs', ho', hr'⟩ := hm.obs _ oq hq
      refine ⟨hs', vs', ho', fun i hi => ⟨(hr' i hi).1, fun j av hj => ?_⟩⟩
      obtain ⟨v, q1, q2, q3⟩ := (hr' i hi).2 j av hj
      have hmem : oq ∈ obs := by
        have := List.mem_of_getElem? hq
        simpa using this
      have hl := List.all_eq_true.1 (hlit oq hmem i hi) av (List.mem_of_getElem? hj)
      refine ⟨v, q1, q2, ?_⟩
      cases av <;> simp [isLit] at hl
      cases q3; exact .lit _
  · split
    · rename_i hql; exact h.me.hds q hql
    · rename_i hql; exact hm.hds _ (by simp at hq ⊢; omega)
  · have cross : ∀ p p' op op', s.mem[p]? = some (some op) → (obs.map some)[p']? = some (some op') → (hd p).ownBlock = none ∨ (hd p).ownBlock ≠ (hdc p').ownBlock := by
      intro p p' op op' hp hp'
      cases hb : (hd p).ownBlock with
      | none => exact .inl rfl
      | some b =>
        refine .inr fun e => ?_
        obtain ⟨_, vals, ho, _⟩ := h.me.obs p op hp
        have h1 := (own_lt ho hb).1
        have h2 := newB p' op' hp' b e.symm
        omega
    rw [List.getElem?_append] at hq hq'
    split at hq
    · rename_i hql
      rw [if_pos hql]
      split at hq'
      · rename_i hql'; rw [if_pos hql']; exact h.me.apart q q' oq oq' hq hq' hqq
      · rename_i hql'; rw [if_neg hql']; exact cross q _ oq oq' hq hq'
    · rename_i hql
      rw [if_neg hql]
      split at hq'
      · rename_i hql'
        rw [if_pos hql']
        rcases cross q' _ oq' oq hq' hq with e | e
        · cases hb : (hdc (q - s.mem.length)).ownBlock with
          | none => exact .inl rfl
          | some b => rw [e]; exact .inr (by simp)
        · exact .inr (fun e' => e e'.symm)
      · rename_i hql'
        rw [if_neg hql']
        exact hm.apart _ _ oq oq' hq hq' (by omega)
end
end Go.Proofs.Ytnjnkhmcdkjekaa.V
