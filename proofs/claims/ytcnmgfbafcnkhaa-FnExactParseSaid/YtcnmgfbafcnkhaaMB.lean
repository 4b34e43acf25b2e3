import Derived.Test.YtcnmgfbafcnkhaaMA
import Derived.Laws.Externs
import Derived.Lib.Builder
import Derived.Scope
/- The value machine, part 8: contracts of functions, calls, lists of operations. -/
namespace Go.Proofs.Ytcnmgfbafcnkhaa.V
open Go.RowKit
set_option linter.unusedVariables false
set_option linter.unusedSimpArgs false

/-- nothing of the call's own inside -/
inductive Closed : AV → Prop
  | lit (v : Value) : Closed (.lit v)
  | agg (cs : List AV) (h : ∀ c, c ∈ cs → Closed c) : Closed (.agg cs)
  | sl (sz n : Nat) (f : Nat → List AV) (h : ∀ (i : Nat) c, i < n → c ∈ f i → Closed c) : Closed (.sl sz n f)
  | bptr (cs : List AV) (h : ∀ c, c ∈ cs → Closed c) : Closed (.bptr cs)

theorem Rep.closed {w w' : World} {ok ok' : Nat → Prop} {hd hd' : Nat → Value} {m m' : Nat} {av : AV} (hcl : Closed av) : (∀ a u, ok a.block → w.cell? a = some u → w'.cell? a = some u ∧ ok' a.block) →
    ∀ {v : Value}, Rep w ok hd m av v → Rep w' ok' hd' m' av v := by
  intro hc
  induction hcl with
  | lit v => intro v h; cases h; exact .lit _
  | agg cs _ ih =>
    intro v h
    cases h with
    | agg _ vs hl h => exact .agg cs vs hl fun j a u h1 h2 => ih a (List.mem_of_getElem? h1) (h j a u h1 h2)
  | sl sz n f _ ih =>
    intro v h
    cases h with
    | sl _ _ _ A c u hcn hmn hsz hl ha hr =>
      refine .sl sz n f A c u hcn hmn hsz hl (fun hn => ?_) fun i j a hi hj => ih i a hi (List.mem_of_getElem? hj) (hr i j a hi hj)
      obtain ⟨ad, e, hok, hcell⟩ := ha hn
      have h0 := hc (ad.add (0 * sz + 0)) _ (by rw [show 0 * sz + 0 = 0 by omega]; simpa [Addr.add] using hok) (hcell 0 0 hn hsz)
      refine ⟨ad, e, by rw [show 0 * sz + 0 = 0 by omega] at h0; simpa [Addr.add] using h0.2, fun i j hi hj => (hc _ _ ?_ (hcell i j hi hj)).1⟩
      unfold Addr.add; split <;> exact hok
  | bptr cs _ ih =>
    intro v h
    cases h with
    | bptr _ ad u hne hok hcell hr =>
      have hp : 0 < cs.length := by cases cs with
        | nil => exact absurd rfl hne
        | cons _ _ => simp
      have h0 := hc (ad.add 0) _ (by simpa [Addr.add] using hok) (hcell 0 hp)
      refine .bptr cs ad u hne (by simpa [Addr.add] using h0.2) (fun j hj => (hc _ _ ?_ (hcell j hj)).1) fun j a hj => ih a (List.mem_of_getElem? hj) (hr j a hj)
      unfold Addr.add; split <;> exact hok

def isLit : AV → Bool
  | .lit _ => true
  | _ => false
theorem Closed.of_lit {av : AV} (h : isLit av = true) : Closed av := by cases av <;> simp [isLit] at h; exact .lit _
def flat1 : AV → Bool
  | .lit _ => true
  | .own _ => true
  | .ptr _ _ _ _ => true
  | .sub _ _ _ _ => true
  | _ => false
def flat2 : AV → Bool
  | .agg cs => cs.all flat1
  | x => flat1 x
def flatV : AV → Bool
  | .tup vs => vs.all flat2
  | x => flat2 x
/-- the same, the call's own objects numbered by g -/
def ren1 (g : Nat → Nat) : AV → AV
  | .own k => .own (g k)
  | .ptr k sz i j => .ptr (g k) sz i j
  | .sub k sz i j => .sub (g k) sz i j
  | x => x
def ren2 (g : Nat → Nat) : AV → AV
  | .agg cs => .agg (cs.map (ren1 g))
  | x => ren1 g x
def ren (g : Nat → Nat) : AV → AV
  | .tup vs => .tup (vs.map (ren2 g))
  | x => ren2 g x
def owns1 : AV → List Nat
  | .own k => [k]
  | .ptr k _ _ _ => [k]
  | .sub k _ _ _ => [k]
  | _ => []
def owns2 : AV → List Nat
  | .agg cs => cs.flatMap owns1
  | x => owns1 x
def ownsV : AV → List Nat
  | .tup vs => vs.flatMap owns2
  | x => owns2 x

section
variable {w w' : World} {ok ok' : Nat → Prop} {hd hd' : Nat → Value} {m m' : Nat} {g : Nat → Nat}
theorem Rep.ren1_ {av : AV} {v : Value} (hf : flat1 av = true) (hg : ∀ k, k ∈ owns1 av → k < m → g k < m' ∧ hd' (g k) = hd k) (h : Rep w ok hd m av v) : Rep w' ok' hd' m' (ren1 g av) v := by
  cases h with
  | lit v => exact .lit v
  | own k hk =>
    obtain ⟨h1, h2⟩ := hg k (by simp [owns1]) hk
    rw [← h2]; exact .own _ h1
  | ptr k sz i j b n' c' hk h =>
    obtain ⟨h1, h2⟩ := hg k (by simp [owns1]) hk
    exact .ptr _ sz i j b n' c' h1 (by rw [h2]; exact h)
  | sub k sz lo n A c hk hc ha =>
    obtain ⟨h1, h2⟩ := hg k (by simp [owns1]) hk
    exact .sub _ sz lo n A c h1 hc (fun hn => by rw [h2]; exact ha hn)
  | _ => simp [flat1] at hf
/-- what a cell may hold that is handed back: a word, or a borrowed slice of words -/
def flatC (c : AV) : Prop := flat1 c = true ∨ (∃ sz n f, c = .sl sz n f) ∧ Closed c
theorem flatC_all {l : List AV} (h : l.all flat1 = true) : ∀ c, c ∈ l → flatC c := fun c hc => .inl (List.all_eq_true.1 h c hc)
theorem flatC_ren {g : Nat → Nat} {x : AV} : flatC (ren1 g x) ↔ flatC x := by cases x <;> simp [flatC, ren1, flat1]
theorem Rep.renC_ {av : AV} {v : Value} (hf : flatC av) (hc : ∀ a u, ok a.block → w.cell? a = some u → w'.cell? a = some u ∧ ok' a.block) (hg : ∀ k, k ∈ owns1 av → k < m → g k < m' ∧ hd' (g k) = hd k) (h : Rep w ok hd m av v) : Rep w' ok' hd' m' (ren1 g av) v := by
  rcases hf with hf | ⟨⟨sz, n, f, rfl⟩, hcl⟩
  · exact h.ren1_ hf hg
  · exact Rep.closed hcl hc h
theorem Rep.ren2_ {av : AV} {v : Value} (hf : flat2 av = true) (hg : ∀ k, k ∈ owns2 av → k < m → g k < m' ∧ hd' (g k) = hd k) (h : Rep w ok hd m av v) : Rep w' ok' hd' m' (ren2 g av) v := by
  cases h with
  | agg cs vs hl h =>
    simp only [flat2, List.all_eq_true] at hf
    refine .agg _ vs (by simpa using hl) fun j a u h1 h2 => ?_
    rw [List.getElem?_map, Option.map_eq_some_iff] at h1
    obtain ⟨a0, h3, h4⟩ := h1
    subst h4
    exact (h j a0 u h3 h2).ren1_ (hf _ (List.mem_of_getElem? h3)) fun k hk => hg k (List.mem_flatMap.2 ⟨a0, List.mem_of_getElem? h3, hk⟩)
  | lit v => exact .lit v
  | own k hk => exact Rep.ren1_ (av := .own k) (w := w) (ok := ok) rfl hg (.own k hk)
  | ptr k sz i j b n' c' hk h => exact Rep.ren1_ (av := .ptr k sz i j) (w := w) (ok := ok) rfl hg (.ptr k sz i j b n' c' hk h)
  | sub k sz lo n A c hk hc ha => exact Rep.ren1_ (av := .sub k sz lo n) (w := w) (ok := ok) rfl hg (.sub k sz lo n A c hk hc ha)
  | _ => simp [flat2, flat1] at hf
theorem Rep.ren_ {av : AV} {v : Value} (hf : flatV av = true) (hg : ∀ k, k ∈ ownsV av → k < m → g k < m' ∧ hd' (g k) = hd k) (h : Rep w ok hd m av v) : Rep w' ok' hd' m' (ren g av) v := by
  cases h with
  | tup cs vs hl h =>
    simp only [flatV, List.all_eq_true] at hf
    refine .tup _ vs (by simpa using hl) fun j a u h1 h2 => ?_
    rw [List.getElem?_map, Option.map_eq_some_iff] at h1
    obtain ⟨a0, h3, h4⟩ := h1
    subst h4
    exact (h j a0 u h3 h2).ren2_ (hf _ (List.mem_of_getElem? h3)) fun k hk => hg k (List.mem_flatMap.2 ⟨a0, List.mem_of_getElem? h3, hk⟩)
  | agg cs vs hl h => exact Rep.ren2_ (av := .agg cs) hf hg (.agg cs vs hl h)
  | lit v => exact .lit v
  | own k hk => exact Rep.ren2_ (av := .own k) (w := w) (ok := ok) rfl hg (.own k hk)
  | ptr k sz i j b n' c' hk h => exact Rep.ren2_ (av := .ptr k sz i j) (w := w) (ok := ok) rfl hg (.ptr k sz i j b n' c' hk h)
  | sub k sz lo n A c hk hc ha => exact Rep.ren2_ (av := .sub k sz lo n) (w := w) (ok := ok) rfl hg (.sub k sz lo n A c hk hc ha)
  | _ => simp [flatV, flat2, flat1] at hf
end

/-- an argument, as the callee sees it -/
def ArgSl (mem : List (Option Ob)) (av : AV) (sz n : Nat) (f' : Nat → List AV) : Prop :=
  0 < sz ∧ ∃ f, contents mem sz av = some (n, f) ∧ ∀ i, i < n → f i = f' i ∧ ∀ c, c ∈ f' i → Closed c
def ArgOk1 (mem : List (Option Ob)) (c : AV) : AV → Prop
  | .lit v => c = .lit v
  | .sl sz n f' => ArgSl mem c sz n f'
  | _ => False
def ArgOk (mem : List (Option Ob)) (av : AV) : AV → Prop
  | .agg cs' => ∃ cs, av = .agg cs ∧ cs.length = cs'.length ∧ ∀ (j : Nat) c c', cs[j]? = some c → cs'[j]? = some c' → ArgOk1 mem c c'
  | x => ArgOk1 mem av x
def ArgsOk (mem : List (Option Ob)) : List AV → List AV → Prop
  | [], [] => True
  | a :: r, b :: r' => ArgOk mem a b ∧ ArgsOk mem r r'
  | _, _ => False

def FnOk (P : Program) (f : FuncId) : Prop := ∃ fn, P.funcs[f]? = some fn ∧ (fn.name == "runtime.NumGoroutine") = false ∧ fn.body.isNone = false

/-- a contract: called with values that read as args, the function returns a value that reads as an av with R av obs, obs: new objects -/
def VFun (P : Program) (f : FuncId) (args : List AV) (R : AV → List Ob → Prop) : Prop :=
  FnOk P f ∧ ∀ (w : World) (vs : List Value), args.length = vs.length → (∀ (j : Nat) a u, args[j]? = some a → vs[j]? = some u → Rep w (fun _ => True) (fun _ => undef) 0 a u) →
    Calls P f vs.toArray w (fun e w' => ∃ v, e = .returned v ∧ w.grownBy w' none ∧ ∃ hd av obs, R av obs ∧ flatV av = true ∧ (∀ ob, ob ∈ obs → ∀ i, i < ob.n → (ob.f i).all isLit = true) ∧
      MemRel (fun b => w.heap.size ≤ b) w' hd (obs.map some) ∧ Rep w' (fun _ => True) hd obs.length av v)

theorem VFun.mono {P : Program} {f : FuncId} {args : List AV} {R R' : AV → List Ob → Prop} (h : VFun P f args R) (hr : ∀ av obs, R av obs → R' av obs) : VFun P f args R' :=
  ⟨h.1, fun w vs hl hv => (h.2 w vs hl hv).mono fun e w' ⟨v, e1, g, hd, av, obs, r, rest⟩ => ⟨v, e1, g, hd, av, obs, hr _ _ r, rest⟩⟩

section
variable {P : Program} {n : Nat} {base : Fr} {w0 w : World} {hd : Nat → Value} {s : VS} {a : Act} {k : AV → VS → Prop}

theorem argSl_rep (h : RelH n base w0 hd s a w) {x : Operand} {sz m : Nat} {f' : Nat → List AV} (ha : ArgSl s.mem (ev s x) sz m f') : Rep w (fun _ => True) (fun _ => undef) 0 (.sl sz m f') (a.eval x) := by
  obtain ⟨hsz, f, hc, hf⟩ := ha
  obtain ⟨A, c, u, hv, hmc, hcell, hr⟩ := src_of h hc
  rw [hv]
  have hmax : m ≤ 9223372036854775807 := by
    have hx := h.ev_ x
    generalize ev s x = ax at *
    cases ax with
    | sl sz' m' f0 =>
      simp only [contents] at hc
      split at hc
      · simp only [Option.some.injEq, Prod.mk.injEq] at hc
        obtain ⟨rfl, rfl⟩ := hc
        rw [hv] at hx
        cases hx; assumption
      · simp at hc
    | own q =>
      simp only [contents] at hc
      split at hc
      · rename_i ob hob
        split at hc
        · simp only [Option.some.injEq, Prod.mk.injEq] at hc
          obtain ⟨rfl, rfl⟩ := hc
          obtain ⟨_, vals, ho, _⟩ := h.me.obs q ob hob
          rcases ho.2 with ⟨_, h0⟩ | ⟨g, cap, cur, _, _, h1, h2, _⟩
          · omega
          · simp only [maxLen] at h2; omega
        · simp at hc
      · simp at hc
    | sub q sz' lo m' =>
      simp only [contents] at hc
      split at hc
      · rename_i ob hob
        split at hc
        · rename_i hh
          simp only [Option.some.injEq, Prod.mk.injEq] at hc
          obtain ⟨rfl, rfl⟩ := hc
          obtain ⟨_, vals, ho, _⟩ := h.me.obs q ob hob
          rcases ho.2 with ⟨_, h0⟩ | ⟨g, cap, cur, _, _, h1, h2, _⟩
          · omega
          · simp only [maxLen] at h2; omega
        · simp at hc
      · simp at hc
    | lit v =>
      unfold contents at hc
      split at hc
      · rename_i e; cases e
      · rename_i e; cases e
      · rename_i e; cases e
      · simp only [Option.some.injEq, Prod.mk.injEq] at hc
        obtain ⟨rfl, rfl⟩ := hc
        omega
      · simp at hc
    | _ => simp [contents] at hc
  refine .sl sz m f' A c u hmc hmax hsz (fun i hi => by rw [← (hf i hi).1]; exact (hr i hi).1) (fun hp => ?_) fun i j av hi hj => ?_
  · obtain ⟨ad, e1, e2⟩ := hcell hp
    exact ⟨ad, e1, trivial, e2⟩
  · have hcl := (hf i hi).2 av (List.mem_of_getElem? hj)
    rw [← (hf i hi).1] at hj
    exact Rep.closed hcl (fun _ _ _ hc => ⟨hc, trivial⟩) ((hr i hi).2 j av hj).1

/-- a cell's value, where an aggregate's part is handed over: as if it were an operand -/
theorem argOk_rep (h : RelH n base w0 hd s a w) {x : Operand} {av' : AV} (ha : ArgOk s.mem (ev s x) av') : Rep w (fun _ => True) (fun _ => undef) 0 av' (a.eval x) := by
  have one : ∀ (y : Operand) c', ArgOk1 s.mem (ev s y) c' → Rep w (fun _ => True) (fun _ => undef) 0 c' (a.eval y) := by
    intro y c' h1
    cases c' with
    | lit v =>
      have hy := h.ev_ y
      simp only [ArgOk1] at h1
      rw [h1] at hy
      generalize a.eval y = u at hy
      cases hy; exact .lit _
    | sl sz m f' => exact argSl_rep h h1
    | _ => exact h1.elim
  cases av' with
  | agg cs' =>
    obtain ⟨cs, e, hl, hc⟩ := ha
    have hx := h.ev_ x
    rw [e] at hx
    generalize a.eval x = u at hx
    cases hx with
    | agg _ vs hl' hr =>
      refine .agg cs' vs (by omega) fun j c' u h1 h2 => ?_
      have hjl : j < cs.length := by rw [hl]; exact (List.getElem?_eq_some_iff.1 h1).1
      -- the part as an operand of a frame that holds it
      have hp := hr j cs[j] u (List.getElem?_eq_getElem hjl) h2
      have h3 := hc j _ c' (List.getElem?_eq_getElem hjl) h1
      have h' : RelH (n + 1) base w0 hd { s with tmps := (n, cs[j]) :: s.tmps } ⟨a.tmps.push u, a.defers⟩ w := by
        refine ⟨h.defers, by simp [h.size], h.below, h.le, h.fixl, h.fix, h.mp, fun t => ?_, h.me⟩
        simp only [lk, Array.getD_eq_getD_getElem?, Array.getElem?_push, h.size]
        by_cases e2 : n = t
        · subst e2; simp; exact hp
        · rw [if_neg e2, if_neg (fun e3 => e2 e3.symm)]
          have := h.tm t
          rwa [Array.getD_eq_getD_getElem?] at this
      have e4 : ev { s with tmps := (n, cs[j]) :: s.tmps } (.tmp n) = cs[j] := by simp [ev, lk]
      have e5 : (⟨a.tmps.push u, a.defers⟩ : Act).eval (.tmp n) = u := by simp [Act.eval, ← h.size]
      cases c' with
      | lit v =>
        simp only [ArgOk1] at h3
        rw [h3] at hp
        cases hp; exact .lit _
      | sl sz m f' =>
        have := argSl_rep h' (x := .tmp n) (sz := sz) (m := m) (f' := f') (by rw [e4]; exact h3)
        rw [e5] at this; exact this
      | _ => exact h3.elim
  | lit v => exact one x _ ha
  | sl sz m f' => exact one x _ ha
  | _ => exact (ha : False).elim

theorem argsOk_rep (h : RelH n base w0 hd s a w) : ∀ (xs : List Operand) (args' : List AV), ArgsOk s.mem (xs.map (ev s)) args' →
    args'.length = (xs.map a.eval).length ∧ ∀ (j : Nat) b u, args'[j]? = some b → (xs.map a.eval)[j]? = some u → Rep w (fun _ => True) (fun _ => undef) 0 b u
  | [], [], _ => ⟨rfl, fun j b u hb => by simp at hb⟩
  | x :: xs, b :: bs, ha => by
    obtain ⟨h1, h2⟩ := ha
    obtain ⟨g1, g2⟩ := argsOk_rep h xs bs h2
    refine ⟨by simpa using g1, fun j c u hc hu => ?_⟩
    cases j with
    | zero =>
      simp only [List.getElem?_cons_zero, Option.some.injEq, List.map_cons] at hc hu
      subst hc; subst hu
      exact argOk_rep h h1
    | succ j => exact g2 j c u (by simpa using hc) (by simpa using hu)
  | [], _ :: _, ha => ha.elim
  | _ :: _, [], ha => ha.elim


/-- numbers behind the last object may be chosen at will -/
theorem MemRel.retail {B : Nat → Prop} {w : World} {hdc hd2 : Nat → Value} {obs : List Ob} (hm : MemRel B w hdc (obs.map some)) (hlit : ∀ ob, ob ∈ obs → ∀ i, i < ob.n → (ob.f i).all isLit = true) (e : ∀ k, k < obs.length → hd2 k = hdc k) : MemRel B w hd2 (obs.map some) := by
  have lt : ∀ k o, (obs.map some)[k]? = some (some o) → k < obs.length := fun k o hk => by have := (List.getElem?_eq_some_iff.1 hk).1; simpa using this
  refine ⟨fun k ob hk b hb => hm.alw k ob hk b (by rw [← e k (lt k ob hk)]; exact hb), fun k ob hk => ?_, fun k hk => by rw [e k (by simpa using hk)]; exact hm.hds k hk, fun k k' o o' hk hk' hne => by rw [e k (lt k o hk), e k' (lt k' o' hk')]; exact hm.apart k k' o o' hk hk' hne⟩
  obtain ⟨hs, vals, ho, hr⟩ := hm.obs k ob hk
  refine ⟨hs, vals, by rw [e k (lt k ob hk)]; exact ho, fun i hi => ⟨(hr i hi).1, fun j av hj => ?_⟩⟩
  obtain ⟨v, q1, q2, q3⟩ := (hr i hi).2 j av hj
  have hmem : ob ∈ obs := by
    have := List.mem_of_getElem? hk
    simpa using this
  have hl := List.all_eq_true.1 (hlit ob hmem i hi) av (List.mem_of_getElem? hj)
  refine ⟨v, q1, q2, ?_⟩
  cases av <;> simp [isLit] at hl
  cases q3; exact .lit _
/-- what a call has made comes to what there is -/
theorem RelH.import (h : RelH n base w0 hd s a w) {w' : World} (hg : w.grownBy w' none) {hdc : Nat → Value} {obs : List Ob} (hm : MemRel (fun b => w.heap.size ≤ b) w' hdc (obs.map some)) (hlit : ∀ ob, ob ∈ obs → ∀ i, i < ob.n → (ob.f i).all isLit = true) (htl : TailEq (fun k => hd (k + s.mem.length)) hdc) :
    RelH n base w0 (fun j => if j < s.mem.length then hd j else hdc (j - s.mem.length)) { s with mem := s.mem ++ obs.map some } a w' := by
  have hlen : s.mem.length ≤ (s.mem ++ obs.map some).length := by simp
  have hhd : ∀ q, q < s.mem.length → (fun j => if j < s.mem.length then hd j else hdc (j - s.mem.length)) q = hd q := by
    intro q hq; simp only; rw [if_pos hq]
  have heq : TailEq hd (fun j => if j < s.mem.length then hd j else hdc (j - s.mem.length)) := by
    obtain ⟨K, hK⟩ := htl
    refine ⟨K + s.mem.length, fun k hk => ?_⟩
    show (if k < s.mem.length then hd k else hdc (k - s.mem.length)) = hd k
    have hnk : ¬ k < s.mem.length := by omega
    rw [if_neg hnk, hK (k - s.mem.length) (by omega)]
    show hd (k - s.mem.length + s.mem.length) = hd k
    rw [Nat.sub_add_cancel (by omega)]
  have newB : ∀ q ob, (obs.map some)[q]? = some (some ob) → ∀ b, (hdc q).ownBlock = some b → w.heap.size ≤ b := by
    intro q ob hq b hb
    exact hm.alw q ob hq b hb
  have hok : ∀ ad v, okOf s.mem hd ad.block → w.cell? ad = some v → w'.cell? ad = some v ∧ okOf (s.mem ++ obs.map some) (fun j => if j < s.mem.length then hd j else hdc (j - s.mem.length)) ad.block := by
    intro ad v hoA hcA
    have hlt := World.block_lt_of_cell? w _ hcA
    refine ⟨cell_same (hg.block _ hlt (by simp)) hcA, fun q oq hq => ?_, hoA.2.eq heq⟩
    simp only
    rw [List.getElem?_append] at hq
    split at hq
    · rename_i hql; rw [if_pos hql]; exact hoA.1 q oq hq
    · rename_i hql
      rw [if_neg hql]
      intro e
      have := newB _ oq hq _ e
      omega
  refine ⟨h.defers, h.size, h.below.grown hg (by simp), h.le, by have := h.fixl; simp; omega, ⟨fun q hq => (if_pos (by have := h.fixl; have hq' : q < s.fix := hq; omega)).trans (h.fix.1 q hq), h.fix.2.1.trans heq, h.fix.2.2⟩, h.mp.grown hg (by simp), fun q => (h.tm q).mono hok hhd hlen, ⟨fun q oq hq b hb => ?_, fun q oq hq => ?_, fun q hq => ?_, fun q q' oq oq' hq hq' hqq => ?_⟩⟩
  · rw [List.getElem?_append] at hq
    split at hq
    · rename_i hql
      rw [if_pos hql] at hb
      exact h.me.alw q oq hq b hb
    · rename_i hql
      rw [if_neg hql] at hb
      exact h.le _ (Nat.le_trans h.below.size (newB _ oq hq b hb))
  · simp only
    rw [List.getElem?_append] at hq
    split at hq
    · rename_i hql
      rw [if_pos hql]
      obtain ⟨hs', vs', ho', hr'⟩ := h.me.obs q oq hq
      refine ⟨hs', vs', ho'.kept hg (by cases (hd q).ownBlock <;> simp), fun i hi => ⟨(hr' i hi).1, fun j av hj => ?_⟩⟩
      obtain ⟨v, q1, q2, q3⟩ := (hr' i hi).2 j av hj
      exact ⟨v, q1, q2, q3.mono hok hhd hlen⟩
    · rename_i hql
      rw [if_neg hql]
      obtain ⟨hs', vs', ho', hr'⟩ := hm.obs _ oq hq
      refine ⟨hs', vs', ho', fun i hi => ⟨(hr' i hi).1, fun j av hj => ?_⟩⟩
      obtain ⟨v, q1, q2, q3⟩ := (hr' i hi).2 j av hj
      have hmem : oq ∈ obs := by
        have := List.mem_of_getElem? hq
        simpa using this
      have hl := List.all_eq_true.1 (hlit oq hmem i hi) av (List.mem_of_getElem? hj)
      refine ⟨v, q1, q2, ?_⟩
      cases av <;> simp [isLit] at hl
      cases q3; exact .lit _
  · split
    · rename_i hql; exact h.me.hds q hql
    · rename_i hql; exact hm.hds _ (by simp at hq ⊢; omega)
  · have cross : ∀ p p' op op', s.mem[p]? = some (some op) → (obs.map some)[p']? = some (some op') → (hd p).ownBlock = none ∨ (hd p).ownBlock ≠ (hdc p').ownBlock := by
      intro p p' op op' hp hp'
      cases hb : (hd p).ownBlock with
      | none => exact .inl rfl
      | some b =>
        refine .inr fun e => ?_
        obtain ⟨_, vals, ho, _⟩ := h.me.obs p op hp
        have h1 := (own_lt ho hb).1
        have h2 := newB p' op' hp' b e.symm
        omega
    rw [List.getElem?_append] at hq hq'
    split at hq
    · rename_i hql
      rw [if_pos hql]
      split at hq'
      · rename_i hql'; rw [if_pos hql']; exact h.me.apart q q' oq oq' hq hq' hqq
      · rename_i hql'; rw [if_neg hql']; exact cross q _ oq oq' hq hq'
    · rename_i hql
      rw [if_neg hql]
      split at hq'
      · rename_i hql'
        rw [if_pos hql']
        rcases cross q' _ oq' oq hq' hq with e | e
        · cases hb : (hdc (q - s.mem.length)).ownBlock with
          | none => exact .inl rfl
          | some b => rw [e]; exact .inr (by simp)
        · exact .inr (fun e' => e e'.symm)
      · rename_i hql'
        rw [if_neg hql']
        exact hm.apart _ _ oq oq' hq hq' (by omega)
end
end Go.Proofs.Ytcnmgfbafcnkhaa.V
/- The value machine, part P: functions that are handed objects and maps of the caller's own. -/
namespace Go.Proofs.Ytcnmgfbafcnkhaa.V
open Go.RowKit
set_option linter.unusedVariables false
set_option linter.unusedSimpArgs false
section
variable {hd : Nat → Value}
/-- read under other numbers of own objects: number k is what f k was -/
inductive Rn (f : Nat → Nat) (m : Nat) : AV → AV → Prop
  | undef (x : AV) : Rn f m x .undef
  | closed (av : AV) (h : Closed av) : Rn f m av av
  | own (k : Nat) (h : k < m) : Rn f m (.own (f k)) (.own k)
  | sub (k sz lo n : Nat) (h : k < m) : Rn f m (.sub (f k) sz lo n) (.sub k sz lo n)
  | ptr (k sz i j : Nat) (h : k < m) : Rn f m (.ptr (f k) sz i j) (.ptr k sz i j)
  | agg (cs ds : List AV) (hl : cs.length = ds.length) (h : ∀ (j : Nat) a b, cs[j]? = some a → ds[j]? = some b → Rn f m a b) : Rn f m (.agg cs) (.agg ds)
  | tup (cs ds : List AV) (hl : cs.length = ds.length) (h : ∀ (j : Nat) a b, cs[j]? = some a → ds[j]? = some b → Rn f m a b) : Rn f m (.tup cs) (.tup ds)
  | bptr (cs ds : List AV) (hl : cs.length = ds.length) (h : ∀ (j : Nat) a b, cs[j]? = some a → ds[j]? = some b → Rn f m a b) : Rn f m (.bptr cs) (.bptr ds)
  | fam (n : Nat) (vs : Nat → Value) (as as' : Nat → AV) (h : ∀ i, i < n → Rn f m (as i) (as' i)) : Rn f m (.fam n vs as) (.fam n vs as')
theorem Rep.rn {w : World} {ok ok' : Nat → Prop} {m m' : Nat} {f : Nat → Nat} {x y : AV} (hb : Rn f m' x y) (hok : ∀ b, ok b → ok' b) : ∀ {v : Value}, Rep w ok hd m x v → Rep w ok' (fun k => hd (f k)) m' y v := by
  induction hb with
  | undef x => intro v _; exact .undef v
  | closed av hc => intro v h; exact Rep.closed hc (fun a u h1 h2 => ⟨h2, hok _ h1⟩) h
  | own k hk => intro v h; cases h; exact .own k hk
  | sub k sz lo n hk => intro v h; cases h with | sub _ _ _ _ A c _ hc ha => exact .sub k sz lo n A c hk hc ha
  | ptr k sz i j hk => intro v h; cases h with | ptr _ _ _ _ b n' c' _ hh => exact .ptr k sz i j b n' c' hk hh
  | agg cs ds hl _ ih => intro v h; cases h with | agg _ vs hl' hr => exact .agg ds vs (by omega) fun j b u h1 h2 => (by
      have hj : j < cs.length := by have := (List.getElem?_eq_some_iff.1 h1).1; omega
      exact ih j _ b (List.getElem?_eq_getElem hj) h1 (hr j _ u (List.getElem?_eq_getElem hj) h2))
  | tup cs ds hl _ ih => intro v h; cases h with | tup _ vs hl' hr => exact .tup ds vs (by omega) fun j b u h1 h2 => (by
      have hj : j < cs.length := by have := (List.getElem?_eq_some_iff.1 h1).1; omega
      exact ih j _ b (List.getElem?_eq_getElem hj) h1 (hr j _ u (List.getElem?_eq_getElem hj) h2))
  | bptr cs ds hl _ ih => intro v h; cases h with | bptr _ ad u hne hok' hc hr => exact .bptr ds ad u (fun e => hne (List.eq_nil_of_length_eq_zero (by rw [hl, e]; rfl))) (hok _ hok') (fun j hj => hc j (by omega)) fun j b h1 => (by
      have hj : j < cs.length := by have := (List.getElem?_eq_some_iff.1 h1).1; omega
      exact ih j _ b (List.getElem?_eq_getElem hj) h1 (hr j _ (List.getElem?_eq_getElem hj)))
  | fam n vs as as' _ ih => intro v h; cases h with | fam _ _ _ _ hr => exact .fam n vs as' v fun i hi => ih i hi (hr i hi)
end

/-- the numbers of a call that is handed the objects ks: they; behind them, ever again, what the caller keeps (but for what it lends) -/
def keptV (hd : Nat → Value) (ks : List Nat) (mem : List (Option Ob)) (k : Nat) : Value := match mem[k]? with
  | some (some _) => if k ∈ ks then undef else hd k
  | _ => undef
def hdF (hd : Nat → Value) (ks : List Nat) (mem : List (Option Ob)) (L : Bool) (j : Nat) : Value := if j < ks.length then hd (ks.getD j 0) else if j % 2 = 0 then (if L = true then undef else keptV hd ks mem (j / 2 % mem.length)) else hd (j / 2)
theorem hdF_lt {hd : Nat → Value} {ks : List Nat} {mem : List (Option Ob)} {L : Bool} {j : Nat} (h : j < ks.length) : hdF hd ks mem L j = hd (ks.getD j 0) := if_pos h
theorem hdF_kept {hd : Nat → Value} {ks : List Nat} {mem : List (Option Ob)} {b : Nat} (h : tailOk (hdF hd ks mem false) b) : tailOk hd b ∧ ∀ k ob, mem[k]? = some (some ob) → k ∉ ks → (hd k).ownBlock ≠ some b := by
  obtain ⟨K, hK⟩ := h
  refine ⟨⟨K + ks.length, fun k hk => ?_⟩, fun k ob hk hks => ?_⟩
  · have := hK (2 * k + 1) (by omega)
    unfold hdF at this
    rw [if_neg (by omega), if_neg (by omega), show (2 * k + 1) / 2 = k by omega] at this
    exact this
  · have hlt := (List.getElem?_eq_some_iff.1 hk).1
    have h2 : K + ks.length ≤ mem.length * (K + ks.length) := Nat.le_mul_of_pos_left _ (by omega)
    have := hK (2 * (k + mem.length * (K + ks.length))) (by omega)
    unfold hdF at this
    rw [if_neg (by omega), if_pos (by omega), show 2 * (k + mem.length * (K + ks.length)) / 2 = k + mem.length * (K + ks.length) by omega, Nat.add_mul_mod_self_left, Nat.mod_eq_of_lt hlt] at this
    simp only [keptV, hk, if_neg hks] at this
    simpa using this
theorem keptV_own {hd : Nat → Value} {ks : List Nat} {mem : List (Option Ob)} {k b : Nat} (h : (keptV hd ks mem k).ownBlock = some b) : ∃ ob, mem[k]? = some (some ob) ∧ k ∉ ks ∧ (hd k).ownBlock = some b := by
  unfold keptV at h
  split at h
  · rename_i ob hk
    split at h
    · simp [undef, Value.ownBlock] at h
    · rename_i hks
      exact ⟨ob, hk, hks, h⟩
  · simp [undef, Value.ownBlock] at h
theorem hdF_tail {hd : Nat → Value} {ks : List Nat} {mem : List (Option Ob)} {L : Bool} {Q : Nat → Prop} (h : ∃ K, ∀ k, K ≤ k → ∀ b, (hd k).ownBlock = some b → Q b) (h2 : L = false → ∀ k ob b, mem[k]? = some (some ob) → k ∉ ks → (hd k).ownBlock = some b → Q b) :
    ∃ K, ∀ k, K ≤ k → ∀ b, (hdF hd ks mem L k).ownBlock = some b → Q b := by
  obtain ⟨K, hK⟩ := h
  refine ⟨ks.length + 2 * K, fun k hk b hb => ?_⟩
  unfold hdF at hb
  rw [if_neg (by omega)] at hb
  split at hb
  · split at hb
    · simp [undef, Value.ownBlock] at hb
    · rename_i hL
      obtain ⟨ob, h3, h4, h5⟩ := keptV_own hb
      exact h2 (by simpa using hL) _ ob b h3 h4 h5
  · exact hK _ (by omega) b hb
/-- what a call may write: what it was handed, what is new -/
def Sh (w : World) (hd0 : Nat → Value) (mem0 : List (Option Ob)) (maps0 : List (Nat × Mp)) (b : Nat) : Prop :=
  w.heap.size ≤ b ∨ (∃ k ob, mem0[k]? = some (some ob) ∧ (hd0 k).ownBlock = some b) ∨ (lkm maps0 b).isSome = true
structure PostOk (mem0 : List (Option Ob)) (maps0 : List (Nat × Mp)) (av : AV) (mem : List (Option Ob)) (maps : List (Nat × Mp)) : Prop where
  len : mem0.length ≤ mem.length
  flat : flatV av = true
  cells : ∀ (k : Nat) (ob : Ob), mem[k]? = some (some ob) → ∀ i, i < ob.n → ∀ c, c ∈ ob.f i → flatC c
  maps : ∀ b, (lkm maps0 b).isSome = true → (lkm maps b).isSome = true
/-- a contract of a function that is handed objects mem0 and maps maps0: what it answers, what they hold then (and what is new behind them) -/
def VProc (P : Program) (f : FuncId) (args : List AV) (mem0 : List (Option Ob)) (maps0 : List (Nat × Mp)) (R : AV → List (Option Ob) → List (Nat × Mp) → Prop) : Prop :=
  FnOk P f ∧ ∀ (w : World) (vs : List Value) (hd0 : Nat → Value), args.length = vs.length →
    (∀ (j : Nat) a u, args[j]? = some a → vs[j]? = some u → Rep w (okOf mem0 hd0) hd0 mem0.length a u) → MemRel (fun _ => True) w hd0 mem0 → MapRel P (fun _ => True) w maps0 → TailNot hd0 (Sh w hd0 mem0 maps0) →
    Calls P f vs.toArray w (fun e w' => ∃ v, e = .returned v ∧ Bel (Sh w hd0 mem0 maps0) w w' ∧ ∃ hd av mem maps, R av mem maps ∧ PostOk mem0 maps0 av mem maps ∧
      ((∀ k, k < mem0.length → hd k = hd0 k) ∧ TailEq hd0 hd) ∧ MemRel (Sh w hd0 mem0 maps0) w' hd mem ∧ MapRel P (Sh w hd0 mem0 maps0) w' maps ∧ Rep w' (okOf mem hd) hd mem.length av v)
theorem VProc.mono {P : Program} {f : FuncId} {args : List AV} {mem0 : List (Option Ob)} {maps0 : List (Nat × Mp)} {R R' : AV → List (Option Ob) → List (Nat × Mp) → Prop} (h : VProc P f args mem0 maps0 R) (hr : ∀ av mem maps, R av mem maps → R' av mem maps) : VProc P f args mem0 maps0 R' :=
  ⟨h.1, fun w vs hd0 hl hv hm hmp ht => (h.2 w vs hd0 hl hv hm hmp ht).mono fun e w' ⟨v, e1, g, hd, av, mem, maps, r, rest⟩ => ⟨v, e1, g, hd, av, mem, maps, hr _ _ _ r, rest⟩⟩

/-- .. and is told what values stand for -/
def VProcG (P : Program) (f : FuncId) (args : List AV) (N : Nat) (vs0 : Nat → Value) (as0 : Nat → AV) (mem0 : List (Option Ob)) (maps0 : List (Nat × Mp)) (R : AV → List (Option Ob) → List (Nat × Mp) → Prop) : Prop :=
  FnOk P f ∧ ∀ (w : World) (vs : List Value) (hd0 : Nat → Value), args.length = vs.length →
    (∀ (j : Nat) a u, args[j]? = some a → vs[j]? = some u → Rep w (okOf mem0 hd0) hd0 mem0.length a u) → (∀ i, i < N → Rep w (okOf mem0 hd0) hd0 mem0.length (as0 i) (vs0 i)) → MemRel (fun _ => True) w hd0 mem0 → MapRel P (fun _ => True) w maps0 → TailNot hd0 (Sh w hd0 mem0 maps0) →
    Calls P f vs.toArray w (fun e w' => ∃ v, e = .returned v ∧ Bel (Sh w hd0 mem0 maps0) w w' ∧ ∃ hd av mem maps, R av mem maps ∧ PostOk mem0 maps0 av mem maps ∧
      ((∀ k, k < mem0.length → hd k = hd0 k) ∧ TailEq hd0 hd) ∧ MemRel (Sh w hd0 mem0 maps0) w' hd mem ∧ MapRel P (Sh w hd0 mem0 maps0) w' maps ∧ Rep w' (okOf mem hd) hd mem.length av v)
theorem VProcG.mono {P : Program} {f : FuncId} {args : List AV} {N : Nat} {vs0 : Nat → Value} {as0 : Nat → AV} {mem0 : List (Option Ob)} {maps0 : List (Nat × Mp)} {R R' : AV → List (Option Ob) → List (Nat × Mp) → Prop} (h : VProcG P f args N vs0 as0 mem0 maps0 R) (hr : ∀ av mem maps, R av mem maps → R' av mem maps) : VProcG P f args N vs0 as0 mem0 maps0 R' :=
  ⟨h.1, fun w vs hd0 hl hv hg hm hmp ht => (h.2 w vs hd0 hl hv hg hm hmp ht).mono fun e w' ⟨v, e1, g, hd, av, mem, maps, r, rest⟩ => ⟨v, e1, g, hd, av, mem, maps, hr _ _ _ r, rest⟩⟩
/-- .. and tells, when it answers, what values stand for -/
def FlatB (a : AV) : Prop := ∃ cs, a = .bptr cs ∧ cs.all flat1 = true
def renB (g : Nat → Nat) : AV → AV
  | .bptr cs => .bptr (cs.map (ren1 g))
  | x => x
def VProcT (P : Program) (f : FuncId) (args : List AV) (mem0 : List (Option Ob)) (maps0 : List (Nat × Mp)) (R : AV → List (Option Ob) → List (Nat × Mp) → Nat → (Nat → Value) → (Nat → AV) → Prop) : Prop :=
  FnOk P f ∧ ∀ (w : World) (vs : List Value) (hd0 : Nat → Value), args.length = vs.length →
    (∀ (j : Nat) a u, args[j]? = some a → vs[j]? = some u → Rep w (okOf mem0 hd0) hd0 mem0.length a u) → MemRel (fun _ => True) w hd0 mem0 → MapRel P (fun _ => True) w maps0 → TailNot hd0 (Sh w hd0 mem0 maps0) →
    Calls P f vs.toArray w (fun e w' => ∃ v, e = .returned v ∧ Bel (Sh w hd0 mem0 maps0) w w' ∧ ∃ hd av mem maps N vs1 as1, (R av mem maps N vs1 as1 ∧ ∀ i, i < N → FlatB (as1 i) ∧ Rep w' (okOf mem hd) hd mem.length (as1 i) (vs1 i)) ∧ PostOk mem0 maps0 av mem maps ∧
      ((∀ k, k < mem0.length → hd k = hd0 k) ∧ TailEq hd0 hd) ∧ MemRel (Sh w hd0 mem0 maps0) w' hd mem ∧ MapRel P (Sh w hd0 mem0 maps0) w' maps ∧ Rep w' (okOf mem hd) hd mem.length av v)
theorem VProcT.mono {P : Program} {f : FuncId} {args : List AV} {mem0 : List (Option Ob)} {maps0 : List (Nat × Mp)} {R R' : AV → List (Option Ob) → List (Nat × Mp) → Nat → (Nat → Value) → (Nat → AV) → Prop} (h : VProcT P f args mem0 maps0 R) (hr : ∀ av mem maps N vs as, R av mem maps N vs as → R' av mem maps N vs as) : VProcT P f args mem0 maps0 R' :=
  ⟨h.1, fun w vs hd0 hl hv hm hmp ht => (h.2 w vs hd0 hl hv hm hmp ht).mono fun e w' ⟨v, e1, g, hd, av, mem, maps, N, vs1, as1, ⟨r, r2⟩, rest⟩ => ⟨v, e1, g, hd, av, mem, maps, N, vs1, as1, ⟨hr _ _ _ _ _ _ r, r2⟩, rest⟩⟩
theorem Rep.renB_ {w w' : World} {ok ok' : Nat → Prop} {hd hd' : Nat → Value} {m m' : Nat} {g : Nat → Nat} {av : AV} {v : Value} (hf : FlatB av) (hc : ∀ a u, ok a.block → w.cell? a = some u → w'.cell? a = some u ∧ ok' a.block) (hg : ∀ k, k < m → g k < m' ∧ hd' (g k) = hd k) (h : Rep w ok hd m av v) : Rep w' ok' hd' m' (renB g av) v := by
  obtain ⟨cs, rfl, hf⟩ := hf
  cases h with
  | bptr _ ad u hne hok hcell hr =>
    have hp : 0 < cs.length := by cases cs with
      | nil => exact absurd rfl hne
      | cons _ _ => simp
    have h0 := hc (ad.add 0) _ (by simpa [Addr.add] using hok) (hcell 0 hp)
    refine .bptr _ ad u (by simpa using hne) (by simpa [Addr.add] using h0.2) (fun j hj => (hc _ _ ?_ (hcell j (by simpa using hj))).1) fun j x hx => ?_
    · unfold Addr.add; split <;> exact hok
    · rw [List.getElem?_map, Option.map_eq_some_iff] at hx
      obtain ⟨c, hx, rfl⟩ := hx
      exact (hr j c hx).ren1_ (List.all_eq_true.1 hf c (List.mem_of_getElem? hx)) fun k _ hk => hg k hk
/-- a contract of a function that surely throws pv; the maps are as they were -/
def VDies (P : Program) (f : FuncId) (pv : Value) (args : List AV) (N : Nat) (vs0 : Nat → Value) (as0 : Nat → AV) (mem0 : List (Option Ob)) (maps0 : List (Nat × Mp)) : Prop :=
  FnOk P f ∧ ∀ (w : World) (vs : List Value) (hd0 : Nat → Value), args.length = vs.length →
    (∀ (j : Nat) a u, args[j]? = some a → vs[j]? = some u → Rep w (okOf mem0 hd0) hd0 mem0.length a u) → (∀ i, i < N → Rep w (okOf mem0 hd0) hd0 mem0.length (as0 i) (vs0 i)) → MemRel (fun _ => True) w hd0 mem0 → MapRel P (fun _ => True) w maps0 → TailNot hd0 (Sh w hd0 mem0 maps0) →
    Calls P f vs.toArray w (fun e w' => e = .panicked [{ v := pv, recovered := false }] ∧ Bel (Sh w hd0 mem0 maps0) w w' ∧ MapRel P (Sh w hd0 mem0 maps0) w' maps0)

def CellsRn (f : Nat → Nat) (m : Nat) : List AV → List AV → Prop
  | [], [] => True
  | a :: r, b :: r' => Rn f m a b ∧ CellsRn f m r r'
  | _, _ => False
theorem cellsRn_get {f : Nat → Nat} {m : Nat} : ∀ {l l' : List AV}, CellsRn f m l l' → l.length = l'.length ∧ ∀ (j : Nat) a b, l[j]? = some a → l'[j]? = some b → Rn f m a b
  | [], [], _ => ⟨rfl, fun j a b h => by simp at h⟩
  | a :: r, b :: r', h => by
    obtain ⟨h1, h2⟩ := cellsRn_get h.2
    refine ⟨by simp [h1], fun j x y hx hy => ?_⟩
    cases j with
    | zero =>
      simp only [List.getElem?_cons_zero, Option.some.injEq] at hx hy
      subst hx; subst hy; exact h.1
    | succ j => exact h2 j x y (by simpa using hx) (by simpa using hy)
  | [], _ :: _, h => h.elim
  | _ :: _, [], h => h.elim
def ShOb (f : Nat → Nat) (m : Nat) (ob ob' : Ob) : Prop := ob.ty = ob'.ty ∧ ob.sz = ob'.sz ∧ ob.n = ob'.n ∧ ∀ i, i < ob'.n → CellsRn f m (ob.f i) (ob'.f i)
def ShAt (f : Nat → Nat) (m : Nat) (ob' : Ob) : Option (Option Ob) → Prop
  | some (some ob) => ShOb f m ob ob'
  | _ => False
def ShMem (f : Nat → Nat) (m : Nat) (mem : List (Option Ob)) : List Nat → List (Option Ob) → Prop
  | [], [] => True
  | k :: ks, some ob' :: r => ShAt f m ob' (mem[k]?) ∧ ShMem f m mem ks r
  | _, _ => False
theorem shMem_get {f : Nat → Nat} {m : Nat} {mem : List (Option Ob)} : ∀ {ks : List Nat} {mem0 : List (Option Ob)}, ShMem f m mem ks mem0 → mem0.length = ks.length ∧ ∀ (j k : Nat), ks[j]? = some k → ∃ ob ob', mem0[j]? = some (some ob') ∧ mem[k]? = some (some ob) ∧ ShOb f m ob ob'
  | [], [], _ => ⟨rfl, fun j k h => by simp at h⟩
  | k :: ks, some ob' :: r, h => by
    obtain ⟨h1, h2⟩ := shMem_get h.2
    refine ⟨by simp [h1], fun j q hq => ?_⟩
    cases j with
    | zero =>
      simp only [List.getElem?_cons_zero, Option.some.injEq] at hq
      subst hq
      have h3 := h.1
      generalize mem[k]? = y at h3
      match y, h3 with
      | some (some o), h3 => exact ⟨o, ob', rfl, rfl, h3⟩
    | succ j => exact h2 j q (by simpa using hq)
  | [], _ :: _, h => h.elim
  | _ :: _, [], h => h.elim
  | _ :: _, none :: _, h => h.elim

/-- the numbers that the callee's objects have behind the call -/
def backN (ks : List Nat) (m j : Nat) : Nat := if j < ks.length then ks.getD j 0 else m + (j - ks.length)
def renOb (g : Nat → Nat) (ob : Ob) : Ob := { ob with f := fun i => (ob.f i).map (ren1 g) }
def setAll (m : List (Option Ob)) : List Nat → List (Option Ob) → List (Option Ob)
  | k :: ks, o :: os => setAll (m.set k o) ks os
  | _, _ => m
def mergeM (mem : List (Option Ob)) (ks : List Nat) (mem' : List (Option Ob)) : List (Option Ob) :=
  setAll mem ks ((mem'.take ks.length).map (Option.map (renOb (backN ks mem.length)))) ++ (mem'.drop ks.length).map (Option.map (renOb (backN ks mem.length)))
theorem setAll_len : ∀ (ks : List Nat) (m os : List (Option Ob)), (setAll m ks os).length = m.length
  | [], m, os => by simp [setAll]
  | _ :: _, m, [] => by simp [setAll]
  | k :: ks, m, o :: os => by simp [setAll, setAll_len ks]
theorem setAll_not : ∀ (ks : List Nat) (m os : List (Option Ob)) (k : Nat), k ∉ ks → (setAll m ks os)[k]? = m[k]?
  | [], m, os, k, _ => by simp [setAll]
  | _ :: _, m, [], k, _ => by simp [setAll]
  | q :: ks, m, o :: os, k, h => by
    simp only [List.mem_cons, not_or] at h
    simp only [setAll]
    rw [setAll_not ks _ os k h.2, List.getElem?_set_ne (fun e => h.1 e.symm)]
theorem setAll_at : ∀ (ks : List Nat) (m os : List (Option Ob)), ks.Nodup → ks.length = os.length → (∀ k, k ∈ ks → k < m.length) → ∀ (j k : Nat), ks[j]? = some k → (setAll m ks os)[k]? = os[j]?
  | [], m, os, _, _, _, j, k, h => by simp at h
  | _ :: _, m, [], _, hl, _, j, k, h => by simp at hl
  | q :: ks, m, o :: os, hnd, hl, hlt, j, k, h => by
    simp only [List.nodup_cons] at hnd
    simp only [setAll]
    cases j with
    | zero =>
      simp only [List.getElem?_cons_zero, Option.some.injEq] at h
      subst h
      rw [setAll_not ks _ os q hnd.1, List.getElem?_set_self (hlt q (by simp))]
      rfl
    | succ j =>
      rw [setAll_at ks _ os hnd.2 (by simpa using hl) (fun k hk => by simpa using hlt k (by simp [hk])) j k (by simpa using h)]
      simp
theorem merge_len (mem : List (Option Ob)) (ks : List Nat) (mem' : List (Option Ob)) : (mergeM mem ks mem').length = mem.length + (mem'.length - ks.length) := by
  simp [mergeM, setAll_len]
theorem merge_get {mem : List (Option Ob)} {ks : List Nat} {mem' : List (Option Ob)} (hnd : ks.Nodup) (hl : ks.length ≤ mem'.length) (hlt : ∀ k, k ∈ ks → k < mem.length) {k : Nat} {ob : Ob} (h : (mergeM mem ks mem')[k]? = some (some ob)) :
    (k < mem.length ∧ k ∉ ks ∧ mem[k]? = some (some ob)) ∨ ∃ j ob0, j < mem'.length ∧ k = backN ks mem.length j ∧ mem'[j]? = some (some ob0) ∧ ob = renOb (backN ks mem.length) ob0 := by
  have mapd : ∀ (x : Option (Option Ob)), x.map (Option.map (renOb (backN ks mem.length))) = some (some ob) → ∃ ob0, x = some (some ob0) ∧ ob = renOb (backN ks mem.length) ob0 := by
    intro x hx
    cases x with
    | none => simp at hx
    | some y => cases y with
      | none => simp at hx
      | some y => simp at hx; exact ⟨y, rfl, hx.symm⟩
  unfold mergeM at h
  rw [List.getElem?_append, setAll_len] at h
  split at h
  · rename_i hk
    by_cases hm : k ∈ ks
    · obtain ⟨j, hj⟩ := List.getElem?_of_mem hm
      have hjl : j < ks.length := (List.getElem?_eq_some_iff.1 hj).1
      rw [setAll_at ks mem _ hnd (by simp; omega) hlt j k hj, List.getElem?_map, List.getElem?_take, if_pos hjl] at h
      obtain ⟨ob0, h1, h2⟩ := mapd _ h
      refine .inr ⟨j, ob0, by omega, ?_, h1, h2⟩
      unfold backN
      rw [if_pos hjl, List.getD_eq_getElem?_getD, hj]; rfl
    · rw [setAll_not ks mem _ k hm] at h
      exact .inl ⟨hk, hm, h⟩
  · rename_i hk
    rw [List.getElem?_map, List.getElem?_drop] at h
    obtain ⟨ob0, h1, h2⟩ := mapd _ h
    have hjl := (List.getElem?_eq_some_iff.1 h1).1
    refine .inr ⟨ks.length + (k - mem.length), ob0, hjl, ?_, h1, h2⟩
    unfold backN
    rw [if_neg (by omega)]; omega
theorem lkm_app : ∀ (l l' : List (Nat × Mp)) (b : Nat), lkm (l ++ l') b = match lkm l b with | some mp => some mp | none => lkm l' b
  | [], l', b => rfl
  | (u, v) :: r, l', b => by
    simp only [List.cons_append, lkm]
    split
    · rfl
    · exact lkm_app r l' b
theorem own_same {w w' : World} {e size m : Nat} {v : Value} {xs : List Value} (h : Owns w e size v m xs) (hs : ∀ b, v.ownBlock = some b → w'.heap[b]? = w.heap[b]?) : Owns w' e size v m xs := by
  refine ⟨h.1, ?_⟩
  rcases h.2 with h0 | ⟨g, cap, cur, e, ⟨t, fz, h2, h3⟩, r⟩
  · exact .inl h0
  · exact .inr ⟨g, cap, cur, e, ⟨t, fz, (hs g (by rw [e]; rfl)).trans h2, h3⟩, r⟩
theorem lkm_mem : ∀ {l : List (Nat × Mp)} {b : Nat} {mp : Mp}, lkm l b = some mp → (b, mp) ∈ l
  | [], _, _, h => by simp [lkm] at h
  | (u, v) :: r, b, mp, h => by
    simp only [lkm] at h
    split at h
    · rename_i e
      simp only [Option.some.injEq] at h
      subst e; subst h; simp
    · simp [lkm_mem h]

def callOf : Op → Option (FuncId × List Operand)
  | .call c => match c.callee with
    | .value (.func f) => some (f, c.args.toList)
    | _ => none
  | _ => none

/-- the method of a type, where it is its own and takes the value itself -/
def methOf (P : Program) (t : TypeId) (name : String) : Option FuncId := match P.info? t with
  | some i => match i.methods.find? (·.name == name) with
    | some m => if m.path.isEmpty then (match m.func, P.underlying t with
      | some (_, true), _ => none
      | some (_, false), some (.pointer _) => none
      | some (f, false), some _ => some f
      | _, _ => none) else none
    | none => none
  | none => none
/-- a call whose function hangs on a value: a method by an interface value, a function value -/
def dynOf (P : Program) (s : VS) : Op → Option (FuncId × List Operand)
  | .call c => match c.callee with
    | .invoke r name => match ev s r with
      | .lit (.iface t v) => (methOf P t name).map fun f => (f, .const v :: c.args.toList)
      | _ => none
    | .value x => match ev s x with
      | .lit (.func (.func f) first caps) => some (f, first.toList.map .const ++ c.args.toList ++ caps.toList.map .const)
      | _ => none
    | _ => none
  | _ => none
def callD (P : Program) (s : VS) (op : Op) : Option (FuncId × List Operand) := match callOf op with
  | some x => some x
  | none => dynOf P s op
def putO (n : Nat) (dst : Option Tmp) (av : AV) (s : VS) (k : VS → Prop) : Prop :=
  match dst with
  | none => k s
  | some t => t < n ∧ k { s with tmps := (t, av) :: s.tmps }
/-- an argument of a call that hands objects over: an own row that is not among them is read as a borrowed slice -/
def SlX (mem : List (Option Ob)) (ks : List Nat) : AV → AV → Prop
  | .own j, .sl sz n f' => j ∉ ks ∧ ArgSl mem (.own j) sz n f' ∧ ∀ i, i < n → (f' i).all isLit = true
  | _, _ => False
def ArgX (mem : List (Option Ob)) (ks : List Nat) (a b : AV) : Prop := Rn (fun j => ks.getD j 0) ks.length a b ∨ SlX mem ks a b ∨ ∃ c c', a = .agg [c] ∧ b = .agg [c'] ∧ SlX mem ks c c'
def ArgsX (mem : List (Option Ob)) (ks : List Nat) : List AV → List AV → Prop
  | [], [] => True
  | a :: r, b :: r' => ArgX mem ks a b ∧ ArgsX mem ks r r'
  | _, _ => False
theorem ArgsX.of_cells {mem : List (Option Ob)} {ks : List Nat} : ∀ {l l' : List AV}, CellsRn (fun j => ks.getD j 0) ks.length l l' → ArgsX mem ks l l'
  | [], [], _ => trivial
  | a :: r, b :: r', h => ⟨.inl h.1, ArgsX.of_cells h.2⟩
  | [], _ :: _, h => h.elim
  | _ :: _, [], h => h.elim
theorem argsX_get {mem : List (Option Ob)} {ks : List Nat} : ∀ {l l' : List AV}, ArgsX mem ks l l' → l.length = l'.length ∧ ∀ (j : Nat) a b, l[j]? = some a → l'[j]? = some b → ArgX mem ks a b
  | [], [], _ => ⟨rfl, fun j a b h => by simp at h⟩
  | a :: r, b :: r', h => by
    obtain ⟨h1, h2⟩ := argsX_get h.2
    refine ⟨by simp [h1], fun j x y hx hy => ?_⟩
    cases j with
    | zero =>
      simp only [List.getElem?_cons_zero, Option.some.injEq] at hx hy
      subst hx; subst hy; exact h.1
    | succ j => exact h2 j x y (by simpa using hx) (by simpa using hy)
  | [], _ :: _, h => h.elim
  | _ :: _, [], h => h.elim
/-- no cell holds a borrowed slice -/
def NoSl (mem : List (Option Ob)) : Prop := ∀ (k : Nat) (ob : Ob), mem[k]? = some (some ob) → ∀ i, i < ob.n → (ob.f i).all flat1 = true
/-- a call that hands over objects of the caller's own (numbers ks) and maps (L: some own row is lent as a borrowed slice) -/
def vcallS0 (P : Program) (f : FuncId) (avs : List AV) (s : VS) (k : AV → VS → Prop) : Prop :=
  ∃ ks args' mem0 maps0, ∃ L : Bool, ks.Nodup ∧ (ArgsX s.mem ks avs args' ∧ (L = true ∨ CellsRn (fun j => ks.getD j 0) ks.length avs args')) ∧ ShMem (fun j => ks.getD j 0) ks.length s.mem ks mem0 ∧ (∀ p, p ∈ maps0 → lkm s.maps p.1 = some p.2) ∧
    VProc P f args' mem0 maps0 (fun av mem' maps' => (L = false ∨ NoSl mem') ∧ k (ren (backN ks s.mem.length) av) { s with mem := mergeM s.mem ks mem', maps := maps' ++ s.maps })
/-- a function of the library that gives its one argument back -/
def sameX (P : Program) (f : FuncId) : Prop := ∃ fn, P.funcs[f]? = some fn ∧ (fn.name == "runtime.NumGoroutine") = false ∧ fn.body.isNone = true ∧ Extern.findNext fn = none ∧ Extern.find fn = some Extern.AbiNoEscape.same
def vcallX (P : Program) (f : FuncId) (avs : List AV) (s : VS) (k : AV → VS → Prop) : Prop := sameX P f ∧ ∃ av, avs = [av] ∧ k av s
/-- a call that hands over objects and tells what values stand for -/
def vcallG (P : Program) (f : FuncId) (avs : List AV) (s : VS) (k : AV → VS → Prop) : Prop :=
  ∃ ks args' mem0 maps0 t N vs0 as0 as1, ks.Nodup ∧ CellsRn (fun j => ks.getD j 0) ks.length avs args' ∧ (lk s.tmps t = .fam N vs0 as0 ∧ ∀ i, i < N → Rn (fun j => ks.getD j 0) ks.length (as0 i) (as1 i)) ∧ ShMem (fun j => ks.getD j 0) ks.length s.mem ks mem0 ∧ (∀ p, p ∈ maps0 → lkm s.maps p.1 = some p.2) ∧
    VProcG P f args' N vs0 as1 mem0 maps0 (fun av mem' maps' => k (ren (backN ks s.mem.length) av) { s with mem := mergeM s.mem ks mem', maps := maps' ++ s.maps })
/-- a call that hands over objects and is told what values stand for (at slot t) -/
def vcallT (P : Program) (f : FuncId) (avs : List AV) (s : VS) (k : AV → VS → Prop) : Prop :=
  ∃ ks args' mem0 maps0 t, ks.Nodup ∧ CellsRn (fun j => ks.getD j 0) ks.length avs args' ∧ ShMem (fun j => ks.getD j 0) ks.length s.mem ks mem0 ∧ (∀ p, p ∈ maps0 → lkm s.maps p.1 = some p.2) ∧
    VProcT P f args' mem0 maps0 (fun av mem' maps' N vs as => k (ren (backN ks s.mem.length) av) { s with tmps := (t, .fam N vs (fun i => renB (backN ks s.mem.length) (as i))) :: s.tmps, mem := mergeM s.mem ks mem', maps := maps' ++ s.maps })
def vcallS (P : Program) (f : FuncId) (avs : List AV) (s : VS) (k : AV → VS → Prop) : Prop := vcallS0 P f avs s k ∨ vcallX P f avs s k ∨ vcallG P f avs s k ∨ vcallT P f avs s k
def vcall (P : Program) (f : FuncId) (xs : List Operand) (s : VS) (k : AV → VS → Prop) : Prop :=
  (∃ args', ArgsOk s.mem (xs.map (ev s)) args' ∧ VFun P f args' (fun av obs => k (ren (· + s.mem.length) av) { s with mem := s.mem ++ obs.map some })) ∨ vcallS P f (xs.map (ev s)) s k
def vstep (P : Program) (n : Nat) (o : Oper) (s : VS) (k : VS → Prop) : Prop :=
  match callD P s o.op with
  | some (f, xs) => vcall P f xs s (fun av s' => putO n o.dst av s' k)
  | none => vop4 P o.op s (fun av s' => putO n o.dst av s' k)
def slotOf (all : List Oper) (g : Nat) : Option Tmp := (all[g]?).bind (·.dst)
def vops (P : Program) (n : Nat) (all : List Oper) : List Oper → VS → (VS → Prop) → Prop
  | [], s, k => k s
  | o :: r, s, k =>
    match o.guard with
    | none => vstep P n o s (fun s' => vops P n all r s' k)
    | some (g, b) => match slotOf all g with
      | some t => match lk s.tmps t with
        | .lit (.bool c) => (c = b → vstep P n o { s with tmps := (t, .lit (.bool b)) :: s.tmps } (fun s' => vops P n all r s' k)) ∧
            (c = !b → putO n o.dst (.lit undef) { s with tmps := (t, .lit (.bool (!b))) :: s.tmps } (fun s' => vops P n all r s' k))
        | .lit (.tuple _) => putO n o.dst (.lit undef) s (fun s' => vops P n all r s' k)
        | _ => False
      | none => False


section
variable {P : Program} {n : Nat} {base : Fr} {w0 w : World} {hd : Nat → Value} {s : VS} {a : Act} {k : AV → VS → Prop}
theorem cells_not_map (h : RelH n base w0 hd s a w) {b : Nat} {mp : Mp} (hm : lkm s.maps b = some mp) : (∀ (ad : Addr) u, ad.block = b → w.cell? ad ≠ some u) ∧ ∀ (q : Nat) (ob : Ob), s.mem[q]? = some (some ob) → (hd q).ownBlock ≠ some b := by
  obtain ⟨_, es, clock, hb, _⟩ := h.mp b mp hm
  refine ⟨fun ad u e hc => ?_, fun q ob hq e => ?_⟩
  · unfold World.cell? at hc
    rw [e, hb] at hc; simp at hc
  · obtain ⟨_, vals, ho, _⟩ := h.me.obs q ob hq
    rcases ho.2 with ⟨e2, _⟩ | ⟨g, cap, cur, e2, ⟨_, _, hh, _⟩, _⟩
    · rw [e2] at e; simp [Value.ownBlock] at e
    · rw [e2] at e
      simp only [Value.ownBlock, Option.some.injEq] at e
      rw [e, hb] at hh; simp at hh

/-- what the caller keeps, the callee may not write -/
theorem RelH.tailSh {L : Bool} (h : RelH n base w0 hd s a w) {ks : List Nat} {mem0 : List (Option Ob)} {maps0 : List (Nat × Mp)} (hsh : ShMem (fun j => ks.getD j 0) ks.length s.mem ks mem0) (hmaps : ∀ p, p ∈ maps0 → lkm s.maps p.1 = some p.2) :
    TailNot (hdF hd ks s.mem L) (Sh w (hdF hd ks s.mem L) mem0 maps0) := by
  obtain ⟨f0, f1⟩ := shMem_get hsh
  have fk : ∀ j, j < ks.length → ks.getD j 0 ∈ ks ∧ ks[j]? = some (ks.getD j 0) := by
    intro j hj
    rw [List.getD_eq_getElem?_getD, List.getElem?_eq_getElem hj]
    exact ⟨List.getElem_mem hj, rfl⟩
  have shMay : ∀ b, Sh w (hdF hd ks s.mem L) mem0 maps0 b → base.may b := by
    rintro b (h1 | ⟨j, ob', h1, h2⟩ | h1)
    · exact h.le _ (Nat.le_trans h.below.size h1)
    · have hj : j < ks.length := by have := (List.getElem?_eq_some_iff.1 h1).1; omega
      obtain ⟨ob, _, _, h4, _⟩ := f1 j _ (fk j hj).2
      rw [hdF_lt hj] at h2
      exact h.me.alw _ ob h4 b h2
    · cases hq : lkm maps0 b with
      | none => rw [hq] at h1; simp at h1
      | some mp => exact (h.mp b mp (hmaps _ (lkm_mem hq))).1
  obtain ⟨K, hK⟩ := h.fix.2.2
  obtain ⟨M, hM⟩ := h.fix.2.1
  refine hdF_tail ⟨K + M, fun k hk b hb hs => ?_⟩ fun _ k ob b hk hks hb => ?_
  · rw [hM k (by omega)] at hb
    exact hK k (by omega) b hb (shMay b hs)
  · obtain ⟨_, vals, ho, _⟩ := h.me.obs k ob hk
    rintro (h1 | ⟨j, ob', h1, h2⟩ | h1)
    · have := (own_lt ho hb).1; omega
    · have hj : j < ks.length := by have := (List.getElem?_eq_some_iff.1 h1).1; omega
      obtain ⟨ob2, _, _, h4, _⟩ := f1 j _ (fk j hj).2
      rw [hdF_lt hj] at h2
      rcases h.me.apart _ _ ob2 ob h4 hk (fun e => hks (e ▸ (fk j hj).1)) with e | e
      · rw [h2] at e; cases e
      · exact e (by rw [h2, hb])
    · cases hq : lkm maps0 b with
      | none => rw [hq] at h1; simp at h1
      | some mp => exact (cells_not_map h (hmaps _ (lkm_mem hq))).2 k ob hk hb
theorem RelH.importS {L : Bool} (h : RelH n base w0 hd s a w) (hP : base.P = P) {ks : List Nat} {mem0 : List (Option Ob)} {maps0 : List (Nat × Mp)} (hnd : ks.Nodup) (hsh : ShMem (fun j => ks.getD j 0) ks.length s.mem ks mem0) (hmaps : ∀ p, p ∈ maps0 → lkm s.maps p.1 = some p.2)
    {w' : World} {hdc : Nat → Value} {av : AV} {mem' : List (Option Ob)} {maps' : List (Nat × Mp)} (hb : Bel (Sh w (hdF hd ks s.mem L) mem0 maps0) w w') (hpo : PostOk mem0 maps0 av mem' maps') (hhd : ∀ k, k < mem0.length → hdc k = hd (ks.getD k 0)) (htl : TailEq (hdF hd ks s.mem L) hdc) (hL : L = false ∨ NoSl mem')
    (hm : MemRel (Sh w (hdF hd ks s.mem L) mem0 maps0) w' hdc mem') (hmp : MapRel P (Sh w (hdF hd ks s.mem L) mem0 maps0) w' maps') :
    RelH n base w0 (fun k => if k < s.mem.length then hd k else if k - s.mem.length + ks.length < mem'.length then hdc (k - s.mem.length + ks.length) else hd k) { s with mem := mergeM s.mem ks mem', maps := maps' ++ s.maps } a w' ∧
      (∀ j, j < mem'.length → backN ks s.mem.length j < (mergeM s.mem ks mem').length ∧ (fun k => if k < s.mem.length then hd k else if k - s.mem.length + ks.length < mem'.length then hdc (k - s.mem.length + ks.length) else hd k) (backN ks s.mem.length j) = hdc j) ∧ (L = false → ∀ b, okOf mem' hdc b → okOf (mergeM s.mem ks mem') (fun k => if k < s.mem.length then hd k else if k - s.mem.length + ks.length < mem'.length then hdc (k - s.mem.length + ks.length) else hd k) b) := by
  obtain ⟨f0, f1⟩ := shMem_get hsh
  have hl : ks.length ≤ mem'.length := by have := hpo.len; omega
  have f2 : ∀ k, k ∈ ks → k < s.mem.length := by
    intro k hk
    obtain ⟨j, hj⟩ := List.getElem?_of_mem hk
    obtain ⟨ob, ob', _, h2, _⟩ := f1 j k hj
    exact (List.getElem?_eq_some_iff.1 h2).1
  have fk : ∀ j, j < ks.length → ks.getD j 0 ∈ ks ∧ ks[j]? = some (ks.getD j 0) := by
    intro j hj
    rw [List.getD_eq_getElem?_getD, List.getElem?_eq_getElem hj]
    exact ⟨List.getElem_mem hj, rfl⟩
  obtain ⟨HD, hHD⟩ : ∃ HD : Nat → Value, HD = fun k => if k < s.mem.length then hd k else if k - s.mem.length + ks.length < mem'.length then hdc (k - s.mem.length + ks.length) else hd k := ⟨_, rfl⟩
  rw [← hHD]
  have hlow : ∀ k, k < s.mem.length → HD k = hd k := fun k hk => by rw [hHD]; exact if_pos hk
  have heq : TailEq hd HD := ⟨s.mem.length + mem'.length, fun k hk => by
    rw [hHD]
    show (if k < s.mem.length then _ else _) = _
    rw [if_neg (by omega), if_neg (by omega)]⟩
  have f3 : ∀ j, j < mem'.length → backN ks s.mem.length j < (mergeM s.mem ks mem').length ∧ HD (backN ks s.mem.length j) = hdc j := by
    intro j hj
    rw [merge_len]
    unfold backN
    by_cases h1 : j < ks.length
    · rw [if_pos h1]
      have h2 := f2 _ (fk j h1).1
      exact ⟨by omega, by rw [hlow _ h2, hhd j (by omega)]⟩
    · rw [if_neg h1]
      refine ⟨by omega, ?_⟩
      rw [hHD]
      show (if s.mem.length + (j - ks.length) < s.mem.length then _ else _) = _
      have e1 : s.mem.length + (j - ks.length) - s.mem.length + ks.length = j := by omega
      rw [if_neg (by omega), e1, if_pos hj]
  suffices hsuf : RelH n base w0 HD { s with mem := mergeM s.mem ks mem', maps := maps' ++ s.maps } a w' ∧ (L = false → ∀ b, okOf mem' hdc b → okOf (mergeM s.mem ks mem') HD b) from ⟨hsuf.1, f3, hsuf.2⟩
  have shMay : ∀ b, Sh w (hdF hd ks s.mem L) mem0 maps0 b → base.may b := by
    rintro b (h1 | ⟨j, ob', h1, h2⟩ | h1)
    · exact h.le _ (Nat.le_trans h.below.size h1)
    · have hj : j < ks.length := by have := (List.getElem?_eq_some_iff.1 h1).1; omega
      obtain ⟨ob, _, _, h4, _⟩ := f1 j _ (fk j hj).2
      rw [hdF_lt hj] at h2
      exact h.me.alw _ ob h4 b h2
    · cases hq : lkm maps0 b with
      | none => rw [hq] at h1; simp at h1
      | some mp => exact (h.mp b mp (hmaps _ (lkm_mem hq))).1
  have notSh : ∀ b, b < w.heap.size → (∀ k ob, k ∈ ks → s.mem[k]? = some (some ob) → (hd k).ownBlock ≠ some b) → (∀ mp, lkm s.maps b = some mp → lkm maps0 b = none) → ¬ Sh w (hdF hd ks s.mem L) mem0 maps0 b := by
    rintro b hlt hrow hmap (h1 | ⟨j, ob', h1, h2⟩ | h1)
    · omega
    · have hj : j < ks.length := by have := (List.getElem?_eq_some_iff.1 h1).1; omega
      obtain ⟨ob, _, _, h4, _⟩ := f1 j _ (fk j hj).2
      rw [hdF_lt hj] at h2
      exact hrow _ ob (fk j hj).1 h4 h2
    · cases hq : lkm maps0 b with
      | none => rw [hq] at h1; simp at h1
      | some mp => rw [hmap mp (hmaps _ (lkm_mem hq))] at hq; cases hq
  have okSh : ∀ ad u, okOf s.mem hd ad.block → w.cell? ad = some u → ¬ Sh w (hdF hd ks s.mem L) mem0 maps0 ad.block := by
    intro ad u ho hc
    refine notSh _ (World.block_lt_of_cell? w _ hc) (fun k ob _ hk => ho.1 k ob hk) fun mp hq => ?_
    exact absurd hc ((cells_not_map h hq).1 ad u rfl)
  have ownSh : ∀ k ob b, k ∉ ks → s.mem[k]? = some (some ob) → (hd k).ownBlock = some b → ¬ Sh w (hdF hd ks s.mem L) mem0 maps0 b := by
    intro k ob b hk hob hbk
    obtain ⟨_, vals, ho, _⟩ := h.me.obs k ob hob
    refine notSh b (own_lt ho hbk).1 (fun q oq hq hoq e => ?_) fun mp hq => ?_
    · rcases h.me.apart k q ob oq hob hoq (fun e' => hk (e' ▸ hq)) with h1 | h1
      · rw [hbk] at h1; cases h1
      · exact h1 (by rw [hbk, e])
    · exact absurd hbk ((cells_not_map h hq).2 k ob hob)
  have live : ∀ k ob, (mergeM s.mem ks mem')[k]? = some (some ob) → (k < s.mem.length ∧ k ∉ ks ∧ s.mem[k]? = some (some ob)) ∨ ∃ j ob0, j < mem'.length ∧ k = backN ks s.mem.length j ∧ mem'[j]? = some (some ob0) ∧ ob = renOb (backN ks s.mem.length) ob0 :=
    fun k ob hk => merge_get hnd hl f2 hk
  have hok : ∀ ad u, okOf s.mem hd ad.block → w.cell? ad = some u → w'.cell? ad = some u ∧ okOf (mergeM s.mem ks mem') HD ad.block := by
    intro ad u ho hc
    have hns := okSh ad u ho hc
    refine ⟨cell_same (hb.block _ (World.block_lt_of_cell? w _ hc) hns) hc, fun k ob hk e => ?_, ho.2.eq heq⟩
    rcases live k ob hk with ⟨h1, _, h2⟩ | ⟨j, ob0, h1, rfl, h2, _⟩
    · rw [hlow k h1] at e; exact ho.1 k ob h2 e
    · rw [(f3 j h1).2] at e; exact hns (hm.alw j ob0 h2 _ e)
  have hlen : s.mem.length ≤ (mergeM s.mem ks mem').length := by rw [merge_len]; omega
  refine ⟨?_, fun hLf b hb1 => by
    subst hLf
    obtain ⟨t1, t2⟩ := hdF_kept (hb1.2.eq (TailEq.symm htl))
    refine ⟨fun k ob hk => ?_, t1.eq heq⟩
    rcases live k ob hk with ⟨l1, l1', l2⟩ | ⟨j', ob1, l1, rfl, l2, _⟩
    · rw [hlow k l1]; exact t2 k ob l2 l1'
    · rw [(f3 j' l1).2]; exact hb1.1 j' ob1 l2⟩
  refine ⟨h.defers, h.size, ⟨hb.os.trans h.below.os, hb.tape.trans h.below.tape, hb.output.trans h.below.output, Nat.le_trans h.below.size hb.size, fun k hk hk2 => ?_⟩, h.le, Nat.le_trans h.fixl hlen, ⟨fun k hk => ?_, h.fix.2.1.trans heq, h.fix.2.2⟩, fun b mp hq => ?_, fun t => (h.tm t).mono hok hlow hlen, ⟨fun k ob hk b hbk => ?_, fun k ob hk => ?_, fun k hk => ?_, fun k k' ob ob' hk hk' hne => ?_⟩⟩
  · exact (hb.block k (Nat.lt_of_lt_of_le hk h.below.size) (fun e => hk2 (shMay k e))).trans (h.below.block k hk hk2)
  · have := h.fixl
    have hk' : k < s.fix := hk
    rw [hlow k (by omega)]; exact h.fix.1 k hk'
  · have hq' : lkm (maps' ++ s.maps) b = some mp := hq
    rw [lkm_app] at hq'
    cases hq2 : lkm maps' b with
    | some mq =>
      rw [hq2] at hq'
      simp only [Option.some.injEq] at hq'
      subst hq'
      obtain ⟨h1, es, clock, h2, h3⟩ := hmp b mq hq2
      exact ⟨shMay b h1, es, clock, h2, by rw [hP]; exact h3⟩
    | none =>
      rw [hq2] at hq'
      simp only at hq'
      obtain ⟨h1, es, clock, h2, h3⟩ := h.mp b mp hq'
      refine ⟨h1, es, clock, (hb.block b (Array.getElem?_eq_some_iff.1 h2).1 (notSh b (Array.getElem?_eq_some_iff.1 h2).1 (fun k ob _ hk => (cells_not_map h hq').2 k ob hk) fun _ _ => ?_)).trans h2, h3⟩
      cases hq3 : lkm maps0 b with
      | none => rfl
      | some mr =>
        have := hpo.maps b (by rw [hq3]; rfl)
        rw [hq2] at this; simp at this
  · rcases live k ob hk with ⟨h1, _, h2⟩ | ⟨j, ob0, h1, rfl, h2, _⟩
    · rw [hlow k h1] at hbk; exact h.me.alw k ob h2 b hbk
    · rw [(f3 j h1).2] at hbk; exact shMay b (hm.alw j ob0 h2 b hbk)
  · rcases live k ob hk with ⟨h1, h1', h2⟩ | ⟨j, ob0, h1, rfl, h2, rfl⟩
    · obtain ⟨hs, vals, ho, hr⟩ := h.me.obs k ob h2
      rw [hlow k h1]
      refine ⟨hs, vals, own_same ho fun b hbk => hb.block b (own_lt ho hbk).1 (ownSh k ob b h1' h2 hbk), fun i hi => ⟨(hr i hi).1, fun j av hj => ?_⟩⟩
      obtain ⟨u, g1, g2, g3⟩ := (hr i hi).2 j av hj
      exact ⟨u, g1, g2, g3.mono hok hlow hlen⟩
    · obtain ⟨hs, vals, ho, hr⟩ := hm.obs j ob0 h2
      rw [(f3 j h1).2]
      refine ⟨hs, vals, ho, fun i hi => ⟨by simpa [renOb] using (hr i hi).1, fun c av hc => ?_⟩⟩
      simp only [renOb] at hc
      rw [List.getElem?_map, Option.map_eq_some_iff] at hc
      obtain ⟨a0, hc, rfl⟩ := hc
      obtain ⟨u, g1, g2, g3⟩ := (hr i hi).2 c a0 hc
      have hf := hpo.cells j ob0 h2 i hi a0 (List.mem_of_getElem? hc)
      rcases hL with rfl | hL
      · refine ⟨u, g1, g2, g3.renC_ hf (fun ad u h1 h2 => ⟨h2, ?_⟩) fun q _ hq => f3 q hq⟩
        obtain ⟨t1, t2⟩ := hdF_kept (h1.2.eq (TailEq.symm htl))
        refine ⟨fun k ob hk => ?_, t1.eq heq⟩
        rcases live k ob hk with ⟨l1, l1', l2⟩ | ⟨j', ob1, l1, rfl, l2, _⟩
        · rw [hlow k l1]; exact t2 k ob l2 l1'
        · rw [(f3 j' l1).2]; exact h1.1 j' ob1 l2
      · rcases hf with hf | ⟨⟨sz, n, f, rfl⟩, _⟩
        · exact ⟨u, g1, g2, g3.ren1_ hf fun q _ hq => f3 q hq⟩
        · have := List.all_eq_true.1 (hL j ob0 h2 i hi) _ (List.mem_of_getElem? hc)
          simp [flat1] at this
  · have hk' : k < (mergeM s.mem ks mem').length := hk
    rw [merge_len] at hk'
    by_cases h1 : k < s.mem.length
    · rw [hlow k h1]; exact h.me.hds k h1
    · have : HD k = hdc (k - s.mem.length + ks.length) := by
        rw [hHD]
        show (if k < s.mem.length then _ else _) = _
        rw [if_neg h1, if_pos (by omega)]
      rw [this]
      exact hm.hds _ (by omega)
  · have cross : ∀ k ob j ob0, k ∉ ks → s.mem[k]? = some (some ob) → mem'[j]? = some (some ob0) → (hd k).ownBlock = none ∨ (hd k).ownBlock ≠ (hdc j).ownBlock := by
      intro k ob j ob0 hk hob hj
      cases hbk : (hd k).ownBlock with
      | none => exact .inl rfl
      | some b => exact .inr fun e => ownSh k ob b hk hob hbk (hm.alw j ob0 hj b e.symm)
    rcases live k ob hk with ⟨h1, h1', h2⟩ | ⟨j, ob0, h1, rfl, h2, _⟩
    · rw [hlow k h1]
      rcases live k' ob' hk' with ⟨g1, g1', g2⟩ | ⟨j', ob1, g1, rfl, g2, _⟩
      · rw [hlow k' g1]; exact h.me.apart k k' ob ob' h2 g2 hne
      · rw [(f3 j' g1).2]; exact cross k ob j' ob1 h1' h2 g2
    · rw [(f3 j h1).2]
      rcases live k' ob' hk' with ⟨g1, g1', g2⟩ | ⟨j', ob1, g1, rfl, g2, _⟩
      · rw [hlow k' g1]
        rcases cross k' ob' j ob0 g1' g2 h2 with e | e
        · cases hbj : (hdc j).ownBlock with
          | none => exact .inl rfl
          | some b => rw [e]; exact .inr (by simp)
        · exact .inr fun e' => e e'.symm
      · rw [(f3 j' g1).2]
        exact hm.apart j j' ob0 ob1 h2 g2 (fun e => hne (by rw [e]))
end
end Go.Proofs.Ytcnmgfbafcnkhaa.V
/- The value machine, part 9: code, loops, whole functions. -/
namespace Go.Proofs.Ytcnmgfbafcnkhaa.V
open Go.RowKit
set_option linter.unusedVariables false
set_option linter.unusedSimpArgs false
section
variable {P : Program} {n : Nat} {base : Fr} {w0 w : World} {hd : Nat → Value} {s : VS} {a : Act} {k : AV → VS → Prop}

theorem run_call_of {f : FuncId} (hf : FnOk P f) (args : Array Value) (w : World) : (callFunc f args).run P w = .ok (.enter f args) w := by
  obtain ⟨fn, h1, h2, h3⟩ := hf
  unfold callFunc program
  have a1 : fn.name ≠ "runtime.NumGoroutine" := by simpa using h2
  have a2 : fn.body ≠ none := by intro e; rw [e] at h3; simp at h3
  simp only [bind, Sem.bind, Sem.run, h1]
  simp [a1, a2, Sem.run, pure]

theorem putO_sound (h : RelH n base w0 hd s a w) {dst : Option Tmp} {av : AV} {v : Value} {k : VS → Prop} (hv : Rep w (okOf s.mem hd) hd s.mem.length av v) (hk : putO n dst av s k) :
    ∃ s', RelH n base w0 hd s' (a.put dst v) w ∧ k s' := by
  cases dst with
  | none => exact ⟨s, h, hk⟩
  | some t => exact ⟨_, h.put hk.1 hv, hk.2⟩

/-- what is handed over, as the callee sees it -/
theorem shared_rel (h : RelH n base w0 hd s a w) {ks : List Nat} {mem0 : List (Option Ob)} (hnd : ks.Nodup) (hsh : ShMem (fun j => ks.getD j 0) ks.length s.mem ks mem0) (L : Bool) :
    MemRel (fun _ => True) w (hdF hd ks s.mem L) mem0 ∧ ∀ b, okOf s.mem hd b → okOf mem0 (hdF hd ks s.mem L) b := by
  obtain ⟨f0, f1⟩ := shMem_get hsh
  have at_ : ∀ j ob', mem0[j]? = some (some ob') → j < ks.length ∧ ∃ ob, s.mem[ks.getD j 0]? = some (some ob) ∧ ShOb (fun j => ks.getD j 0) ks.length ob ob' := by
    intro j ob' hj
    have hl : j < ks.length := by have := (List.getElem?_eq_some_iff.1 hj).1; omega
    obtain ⟨ob, ob2, h1, h2, h3⟩ := f1 j (ks.getD j 0) (by rw [List.getD_eq_getElem?_getD, List.getElem?_eq_getElem hl]; rfl)
    rw [hj] at h1
    simp only [Option.some.injEq] at h1
    subst h1
    exact ⟨hl, ob, h2, h3⟩
  have hok : ∀ b, okOf s.mem hd b → okOf mem0 (hdF hd ks s.mem L) b := by
    intro b hb
    refine ⟨fun j ob' hj => ?_, ?_⟩
    · obtain ⟨hl, ob, h1, _⟩ := at_ j ob' hj
      rw [hdF_lt hl]
      exact hb.1 _ ob h1
    · obtain ⟨K, hK⟩ := hb.2
      obtain ⟨M, hM⟩ := hdF_tail (hd := hd) (ks := ks) (mem := s.mem) (L := L) (Q := fun c => c ≠ b) ⟨K, fun k hk c hc e => hK k hk (by rw [hc, e])⟩ (fun _ k ob c hk _ hc e => hb.1 k ob hk (by rw [hc, e]))
      exact ⟨M, fun k hk e => hM k hk b e rfl⟩
  refine ⟨⟨fun _ _ _ _ _ => trivial, fun j ob' hj => ?_, fun j hj => ?_, fun j j' o o' hj hj' hne => ?_⟩, hok⟩
  · obtain ⟨hl, ob, h1, e1, e2, e3, h2⟩ := at_ j ob' hj
    obtain ⟨hs, vals, ho, hr⟩ := h.me.obs _ ob h1
    rw [e2] at hs
    refine ⟨hs, vals, by rw [hdF_lt hl, ← e1, ← e2, ← e3]; exact ho, fun i hi => ?_⟩
    obtain ⟨g1, g2⟩ := cellsRn_get (h2 i hi)
    obtain ⟨q1, q2⟩ := hr i (by omega)
    refine ⟨by omega, fun c av hc => ?_⟩
    have hcl : c < (ob.f i).length := by have := (List.getElem?_eq_some_iff.1 hc).1; omega
    obtain ⟨u, r1, r2, r3⟩ := q2 c _ (List.getElem?_eq_getElem hcl)
    refine ⟨u, by rw [← e2]; exact r1, r2, ?_⟩
    rw [f0]
    exact (r3.rn (g2 c _ av (List.getElem?_eq_getElem hcl) hc) hok).mono (fun a u h1 h2 => ⟨h2, h1⟩) (fun k hk => hdF_lt hk) (Nat.le_refl _)
  · obtain ⟨ob, ob', _, h2, _⟩ := f1 j (ks.getD j 0) (by rw [List.getD_eq_getElem?_getD, List.getElem?_eq_getElem (by omega)]; rfl)
    rw [hdF_lt (by omega)]
    exact h.me.hds _ (List.getElem?_eq_some_iff.1 h2).1
  · obtain ⟨hl, ob, h1, _⟩ := at_ j o hj
    obtain ⟨hl', ob', h1', _⟩ := at_ j' o' hj'
    rw [hdF_lt hl, hdF_lt hl']
    refine h.me.apart _ _ ob ob' h1 h1' fun e => hne ?_
    rw [List.getD_eq_getElem?_getD, List.getD_eq_getElem?_getD, List.getElem?_eq_getElem hl, List.getElem?_eq_getElem hl'] at e
    exact (List.getElem_inj hnd).1 e

/-- an argument of a call that hands objects over, as the callee sees it -/
theorem argX_rep (h : RelH n base w0 hd s a w) {ks : List Nat} {mem0 : List (Option Ob)} (hsh : ShMem (fun j => ks.getD j 0) ks.length s.mem ks mem0) {L : Bool} (hok : ∀ b, okOf s.mem hd b → okOf mem0 (hdF hd ks s.mem L) b) {x : Operand} {b : AV} (ha : ArgX s.mem ks (ev s x) b) (hL : L = true ∨ Rn (fun j => ks.getD j 0) ks.length (ev s x) b) :
    Rep w (okOf mem0 (hdF hd ks s.mem L)) (hdF hd ks s.mem L) mem0.length b (a.eval x) := by
  obtain ⟨f0, f1⟩ := shMem_get hsh
  have rn : ∀ {c c' : AV} {v : Value}, Rn (fun j => ks.getD j 0) ks.length c c' → Rep w (okOf s.mem hd) hd s.mem.length c v → Rep w (okOf mem0 (hdF hd ks s.mem L)) (hdF hd ks s.mem L) mem0.length c' v := fun hb hr => by
    rw [f0]
    exact (hr.rn hb hok).mono (fun a u h1 h2 => ⟨h2, h1⟩) (fun k hk => hdF_lt hk) (Nat.le_refl _)
  rcases hL with rfl | hL
  rotate_left
  · exact rn hL (h.ev_ x)
  have sl : ∀ {c c' : AV} {v : Value}, SlX s.mem ks c c' → Rep w (okOf s.mem hd) hd s.mem.length c v → Rep w (fun _ => True) (fun _ => undef) 0 c' v → Rep w (okOf mem0 (hdF hd ks s.mem true)) (hdF hd ks s.mem true) mem0.length c' v := by
    intro c c' v hx h1 h2
    unfold SlX at hx
    split at hx
    · rename_i j sz m f'
      obtain ⟨hj, ⟨_, f, hcon, _⟩, hlit⟩ := hx
      cases h2 with
      | sl _ _ _ A c u hc hm hsz hl hcell hr =>
        refine .sl sz m f' A c u hc hm hsz hl (fun hp => ?_) fun i q av hi hav => ?_
        · obtain ⟨ad, e1, _, e2⟩ := hcell hp
          simp only [contents] at hcon
          split at hcon
          · rename_i ob3 hob3
            have hv : hd j = .slice A m c := by
              have := h1
              generalize hgv : (Value.slice A m c) = vv at this
              cases this; rfl
            have hbl : (hd j).ownBlock = some ad.block := by rw [hv, e1]; rfl
            refine ⟨ad, e1, ⟨fun k ob hk => ?_, ?_⟩, e2⟩
            · have hkl : k < ks.length := by have := (List.getElem?_eq_some_iff.1 hk).1; omega
              obtain ⟨ob1, ob2, g1, g2, _⟩ := f1 k (ks.getD k 0) (by rw [List.getD_eq_getElem?_getD, List.getElem?_eq_getElem hkl]; rfl)
              have hne : ks.getD k 0 ≠ j := fun e => hj (by rw [← e, List.getD_eq_getElem?_getD, List.getElem?_eq_getElem hkl]; exact List.getElem_mem hkl)
              rw [hdF_lt hkl]
              rcases h.me.apart _ j ob1 ob3 g2 hob3 hne with this | this
              · rw [this]; exact fun e => by cases e
              · rw [hbl] at this; exact this
            · obtain ⟨K, hK⟩ := h.ownTail (h.me.alw j ob3 hob3 _ hbl)
              obtain ⟨M, hM⟩ := hdF_tail (hd := hd) (ks := ks) (mem := s.mem) (L := true) (Q := fun c => c ≠ ad.block) ⟨K, fun k hk c hc e => hK k hk (by rw [hc, e])⟩ (fun e => by cases e)
              exact ⟨M, fun k hk e => hM k hk _ e rfl⟩
          · cases hcon
        · have hl := List.all_eq_true.1 (hlit i hi) av (List.mem_of_getElem? hav)
          have := hr i q av hi hav
          cases av <;> simp [isLit] at hl
          cases this; exact .lit _
    · exact hx.elim
  rcases ha with ha | ha | ⟨c, c', e1, rfl, ha⟩
  · exact rn ha (h.ev_ x)
  · refine sl ha (h.ev_ x) ?_
    unfold SlX at ha
    split at ha
    · rename_i j sz m f' hev
      exact argSl_rep h (by rw [hev]; exact ha.2.1)
    · exact ha.elim
  · have hx := h.ev_ x
    have h2 : Rep w (fun _ => True) (fun _ => undef) 0 (.agg [c']) (a.eval x) := by
      refine argOk_rep h (x := x) (av' := .agg [c']) ⟨[c], e1, rfl, fun j c0 c0' h3 h4 => ?_⟩
      cases j with
      | zero =>
        simp only [List.getElem?_cons_zero, Option.some.injEq] at h3 h4
        subst h3; subst h4
        unfold SlX at ha
        split at ha
        · exact ha.2.1
        · exact ha.elim
      | succ j => simp at h3
    rw [e1] at hx
    generalize a.eval x = v at hx h2
    cases hx with
    | agg _ vs hl hr =>
      match vs, hl with
      | [u], _ =>
        have q1 := hr 0 c u rfl rfl
        generalize hgv : (Value.agg [u].toArray) = vv at h2
        cases h2 with
        | agg _ us hl2 hr2 =>
          simp only [Value.agg.injEq] at hgv
          have : us = [u] := by
            have := congrArg Array.toList hgv
            simpa using this.symm
          subst this
          have q2 := hr2 0 c' u rfl rfl
          refine .agg _ [u] rfl fun j c0 u0 h3 h4 => ?_
          cases j with
          | zero =>
            simp only [List.getElem?_cons_zero, Option.some.injEq] at h3 h4
            subst h3; subst h4
            exact sl ha q1 q2
          | succ j => simp at h3
theorem run_method {t : TypeId} {v : Value} {name : String} {f : FuncId} (h : methOf P t name = some f) (fuel : Nat) (w : World) : (method (fuel + 1) t v name).run P w = .ok (f, v) w := by
  unfold methOf at h
  split at h
  · rename_i i hi
    split at h
    · rename_i m hm
      split at h
      · rename_i hpath
        have hp : m.path = #[] := by simpa using hpath
        split at h
        · cases h
        · cases h
        · rename_i f' d hn hf hd
          simp only [Option.some.injEq] at h
          subst h
          unfold method typeInfo
          simp only [Sem.run_bind]
          have e1 : (program).run P w = .ok P w := rfl
          simp only [e1, Result.andThen_ok, hi, Sem.run_pure, hm, hp]
          unfold follow
          simp only [Sem.run_bind, Sem.run_pure, Result.andThen_ok, hf]
          unfold receiverAt
          simp only [Sem.run_bind, und_run hd, Result.andThen_ok]
          cases d <;> first | exact absurd rfl (hn _ _) | rfl | simp_all [Place.get, Sem.run_bind, Result.andThen]
        · cases h
      · cases h
    · cases h
  · cases h
/-- a call's function and what it is handed -/
theorem call_run (h : RelH n base w0 hd s a w) {o : Oper} {f : FuncId} {xs : List Operand} (hcall : callD P s o.op = some (f, xs)) : (execOp a.eval o).run P w = (callFunc f (xs.map a.eval).toArray).run P w := by
  unfold callD at hcall
  split at hcall
  · rename_i y hy
    simp only [Option.some.injEq] at hcall
    subst hcall
    unfold callOf at hy
    split at hy
    · rename_i c hop
      split at hy
      · rename_i f' hcal
        simp only [Option.some.injEq, Prod.mk.injEq] at hy
        obtain ⟨rfl, rfl⟩ := hy
        unfold execOp
        simp only [hop]
        have e : c.args.map a.eval = (c.args.toList.map a.eval).toArray := by
          apply Array.ext'; simp
        simp only [resolve, hcal, Act.eval, Deferred.ofValue, Sem.run_bind, Sem.run_pure, Result.andThen_ok, invoke]
        simp only [List.append_toArray, Array.append_empty, Array.empty_append, e, List.nil_append, List.append_nil]
      · simp at hy
    · simp at hy
  · unfold dynOf at hcall
    split at hcall
    · rename_i c hop
      have e : c.args.map a.eval = (c.args.toList.map a.eval).toArray := by
        apply Array.ext'; simp
      split at hcall
      · rename_i r name hcal
        have hr := fun v => litmap_val h (x := r) (v := v)
        generalize ev s r = ar at *
        split at hcall
        · rename_i t v
          rw [Option.map_eq_some_iff] at hcall
          obtain ⟨f', hm, h2⟩ := hcall
          simp only [Prod.mk.injEq] at h2
          obtain ⟨rfl, rfl⟩ := h2
          unfold execOp
          simp only [hop]
          have e1 : (program).run P w = .ok P w := rfl
          have e2 : P.types.size + Made.depth = (P.types.size + 99) + 1 := rfl
          simp only [resolve, hcal, Sem.run_bind, Sem.run_pure, Result.andThen_ok, invoke, hr _ rfl]
          have e3 : ((#[Value.iface t v] ++ c.args.map a.eval)[0]? : Option Value) = some (.iface t v) := by rw [Array.getElem?_append]; rfl
          have e4 : (#[Value.iface t v] ++ c.args.map a.eval).extract 1 (#[Value.iface t v] ++ c.args.map a.eval).size = c.args.map a.eval := by
            apply Array.ext'
            simp [Array.toList_extract]
            exact List.take_of_length_le (by simp)
          simp only [e3, e4, callMethod, Sem.run_bind, e1, Result.andThen_ok, e2, run_method hm]
          simp only [List.map_cons, Act.eval, e]
          congr 2
          apply Array.ext'
          simp
        · simp at hcall
      · rename_i x hcal
        have hx := fun v => litmap_val h (x := x) (v := v)
        generalize ev s x = ax at *
        split at hcall
        · rename_i f' first caps
          simp only [Option.some.injEq, Prod.mk.injEq] at hcall
          obtain ⟨rfl, rfl⟩ := hcall
          unfold execOp
          simp only [hop]
          simp only [resolve, hcal, hx _ rfl, Deferred.ofValue, Sem.run_bind, Sem.run_pure, Result.andThen_ok, invoke, e]
          congr 2
          apply Array.ext'
          simp [Function.comp_def, Act.eval]
        · simp at hcall
      · simp at hcall
    · simp at hcall
/-- what a call hands over and tells, as the callee sees it -/
theorem callG_pre (h : RelH n base w0 hd s a w) (hP : base.P = P) {xs : List Operand} {ks : List Nat} {args' : List AV} {mem0 : List (Option Ob)} {maps0 : List (Nat × Mp)} {t N : Nat} {vs0 : Nat → Value} {as0 as1 : Nat → AV} (hnd : ks.Nodup) (hargs : CellsRn (fun j => ks.getD j 0) ks.length (xs.map (ev s)) args') (hgt : lk s.tmps t = .fam N vs0 as0) (hg : ∀ i, i < N → Rn (fun j => ks.getD j 0) ks.length (as0 i) (as1 i)) (hsh : ShMem (fun j => ks.getD j 0) ks.length s.mem ks mem0) (hmaps : ∀ p, p ∈ maps0 → lkm s.maps p.1 = some p.2) :
    args'.length = (xs.map a.eval).length ∧ True ∧ (∀ (j : Nat) b u, args'[j]? = some b → (xs.map a.eval)[j]? = some u → Rep w (okOf mem0 (hdF hd ks s.mem false)) (hdF hd ks s.mem false) mem0.length b u) ∧ (∀ i, i < N → Rep w (okOf mem0 (hdF hd ks s.mem false)) (hdF hd ks s.mem false) mem0.length (as1 i) (vs0 i)) ∧
      MemRel (fun _ => True) w (hdF hd ks s.mem false) mem0 ∧ MapRel P (fun _ => True) w maps0 ∧ TailNot (hdF hd ks s.mem false) (Sh w (hdF hd ks s.mem false) mem0 maps0) := by
  obtain ⟨hm0, hok⟩ := shared_rel h hnd hsh false
  obtain ⟨g1, g2⟩ := cellsRn_get hargs
  obtain ⟨f0, f1⟩ := shMem_get hsh
  have rn : ∀ {c c' : AV} {v : Value}, Rn (fun j => ks.getD j 0) ks.length c c' → Rep w (okOf s.mem hd) hd s.mem.length c v → Rep w (okOf mem0 (hdF hd ks s.mem false)) (hdF hd ks s.mem false) mem0.length c' v := fun hb hr => by
    rw [f0]
    exact (hr.rn hb hok).mono (fun a u h1 h2 => ⟨h2, h1⟩) (fun k hk => hdF_lt hk) (Nat.le_refl _)
  refine ⟨by simpa using g1.symm, trivial, fun j b u hb hu => ?_, fun i hi => ?_, hm0, fun b mp hb => ?_, h.tailSh hsh hmaps⟩
  · rw [List.getElem?_map, Option.map_eq_some_iff] at hu
    obtain ⟨x, hx, rfl⟩ := hu
    exact rn (g2 j (ev s x) b (by rw [List.getElem?_map, hx]; rfl) hb) (h.ev_ x)
  · have hf := h.tm t
    rw [hgt] at hf
    generalize a.tmps.getD t undef = u0 at hf
    cases hf with
    | fam _ _ _ _ hf => exact rn (hg i hi) (hf i hi)
  · obtain ⟨_, es, clock, q1, q2⟩ := h.mp b mp (hmaps _ (lkm_mem hb))
    exact ⟨trivial, es, clock, q1, by rw [← hP]; exact q2⟩
theorem callT_pre (h : RelH n base w0 hd s a w) (hP : base.P = P) {xs : List Operand} {ks : List Nat} {args' : List AV} {mem0 : List (Option Ob)} {maps0 : List (Nat × Mp)} (hnd : ks.Nodup) (hargs : CellsRn (fun j => ks.getD j 0) ks.length (xs.map (ev s)) args') (hsh : ShMem (fun j => ks.getD j 0) ks.length s.mem ks mem0) (hmaps : ∀ p, p ∈ maps0 → lkm s.maps p.1 = some p.2) :
    args'.length = (xs.map a.eval).length ∧ (∀ (j : Nat) b u, args'[j]? = some b → (xs.map a.eval)[j]? = some u → Rep w (okOf mem0 (hdF hd ks s.mem false)) (hdF hd ks s.mem false) mem0.length b u) ∧
      MemRel (fun _ => True) w (hdF hd ks s.mem false) mem0 ∧ MapRel P (fun _ => True) w maps0 ∧ TailNot (hdF hd ks s.mem false) (Sh w (hdF hd ks s.mem false) mem0 maps0) := by
  obtain ⟨hm0, hok⟩ := shared_rel h hnd hsh false
  obtain ⟨g1, g2⟩ := cellsRn_get hargs
  obtain ⟨f0, f1⟩ := shMem_get hsh
  have rn : ∀ {c c' : AV} {v : Value}, Rn (fun j => ks.getD j 0) ks.length c c' → Rep w (okOf s.mem hd) hd s.mem.length c v → Rep w (okOf mem0 (hdF hd ks s.mem false)) (hdF hd ks s.mem false) mem0.length c' v := fun hb hr => by
    rw [f0]
    exact (hr.rn hb hok).mono (fun a u h1 h2 => ⟨h2, h1⟩) (fun k hk => hdF_lt hk) (Nat.le_refl _)
  refine ⟨by simpa using g1.symm, fun j b u hb hu => ?_, hm0, fun b mp hb => ?_, h.tailSh hsh hmaps⟩
  · rw [List.getElem?_map, Option.map_eq_some_iff] at hu
    obtain ⟨x, hx, rfl⟩ := hu
    exact rn (g2 j (ev s x) b (by rw [List.getElem?_map, hx]; rfl) hb) (h.ev_ x)
  · obtain ⟨_, es, clock, q1, q2⟩ := h.mp b mp (hmaps _ (lkm_mem hb))
    exact ⟨trivial, es, clock, q1, by rw [← hP]; exact q2⟩
theorem RelH.tell (h : RelH n base w0 hd s a w) (m : Nat) {N : Nat} {vs : Nat → Value} {as : Nat → AV} (hf : ∀ i, i < N → Rep w (okOf s.mem hd) hd s.mem.length (as i) (vs i)) : RelH n base w0 hd { s with tmps := (m, .fam N vs as) :: s.tmps } a w := by
  refine ⟨h.defers, h.size, h.below, h.le, h.fixl, h.fix, h.mp, fun t => ?_, h.me⟩
  simp only [lk]
  split
  · exact .fam N vs as _ hf
  · exact h.tm t
theorem vcall_sound (h : RelH n base w0 hd s a w) (hP : base.P = P) {o : Oper} {f : FuncId} {xs : List Operand} (hcall : callD P s o.op = some (f, xs)) (hv : vcall P f xs s k) {K : Act → World → Prop} {Q : Exit → Act → World → Prop}
    (hK : ∀ hd' s' w' av v, RelH n base w0 hd' s' a w' → Rep w' (okOf s'.mem hd') hd' s'.mem.length av v → k av s' → K (a.put o.dst v) w') : o.wp P a w K Q := by
  have hrun0 : (execOp a.eval o).run P w = (callFunc f (xs.map a.eval).toArray).run P w := call_run h hcall
  have hrun : FnOk P f → (execOp a.eval o).run P w = .ok (.enter f (xs.map a.eval).toArray) w := fun hfn => hrun0.trans (run_call_of hfn _ w)
  rcases hv with ⟨args', hargs, hfn, hc⟩ | ⟨ks, args', mem0, maps0, L, hnd, ⟨hargs, hL0⟩, hsh, hmaps, hfn, hc⟩ | ⟨⟨fn, hf1, hf2, hf3, hf4, hf5⟩, av, hav, hk⟩ | ⟨ks, args', mem0, maps0, t, N, vs0, as0, as1, hnd, hargs, ⟨hgt, hg⟩, hsh, hmaps, hfn, hc⟩ | ⟨ks, args', mem0, maps0, t, hnd, hargs, hsh, hmaps, hfn, hc⟩
  · obtain ⟨hl, hrep⟩ := argsOk_rep h xs args' hargs
    have hcalls := hc w _ hl hrep
    unfold Oper.wp
    rw [hrun hfn]
    simp only [Oper.upon]
    refine hcalls.mono ?_
    rintro e w' ⟨v, rfl, hg, hdc, av, obs, hk, hfl, hlit, hm, hv⟩
    have hlow : ∀ k, k < obs.length → (fun k => if k < obs.length then hdc k else hd (k + s.mem.length)) k = hdc k := fun k hk => if_pos hk
    have hR := h.import hg (hm.retail hlit hlow) hlit ⟨obs.length, fun k hk => if_neg (by omega)⟩
    refine hK _ _ _ _ _ hR (hv.ren_ hfl fun q _ hq => ⟨by simp; omega, ?_⟩) hk
    rw [if_neg (by omega), Nat.add_sub_cancel]
    exact hlow q hq
  · have hL : L = true ∨ ∀ (j : Nat) a b, (xs.map (ev s))[j]? = some a → args'[j]? = some b → Rn (fun j => ks.getD j 0) ks.length a b := hL0.imp id fun h => (cellsRn_get h).2
    obtain ⟨hm0, hok⟩ := shared_rel h hnd hsh L
    obtain ⟨g1, g2⟩ := argsX_get hargs
    have hlen := (shMem_get hsh).1
    have hcalls := hc w (xs.map a.eval) (hdF hd ks s.mem L) (by simpa using g1.symm) (fun j b u hb hu => by
      rw [List.getElem?_map, Option.map_eq_some_iff] at hu
      obtain ⟨x, hx, rfl⟩ := hu
      exact argX_rep h hsh hok (g2 j (ev s x) b (by rw [List.getElem?_map, hx]; rfl) hb) (hL.imp id fun hL => hL j (ev s x) b (by rw [List.getElem?_map, hx]; rfl) hb)) hm0 (fun b mp hb => by
      obtain ⟨_, es, clock, q1, q2⟩ := h.mp b mp (hmaps _ (lkm_mem hb))
      exact ⟨trivial, es, clock, q1, by rw [← hP]; exact q2⟩) (h.tailSh hsh hmaps)
    unfold Oper.wp
    rw [hrun hfn]
    simp only [Oper.upon]
    refine hcalls.mono ?_
    rintro e w' ⟨v, rfl, hb, hdc, av, mem', maps', ⟨hns, hk⟩, hpo, ⟨hhd, htl⟩, hm, hmp, hv⟩
    obtain ⟨hR, f3, f4⟩ := h.importS hP hnd hsh hmaps hb hpo (fun k hk => (hhd k hk).trans (hdF_lt (by omega))) htl hns hm hmp
    exact hK _ _ _ _ _ hR (hv.ren_ hpo.flat fun q _ hq => f3 q hq) hk
  · match xs, hav with
    | [x], hav =>
      simp only [List.map_cons, List.map_nil, List.cons.injEq, and_true] at hav
      have hx := h.ev_ x
      rw [hav] at hx
      have hr : (execOp a.eval o).run P w = .ok (.value (a.eval x)) w := by
        rw [hrun0, run_callFunc_extern hf1 hf2 hf3 hf4 hf5]
        show ((Extern.AbiNoEscape.same #[a.eval x]).run P w).andThen _ = _
        rw [Lib.run_noEscape]
        rfl
      unfold Oper.wp
      rw [hr]
      exact hK _ _ _ _ _ h hx hk
  · obtain ⟨hlen, hb, hrep, hfam, hm0, hmp0, htl0⟩ := callG_pre h hP hnd hargs hgt hg hsh hmaps
    have hcalls := hc w (xs.map a.eval) (hdF hd ks s.mem false) hlen hrep hfam hm0 hmp0 htl0
    unfold Oper.wp
    rw [hrun hfn]
    simp only [Oper.upon]
    refine hcalls.mono ?_
    rintro e w' ⟨v, rfl, hb, hdc, av, mem', maps', hk, hpo, ⟨hhd, htl⟩, hm, hmp, hv⟩
    have hlen2 := (shMem_get hsh).1
    obtain ⟨hR, f3, f4⟩ := h.importS hP hnd hsh hmaps hb hpo (fun k hk => (hhd k hk).trans (hdF_lt (by omega))) htl (.inl rfl) hm hmp
    exact hK _ _ _ _ _ hR (hv.ren_ hpo.flat fun q _ hq => f3 q hq) hk
  · obtain ⟨hlen, hrep, hm0, hmp0, htl0⟩ := callT_pre h hP hnd hargs hsh hmaps
    have hcalls := hc w (xs.map a.eval) (hdF hd ks s.mem false) hlen hrep hm0 hmp0 htl0
    unfold Oper.wp
    rw [hrun hfn]
    simp only [Oper.upon]
    refine hcalls.mono ?_
    rintro e w' ⟨v, rfl, hb, hdc, av, mem', maps', N, vs1, as1, ⟨hk, hfam⟩, hpo, ⟨hhd, htl⟩, hm, hmp, hv⟩
    have hlen2 := (shMem_get hsh).1
    obtain ⟨hR, f3, f4⟩ := h.importS hP hnd hsh hmaps hb hpo (fun k hk => (hhd k hk).trans (hdF_lt (by omega))) htl (.inl rfl) hm hmp
    refine hK _ _ _ _ _ (hR.tell t fun i hi => ?_) (hv.ren_ hpo.flat fun q _ hq => f3 q hq) hk
    obtain ⟨g1, g2⟩ := hfam i hi
    exact g2.renB_ g1 (fun ad u h1 h2 => ⟨h2, f4 rfl _ h1⟩) fun q hq => f3 q hq

theorem vstep_sound (h : RelH n base w0 hd s a w) (hP : base.P = P) {o : Oper} {k : VS → Prop} (hv : vstep P n o s k) {K : Act → World → Prop} {Q : Exit → Act → World → Prop} (hK : ∀ hd' s' a' w', RelH n base w0 hd' s' a' w' → k s' → K a' w') : o.wp P a w K Q := by
  unfold vstep at hv
  split at hv
  · rename_i f xs hcall
    refine vcall_sound h hP hcall hv fun hd' s' w' av v h1 h2 h3 => ?_
    obtain ⟨s'', h4, h5⟩ := putO_sound h1 h2 h3
    exact hK _ s'' _ _ h4 h5
  · obtain ⟨v, w', hr, hd', s', av, h1, h2, h3⟩ := vop4_sound h hP o hv
    obtain ⟨s'', h4, h5⟩ := putO_sound h1 h2 h3
    unfold Oper.wp
    rcases hr with hr | ⟨hr, rfl⟩
    · rw [hr]; exact hK _ s'' _ _ h4 h5
    · rw [hr]; exact hK _ s'' _ _ h4 h5

theorem yield_of (h : RelH n base w0 hd s a w) {all : List Oper} {g : Nat} {t : Tmp} {c : Bool} (hs : slotOf all g = some t) (hl : lk s.tmps t = .lit (.bool c)) : yielded all.toArray a.tmps g = some c := by
  have ht := h.tm t
  rw [hl] at ht
  have e : a.tmps.getD t undef = .bool c := by
    generalize a.tmps.getD t undef = v at ht
    cases ht; rfl
  unfold yielded
  have : ((all.toArray[g]?).bind (·.dst)) = some t := by simpa [slotOf] using hs
  rw [this]
  simp only [Option.bind_some]
  rw [Array.getD_eq_getD_getElem?] at e
  cases h2 : a.tmps[t]? with
  | none => rw [h2] at e; simp [undef] at e
  | some v => rw [h2] at e; simp only [Option.getD_some] at e; rw [e]

theorem yield_no (h : RelH n base w0 hd s a w) {all : List Oper} {g : Nat} {t : Tmp} {q : Array Value} (hs : slotOf all g = some t) (hl : lk s.tmps t = .lit (.tuple q)) (b : Bool) : yielded all.toArray a.tmps g ≠ some b := by
  have ht := h.tm t
  rw [hl] at ht
  have e : a.tmps.getD t undef = .tuple q := by
    generalize a.tmps.getD t undef = v at ht
    cases ht; rfl
  unfold yielded
  have : ((all.toArray[g]?).bind (·.dst)) = some t := by simpa [slotOf] using hs
  rw [this]
  simp only [Option.bind_some]
  rw [Array.getD_eq_getD_getElem?] at e
  cases h2 : a.tmps[t]? with
  | none => simp
  | some v => rw [h2] at e; simp only [Option.getD_some] at e; rw [e]; simp

theorem RelH.again (h : RelH n base w0 hd s a w) {t : Tmp} {av : AV} (hav : av = lk s.tmps t) : RelH n base w0 hd { s with tmps := (t, av) :: s.tmps } a w := by
  refine ⟨h.defers, h.size, h.below, h.le, h.fixl, h.fix, h.mp, fun u => ?_, h.me⟩
  simp only [lk]
  split
  · rename_i e; subst e; rw [hav]; exact h.tm t
  · exact h.tm u

theorem vops_sound (hP : base.P = P) {all : List Oper} {Q : Exit → Act → World → Prop} : ∀ (ops : List Oper) {hd : Nat → Value} {s : VS} {a : Act} {w : World} {k : VS → Prop}, RelH n base w0 hd s a w → vops P n all ops s k →
    (∀ hd' s' a' w', RelH n base w0 hd' s' a' w' → k s' → Q .normal a' w') → wpList P all.toArray Q ops a w
  | [], hd, s, a, w, k, h, hv, hQ => hQ hd s a w h hv
  | o :: r, hd, s, a, w, k, h, hv, hQ => by
    simp only [vops] at hv
    unfold wpList
    split at hv
    · rename_i hg
      rw [if_pos (by simp [Region.wanted, hg])]
      exact .inl (vstep_sound h hP hv fun hd' s' a' w' h' hk => vops_sound hP r h' hk hQ)
    · rename_i g b hg
      split at hv
      · rename_i t hs
        split at hv
        · rename_i c hl
          have hy := yield_of h hs hl
          by_cases hcb : c = b
          · have hR := h.again (t := t) (av := .lit (.bool b)) (by rw [hl, hcb])
            rw [if_pos (by simp [Region.wanted, hg, hy, hcb])]
            exact .inl (vstep_sound hR hP (hv.1 hcb) fun hd' s' a' w' h' hk => vops_sound hP r h' hk hQ)
          · have hcb' : c = !b := by cases c <;> cases b <;> simp_all
            have hR := h.again (t := t) (av := .lit (.bool (!b))) (by rw [hl, hcb'])
            rw [if_neg (by simp [Region.wanted, hg, hy, hcb])]
            obtain ⟨s', h1, h2⟩ := putO_sound hR (.lit undef) (hv.2 hcb')
            exact vops_sound hP r h1 h2 hQ
        · rename_i q hl
          have hy := yield_no h hs hl b
          rw [if_neg (by simp [Region.wanted, hg, hy])]
          obtain ⟨s', h1, h2⟩ := putO_sound h (.lit undef) hv
          exact vops_sound hP r h1 h2 hQ
        · exact hv.elim
      · exact hv.elim

/-- ways out of code -/
inductive VX where
  | normal
  | exit (id : Nat)
  | ret
def VX.out : VX → Exit
  | .normal => .normal
  | .exit id => .exit id
  | .ret => .ret

/-- own references stay below m -/
inductive Bd (m : Nat) : AV → Prop
  | undef : Bd m .undef
  | closed (av : AV) (h : Closed av) : Bd m av
  | own (k : Nat) (h : k < m) : Bd m (.own k)
  | sub (k sz lo n : Nat) (h : k < m) : Bd m (.sub k sz lo n)
  | ptr (k sz i j : Nat) (h : k < m) : Bd m (.ptr k sz i j)
  | agg (cs : List AV) (h : ∀ c, c ∈ cs → Bd m c) : Bd m (.agg cs)
  | tup (cs : List AV) (h : ∀ c, c ∈ cs → Bd m c) : Bd m (.tup cs)

theorem Rep.bd {w : World} {ok ok' : Nat → Prop} {m m' : Nat} {av : AV} (hb : Bd m' av) (hok : ∀ b, ok b → ok' b) : ∀ {v : Value}, Rep w ok hd m av v → Rep w ok' hd m' av v := by
  induction hb with
  | undef => intro v _; exact .undef v
  | closed av hc => intro v h; exact Rep.closed hc (fun a u h1 h2 => ⟨h2, hok _ h1⟩) h
  | own k hk => intro v h; cases h; exact .own k hk
  | sub k sz lo n hk => intro v h; cases h with | sub _ _ _ _ A c _ hc ha => exact .sub k sz lo n A c hk hc ha
  | ptr k sz i j hk => intro v h; cases h with | ptr _ _ _ _ b n' c' _ hh => exact .ptr k sz i j b n' c' hk hh
  | agg cs _ ih => intro v h; cases h with | agg _ vs hl hr => exact .agg cs vs hl fun j a u h1 h2 => ih a (List.mem_of_getElem? h1) (hr j a u h1 h2)
  | tup cs _ ih => intro v h; cases h with | tup _ vs hl hr => exact .tup cs vs hl fun j a u h1 h2 => ih a (List.mem_of_getElem? h1) (hr j a u h1 h2)

def ObEq (m : Nat) (ob ob' : Ob) : Prop := ob.ty = ob'.ty ∧ ob.sz = ob'.sz ∧ ob.n = ob'.n ∧ ∀ i, i < ob'.n → ob.f i = ob'.f i ∧ ∀ c, c ∈ ob'.f i → Bd m c
/-- less is known, some objects are forgotten -/
structure Le (s s' : VS) : Prop where
  fix : s'.fix = s.fix ∧ s'.fix ≤ s'.mem.length
  maps : ∀ p, p ∈ s'.maps → lkm s.maps p.1 = some p.2
  tmps : ∀ p, p ∈ s'.tmps → lk s.tmps p.1 = p.2 ∧ Bd s'.mem.length p.2
  len : s'.mem.length ≤ s.mem.length
  mem : ∀ (k : Nat) (ob' : Ob), s'.mem[k]? = some (some ob') → ∃ ob, s.mem[k]? = some (some ob) ∧ ObEq s'.mem.length ob ob'

theorem lk_mem : ∀ (l : List (Nat × AV)) (t : Nat), lk l t = .undef ∨ (t, lk l t) ∈ l
  | [], t => .inl rfl
  | (u, v) :: r, t => by
    simp only [lk]
    split
    · rename_i e; subst e; exact .inr (by simp)
    · rcases lk_mem r t with h | h
      · exact .inl h
      · exact .inr (by simp [h])

theorem RelH.le_ {s' : VS} (h : RelH n base w0 hd s a w) (hle : Le s s') : RelH n base w0 hd s' a w := by
  have hok : ∀ b, okOf s.mem hd b → okOf s'.mem hd b := fun b hb => ⟨fun k ob' hk => by
    obtain ⟨ob, h1, _⟩ := hle.mem k ob' hk
    exact hb.1 k ob h1, hb.2⟩
  refine ⟨h.defers, h.size, h.below, h.le, hle.fix.2, by rw [hle.fix.1]; exact h.fix, fun b mp hb => h.mp b mp (hle.maps (b, mp) (lkm_mem hb)), fun t => ?_, ⟨fun k ob' hk => (by obtain ⟨ob, h1, _⟩ := hle.mem k ob' hk; exact h.me.alw k ob h1), fun k ob' hk => ?_, fun k hk => h.me.hds k (by have := hle.len; omega), fun k k' ob ob' hk hk' hne => ?_⟩⟩
  · rcases lk_mem s'.tmps t with e | e
    · rw [e]; exact .undef _
    · obtain ⟨h1, h2⟩ := hle.tmps _ e
      simp only at h1
      have := h.tm t
      rw [h1] at this
      exact this.bd h2 hok
  · obtain ⟨ob, h1, e1, e2, e3, h2⟩ := hle.mem k ob' hk
    obtain ⟨hs, vals, ho, hr⟩ := h.me.obs k ob h1
    rw [e2] at hs
    refine ⟨hs, vals, by rw [← e1, ← e2, ← e3]; exact ho, fun i hi => ?_⟩
    obtain ⟨g1, g2⟩ := hr i (by omega)
    obtain ⟨f1, f2⟩ := h2 i hi
    rw [f1] at g1 g2
    rw [e2] at g1 g2
    refine ⟨g1, fun j av hj => ?_⟩
    obtain ⟨u, q1, q2, q3⟩ := g2 j av hj
    exact ⟨u, q1, q2, q3.bd (f2 av (List.mem_of_getElem? hj)) hok⟩
  · obtain ⟨o1, g1, _⟩ := hle.mem k ob hk
    obtain ⟨o2, g2, _⟩ := hle.mem k' ob' hk'
    exact h.me.apart k k' o1 o2 g1 g2 hne

def ObRn (f : Nat → Nat) (m : Nat) (ob ob' : Ob) : Prop := ob.ty = ob'.ty ∧ ob.sz = ob'.sz ∧ ob.n = ob'.n ∧ ∀ i, i < ob'.n → ob.f i = ob'.f i ∧ ∀ c, c ∈ ob'.f i → Closed c
structure LeR (f : Nat → Nat) (s s' : VS) : Prop where
  fix : s'.fix = s.fix ∧ s'.fix ≤ s'.mem.length ∧ ∀ k, k < s.fix → f k = k
  maps : ∀ p, p ∈ s'.maps → lkm s.maps p.1 = some p.2
  tmps : ∀ p, p ∈ s'.tmps → Rn f s'.mem.length (lk s.tmps p.1) p.2
  lt : ∀ k, k < s'.mem.length → f k < s.mem.length
  inj : ∀ k k', k < s'.mem.length → k' < s'.mem.length → f k = f k' → k = k'
  mem : ∀ (k : Nat) (ob' : Ob), s'.mem[k]? = some (some ob') → ∃ ob, s.mem[f k]? = some (some ob) ∧ ObRn f s'.mem.length ob ob'
theorem RelH.leR {f : Nat → Nat} {s' : VS} (h : RelH n base w0 hd s a w) (hle : LeR f s s') : RelH n base w0 (fun k => if k < s'.mem.length then hd (f k) else hd k) s' a w := by
  obtain ⟨HD, hHD⟩ : ∃ HD : Nat → Value, HD = fun k => if k < s'.mem.length then hd (f k) else hd k := ⟨_, rfl⟩
  rw [← hHD]
  have hlow : ∀ k, k < s'.mem.length → HD k = hd (f k) := fun k hk => by rw [hHD]; exact if_pos hk
  have heq : TailEq hd HD := ⟨s'.mem.length, fun k hk => by rw [hHD]; exact if_neg (by omega)⟩
  have hkl : ∀ (k : Nat) (ob : Ob), s'.mem[k]? = some (some ob) → k < s'.mem.length := fun k ob hk => (List.getElem?_eq_some_iff.1 hk).1
  have hok : ∀ b, okOf s.mem hd b → okOf s'.mem HD b := fun b hb => ⟨fun k ob' hk => by
    obtain ⟨ob, h1, _⟩ := hle.mem k ob' hk
    rw [hlow k (hkl k ob' hk)]
    exact hb.1 (f k) ob h1, hb.2.eq heq⟩
  have rn : ∀ {x y : AV} {v : Value}, Rn f s'.mem.length x y → Rep w (okOf s.mem hd) hd s.mem.length x v → Rep w (okOf s'.mem HD) HD s'.mem.length y v := fun hb hr => (hr.rn hb hok).mono (fun a u h1 h2 => ⟨h2, h1⟩) hlow (Nat.le_refl _)
  refine ⟨h.defers, h.size, h.below, h.le, hle.fix.2.1, ⟨fun k hk => by have := hle.fix.2.1; rw [hlow k (by omega)]; rw [hle.fix.1] at hk; rw [hle.fix.2.2 k hk]; exact h.fix.1 k hk, h.fix.2.1.trans heq, h.fix.2.2⟩, fun b mp hb => h.mp b mp (hle.maps (b, mp) (lkm_mem hb)), fun t => ?_, ⟨fun k ob' hk => (by obtain ⟨ob, h1, _⟩ := hle.mem k ob' hk; rw [hlow k (hkl k ob' hk)]; exact h.me.alw (f k) ob h1), fun k ob' hk => ?_, fun k hk => by rw [hlow k hk]; exact h.me.hds (f k) (hle.lt k hk), fun k k' ob ob' hk hk' hne => ?_⟩⟩
  · rcases lk_mem s'.tmps t with e | e
    · rw [e]; exact .undef _
    · exact rn (hle.tmps _ e) (h.tm t)
  · obtain ⟨ob, h1, e1, e2, e3, h2⟩ := hle.mem k ob' hk
    obtain ⟨hs, vals, ho, hr⟩ := h.me.obs (f k) ob h1
    rw [e2] at hs
    refine ⟨hs, vals, by rw [hlow k (hkl _ _ hk), ← e1, ← e2, ← e3]; exact ho, fun i hi => ?_⟩
    obtain ⟨g1, g2⟩ := hr i (by omega)
    obtain ⟨f1, f2⟩ := h2 i hi
    rw [f1] at g1 g2
    rw [e2] at g1 g2
    refine ⟨g1, fun j av hj => ?_⟩
    obtain ⟨u, q1, q2, q3⟩ := g2 j av hj
    exact ⟨u, q1, q2, rn (.closed _ (f2 av (List.mem_of_getElem? hj))) q3⟩
  · obtain ⟨o1, g1, _⟩ := hle.mem k ob hk
    obtain ⟨o2, g2, _⟩ := hle.mem k' ob' hk'
    rw [hlow k (hkl _ _ hk), hlow k' (hkl _ _ hk')]
    exact h.me.apart (f k) (f k') o1 o2 g1 g2 (fun e => hne (hle.inj k k' (hkl _ _ hk) (hkl _ _ hk') e))
/-- what may be said instead of a state -/
def Ent (s s' : VS) : Prop := ∀ (n : Nat) (base : Fr) (w0 : World) (hd : Nat → Value) (a : Act) (w : World), RelH n base w0 hd s a w → ∃ hd', RelH n base w0 hd' s' a w
theorem Ent.refl (s : VS) : Ent s s := fun _ _ _ hd _ _ h => ⟨hd, h⟩
theorem Ent.trans {s s' s'' : VS} (h : Ent s s') (h' : Ent s' s'') : Ent s s'' := fun n base w0 hd a w hr => by
  obtain ⟨hd1, h1⟩ := h n base w0 hd a w hr
  exact h' n base w0 hd1 a w h1
theorem Ent.of_le {s s' : VS} (h : Le s s') : Ent s s' := fun n base w0 hd a w hr => ⟨hd, hr.le_ h⟩
theorem Ent.of_leR {f : Nat → Nat} {s s' : VS} (h : LeR f s s') : Ent s s' := fun n base w0 hd a w hr => ⟨_, hr.leR h⟩
inductive LeK where
  | le
  | ren (f : Nat → Nat)
  | ent
def LeX : LeK → VS → VS → Prop
  | .le, s, s' => Le s s'
  | .ren f, s, s' => LeR f s s'
  | .ent, s, s' => Ent s s'
theorem RelH.leX {o : LeK} {s' : VS} (h : RelH n base w0 hd s a w) (hle : LeX o s s') : ∃ hd', RelH n base w0 hd' s' a w := by
  cases o with
  | le => exact ⟨_, h.le_ hle⟩
  | ren f => exact ⟨_, h.leR hle⟩
  | ent => exact hle _ _ _ _ _ _ h
/-- under other numbers, own objects inside own objects too -/
structure LeS (f : Nat → Nat) (s s' : VS) : Prop where
  fix : s'.fix = s.fix ∧ s'.fix ≤ s'.mem.length ∧ ∀ k, k < s.fix → f k = k
  maps : ∀ p, p ∈ s'.maps → lkm s.maps p.1 = some p.2
  tmps : ∀ p, p ∈ s'.tmps → Rn f s'.mem.length (lk s.tmps p.1) p.2
  lt : ∀ k, k < s'.mem.length → f k < s.mem.length
  inj : ∀ k k', k < s'.mem.length → k' < s'.mem.length → f k = f k' → k = k'
  mem : ∀ (k : Nat) (ob' : Ob), s'.mem[k]? = some (some ob') → ∃ ob, s.mem[f k]? = some (some ob) ∧ (ObRn f s'.mem.length ob ob' ∨ ShOb f s'.mem.length ob ob')
theorem RelH.leS {f : Nat → Nat} {s' : VS} (h : RelH n base w0 hd s a w) (hle : LeS f s s') : RelH n base w0 (fun k => if k < s'.mem.length then hd (f k) else hd k) s' a w := by
  obtain ⟨HD, hHD⟩ : ∃ HD : Nat → Value, HD = fun k => if k < s'.mem.length then hd (f k) else hd k := ⟨_, rfl⟩
  rw [← hHD]
  have hlow : ∀ k, k < s'.mem.length → HD k = hd (f k) := fun k hk => by rw [hHD]; exact if_pos hk
  have heq : TailEq hd HD := ⟨s'.mem.length, fun k hk => by rw [hHD]; exact if_neg (by omega)⟩
  have hkl : ∀ (k : Nat) (ob : Ob), s'.mem[k]? = some (some ob) → k < s'.mem.length := fun k ob hk => (List.getElem?_eq_some_iff.1 hk).1
  have hok : ∀ b, okOf s.mem hd b → okOf s'.mem HD b := fun b hb => ⟨fun k ob' hk => by
    obtain ⟨ob, h1, _⟩ := hle.mem k ob' hk
    rw [hlow k (hkl k ob' hk)]
    exact hb.1 (f k) ob h1, hb.2.eq heq⟩
  have rn : ∀ {x y : AV} {v : Value}, Rn f s'.mem.length x y → Rep w (okOf s.mem hd) hd s.mem.length x v → Rep w (okOf s'.mem HD) HD s'.mem.length y v := fun hb hr => (hr.rn hb hok).mono (fun a u h1 h2 => ⟨h2, h1⟩) hlow (Nat.le_refl _)
  refine ⟨h.defers, h.size, h.below, h.le, hle.fix.2.1, ⟨fun k hk => by have := hle.fix.2.1; rw [hlow k (by omega)]; rw [hle.fix.1] at hk; rw [hle.fix.2.2 k hk]; exact h.fix.1 k hk, h.fix.2.1.trans heq, h.fix.2.2⟩, fun b mp hb => h.mp b mp (hle.maps (b, mp) (lkm_mem hb)), fun t => ?_, ⟨fun k ob' hk => (by obtain ⟨ob, h1, _⟩ := hle.mem k ob' hk; rw [hlow k (hkl k ob' hk)]; exact h.me.alw (f k) ob h1), fun k ob' hk => ?_, fun k hk => by rw [hlow k hk]; exact h.me.hds (f k) (hle.lt k hk), fun k k' ob ob' hk hk' hne => ?_⟩⟩
  · rcases lk_mem s'.tmps t with e | e
    · rw [e]; exact .undef _
    · exact rn (hle.tmps _ e) (h.tm t)
  · obtain ⟨ob, h1, h2⟩ := hle.mem k ob' hk
    obtain ⟨hs, vals, ho, hr⟩ := h.me.obs (f k) ob h1
    rcases h2 with ⟨e1, e2, e3, h2⟩ | ⟨e1, e2, e3, h2⟩
    · rw [e2] at hs
      refine ⟨hs, vals, by rw [hlow k (hkl _ _ hk), ← e1, ← e2, ← e3]; exact ho, fun i hi => ?_⟩
      obtain ⟨g1, g2⟩ := hr i (by omega)
      obtain ⟨f1, f2⟩ := h2 i hi
      rw [f1] at g1 g2
      rw [e2] at g1 g2
      refine ⟨g1, fun j av hj => ?_⟩
      obtain ⟨u, q1, q2, q3⟩ := g2 j av hj
      exact ⟨u, q1, q2, rn (.closed _ (f2 av (List.mem_of_getElem? hj))) q3⟩
    · rw [e2] at hs
      refine ⟨hs, vals, by rw [hlow k (hkl _ _ hk), ← e1, ← e2, ← e3]; exact ho, fun i hi => ?_⟩
      obtain ⟨g1, g2⟩ := hr i (by omega)
      obtain ⟨f1, f2⟩ := cellsRn_get (h2 i hi)
      refine ⟨by omega, fun j av hj => ?_⟩
      have hjl : j < (ob.f i).length := by have := (List.getElem?_eq_some_iff.1 hj).1; omega
      obtain ⟨u, q1, q2, q3⟩ := g2 j _ (List.getElem?_eq_getElem hjl)
      exact ⟨u, by rw [← e2]; exact q1, q2, rn (f2 j _ av (List.getElem?_eq_getElem hjl) hj) q3⟩
  · obtain ⟨o1, g1, _⟩ := hle.mem k ob hk
    obtain ⟨o2, g2, _⟩ := hle.mem k' ob' hk'
    rw [hlow k (hkl _ _ hk), hlow k' (hkl _ _ hk')]
    exact h.me.apart (f k) (f k') o1 o2 g1 g2 (fun e => hne (hle.inj k k' (hkl _ _ hk) (hkl _ _ hk') e))
theorem Ent.of_leS {f : Nat → Nat} {s s' : VS} (h : LeS f s s') : Ent s s' := fun n base w0 hd a w hr => ⟨_, hr.leS h⟩
/-- a nil slice in an own object's cell is a row of no elements -/
theorem Ent.adopt {s : VS} {j : Nat} {ob : Ob} (hj : s.mem[j]? = some (some ob)) (hn : ob.n = 1) {c : Nat} (hc : (ob.f 0)[c]? = some (.lit (.slice none 0 0))) (ty sz : Nat) (hsz : 0 < sz) (g : Nat → List AV) :
    Ent s { s with mem := s.mem.set j (some { ob with f := fun _ => (ob.f 0).set c (.own s.mem.length) }) ++ [some ⟨ty, sz, 0, g⟩] } := by
  intro n base w0 hd a w h
  obtain ⟨HD, hHD⟩ : ∃ HD : Nat → Value, HD = fun k => if k = s.mem.length then .slice none 0 0 else hd k := ⟨_, rfl⟩
  have hlow : ∀ k, k < s.mem.length → HD k = hd k := fun k hk => by rw [hHD]; exact if_neg (by omega)
  have hnew : HD s.mem.length = .slice none 0 0 := by rw [hHD]; exact if_pos rfl
  have heqT : TailEq hd HD := ⟨s.mem.length + 1, fun k hk => by rw [hHD]; exact if_neg (by omega)⟩
  have hjl : j < s.mem.length := (List.getElem?_eq_some_iff.1 hj).1
  obtain ⟨mem', hmem'⟩ : ∃ mem', mem' = s.mem.set j (some { ob with f := fun _ => (ob.f 0).set c (.own s.mem.length) }) ++ [some (⟨ty, sz, 0, g⟩ : Ob)] := ⟨_, rfl⟩
  rw [← hmem']
  have hlen' : mem'.length = s.mem.length + 1 := by rw [hmem']; simp
  have live : ∀ k o', mem'[k]? = some (some o') → (k = s.mem.length ∧ o' = ⟨ty, sz, 0, g⟩) ∨ (k < s.mem.length ∧ k ≠ j ∧ s.mem[k]? = some (some o')) ∨ (k = j ∧ o' = { ob with f := fun _ => (ob.f 0).set c (.own s.mem.length) }) := by
    intro k o' hk
    rw [hmem', List.getElem?_append] at hk
    simp only [List.length_set] at hk
    split at hk
    · rename_i hkl
      by_cases e : j = k
      · subst e
        rw [List.getElem?_set_self hjl] at hk
        simp only [Option.some.injEq] at hk
        exact .inr (.inr ⟨rfl, hk.symm⟩)
      · rw [List.getElem?_set_ne e] at hk
        exact .inr (.inl ⟨hkl, fun e2 => e e2.symm, hk⟩)
    · rename_i hkl
      have : k = s.mem.length := by
        have := (List.getElem?_eq_some_iff.1 hk).1
        simp at this; omega
      subst this
      simp at hk
      exact .inl ⟨rfl, hk.symm⟩
  have old : ∀ k o', mem'[k]? = some (some o') → k < s.mem.length → ∃ o, s.mem[k]? = some (some o) := by
    intro k o' hk hkl
    rcases live k o' hk with ⟨e, _⟩ | ⟨_, _, h2⟩ | ⟨rfl, _⟩
    · omega
    · exact ⟨o', h2⟩
    · exact ⟨ob, hj⟩
  have hok : ∀ ad u, okOf s.mem hd ad.block → w.cell? ad = some u → w.cell? ad = some u ∧ okOf mem' HD ad.block := by
    intro ad u ho hcl
    refine ⟨hcl, fun k o' hk e => ?_, ho.2.eq heqT⟩
    by_cases hkl : k < s.mem.length
    · obtain ⟨o, h1⟩ := old k o' hk hkl
      rw [hlow k hkl] at e
      exact ho.1 k o h1 e
    · have : k = s.mem.length := by have := (List.getElem?_eq_some_iff.1 hk).1; omega
      subst this
      rw [hnew] at e; simp [Value.ownBlock] at e
  have hle : s.mem.length ≤ mem'.length := by omega
  have ltOf : ∀ k o', mem'[k]? = some (some o') → k < s.mem.length + 1 := fun k o' hk => by rw [← hlen']; exact (List.getElem?_eq_some_iff.1 hk).1
  refine ⟨HD, h.defers, h.size, h.below, h.le, Nat.le_trans h.fixl hle, ⟨fun k hk => ?_, h.fix.2.1.trans heqT, h.fix.2.2⟩, h.mp, fun t => (h.tm t).mono hok hlow hle, ⟨fun k o' hk b hb => ?_, fun k o' hk => ?_, fun k hk => ?_, fun k k' o o' hk hk' hne => ?_⟩⟩
  · have hk' : k < s.fix := hk
    have := h.fixl
    rw [hlow k (by omega)]; exact h.fix.1 k hk'
  · by_cases hkl : k < s.mem.length
    · obtain ⟨o, h1⟩ := old k o' hk hkl
      rw [hlow k hkl] at hb
      exact h.me.alw k o h1 b hb
    · have : k = s.mem.length := by have := ltOf k o' hk; omega
      subst this
      rw [hnew] at hb; simp [Value.ownBlock] at hb
  · rcases live k o' hk with ⟨rfl, rfl⟩ | ⟨hkl, _, h2⟩ | ⟨rfl, rfl⟩
    · rw [hnew]
      exact ⟨hsz, [], ⟨by simp, .inl ⟨rfl, rfl⟩⟩, fun i hi => by simp at hi⟩
    · obtain ⟨hs, vals, ho, hr⟩ := h.me.obs k o' h2
      rw [hlow k hkl]
      refine ⟨hs, vals, ho, fun i hi => ⟨(hr i hi).1, fun q av hq => ?_⟩⟩
      obtain ⟨u, g1, g2, g3⟩ := (hr i hi).2 q av hq
      exact ⟨u, g1, g2, g3.mono hok hlow hle⟩
    · obtain ⟨hs, vals, ho, hr⟩ := h.me.obs k ob hj
      rw [hlow k hjl]
      refine ⟨hs, vals, ho, fun i hi => ?_⟩
      have hi0 : i = 0 := by have hi' : i < ob.n := hi; omega
      subst hi0
      obtain ⟨q1, q2⟩ := hr 0 hi
      refine ⟨by simpa using q1, fun q av hq => ?_⟩
      simp only at hq
      by_cases e : c = q
      · subst e
        have hcl : c < (ob.f 0).length := (List.getElem?_eq_some_iff.1 hc).1
        rw [List.getElem?_set_self hcl] at hq
        simp only [Option.some.injEq] at hq
        subst hq
        obtain ⟨u, g1, g2, g3⟩ := q2 c _ hc
        cases g3
        refine ⟨_, g1, g2, ?_⟩
        rw [← hnew]
        exact .own _ (by show s.mem.length < mem'.length; omega)
      · rw [List.getElem?_set_ne e] at hq
        obtain ⟨u, g1, g2, g3⟩ := q2 q av hq
        exact ⟨u, g1, g2, g3.mono hok hlow hle⟩
  · by_cases hkl : k < s.mem.length
    · rw [hlow k hkl]; exact h.me.hds k hkl
    · have : k = s.mem.length := by have hk' : k < mem'.length := hk; omega
      subst this
      exact ⟨none, 0, 0, hnew⟩
  · by_cases e1 : k = s.mem.length
    · subst e1; rw [hnew]; exact .inl rfl
    · by_cases e2 : k' = s.mem.length
      · subst e2
        rw [hnew]
        cases hq : (HD k).ownBlock with
        | none => exact .inl rfl
        | some b => exact .inr (by simp [Value.ownBlock])
      · have l1 : k < s.mem.length := by have := ltOf k o hk; omega
        have l2 : k' < s.mem.length := by have := ltOf k' o' hk'; omega
        obtain ⟨o1, h1⟩ := old k o hk l1
        obtain ⟨o2, h2⟩ := old k' o' hk' l2
        rw [hlow k l1, hlow k' l2]
        exact h.me.apart k k' o1 o2 h1 h2 hne
end
end Go.Proofs.Ytcnmgfbafcnkhaa.V
/- The value machine, part R: regions whose order of evaluation is drawn. -/
namespace Go.Proofs.Ytcnmgfbafcnkhaa.V
open Go.RowKit
set_option linter.unusedVariables false
set_option linter.unusedSimpArgs false

section
variable {P : Program} {ops : Array Oper} {md : Region.Mode}
def QNo : Exit → Act → World → Prop := fun _ _ _ => False
/-- what is asked of another end than the normal one does not speak of the temporaries -/
def QFree (Q0 : Exit → Act → World → Prop) : Prop := ∀ e (a : Act) d v w, Q0 e (a.put d v) w → Q0 e a w
theorem QNo.free : QFree QNo := fun _ _ _ _ _ h => h
/-- every order: an operation other than 'fin' leaves what was there alone -/
def wpAnyG (P : Program) (md : Region.Mode) (ops : Array Oper) (Q0 : Exit → Act → World → Prop) (fin : List Nat) (Q : Act → World → Prop) : Nat → Array Bool → Act → World → Prop
  | 0, listed, a, w => Region.ready md ops listed = [] ∧ Q a w
  | fuel + 1, listed, a, w => (Region.ready md ops listed = [] → Q a w) ∧
    ∀ i ∈ Region.ready md ops listed, wpOp P ops Q0 i (fun a' w' => (i ∉ fin → w.grownBy w' none) ∧ wpAnyG P md ops Q0 fin Q fuel (listed.setIfInBounds i true) a' w') a w
theorem grown_none_trans {a b c : World} (h : a.grownBy b none) (k : b.grownBy c none) : a.grownBy c none :=
  ⟨k.os.trans h.os, k.tape.trans h.tape, k.output.trans h.output, Nat.le_trans h.size k.size, fun i hi hr => (k.block i (Nat.lt_of_lt_of_le hi h.size) hr).trans (h.block i hi hr)⟩
theorem grown_none_refl (a : World) : a.grownBy a none := ⟨rfl, rfl, rfl, Nat.le_refl _, fun _ _ _ => rfl⟩
def YG (P : Program) (ops : Array Oper) (o : Oper) (v : Value) (a : Act) (w : World) : Prop :=
  (Region.wanted o (yielded ops a.tmps) = true ∧ ∀ w', w.grownBy w' none → (execOp a.eval o).run P w' = .ok (.value v) w') ∨ (Region.wanted o (yielded ops a.tmps) = false ∧ v = undef)
theorem YG.grown {o : Oper} {v : Value} {a : Act} {w w' : World} (h : YG P ops o v a w) (hg : w.grownBy w' none) : YG P ops o v a w' :=
  h.imp (fun ⟨h1, h2⟩ => ⟨h1, fun w'' hg' => h2 w'' (grown_none_trans hg hg')⟩) id
theorem YG.of_same {o : Oper} {v : Value} {a a' : Act} {w : World} (hy : YG P ops o v a w) (he : execOp a'.eval o = execOp a.eval o) (hw : Region.wanted o (yielded ops a'.tmps) = Region.wanted o (yielded ops a.tmps)) : YG P ops o v a' w := by
  unfold YG at *
  rw [he, hw]; exact hy
theorem YG.wpOp {i : Nat} {o : Oper} {v : Value} {a : Act} {w : World} {Q : Exit → Act → World → Prop} (hi : ops[i]? = some o) (hy : YG P ops o v a w) {K : Act → World → Prop} (h : K (a.put o.dst v) w) : wpOp P ops Q i K a w := by
  unfold Go.wpOp
  simp only [hi]
  rcases hy with ⟨hw, hv⟩ | ⟨hw, rfl⟩
  · simp only [hw, if_true, Oper.wp, hv w (grown_none_refl w), Oper.upon]; exact .inl h
  · simp only [hw, Bool.false_eq_true, if_false]; exact h
theorem wpOp_putG {j : Nat} {oi oj : Oper} {v : Value} (hj : ops[j]? = some oj) (hap : oi.apart ops oj = true) (hsi : ∀ cs b, oi.op ≠ .select cs b) (hsj : ∀ cs b, oj.op ≠ .select cs b) {K : Act → World → Prop} {a : Act} {w : World}
    {Q0 : Exit → Act → World → Prop} (hA : QFree Q0) (hy : YG P ops oi v a w) (h : wpOp P ops Q0 j K (a.put oi.dst v) w) : wpOp P ops Q0 j (fun a' w' => (w.grownBy w' none → YG P ops oi v a' w') ∧ K (a'.put oi.dst v) w') a w := by
  obtain ⟨h1, h2, h3⟩ := Oper.apart_spec hap
  have keep : ∀ (a : Act), YG P ops oi v a w → ∀ u w', w.grownBy w' none → YG P ops oi v (a.put oj.dst u) w' := fun a hy u w' hg =>
    (hy.grown hg).of_same (execOp_put oi hsi a oj.dst u h3) (wanted_put oi a oj.dst u h3)
  have keepD : ∀ d, YG P ops oi v { a with defers := d :: a.defers } w := fun d => hy.of_same rfl rfl
  unfold wpOp at *
  simp only [hj] at *
  rw [wanted_put oj a oi.dst v h1] at h
  split
  · rename_i hw
    simp only [hw, if_true] at h
    rcases h with h | ⟨hasks, hlets⟩
    case inr => exact .inr ⟨by unfold Oper.asks at *; rw [execOp_put oj hsj a oi.dst v h1] at hasks; exact hasks, hlets⟩
    refine .inl ?_
    unfold Oper.wp at *
    rw [execOp_put oj hsj a oi.dst v h1] at h
    generalize (execOp a.eval oj).run P w = r at *
    cases r with
    | ok n w' =>
      cases n <;> simp only [Oper.upon] at h ⊢
      case value u => exact ⟨keep a hy u w', by rw [← Act.put_comm a v u h2]; exact h⟩
      case skip => exact ⟨keep a hy _ w', by rw [← Act.put_comm a v undef h2]; exact h⟩
      case defer d =>
        refine ⟨keep _ (keepD d) _ w', ?_⟩
        rw [← Act.put_comm _ v undef h2, ← Act.put_defers]
        exact h
      case enter f args =>
        refine Calls.mono h fun e w'' he => ?_
        cases e with
        | returned u => exact ⟨keep a hy u w'', by rw [← Act.put_comm a v u h2]; exact he⟩
        | panicked c => exact hA _ _ _ _ _ he
        | outgrown => exact he
      case row row args => exact Rows.mono h fun u w'' he => ⟨keep a hy u w'', by rw [← Act.put_comm a v u h2]; exact he⟩
    | halt x w' =>
      cases x <;> simp only [Oper.upon] at h ⊢
      case panic u => exact hA _ _ _ _ _ h
  · rename_i hw
    simp only [hw] at h
    exact ⟨keep a hy _ w, by rw [← Act.put_comm a v undef h2]; exact h⟩

/-- what is listed is closed under what it waits for -/
def Down (md : Region.Mode) (ops : Array Oper) (listed : Array Bool) : Prop := ∀ j oj, ops[j]? = some oj → listed.getD j false = true → ∀ e ∈ oj.after, Region.binds md e = true → listed.getD e.on false = true
theorem Down.set {listed : Array Bool} {i : Nat} (h : Down md ops listed) (hi : i ∈ Region.ready md ops listed) : Down md ops (listed.setIfInBounds i true) := by
  obtain ⟨_, oi, hoi, hall⟩ := mem_ready.1 hi
  intro j oj hj hl e he hb
  by_cases hij : i = j
  · subst hij
    have : oj = oi := Option.some.inj (hj.symm.trans hoi)
    subst this
    exact getD_set_true (hall e he hb)
  · rw [getD_set_ne false hij] at hl
    exact getD_set_true (h j oj hj hl e he hb)
def waits (md : Region.Mode) (ops : Array Oper) (j i : Nat) : Bool := match ops[j]? with
  | some oj => oj.after.any fun e => Region.binds md e && e.on == i
  | none => false
def reach (md : Region.Mode) (ops : Array Oper) (fin : Nat) : Nat → Nat → Bool
  | 0, _ => false
  | fuel + 1, i => waits md ops fin i || (List.range ops.size).any fun k => waits md ops k i && reach md ops fin fuel k
theorem waits_spec {j i : Nat} (h : waits md ops j i = true) : ∃ oj, ops[j]? = some oj ∧ ∃ e ∈ oj.after, Region.binds md e = true ∧ e.on = i := by
  unfold waits at h
  split at h
  · rename_i oj hj
    obtain ⟨e, he, hb⟩ := Array.any_eq_true'.1 h
    simp only [Bool.and_eq_true, beq_iff_eq] at hb
    exact ⟨oj, hj, e, he, hb.1, hb.2⟩
  · cases h
theorem reach_spec {fin : Nat} {listed : Array Bool} (hd : Down md ops listed) (hf : fin ∈ Region.ready md ops listed) : ∀ (fuel i : Nat), reach md ops fin fuel i = true → listed.getD i false = true
  | 0, i, h => by cases h
  | fuel + 1, i, h => by
    simp only [reach, Bool.or_eq_true, List.any_eq_true, Bool.and_eq_true] at h
    rcases h with h | ⟨k, _, h1, h2⟩
    · obtain ⟨oj, hj, e, he, hb, rfl⟩ := waits_spec h
      obtain ⟨_, o, ho, hall⟩ := mem_ready.1 hf
      have : o = oj := Option.some.inj (ho.symm.trans hj)
      subst this
      exact hall e he hb
    · have := reach_spec hd hf fuel k h2
      obtain ⟨oj, hj, e, he, hb, rfl⟩ := waits_spec h1
      exact hd k oj hj this e he hb
/-- each operation that writes has been, or cannot come ahead of operation i -/
def finAt (md : Region.Mode) (ops : Array Oper) (fin : List Nat) (listed : Array Bool) (i : Nat) : Bool := fin.all fun f => decide (ops.size ≤ f) || listed.getD f false || reach md ops f ops.size i
theorem fin_not {fin : List Nat} {f : Nat} {listed : Array Bool} (hd : Down md ops listed) {i : Nat} (hL : finAt md ops fin listed i = true) (hff : f ∈ fin) (hf : f ∈ Region.ready md ops listed) (hi : i ∈ Region.ready md ops listed) : False := by
  obtain ⟨hunf, of, hof, _⟩ := mem_ready.1 hf
  obtain ⟨hun, oi, hoi, _⟩ := mem_ready.1 hi
  have hfl := (Array.getElem?_eq_some_iff.1 hof).1
  have no : ∀ j, listed.getD j true = false → listed.getD j false = true → False := by
    intro j h1 h2
    rcases Nat.lt_or_ge j listed.size with h' | h'
    · simp [h'] at h1 h2; rw [h1] at h2; cases h2
    · simp [Array.getElem?_eq_none h'] at h1
  have hL1 := List.all_eq_true.1 hL f hff
  simp only [Bool.or_eq_true, decide_eq_true_eq] at hL1
  rcases hL1 with (h | h) | h
  · omega
  · exact no f hunf h
  · exact no i hun (reach_spec hd hf _ i h)
theorem finAt_set {fin : List Nat} {listed : Array Bool} {i j : Nat} (hL : finAt md ops fin listed i = true) : finAt md ops fin (listed.setIfInBounds j true) i = true := by
  refine List.all_eq_true.2 fun f hf => ?_
  have hL1 := List.all_eq_true.1 hL f hf
  simp only [Bool.or_eq_true, decide_eq_true_eq] at hL1 ⊢
  rcases hL1 with (h | h) | h
  · exact .inl (.inl h)
  · exact .inl (.inr (getD_set_true h))
  · exact .inr h
/-- a quiet operation may be taken first -/
theorem wpAnyG_first {Q : Act → World → Prop} {Q0 : Exit → Act → World → Prop} (hA : QFree Q0) {fin : List Nat} {i : Nat} {oi : Oper} {v : Value} (hi : ops[i]? = some oi) (hsel : ∀ (j : Nat) (o : Oper) cs b, ops[j]? = some o → o.op ≠ .select cs b) (hif : i ∉ fin) :
    ∀ (fuel : Nat) (listed : Array Bool) (a : Act) (w : World), Down md ops listed → finAt md ops fin listed i = true →
      (∀ j oj, ops[j]? = some oj → j ≠ i → listed.getD j true = false → (∀ e ∈ oj.after, Region.binds md e = true → e.on ≠ i) → oi.apart ops oj = true) →
      i ∈ Region.ready md ops listed → YG P ops oi v a w →
      wpAnyG P md ops Q0 fin Q fuel (listed.setIfInBounds i true) (a.put oi.dst v) w → wpAnyG P md ops Q0 fin Q (fuel + 1) listed a w := by
  intro fuel
  induction fuel with
  | zero =>
    intro listed a w _ _ _ hr hy H
    refine ⟨fun h => (by rw [h] at hr; cases hr), fun j hj => ?_⟩
    by_cases hji : j = i
    · subst hji; exact hy.wpOp hi ⟨fun _ => grown_none_refl w, H⟩
    · have := ready_mono hj hji
      rw [H.1] at this
      cases this
  | succ fuel ih =>
    intro listed a w hdn hL hfree hr hy H
    refine ⟨fun h => (by rw [h] at hr; cases hr), fun j hj => ?_⟩
    by_cases hji : j = i
    · subst hji; exact hy.wpOp hi ⟨fun _ => grown_none_refl w, H⟩
    · have hjf : j ∉ fin := fun e => fin_not hdn hL e hj hr
      have h1 := H.2 j (ready_mono hj hji)
      obtain ⟨hjun, oj, hoj, hall⟩ := mem_ready.1 hj
      have hnot : ∀ e ∈ oj.after, Region.binds md e = true → e.on ≠ i := fun e he hb heq => by
        have h1 := hall e he hb
        have h0 := (mem_ready.1 hr).1
        rw [heq] at h1
        rcases Nat.lt_or_ge i listed.size with h' | h'
        · simp [h'] at h0 h1; rw [h0] at h1; cases h1
        · simp [Array.getElem?_eq_none h'] at h1
      have h2 := wpOp_putG (Q0 := Q0) hoj (hfree j oj hoj hji hjun hnot) (fun cs b => hsel i oi cs b hi) (fun cs b => hsel j oj cs b hoj) hA hy h1
      have hfree' : ∀ k ok, ops[k]? = some ok → k ≠ i → (listed.setIfInBounds j true).getD k true = false →
          (∀ e ∈ ok.after, Region.binds md e = true → e.on ≠ i) → oi.apart ops ok = true := fun k ok hk hki hun hno => by
        refine hfree k ok hk hki ?_ hno
        by_cases hjk : j = k
        · subst hjk; exact hjun
        · rw [getD_set_ne true hjk] at hun; exact hun
      refine wpOp_mono (fun a' w' h3 => ?_) h2
      obtain ⟨hy', hg, h4⟩ := h3
      refine ⟨hg, ih (listed.setIfInBounds j true) a' w' (hdn.set hj) (finAt_set hL) hfree' (ready_mono hr (Ne.symm hji)) (hy' (hg hjf)) ?_⟩
      rw [Array.setIfInBounds_comm _ _ hji]
      exact h4
/-- a result that hangs on no world -/
def YS (P : Program) (ops : Array Oper) (o : Oper) (v : Value) (a : Act) : Prop :=
  (Region.wanted o (yielded ops a.tmps) = true ∧ ∀ w', (execOp a.eval o).run P w' = .ok (.value v) w') ∨ (Region.wanted o (yielded ops a.tmps) = false ∧ v = undef)
theorem YS.of_same {o : Oper} {v : Value} {a a' : Act} (hy : YS P ops o v a) (he : execOp a'.eval o = execOp a.eval o) (hw : Region.wanted o (yielded ops a'.tmps) = Region.wanted o (yielded ops a.tmps)) : YS P ops o v a' := by
  unfold YS at *
  rw [he, hw]; exact hy
theorem YS.wpOp {i : Nat} {o : Oper} {v : Value} {a : Act} {w : World} {Q : Exit → Act → World → Prop} (hi : ops[i]? = some o) (hy : YS P ops o v a) {K : Act → World → Prop} (h : K (a.put o.dst v) w) : wpOp P ops Q i K a w := by
  unfold Go.wpOp
  simp only [hi]
  rcases hy with ⟨hw, hv⟩ | ⟨hw, rfl⟩
  · simp only [hw, if_true, Oper.wp, hv w, Oper.upon]; exact .inl h
  · simp only [hw, Bool.false_eq_true, if_false]; exact h
theorem wpOp_putS {j : Nat} {oi oj : Oper} {v : Value} (hj : ops[j]? = some oj) (hap : oi.apart ops oj = true) (hsi : ∀ cs b, oi.op ≠ .select cs b) (hsj : ∀ cs b, oj.op ≠ .select cs b) {K : Act → World → Prop} {a : Act} {w : World}
    {Q0 : Exit → Act → World → Prop} (hA : QFree Q0) (hy : YS P ops oi v a) (h : wpOp P ops Q0 j K (a.put oi.dst v) w) : wpOp P ops Q0 j (fun a' w' => YS P ops oi v a' ∧ K (a'.put oi.dst v) w') a w := by
  obtain ⟨h1, h2, h3⟩ := Oper.apart_spec hap
  have keep : ∀ (a : Act), YS P ops oi v a → ∀ u, YS P ops oi v (a.put oj.dst u) := fun a hy u => hy.of_same (execOp_put oi hsi a oj.dst u h3) (wanted_put oi a oj.dst u h3)
  have keepD : ∀ d, YS P ops oi v { a with defers := d :: a.defers } := fun d => hy.of_same rfl rfl
  unfold wpOp at *
  simp only [hj] at *
  rw [wanted_put oj a oi.dst v h1] at h
  split
  · rename_i hw
    simp only [hw, if_true] at h
    rcases h with h | ⟨hasks, hlets⟩
    case inr => exact .inr ⟨by unfold Oper.asks at *; rw [execOp_put oj hsj a oi.dst v h1] at hasks; exact hasks, hlets⟩
    refine .inl ?_
    unfold Oper.wp at *
    rw [execOp_put oj hsj a oi.dst v h1] at h
    generalize (execOp a.eval oj).run P w = r at *
    cases r with
    | ok n w' =>
      cases n <;> simp only [Oper.upon] at h ⊢
      case value u => exact ⟨keep a hy u, by rw [← Act.put_comm a v u h2]; exact h⟩
      case skip => exact ⟨keep a hy _, by rw [← Act.put_comm a v undef h2]; exact h⟩
      case defer d =>
        refine ⟨keep _ (keepD d) _, ?_⟩
        rw [← Act.put_comm _ v undef h2, ← Act.put_defers]
        exact h
      case enter f args =>
        refine Calls.mono h fun e w'' he => ?_
        cases e with
        | returned u => exact ⟨keep a hy u, by rw [← Act.put_comm a v u h2]; exact he⟩
        | panicked c => exact hA _ _ _ _ _ he
        | outgrown => exact he
      case row row args => exact Rows.mono h fun u w'' he => ⟨keep a hy u, by rw [← Act.put_comm a v u h2]; exact he⟩
    | halt x w' =>
      cases x <;> simp only [Oper.upon] at h ⊢
      case panic u => exact hA _ _ _ _ _ h
  · rename_i hw
    simp only [hw] at h
    exact ⟨keep a hy _, by rw [← Act.put_comm a v undef h2]; exact h⟩
/-- an operation that hangs on no world may be taken first, whatever else writes -/
theorem wpAnyG_firstS {Q : Act → World → Prop} {Q0 : Exit → Act → World → Prop} (hA : QFree Q0) {fin : List Nat} {i : Nat} {oi : Oper} {v : Value} (hi : ops[i]? = some oi) (hsel : ∀ (j : Nat) (o : Oper) cs b, ops[j]? = some o → o.op ≠ .select cs b) (hif : i ∉ fin) :
    ∀ (fuel : Nat) (listed : Array Bool) (a : Act) (w : World), Down md ops listed →
      (∀ j oj, ops[j]? = some oj → j ≠ i → listed.getD j true = false → (∀ e ∈ oj.after, Region.binds md e = true → e.on ≠ i) → oi.apart ops oj = true) →
      i ∈ Region.ready md ops listed → YS P ops oi v a →
      wpAnyG P md ops Q0 fin Q fuel (listed.setIfInBounds i true) (a.put oi.dst v) w → wpAnyG P md ops Q0 fin Q (fuel + 1) listed a w := by
  intro fuel
  induction fuel with
  | zero =>
    intro listed a w _ _ hr hy H
    refine ⟨fun h => (by rw [h] at hr; cases hr), fun j hj => ?_⟩
    by_cases hji : j = i
    · subst hji; exact hy.wpOp hi ⟨fun _ => grown_none_refl w, H⟩
    · have := ready_mono hj hji
      rw [H.1] at this
      cases this
  | succ fuel ih =>
    intro listed a w hdn hfree hr hy H
    refine ⟨fun h => (by rw [h] at hr; cases hr), fun j hj => ?_⟩
    by_cases hji : j = i
    · subst hji; exact hy.wpOp hi ⟨fun _ => grown_none_refl w, H⟩
    · have h1 := H.2 j (ready_mono hj hji)
      obtain ⟨hjun, oj, hoj, hall⟩ := mem_ready.1 hj
      have hnot : ∀ e ∈ oj.after, Region.binds md e = true → e.on ≠ i := fun e he hb heq => by
        have h1 := hall e he hb
        have h0 := (mem_ready.1 hr).1
        rw [heq] at h1
        rcases Nat.lt_or_ge i listed.size with h' | h'
        · simp [h'] at h0 h1; rw [h0] at h1; cases h1
        · simp [Array.getElem?_eq_none h'] at h1
      have h2 := wpOp_putS (Q0 := Q0) hoj (hfree j oj hoj hji hjun hnot) (fun cs b => hsel i oi cs b hi) (fun cs b => hsel j oj cs b hoj) hA hy h1
      have hfree' : ∀ k ok, ops[k]? = some ok → k ≠ i → (listed.setIfInBounds j true).getD k true = false →
          (∀ e ∈ ok.after, Region.binds md e = true → e.on ≠ i) → oi.apart ops ok = true := fun k ok hk hki hun hno => by
        refine hfree k ok hk hki ?_ hno
        by_cases hjk : j = k
        · subst hjk; exact hjun
        · rw [getD_set_ne true hjk] at hun; exact hun
      refine wpOp_mono (fun a' w' h3 => ?_) h2
      obtain ⟨hy', hg, h4⟩ := h3
      refine ⟨hg, ih (listed.setIfInBounds j true) a' w' (hdn.set hj) hfree' (ready_mono hr (Ne.symm hji)) hy' ?_⟩
      rw [Array.setIfInBounds_comm _ _ hji]
      exact h4
theorem wpAny_of_G {Q : Act → World → Prop} {Q' Q0 : Exit → Act → World → Prop} {fin : List Nat} (hQ : ∀ a w, Q a w → Q' .normal a w) (hQ0 : ∀ e a w, Q0 e a w → Q' e a w) : ∀ (fuel : Nat) (listed : Array Bool) (a : Act) (w : World), wpAnyG P md ops Q0 fin Q fuel listed a w → wpAny P md ops Q' fuel listed a w
  | 0, _, a, w, h => ⟨h.1, hQ _ _ h.2⟩
  | fuel + 1, listed, a, w, h => ⟨fun h0 => hQ _ _ (h.1 h0), fun i hi => by
    have h1 := h.2 i hi
    have toQ : ∀ {K K' : Act → World → Prop}, (∀ a w, K a w → K' a w) → wpOp P ops Q0 i K a w → wpOp P ops Q' i K' a w := by
      intro K K' hK hh
      unfold wpOp at *
      split
      · exact hK _ _ (by simpa [*] using hh)
      · rename_i o ho
        simp only [ho] at hh
        split
        · rename_i hw
          simp only [hw, if_true] at hh
          rcases hh with hh | ⟨_, a1, w1, hh⟩
          · refine .inl ?_
            unfold Oper.wp at *
            generalize (execOp a.eval o).run P w = r at *
            cases r with
            | ok nx w' =>
              cases nx <;> simp only [Oper.upon] at hh ⊢ <;> first
                | exact hK _ _ hh
                | exact Calls.mono hh (fun e w'' he => by cases e <;> first | exact hK _ _ he | exact hQ0 _ _ _ he | exact he.elim fun a0 he => he.elim fun w0 he => ⟨a0, w0, hQ0 _ _ _ he⟩)
                | exact Rows.mono hh (fun _ _ he => hK _ _ he)
            | halt x w' => cases x <;> simp only [Oper.upon] at hh ⊢ <;> first | exact hQ0 _ _ _ hh | exact False.elim hh
          · rename_i h0; exact .inr ⟨h0, a1, w1, hQ0 _ _ _ hh⟩
        · rename_i hw; simp only [hw] at hh; exact hK _ _ hh
    exact toQ (fun a' w' h2 => wpAny_of_G hQ hQ0 fuel _ a' w' h2.2) h1⟩
end

/-- operations that hang on no world -/
def still (P : Program) : Op → Bool
  | .move _ | .assign _ | .pick _ _ _ | .extract _ _ | .nilCheck _ | .fieldAddr _ _ _ | .makeFunc _ _ _ => true
  | .binOp b _ _ _ _ => match b with
    | .eql | .neq => false
    | _ => true
  | .unOp _ _ _ => true
  | .convert t1 t2 _ => match P.underlying t1, P.underlying t2 with
    | some (.int _), some (.int _) => true
    | _, _ => false
  | _ => false
/-- a plan of orders: 'q': a quiet operation is taken first; 'or': each that may come now -/
inductive Plan where
  | done
  | q (i : Nat) (p : Plan)
  | or (i : Nat) (p r : Plan)
  | nil
def planOk (P : Program) (md : Region.Mode) (ops : Array Oper) (fin : List Nat) : Plan → Nat → Array Bool → Option (List Nat) → Bool
  | .done, _, listed, none => (Region.ready md ops listed).isEmpty
  | .q i p, fuel + 1, listed, none => (Region.ready md ops listed).contains i && Region.free md ops listed i && (match ops[i]? with | some o => quiet4 P o.op | none => false) && !fin.contains i && (finAt md ops fin listed i || (match ops[i]? with | some o => still P o.op | none => false)) && planOk P md ops fin p fuel (listed.setIfInBounds i true) none
  | .or i p r, fuel + 1, listed, none => match Region.ready md ops listed with
    | j :: js => i == j && planOk P md ops fin p fuel (listed.setIfInBounds i true) none && planOk P md ops fin r (fuel + 1) listed (some js)
    | [] => false
  | .or i p r, fuel + 1, listed, some (j :: js) => i == j && planOk P md ops fin p fuel (listed.setIfInBounds i true) none && planOk P md ops fin r (fuel + 1) listed (some js)
  | .nil, _, _, some [] => true
  | _, _, _, _ => false
def EndsG (P : Program) (n : Nat) (base : Fr) (w0 w : World) (a : Act) (res : Result Next) (k : AV → VS → Prop) : Prop :=
  ∃ v w', (res = .ok (.value v) w' ∨ (res = .ok .skip w' ∧ v = undef)) ∧ w.grownBy w' none ∧ ∃ hd' s' av, RelH n base w0 hd' s' a w' ∧ Rep w' (okOf s'.mem hd') hd' s'.mem.length av v ∧ k av s'
section
variable {P : Program} {n : Nat} {base : Fr} {w0 w : World} {hd : Nat → Value} {s : VS} {a : Act} {k : AV → VS → Prop}
theorem alloc_sound_g (h : RelH n base w0 hd s a w) {t : TypeId} {o : Oper} (ho : o.op = .alloc t) (hv : valloc P t s k) : EndsG P n base w0 w a ((execOp a.eval o).run P w) k := by
  unfold valloc at hv
  split at hv
  · rename_i z sz by_ hinfo
    obtain ⟨h0, hz, h1, hk⟩ := hv
    obtain ⟨ti, hi1, hi2, hi3, hi4⟩ := tinfo_run hinfo
    have hnew := h.new (T := t) (sz := sz) (cnt := 1) (vals := z.cells.toList) (f := fun _ => z.cells.toList.map .lit) h0 (by simp [hz]) (by omega) (fun i hi => ⟨by simp [hz], fun j av hj => by
      have hi0 : i = 0 := by omega
      subst hi0
      simp only [List.getElem?_map, Option.map_eq_some_iff] at hj
      obtain ⟨u, q1, rfl⟩ := hj
      exact ⟨u, by simpa using q1, List.all_eq_true.1 h1 u (List.mem_of_getElem? q1), .lit u⟩⟩)
    refine ⟨.pointer (some ⟨w.heap.size, 0, none⟩), _, .inl ?_, World.grownBy_alloc w _ none, _, _, _, hnew, ?_, hk⟩
    · unfold execOp; simp only [ho]
      refine run_v ?_
      have hzv : (zeroValue t).run P w = .ok z w := by simp [zeroValue, typeInfo, Sem.run_bind, hi1, hi2]
      unfold Instr.alloc
      rw [Sem.run_bind, hzv]
      rw [show z.cells.toList.toArray = z.cells by simp]
      rfl
    · have := Rep.ptr (w := w.alloc (.cells z.cells.toList.toArray t)) (ok := okOf (s.mem ++ [some ⟨t, sz, 1, fun _ => z.cells.toList.map .lit⟩]) (fun j => if j = s.mem.length then .slice (some ⟨w.heap.size, 0, none⟩) 1 1 else hd j)) (hd := fun j => if j = s.mem.length then .slice (some ⟨w.heap.size, 0, none⟩) 1 1 else hd j) (m := (s.mem ++ [some (⟨t, sz, 1, fun _ => z.cells.toList.map .lit⟩ : Ob)]).length) s.mem.length sz 0 0 w.heap.size 1 1 (by simp) (by simp)
      simpa using this
  · exact hv.elim
theorem litS_sound_g (h : RelH n base w0 hd s a w) {t : TypeId} {len : Nat} {parts : Array (Nat × Operand)} {o : Oper} (ho : o.op = .buildSlice t len parts)
    (hv : vlitS P t len parts.toList s k) : EndsG P n base w0 w a ((execOp a.eval o).run P w) k := by
  unfold vlitS at hv
  split at hv
  · rename_i e ht
    split at hv
    · rename_i z sz by_ css hinfo hps
      obtain ⟨hz, hsz, hlen, hbig, hall, hk⟩ := hv
      obtain ⟨ti, hi1, hi2, hi3, hi4⟩ := tinfo_run hinfo
      obtain ⟨vs, g1, g2, g3, g4⟩ := partsCells_run h hsz parts.toList 0 css hps hall
      have hvl : vs.length = len := by rw [g2, hlen]
      have hmk : ∀ zero : Array Value, ((Array.range (len * sz)).map (zero[· % zero.size]!)).size = len * sz := by intro zero; simp
      obtain ⟨zero, hzero⟩ : ∃ zero : Array Value, zero = if len * sz = 0 then #[] else z.cells := ⟨_, rfl⟩
      obtain ⟨cells, f1, f2⟩ := fill_cells sz vs 0 ((Array.range (len * sz)).map (zero[· % zero.size]!)) g3 (by rw [hmk, hvl, Nat.zero_add]; exact Nat.le_refl _)
      have hcells : cells.toList = vs.flatMap (fun v => v.cells.toList) := by
        rw [f2, hvl, Nat.zero_add]
        have : (((Array.range (len * sz)).map (zero[· % zero.size]!)).toList.drop (len * sz)) = [] := by
          rw [List.drop_eq_nil_iff]; simp
        rw [this]; simp
      have hclen : cells.toList.length = len * sz := by
        rw [f2, hvl, Nat.zero_add]
        simp
        have := congrArg List.length f2
        rw [hvl, Nat.zero_add] at this
        simp at this
        clear this
        have key : ∀ (l : List Value), (∀ v ∈ l, v.cells.size = sz) → (l.map (fun v => v.cells.size)).sum = l.length * sz := by
          intro l
          induction l with
          | nil => intro _; simp
          | cons x l ih =>
            intro hh
            simp only [List.map_cons, List.sum_cons, List.length_cons]
            rw [ih (fun v hv => hh v (by simp [hv])), hh x (by simp), Nat.add_mul]; omega
        rw [← hvl]
        have := key vs g3
        simpa [Function.comp_def] using this
      have hnew := h.new (T := e) (sz := sz) (cnt := len) (vals := cells.toList) (f := fun i => css.getD i []) hsz hclen (by
        have : len ≤ len * sz := Nat.le_mul_of_pos_right _ hsz
        omega) (fun i hi => by
        have hic : i < css.length := by omega
        have hiv : i < vs.length := by omega
        simp only [List.getD_eq_getElem?_getD, List.getElem?_eq_getElem hic, Option.getD_some]
        have hc := hall _ (List.getElem_mem hic)
        refine ⟨hc.1, fun j av hj => ?_⟩
        have hjl : j < sz := by
          have := (List.getElem?_eq_some_iff.1 hj).1
          rw [hc.1] at this; exact this
        obtain ⟨u, r1, r2, r3⟩ := g4 i _ _ (List.getElem?_eq_getElem hic) (List.getElem?_eq_getElem hiv) j av hj
        exact ⟨u, by rw [hcells, flat_get vs g3 i j hjl _ (List.getElem?_eq_getElem hiv)]; exact r1, r2, r3⟩)
      refine ⟨.slice (some ⟨w.heap.size, 0, none⟩) len len, _, .inl ?_, World.grownBy_alloc w _ none, _, _, _, hnew, ?_, hk⟩
      · unfold execOp; simp only [ho]
        refine run_v ?_
        have hp : (parts.map fun x => (x.1, a.eval x.2)).toList = (vs.zipIdx 0).map (fun x => (x.2, x.1)) := by rw [Array.toList_map]; exact g1
        unfold Instr.buildSlice
        simp only [Sem.run_bind, und_run ht, Result.andThen_ok, tsz_run (show tsz P e = some sz by unfold tsz; rw [sizeOf_eq, hi1]; simp [hi3])]
        rw [if_neg (by omega)]
        rw [show cells.toList.toArray = cells by simp]
        by_cases h0 : len * sz = 0
        · rw [if_pos h0] at hzero ⊢
          subst hzero
          simp only [Sem.run_bind, Sem.run_pure, Result.andThen_ok]
          rw [hp, f1]
          rfl
        · rw [if_neg h0] at hzero ⊢
          subst hzero
          have hzv : (zeroValue e).run P w = .ok z w := by simp [zeroValue, typeInfo, Sem.run_bind, hi1, hi2]
          simp only [Sem.run_bind, hzv, Sem.run_pure, Result.andThen_ok]
          rw [hp, f1]
          rfl
      · have := Rep.own (w := w.alloc (.cells cells.toList.toArray e)) (ok := okOf (s.mem ++ [some ⟨e, sz, len, fun i => css.getD i []⟩]) (fun j => if j = s.mem.length then .slice (some ⟨w.heap.size, 0, none⟩) len len else hd j)) (hd := fun j => if j = s.mem.length then .slice (some ⟨w.heap.size, 0, none⟩) len len else hd j) (m := (s.mem ++ [some (⟨e, sz, len, fun i => css.getD i []⟩ : Ob)]).length) s.mem.length (by simp)
        simpa using this
    · exact hv.elim
  · exact hv.elim
end
/-- a step that leaves what was there alone -/
def vstepV (P : Program) (n : Nat) (o : Oper) (s : VS) (k : VS → Prop) : Prop :=
  match callD P s o.op with
  | some (f, xs) => ∃ args', ArgsOk s.mem (xs.map (ev s)) args' ∧ VFun P f args' (fun av obs => putO n o.dst (ren (· + s.mem.length) av) { s with mem := s.mem ++ obs.map some } k)
  | none => match o.op with
    | .alloc t => valloc P t s (fun av s' => putO n o.dst av s' k)
    | .buildSlice t len parts => vlitS P t len parts.toList s (fun av s' => putO n o.dst av s' k)
    | op => quiet4 P op = true ∧ vop4 P op s (fun av s' => putO n o.dst av s' k)
def voneV (P : Program) (n : Nat) (all : List Oper) (o : Oper) (s : VS) (k : VS → Prop) : Prop :=
  match o.guard with
  | none => vstepV P n o s k
  | some (g, b) => match slotOf all g with
    | some t => match lk s.tmps t with
      | .lit (.bool c) => (c = b → vstepV P n o { s with tmps := (t, .lit (.bool b)) :: s.tmps } k) ∧ (c = !b → putO n o.dst (.lit undef) { s with tmps := (t, .lit (.bool (!b))) :: s.tmps } k)
      | .lit (.tuple _) => putO n o.dst (.lit undef) s k
      | _ => False
    | none => False
def vplan (P : Program) (n : Nat) (all : List Oper) (fin : List Nat) : Plan → VS → (VS → Prop) → Prop
  | .done, s, k => k s
  | .nil, _, _ => True
  | .q i p, s, k => match all[i]? with
    | some o => vops P n all [o] s (fun s' => vplan P n all fin p s' k)
    | none => False
  | .or i p r, s, k => (match all[i]? with
    | some o => if i ∈ fin then vops P n all [o] s (fun s' => vplan P n all fin p s' k) else voneV P n all o s (fun s' => vplan P n all fin p s' k)
    | none => False) ∧ vplan P n all fin r s k
section
variable {P : Program} {n : Nat} {base : Fr} {w0 w : World} {hd : Nat → Value} {s : VS} {a : Act}
theorem quiet_no_call {op : Op} (h : quiet4 P op = true) : callD P s op = none := by
  cases op <;> try rfl
  rename_i c
  simp only [quiet4] at h
  unfold callD callOf dynOf
  split at h
  · rename_i h1 _ _
    simp [h1]
  · rename_i h1 _ _
    simp [h1]
  · cases h
theorem vstepV_sound (h : RelH n base w0 hd s a w) (hP : base.P = P) {o : Oper} {k : VS → Prop} (hv : vstepV P n o s k) {K : Act → World → Prop} {Q : Exit → Act → World → Prop} (hK : ∀ hd' s' a' w', w.grownBy w' none → RelH n base w0 hd' s' a' w' → k s' → K a' w') : o.wp P a w K Q := by
  unfold vstepV at hv
  split at hv
  · rename_i f xs hcall
    obtain ⟨args', hargs, hfn, hc⟩ := hv
    have hrun : (execOp a.eval o).run P w = .ok (.enter f (xs.map a.eval).toArray) w := (call_run h hcall).trans (run_call_of hfn _ w)
    obtain ⟨hl, hrep⟩ := argsOk_rep h xs args' hargs
    have hcalls := hc w _ hl hrep
    unfold Oper.wp
    rw [hrun]
    simp only [Oper.upon]
    refine hcalls.mono ?_
    rintro e w' ⟨v, rfl, hg, hdc, av, obs, hk, hfl, hlit, hm, hv⟩
    have hlow : ∀ k, k < obs.length → (fun k => if k < obs.length then hdc k else hd (k + s.mem.length)) k = hdc k := fun k hk => if_pos hk
    have hR := h.import hg (hm.retail hlit hlow) hlit ⟨obs.length, fun k hk => if_neg (by omega)⟩
    obtain ⟨s'', h4, h5⟩ := putO_sound hR (hv.ren_ hfl fun q _ hq => ⟨by simp; omega, by rw [if_neg (by omega), Nat.add_sub_cancel]; exact hlow q hq⟩) hk
    exact hK _ s'' _ _ hg h4 h5
  · have fin : ∀ {k' : AV → VS → Prop}, (k' = fun av s' => putO n o.dst av s' k) → EndsG P n base w0 w a ((execOp a.eval o).run P w) k' → o.wp P a w K Q := by
      rintro _ rfl ⟨v, w', hr, hg, hd', s', av, h1, h2, h3⟩
      obtain ⟨s'', h4, h5⟩ := putO_sound h1 h2 h3
      unfold Oper.wp
      rcases hr with hr | ⟨hr, rfl⟩
      · rw [hr]; exact hK _ s'' _ _ hg h4 h5
      · rw [hr]; exact hK _ s'' _ _ hg h4 h5
    split at hv
    · rename_i t hop; exact fin rfl (alloc_sound_g h hop hv)
    · rename_i t len parts hop; exact fin rfl (litS_sound_g h hop hv)
    · obtain ⟨v, av, h1, h2, h3⟩ := vop4q_sound h hP o hv.1 hv.2
      exact fin rfl ⟨v, w, .inl (h1 w (grown_none_refl w)), grown_none_refl w, hd, s, av, h, h2, h3⟩

/-- one operation of a drawn region, not the last -/
theorem voneV_sound {Q0 : Exit → Act → World → Prop} (h : RelH n base w0 hd s a w) (hP : base.P = P) {all : List Oper} {i : Nat} {o : Oper} (hi : all.toArray[i]? = some o) {k : VS → Prop} (hv : voneV P n all o s k) {K : Act → World → Prop} (hK : ∀ hd' s' a' w', w.grownBy w' none → RelH n base w0 hd' s' a' w' → k s' → K a' w') :
    wpOp P all.toArray Q0 i K a w := by
  unfold wpOp
  simp only [hi]
  unfold voneV at hv
  split at hv
  · rename_i hg
    rw [if_pos (by simp [Region.wanted, hg])]
    exact .inl (vstepV_sound h hP hv hK)
  · rename_i g b hg
    split at hv
    · rename_i t hs
      split at hv
      · rename_i c hl
        have hy := yield_of h hs hl
        by_cases hcb : c = b
        · have hR := h.again (t := t) (av := .lit (.bool b)) (by rw [hl, hcb])
          rw [if_pos (by simp [Region.wanted, hg, hy, hcb])]
          exact .inl (vstepV_sound hR hP (hv.1 hcb) hK)
        · have hcb' : c = !b := by cases c <;> cases b <;> simp_all
          have hR := h.again (t := t) (av := .lit (.bool (!b))) (by rw [hl, hcb'])
          rw [if_neg (by simp [Region.wanted, hg, hy, hcb])]
          obtain ⟨s', h1, h2⟩ := putO_sound hR (.lit undef) (hv.2 hcb')
          exact hK _ _ _ _ (grown_none_refl w) h1 h2
      · rename_i q hl
        have hy := yield_no h hs hl b
        rw [if_neg (by simp [Region.wanted, hg, hy])]
        obtain ⟨s', h1, h2⟩ := putO_sound h (.lit undef) hv
        exact hK _ _ _ _ (grown_none_refl w) h1 h2
      · exact hv.elim
    · exact hv.elim
theorem vone_sound {Q0 : Exit → Act → World → Prop} (h : RelH n base w0 hd s a w) (hP : base.P = P) {all : List Oper} {i : Nat} {o : Oper} (hi : all.toArray[i]? = some o) {k : VS → Prop} (hv : vops P n all [o] s k) {K : Act → World → Prop} (hK : ∀ hd' s' a' w', RelH n base w0 hd' s' a' w' → k s' → K a' w') :
    wpOp P all.toArray Q0 i K a w := by
  have := vops_sound (Q := fun e a w => match e with | .normal => K a w | e => Q0 e a w) hP (all := all) [o] h hv (fun hd' s' a' w' h1 h2 => hK hd' s' a' w' h1 h2)
  unfold wpList at this
  unfold wpOp
  simp only [hi]
  split at this
  · rename_i hw
    rw [if_pos hw]
    rcases this with this | ⟨h0, a1, w1, this⟩
    · refine .inl ?_
      unfold Oper.wp at *
      generalize (execOp a.eval o).run P w = r at *
      cases r with
      | ok nx w' =>
        cases nx <;> simp only [Oper.upon] at this ⊢ <;> first
          | exact this
          | exact Calls.mono this (fun e w'' he => by cases e <;> first | exact he | exact False.elim he | (obtain ⟨_, _, he⟩ := he; exact False.elim he))
          | exact Rows.mono this (fun _ _ he => he)
      | halt x w' => cases x <;> simp only [Oper.upon] at this ⊢ <;> exact this
    · exact .inr ⟨h0, a1, w1, this⟩
  · rename_i hw
    rw [if_neg hw]; exact this
/-- a quiet operation of a drawn region -/
theorem vq_sound (h : RelH n base w0 hd s a w) (hP : base.P = P) {all : List Oper} {o : Oper} (hq : quiet4 P o.op = true) {k : VS → Prop} (hv : vops P n all [o] s k) : ∃ v, YG P all.toArray o v a w ∧ ∃ s', RelH n base w0 hd s' (a.put o.dst v) w ∧ k s' := by
  have step : ∀ {s : VS}, RelH n base w0 hd s a w → vstep P n o s k → ∃ v, (∀ w', w.grownBy w' none → (execOp a.eval o).run P w' = .ok (.value v) w') ∧ ∃ s', RelH n base w0 hd s' (a.put o.dst v) w ∧ k s' := by
    intro s h hv
    unfold vstep at hv
    rw [quiet_no_call hq] at hv
    obtain ⟨v, av, h1, h2, h3⟩ := vop4q_sound h hP o hq hv
    obtain ⟨s', h4, h5⟩ := putO_sound h h2 h3
    exact ⟨v, h1, s', h4, h5⟩
  simp only [vops] at hv
  split at hv
  · rename_i hg
    obtain ⟨v, h1, h2⟩ := step h hv
    exact ⟨v, .inl ⟨by simp [Region.wanted, hg], h1⟩, h2⟩
  · rename_i g b hg
    split at hv
    · rename_i t hs
      split at hv
      · rename_i c hl
        have hy := yield_of h hs hl
        by_cases hcb : c = b
        · have hR := h.again (t := t) (av := .lit (.bool b)) (by rw [hl, hcb])
          obtain ⟨v, h1, h2⟩ := step hR (hv.1 hcb)
          exact ⟨v, .inl ⟨by simp [Region.wanted, hg, hy, hcb], h1⟩, h2⟩
        · have hcb' : c = !b := by cases c <;> cases b <;> simp_all
          have hR := h.again (t := t) (av := .lit (.bool (!b))) (by rw [hl, hcb'])
          obtain ⟨s', h1, h2⟩ := putO_sound hR (.lit undef) (hv.2 hcb')
          exact ⟨undef, .inr ⟨by simp [Region.wanted, hg, hy, hcb], rfl⟩, s', h1, h2⟩
      · rename_i q hl
        have hy := yield_no h hs hl b
        obtain ⟨s', h1, h2⟩ := putO_sound h (.lit undef) hv
        exact ⟨undef, .inr ⟨by simp [Region.wanted, hg, hy], rfl⟩, s', h1, h2⟩
      · exact hv.elim
    · exact hv.elim

theorem still_quiet {op : Op} (h : still P op = true) : callD P s op = none := by cases op <;> first | rfl | (simp [still] at h; done)
def SEnds (P : Program) (w : World) (hd : Nat → Value) (s : VS) (a : Act) (o : Oper) (k : AV → VS → Prop) : Prop :=
  ∃ v av, (∀ w', (execOp a.eval o).run P w' = .ok (.value v) w') ∧ Rep w (okOf s.mem hd) hd s.mem.length av v ∧ k av s
theorem SEnds.same {k : AV → VS → Prop} {o : Oper} {v : Value} {av : AV} (hv : Rep w (okOf s.mem hd) hd s.mem.length av v) (hk : k av s) (hr : ∀ w', (execOp a.eval o).run P w' = .ok (.value v) w') : SEnds P w hd s a o k := ⟨v, av, hr, hv, hk⟩
theorem fieldAddr_sound_s {k : AV → VS → Prop} (h : RelH n base w0 hd s a w) {T : TypeId} {x : Operand} {f : Nat} {o : Oper} (ho : o.op = .fieldAddr T x f) (hv : vop P (.fieldAddr T x f) s k) : SEnds P w hd s a o k := by
  simp only [vop] at hv
  split at hv
  · rename_i ft off hf
    obtain ⟨⟨m, hm, hm0⟩, hv⟩ := hv
    have hx := h.ev_ x
    split at hv
    · rename_i j sz i c e
      rw [e] at hx
      cases hx' : a.eval x with
      | pointer ad =>
        rw [hx'] at hx
        cases hx with
        | ptr _ _ _ _ b n' c' hk hb =>
          refine SEnds.same (.ptr j sz i (c + off) b n' c' hk hb) hv ?_
          intro w'; unfold execOp; simp only [ho, hx']
          refine run_v ((fieldAt_run hf hm hm0 _ _).trans ?_)
          congr 3
          unfold Addr.add; split
          · rename_i h0; subst h0; simp
          · simp [Nat.add_assoc]
      | _ => rw [hx'] at hx; cases hx
    · rename_i cs e
      rw [e] at hx
      cases hx' : a.eval x with
      | pointer ad =>
        rw [hx'] at hx
        cases hx with
        | bptr _ ad u hne hok hc hr =>
          have add2 : ∀ j, (ad.add off).add j = ad.add (off + j) := by
            intro j
            unfold Addr.add
            by_cases h1 : off = 0 <;> by_cases h2 : j = 0 <;> simp [h1, h2]; omega
          have hblk : (ad.add off).block = ad.block := by unfold Addr.add; split <;> rfl
          refine SEnds.same (.bptr (cs.drop off) (ad.add off) (fun j => u (off + j)) (by intro e2; rw [List.drop_eq_nil_iff] at e2; omega) (by rw [hblk]; exact hok) (fun j hj => by rw [add2]; exact hc _ (by simp at hj; omega)) (fun j av hj => hr _ av (by rw [List.getElem?_drop] at hj; exact hj))) hv.2 ?_
          intro w'; unfold execOp; simp only [ho, hx']
          exact run_v (fieldAt_run hf hm hm0 _ _)
      | _ => rw [hx'] at hx; cases hx
    · exact hv.elim
  · exact hv.elim
/-- an operation that hangs on no world -/
theorem still_sound {k : AV → VS → Prop} (h : RelH n base w0 hd s a w) (o : Oper) (hq : still P o.op = true) (hv : vop4 P o.op s k) : ∃ v av, (∀ w', (execOp a.eval o).run P w' = .ok (.value v) w') ∧ Rep w (okOf s.mem hd) hd s.mem.length av v ∧ k av s := by
  obtain ⟨d, op, ty, pos, af, g⟩ := o
  cases op with
  | move x => exact ⟨a.eval x, ev s x, fun _ => rfl, h.ev_ x, hv⟩
  | assign x => exact ⟨a.eval x, ev s x, fun _ => rfl, h.ev_ x, hv⟩
  | pick c x y =>
    change vop P (.pick c x y) s k at hv
    simp only [vop] at hv
    split at hv
    · rename_i t e
      have hc := (h.ev_ c).val_ (toVal_lit e)
      cases t with
      | true => exact ⟨a.eval x, ev s x, fun _ => by simp [execOp, hc, asBool, Sem.run_bind], h.ev_ x, hv.1 rfl⟩
      | false => exact ⟨a.eval y, ev s y, fun _ => by simp [execOp, hc, asBool, Sem.run_bind], h.ev_ y, hv.2 rfl⟩
    · exact hv.elim
  | extract x i =>
    change vop P (.extract x i) s k at hv
    simp only [vop] at hv
    split at hv
    · rename_i vs e
      obtain ⟨hlt, hk⟩ := hv
      have hx := h.ev_ x
      rw [e] at hx
      cases hx' : a.eval x with
      | tuple arr =>
        rw [hx'] at hx
        cases hx with
        | tup _ us hl hr =>
          refine ⟨us[i]'(by omega), vs.getD i .undef, fun w' => ?_, ?_, hk⟩
          · unfold execOp; simp only [hx']
            refine run_v ?_
            unfold Instr.extract
            simp [show i < us.length by omega]
          · rw [List.getD_eq_getElem?_getD, List.getElem?_eq_getElem hlt]
            exact hr i _ _ (List.getElem?_eq_getElem hlt) (List.getElem?_eq_getElem (by omega))
      | _ => rw [hx'] at hx; cases hx
    · exact hv.elim
  | binOp b T x y T2 =>
    simp only [vop4] at hv
    split at hv
    · rename_i k0 sz i j ex
      exfalso
      cases b <;> first | (simp [still] at hq; done) | (unfold vpeq at hv; split at hv <;> first | exact hv.2.elim | exact hv.2.2.2.elim | exact hv.elim)
    · change vop P (.binOp b T x y T2) s k at hv
      simp only [vop] at hv
      split at hv
      · rename_i vx vy hx hy
        obtain ⟨v, hrun, hk⟩ := hv
        refine ⟨v, .lit v, fun w' => ?_, .lit v, hk⟩
        unfold execOp
        simp only [(h.ev_ x).val_ hx, (h.ev_ y).val_ hy]
        exact run_v (hrun w')
      · exact hv.elim
  | makeFunc fn first caps => exact mkfun_sound (o := ⟨d, .makeFunc fn first caps, ty, pos, af, g⟩) h rfl hv
  | fieldAddr T x f => exact fieldAddr_sound_s (o := ⟨d, .fieldAddr T x f, ty, pos, af, g⟩) h rfl hv
  | nilCheck x =>
    change vop P (.nilCheck x) s k at hv
    simp only [vop] at hv
    have hx := h.ev_ x
    split at hv
    · rename_i e
      have hx0 := hx
      rw [e] at hx
      cases hx' : a.eval x with
      | pointer ad =>
        rw [hx'] at hx
        cases hx with
        | ptr => exact SEnds.same hx0 (by rw [e] at hv ⊢; exact hv) (fun w' => by unfold execOp; simp only [hx']; rfl)
      | _ => rw [hx'] at hx; cases hx
    · rename_i e
      have hx0 := hx
      rw [e] at hx
      cases hx' : a.eval x with
      | pointer ad =>
        rw [hx'] at hx
        cases hx with
        | bptr => exact SEnds.same hx0 (by rw [e] at hv ⊢; exact hv) (fun w' => by unfold execOp; simp only [hx']; rfl)
      | _ => rw [hx'] at hx; cases hx
    · exact hv.elim
  | unOp b T x =>
    change vop P (.unOp b T x) s k at hv
    simp only [vop] at hv
    split at hv
    · rename_i vx hx
      obtain ⟨v, hrun, hk⟩ := hv
      refine ⟨v, .lit v, fun w' => ?_, .lit v, hk⟩
      unfold execOp
      simp only [(h.ev_ x).val_ hx]
      exact run_v (hrun w')
    · exact hv.elim
  | convert t1 t2 x =>
    simp only [still] at hq
    split at hq
    · rename_i k1 k2 h1 h2
      simp only [vop4] at hv
      split at hv
      · simp only [vpconv, h1, h2] at hv
        split at hv
        · exact hv.2.2.2.2.elim
        · exact hv.elim
      · have e : vop3 P (.convert t1 t2 x) s k = vop P (.convert t1 t2 x) s k := by
          simp only [vop3, h1, h2]
          rfl
        rw [e] at hv
        simp only [vop] at hv
        split at hv
        · rename_i vx hx
          obtain ⟨v, hrun, hk⟩ := hv
          refine ⟨v, .lit v, fun w' => ?_, .lit v, hk⟩
          unfold execOp
          simp only [(h.ev_ x).val_ hx]
          exact run_v (hrun w')
        · exact hv.elim
    · cases hq
  | _ => simp [still] at hq
theorem vs_sound (h : RelH n base w0 hd s a w) {all : List Oper} {o : Oper} (hq : still P o.op = true) {k : VS → Prop} (hv : vops P n all [o] s k) : ∃ v, YS P all.toArray o v a ∧ ∃ s', RelH n base w0 hd s' (a.put o.dst v) w ∧ k s' := by
  have step : ∀ {s : VS}, RelH n base w0 hd s a w → vstep P n o s k → ∃ v, (∀ w', (execOp a.eval o).run P w' = .ok (.value v) w') ∧ ∃ s', RelH n base w0 hd s' (a.put o.dst v) w ∧ k s' := by
    intro s h hv
    unfold vstep at hv
    rw [still_quiet hq] at hv
    obtain ⟨v, av, h1, h2, h3⟩ := still_sound h o hq hv
    obtain ⟨s', h4, h5⟩ := putO_sound h h2 h3
    exact ⟨v, h1, s', h4, h5⟩
  simp only [vops] at hv
  split at hv
  · rename_i hg
    obtain ⟨v, h1, h2⟩ := step h hv
    exact ⟨v, .inl ⟨by simp [Region.wanted, hg], h1⟩, h2⟩
  · rename_i g b hg
    split at hv
    · rename_i t hs
      split at hv
      · rename_i c hl
        have hy := yield_of h hs hl
        by_cases hcb : c = b
        · have hR := h.again (t := t) (av := .lit (.bool b)) (by rw [hl, hcb])
          obtain ⟨v, h1, h2⟩ := step hR (hv.1 hcb)
          exact ⟨v, .inl ⟨by simp [Region.wanted, hg, hy, hcb], h1⟩, h2⟩
        · have hcb' : c = !b := by cases c <;> cases b <;> simp_all
          have hR := h.again (t := t) (av := .lit (.bool (!b))) (by rw [hl, hcb'])
          obtain ⟨s', h1, h2⟩ := putO_sound hR (.lit undef) (hv.2 hcb')
          exact ⟨undef, .inr ⟨by simp [Region.wanted, hg, hy, hcb], rfl⟩, s', h1, h2⟩
      · rename_i q hl
        have hy := yield_no h hs hl b
        obtain ⟨s', h1, h2⟩ := putO_sound h (.lit undef) hv
        exact ⟨undef, .inr ⟨by simp [Region.wanted, hg, hy], rfl⟩, s', h1, h2⟩
      · exact hv.elim
    · exact hv.elim
theorem vplan_sound {Q0 : Exit → Act → World → Prop} (hA : QFree Q0) (hP : base.P = P) {all : List Oper} {fin : List Nat} {md : Region.Mode} (hsel : Region.noSelect all.toArray = true) {k : VS → Prop} {Q : Act → World → Prop} (hQ : ∀ hd' s' a' w', RelH n base w0 hd' s' a' w' → k s' → Q a' w') :
    ∀ (p : Plan) (fuel : Nat) (listed : Array Bool) (m : Option (List Nat)) {hd : Nat → Value} {s : VS} {a : Act} {w : World}, RelH n base w0 hd s a w → Down md all.toArray listed → planOk P md all.toArray fin p fuel listed m = true → vplan P n all fin p s k →
      match m with
      | none => wpAnyG P md all.toArray Q0 fin Q fuel listed a w
      | some js => (∀ j, j ∈ js → j ∈ Region.ready md all.toArray listed) → ∀ fuel', fuel = fuel' + 1 → ∀ j, j ∈ js → wpOp P all.toArray Q0 j (fun a' w' => (j ∉ fin → w.grownBy w' none) ∧ wpAnyG P md all.toArray Q0 fin Q fuel' (listed.setIfInBounds j true) a' w') a w := by
  intro p
  induction p with
  | done =>
    intro fuel listed m hd s a w h hdn hok hv
    cases m with
    | some js => cases js <;> simp [planOk] at hok
    | none =>
      have hr : Region.ready md all.toArray listed = [] := by simpa [planOk] using hok
      cases fuel with
      | zero => exact ⟨hr, hQ _ _ _ _ h hv⟩
      | succ fuel => exact ⟨fun _ => hQ _ _ _ _ h hv, fun i hi => by rw [hr] at hi; cases hi⟩
  | nil =>
    intro fuel listed m hd s a w h hdn hok hv
    cases m with
    | none => simp [planOk] at hok
    | some js => cases js with
      | nil => exact fun _ _ _ j hj => by cases hj
      | cons j js => simp [planOk] at hok
  | q i p ih =>
    intro fuel listed m hd s a w h hdn hok hv
    cases m with
    | some js => cases js <;> cases fuel <;> simp [planOk] at hok
    | none =>
      cases fuel with
      | zero => simp [planOk] at hok
      | succ fuel =>
        simp only [planOk, Bool.and_eq_true, Bool.not_eq_true', List.contains_eq_mem, decide_eq_false_iff_not] at hok
        obtain ⟨⟨⟨⟨⟨hr, hf⟩, hq⟩, hif⟩, hL⟩, hok⟩ := hok
        have hr' : i ∈ Region.ready md all.toArray listed := by simpa using hr
        obtain ⟨_, o, ho, _⟩ := mem_ready.1 hr'
        rw [ho] at hq
        have ho' : all[i]? = some o := by simpa using ho
        simp only [vplan, ho'] at hv
        obtain ⟨v, hy, s', h1, h2⟩ := vq_sound h hP hq hv
        rcases Bool.or_eq_true _ _ ▸ hL with hL | hL
        · exact wpAnyG_first hA ho (Region.noSelect_spec hsel) hif fuel listed a w hdn hL (Region.free_spec ho hf) hr' hy (ih fuel _ none h1 (hdn.set hr') hok h2)
        · rw [ho] at hL
          obtain ⟨v, hy, s', h1, h2⟩ := vs_sound h hL hv
          exact wpAnyG_firstS hA ho (Region.noSelect_spec hsel) hif fuel listed a w hdn (Region.free_spec ho hf) hr' hy (ih fuel _ none h1 (hdn.set hr') hok h2)
  | or i p r ihp ihr =>
    intro fuel listed m hd s a w h hdn hok hv
    have one : ∀ fuel' (hr : i ∈ Region.ready md all.toArray listed) (hok : planOk P md all.toArray fin p fuel' (listed.setIfInBounds i true) none = true), wpOp P all.toArray Q0 i (fun a' w' => (i ∉ fin → w.grownBy w' none) ∧ wpAnyG P md all.toArray Q0 fin Q fuel' (listed.setIfInBounds i true) a' w') a w := by
      intro fuel' hr hok
      obtain ⟨_, o, ho, _⟩ := mem_ready.1 hr
      have ho' : all[i]? = some o := by simpa using ho
      have hv1 := hv.1
      simp only [ho'] at hv1
      split at hv1
      · rename_i e
        exact vone_sound h hP ho hv1 fun hd' s' a' w' h1 h2 => ⟨fun hn => absurd e hn, ihp fuel' _ none h1 (hdn.set hr) hok h2⟩
      · exact voneV_sound h hP ho hv1 fun hd' s' a' w' hg h1 h2 => ⟨fun _ => hg, ihp fuel' _ none h1 (hdn.set hr) hok h2⟩
    cases fuel with
    | zero => cases m with
      | none => simp [planOk] at hok
      | some js => cases js <;> simp [planOk] at hok
    | succ fuel =>
      cases m with
      | none =>
        simp only [planOk] at hok
        split at hok
        · rename_i j js hrd
          simp only [Bool.and_eq_true, beq_iff_eq] at hok
          obtain ⟨⟨rfl, hok1⟩, hok2⟩ := hok
          refine ⟨fun e => (by rw [hrd] at e; cases e), fun j hj => ?_⟩
          have hrest := ihr (fuel + 1) listed (some js) h hdn hok2 hv.2 (fun j hj => by rw [hrd]; simp [hj]) fuel rfl
          rw [hrd] at hj
          rcases List.mem_cons.1 hj with rfl | hj
          · exact one fuel (by rw [hrd]; simp) hok1
          · exact hrest j hj
        · cases hok
      | some js =>
        cases js with
        | nil => simp [planOk] at hok
        | cons j js =>
          simp only [planOk, Bool.and_eq_true, beq_iff_eq] at hok
          obtain ⟨⟨rfl, hok1⟩, hok2⟩ := hok
          intro hall fuel' hfu j hj
          cases hfu
          rcases List.mem_cons.1 hj with rfl | hj
          · exact one fuel (hall _ (by simp)) hok1
          · exact ihr (fuel + 1) listed (some js) h hdn hok2 hv.2 (fun j hj => hall j (by simp [hj])) fuel rfl j hj

/-- the facts on a drawn region's operations and its plan that the kernel checks -/
def regionOk (P : Program) (ops : Array Oper) (fin : List Nat) (p : Plan) : Bool := P.follows .mixedOrders && Region.noSelect ops && planOk P .any ops fin p ops.size (Array.replicate ops.size false) none
theorem vregion_sound (h : RelH n base w0 hd s a w) (hP : base.P = P) {id : Nat} {all : List Oper} {fin : List Nat} {p : Plan} (hok : regionOk P all.toArray fin p = true) {k : VS → Prop} (hv : vplan P n all fin p s k) {Q : Exit → Act → World → Prop} (hQ : ∀ hd' s' a' w', RelH n base w0 hd' s' a' w' → k s' → Q .normal a' w') :
    (Code.region id all.toArray true).wp P Q a w := by
  simp only [regionOk, Bool.and_eq_true] at hok
  obtain ⟨⟨h1, h3⟩, h4⟩ := hok
  refine wp_region_any h1 (wpAny_of_G (Q := fun a w => Q .normal a w) (Q0 := QNo) (fun _ _ h => h) (fun _ _ _ h => h.elim) _ _ _ _ (vplan_sound (w0 := w0) QNo.free hP h3 hQ p _ _ none (h.grown ⟨rfl, rfl, rfl, Nat.le_refl _, fun _ _ _ => rfl⟩) (fun j oj hj hl => ?_) h4 hv))
  exfalso
  rcases Nat.lt_or_ge j all.toArray.size with h' | h'
  · simp at hl h'; simp [h'] at hl
  · simp at hl h'; simp [Array.getElem?_eq_none, h'] at hl
end
end Go.Proofs.Ytcnmgfbafcnkhaa.V
/- The value machine, part C: code, loops. -/
namespace Go.Proofs.Ytcnmgfbafcnkhaa.V
open Go.RowKit
set_option linter.unusedVariables false
set_option linter.unusedSimpArgs false
section
variable {P : Program} {n : Nat} {base : Fr} {w0 w : World} {hd : Nat → Value} {s : VS} {a : Act} {k : AV → VS → Prop}
def vc (P : Program) (n : Nat) : Code → VS → (VX → VS → Prop) → Prop
  | .skip, s, K => K .normal s
  | .region _ ops false, s, K => vops P n ops.toList ops.toList s (K .normal)
  | .region _ ops true, s, K => ∃ fin p, regionOk P ops fin p = true ∧ (vplan P n ops.toList fin p s (K .normal) ∨ ∃ S1, vplan P n ops.toList fin p s (fun s' => Ent s' S1) ∧ K .normal S1)
  | .seq x y, s, K => vc P n x s (fun e s' => match e with
    | .normal => vc P n y s' K
    | e => K e s')
  | .cond c x y, s, K => match ev s c with
    | .lit (.bool t) => (t = true → vc P n x s K) ∧ (t = false → vc P n y s K)
    | _ => False
  | .block id x, s, K => vc P n x s (fun e s' => match e with
    | .exit i => if i = id then K .normal s' else K (.exit i) s'
    | e => K e s')
  | .loop x, s, K => ∃ (ι : Type) (I : ι → Prop) (μ : ι → Nat) (S : ι → VS) (F : ι → LeK), (∃ i, I i ∧ Ent s (S i)) ∧ ∀ i, I i → vc P n x (S i) (fun e s' => match e with
    | .normal => ∃ j, I j ∧ μ j < μ i ∧ LeX (F i) s' (S j)
    | e => K e s')
  | .exit id, s, K => K (.exit id) s
  | .ret, s, K => K .ret s
  | .scope x, s, K => vc P n x s K
  | .label _, s, K => K .normal s
  | _, _, _ => False

theorem wp_loop_of {ι : Type} {c : Code} {Q : Exit → Act → World → Prop} (I : ι → Act → World → Prop) (μ : ι → Nat) (round : ∀ i a w, I i a w → c.wp P (Exit.then (fun a' w' => ∃ j, I j a' w' ∧ μ j < μ i) Q) a w) :
    ∀ {i : ι} {a : Act} {w : World}, I i a w → (Code.loop c).wp P Q a w := by
  intro i a w h₀ b k cs
  have key : ∀ m i a w, μ i = m → I i a w → ∃ e a' w', Q e a' w' ∧ Arrives P (lone (b.at a (.code c :: .inLoop c :: k)) cs w) b k cs e a' w' := by
    intro m
    induction m using Nat.strongRecOn with
    | _ m ih =>
      intro i a w hm hI
      obtain ⟨e, a₁, w₁, hq, harr⟩ := round i a w hI b (.inLoop c :: k) cs
      cases e with
      | normal =>
        obtain ⟨j, hI₁, hlt⟩ := hq
        obtain ⟨e₂, a₂, w₂, hq₂, harr₂⟩ := ih (μ j) (hm ▸ hlt) j a₁ w₁ rfl hI₁
        exact ⟨e₂, a₂, w₂, hq₂, .of_steps (Steps.trans harr (.one step_inLoop)) harr₂⟩
      | exit id => exact ⟨_, a₁, w₁, hq, .pass (x := .inLoop c) rfl (fun _ _ => .inl (by simp)) harr⟩
      | goto l => exact ⟨_, a₁, w₁, hq, .pass (x := .inLoop c) rfl (fun _ _ => .inl (by simp)) harr⟩
      | ret => exact ⟨_, a₁, w₁, hq, .pass (x := .inLoop c) rfl (fun _ _ => .inl (by simp)) harr⟩
      | panic ch => exact ⟨_, a₁, w₁, hq, .pass (x := .inLoop c) rfl (fun _ _ => .inl (by simp)) harr⟩
      | outgrown => exact ⟨_, a₁, w₁, hq, .pass (x := .inLoop c) rfl (fun _ _ => .inl (by simp)) harr⟩
  obtain ⟨e, a', w', hq, harr⟩ := key _ i a w rfl h₀
  exact ⟨e, a', w', hq, .of_steps (.one step_loop) harr⟩

theorem vc_sound (hP : base.P = P) : ∀ (c : Code) {hd : Nat → Value} {s : VS} {a : Act} {w : World} {K : VX → VS → Prop} {Q : Exit → Act → World → Prop}, RelH n base w0 hd s a w → vc P n c s K →
    (∀ x hd' s' a' w', RelH n base w0 hd' s' a' w' → K x s' → Q x.out a' w') → c.wp P Q a w := by
  intro c
  induction c with
  | skip => intro hd s a w K Q h hv hQ; exact wp_skip (hQ .normal _ _ _ _ h hv)
  | region id ops draw =>
    intro hd s a w K Q h hv hQ
    cases draw with
    | true =>
      obtain ⟨fin, p, h1, h2 | ⟨S1, h2, h3⟩⟩ := hv
      · exact vregion_sound h hP (all := ops.toList) h1 h2 fun hd' s' a' w' h' hk => hQ .normal _ _ _ _ h' hk
      · refine vregion_sound h hP (all := ops.toList) h1 h2 fun hd' s' a' w' h' hk => ?_
        obtain ⟨hd2, h4⟩ := hk _ _ _ _ _ _ h'
        exact hQ .normal _ _ _ _ h4 h3
    | false => exact wp_region_list (vops_sound hP ops.toList h hv fun hd' s' a' w' h' hk => hQ .normal _ _ _ _ h' hk)
  | seq x y ihx ihy =>
    intro hd s a w K Q h hv hQ
    refine wp_seq (ihx h hv fun e hd' s' a' w' h' hk => ?_)
    cases e with
    | normal => exact ihy h' hk hQ
    | exit id => exact hQ _ _ _ _ _ h' hk
    | ret => exact hQ _ _ _ _ _ h' hk
  | cond c x y ihx ihy =>
    intro hd s a w K Q h hv hQ
    simp only [vc] at hv
    split at hv
    · rename_i t e
      have hc := (h.ev_ c).val_ (toVal_lit e)
      cases t with
      | true => exact wp_cond_true hc (ihx h (hv.1 rfl) hQ)
      | false => exact wp_cond_false hc (ihy h (hv.2 rfl) hQ)
    · exact hv.elim
  | block id x ih =>
    intro hd s a w K Q h hv hQ
    refine wp_block (ih h hv fun e hd' s' a' w' h' hk => ?_)
    cases e with
    | normal => exact hQ .normal _ _ _ _ h' hk
    | exit i =>
      simp only at hk
      simp only [VX.out, Exit.inBlock]
      split at hk
      · rename_i e; rw [if_pos e]; exact hQ .normal _ _ _ _ h' hk
      · rename_i e; rw [if_neg e]; exact hQ (.exit i) _ _ _ _ h' hk
    | ret => exact hQ .ret _ _ _ _ h' hk
  | loop x ih =>
    intro hd s a w K Q h hv hQ
    obtain ⟨ι, I, μ, S, F, ⟨i0, hI0, hle0⟩, hround⟩ := hv
    refine wp_loop_of (ι := ι) (fun i a w => I i ∧ ∃ hd, RelH n base w0 hd (S i) a w) μ (fun i a w hI => ?_) (i := i0) ⟨hI0, hle0 _ _ _ _ _ _ h⟩
    obtain ⟨hIi, hd1, h1⟩ := hI
    refine ih h1 (hround i hIi) fun e hd' s' a' w' h' hk => ?_
    cases e with
    | normal =>
      obtain ⟨j, hj, hlt, hle⟩ := hk
      exact ⟨j, ⟨hj, h'.leX hle⟩, hlt⟩
    | exit id => exact hQ (.exit id) _ _ _ _ h' hk
    | ret => exact hQ .ret _ _ _ _ h' hk
  | exit id => intro hd s a w K Q h hv hQ; exact wp_exit (hQ (.exit id) _ _ _ _ h hv)
  | ret => intro hd s a w K Q h hv hQ; exact wp_ret (hQ .ret _ _ _ _ h hv)
  | scope x ih =>
    intro hd s a w K Q h hv hQ
    refine wp_scope_straight (ih h hv fun x hd' s' a' w' h' hk => ?_)
    cases x with
    | normal => exact hQ .normal _ _ _ _ h' hk
    | exit i => exact hQ (.exit i) _ _ _ _ h' hk
    | ret => exact hQ .ret _ _ _ _ h' hk
  | label l => intro hd s a w K Q h hv hQ; exact wp_label (hQ .normal _ _ _ _ h hv)
  | _ => intro hd s a w K Q h hv hQ; exact hv.elim
end
end Go.Proofs.Ytcnmgfbafcnkhaa.V
/- The value machine, part 10: whole functions. -/
namespace Go.Proofs.Ytcnmgfbafcnkhaa.V
open Go.RowKit
set_option linter.unusedVariables false
set_option linter.unusedSimpArgs false

def vresL (P : Program) (s : VS) : List ResultVar → (List AV → Prop) → Prop
  | [], k => k []
  | .tmp t :: r, k => vresL P s r (fun l => k (lk s.tmps t :: l))
  | .cell t T :: r, k => vop P (.load T (.tmp t)) s (fun av _ => vresL P s r (fun l => k (av :: l)))
def joined : List AV → AV
  | [x] => x
  | l => .tup l
def exports (mem : List (Option Ob)) : List Nat → Option (List Ob)
  | [] => some []
  | k :: r => match mem[k]? with
    | some (some ob) => (exports mem r).map (ob :: ·)
    | _ => none
def ObSame (ob ob' : Ob) : Prop := ob.ty = ob'.ty ∧ ob.sz = ob'.sz ∧ ob.n = ob'.n ∧ ∀ i, i < ob'.n → ob.f i = ob'.f i ∧ (ob'.f i).all isLit = true
def ObsSame : List Ob → List Ob → Prop
  | [], [] => True
  | a :: r, b :: r' => ObSame a b ∧ ObsSame r r'
  | _, _ => False
/-- the end of a function: what it hands back -/
def vret (P : Program) (rs : List ResultVar) (R : AV → List Ob → Prop) (s : VS) : Prop :=
  vresL P s rs fun l => flatV (joined l) = true ∧ (ownsV (joined l)).Nodup ∧ ∃ obs obs', exports s.mem (ownsV (joined l)) = some obs ∧ ObsSame obs obs' ∧ R (ren (fun k => (ownsV (joined l)).idxOf k) (joined l)) obs'

def resM (tmps : Array Value) : ResultVar → Sem Value
  | .tmp t => pure (tmps.getD t undef)
  | .cell b t => do loadVar t (← asAddr (tmps.getD b undef))
theorem results_eq (fn : Func) (tmps : Array Value) : results fn tmps = (do let vs ← fn.results.mapM (resM tmps); pure (if h : vs.size = 1 then vs[0] else .tuple vs)) := rfl

section
variable {P : Program} {n : Nat} {base : Fr} {w0 w : World} {hd : Nat → Value} {s : VS} {a : Act}

theorem vresL_sound (h : RelH n base w0 hd s a w) : ∀ (rs : List ResultVar) {k : List AV → Prop}, vresL P s rs k → ∃ vs l, (rs.mapM (resM a.tmps)).run P w = .ok vs w ∧ vs.length = l.length ∧ (∀ (j : Nat) av v, l[j]? = some av → vs[j]? = some v → Rep w (okOf s.mem hd) hd s.mem.length av v) ∧ k l
  | [], k, hv => ⟨[], [], rfl, rfl, fun j av v hj => by simp at hj, hv⟩
  | .tmp t :: r, k, hv => by
    obtain ⟨vs, l, h1, h2, h3, h4⟩ := vresL_sound h r hv
    refine ⟨a.tmps.getD t undef :: vs, _, ?_, by simp [h2], fun j av v hj hv' => ?_, h4⟩
    · simp only [List.mapM_cons, Sem.run_bind, resM, Sem.run_pure, Result.andThen_ok, h1]
    · cases j with
      | zero =>
        simp only [List.getElem?_cons_zero, Option.some.injEq] at hj hv'
        subst hj; subst hv'
        exact h.tm t
      | succ j => exact h3 j av v (by simpa using hj) (by simpa using hv')
  | .cell t T :: r, k, hv => by
    simp only [vresL] at hv
    obtain ⟨v, av, g1, g2, g3⟩ := load_sound h hv
    obtain ⟨vs, l, h1, h2, h3, h4⟩ := vresL_sound h r g3
    refine ⟨v :: vs, av :: l, ?_, by simp [h2], fun j av' v' hj hv' => ?_, h4⟩
    · have key : ∃ ad, a.tmps.getD t undef = .pointer (some ad) := by
        change (Instr.loadAt T (a.tmps.getD t undef)).run P w = .ok v w at g1
        generalize a.tmps.getD t undef = x at g1
        unfold Instr.loadAt Instr.sureAddr at g1
        split at g1
        · exact ⟨_, rfl⟩
        · simp [Sem.run_bind, stuck, Sem.run, Result.andThen] at g1
      obtain ⟨ad, had⟩ := key
      change (Instr.loadAt T (a.tmps.getD t undef)).run P w = .ok v w at g1
      rw [had] at g1
      simp only [Instr.loadAt, Instr.sureAddr, Sem.run_bind, Sem.run_pure, Result.andThen_ok] at g1
      have e : (resM a.tmps (.cell t T)).run P w = .ok v w := by
        simp only [resM, had, asAddr, Sem.run_bind, Sem.run_pure, Result.andThen_ok, g1]
      simp only [List.mapM_cons, Sem.run_bind, e, Result.andThen_ok, h1, Sem.run_pure]
    · cases j with
      | zero =>
        simp only [List.getElem?_cons_zero, Option.some.injEq] at hj hv'
        subst hj; subst hv'
        exact g2
      | succ j => exact h3 j av' v' (by simpa using hj) (by simpa using hv')

theorem results_sound (h : RelH n base w0 hd s a w) {fn : Func} {k : List AV → Prop} (hv : vresL P s fn.results.toList k) : ∃ v l, (results fn a.tmps).run P w = .ok v w ∧ Rep w (okOf s.mem hd) hd s.mem.length (joined l) v ∧ k l := by
  obtain ⟨vs, l, h1, h2, h3, h4⟩ := vresL_sound h fn.results.toList hv
  refine ⟨if h : vs.length = 1 then vs[0] else .tuple vs.toArray, l, ?_, ?_, h4⟩
  · rw [results_eq, Array.mapM_eq_mapM_toList]
    simp only [Sem.run_bind, Sem.run_map, h1, Result.andThen_ok, Sem.run_pure]
    by_cases e : vs.length = 1
    · simp [e]
    · simp [e]
  · by_cases e : vs.length = 1
    · rw [dif_pos e]
      have hl : l.length = 1 := by omega
      match l, hl with
      | [x], _ => exact h3 0 x _ rfl (by simp)
    · rw [dif_neg e]
      have hj : joined l = .tup l := by
        unfold joined
        split
        · rename_i x; simp at h2; omega
        · rfl
      rw [hj]
      exact .tup l vs h2.symm h3

theorem exports_get {mem : List (Option Ob)} : ∀ {ks : List Nat} {obs : List Ob}, exports mem ks = some obs → obs.length = ks.length ∧ ∀ (j : Nat) ob, obs[j]? = some ob → ∃ k, ks[j]? = some k ∧ mem[k]? = some (some ob)
  | [], obs, h => by
    simp only [exports, Option.some.injEq] at h
    subst h
    exact ⟨rfl, fun j ob hj => by simp at hj⟩
  | k :: ks, obs, h => by
    simp only [exports] at h
    split at h
    · rename_i ob hob
      obtain ⟨r, hr, rfl⟩ := Option.map_eq_some_iff.1 h
      obtain ⟨h1, h2⟩ := exports_get hr
      refine ⟨by simp [h1], fun j o hj => ?_⟩
      cases j with
      | zero =>
        simp only [List.getElem?_cons_zero, Option.some.injEq] at hj
        subst hj
        exact ⟨k, rfl, hob⟩
      | succ j => exact h2 j o (by simpa using hj)
    · simp at h

theorem obsSame_get : ∀ {l l' : List Ob}, ObsSame l l' → l.length = l'.length ∧ ∀ (j : Nat) ob', l'[j]? = some ob' → ∃ ob, l[j]? = some ob ∧ ObSame ob ob'
  | [], [], _ => ⟨rfl, fun j ob hj => by simp at hj⟩
  | a :: r, b :: r', h => by
    obtain ⟨h1, h2⟩ := obsSame_get h.2
    refine ⟨by simp [h1], fun j ob' hj => ?_⟩
    cases j with
    | zero =>
      simp only [List.getElem?_cons_zero, Option.some.injEq] at hj
      subst hj
      exact ⟨a, rfl, h.1⟩
    | succ j => exact h2 j ob' (by simpa using hj)
  | [], _ :: _, h => h.elim
  | _ :: _, [], h => h.elim

theorem vret_sound {fn : Func} {R : AV → List Ob → Prop} {hd0 : Nat → Value} (h : RelH n ⟨P, (fun b => w0.heap.size ≤ b), hd0, []⟩ w0 hd s a w) (hv : vret P fn.results.toList R s) :
    ∃ v, (results fn a.tmps).run P w = .ok v w ∧ w0.grownBy w none ∧ ∃ hd av obs, R av obs ∧ flatV av = true ∧ (∀ ob, ob ∈ obs → ∀ i, i < ob.n → (ob.f i).all isLit = true) ∧
      MemRel (fun b => w0.heap.size ≤ b) w hd (obs.map some) ∧ Rep w (fun _ => True) hd obs.length av v := by
  obtain ⟨v, l, h1, h2, hfl, hnd, obs, obs', hex, hsame, hR⟩ := results_sound h hv
  obtain ⟨g1, g2⟩ := exports_get hex
  obtain ⟨g3, g4⟩ := obsSame_get hsame
  generalize hks : ownsV (joined l) = ks at *
  have at_ : ∀ (j : Nat) ob', obs'[j]? = some ob' → ∃ k ob, ks[j]? = some k ∧ s.mem[k]? = some (some ob) ∧ ObSame ob ob' := by
    intro j ob' hj
    obtain ⟨ob, e1, e2⟩ := g4 j ob' hj
    obtain ⟨k, e3, e4⟩ := g2 j ob e1
    exact ⟨k, ob, e3, e4, e2⟩
  have toMap : ∀ (j : Nat) ob', (obs'.map some)[j]? = some (some ob') → obs'[j]? = some ob' := by
    intro j ob' hj
    rw [List.getElem?_map, Option.map_eq_some_iff] at hj
    obtain ⟨o, h1, h2⟩ := hj
    simp only [Option.some.injEq] at h2
    rw [← h2]; exact h1
  refine ⟨v, h1, ⟨h.below.os, h.below.tape, h.below.output, h.below.size, fun k hk _ => h.below.block k hk (by simp only; omega)⟩, fun j => hd (ks.getD j 0), _, obs', hR, ?_, ?_, ⟨fun j ob' hj b hb => ?_, fun j ob' hj => ?_, fun j hj => ?_, fun j j' o o' hj hj' hne => ?_⟩, ?_⟩
  · -- flat
    have f1 : ∀ x, flat1 (ren1 (fun k => ks.idxOf k) x) = flat1 x := by intro x; cases x <;> rfl
    have f2 : ∀ x, flat2 (ren2 (fun k => ks.idxOf k) x) = flat2 x := by
      intro x
      cases x with
      | agg cs => simp [flat2, ren2, Function.comp_def, f1]
      | _ => rfl
    have f3 : ∀ x, flatV (ren (fun k => ks.idxOf k) x) = flatV x := by
      intro x
      cases x with
      | tup vs => simp [flatV, ren, Function.comp_def, f2]
      | agg cs => exact f2 (.agg cs)
      | _ => rfl
    exact (f3 _).trans hfl
  · intro ob' hob' i hi
    obtain ⟨j, hj⟩ := List.getElem?_of_mem hob'
    obtain ⟨k, ob, _, _, e⟩ := at_ j ob' hj
    exact (e.2.2.2 i hi).2
  · obtain ⟨k, ob, e1, e2, _⟩ := at_ j ob' (toMap j ob' hj)
    simp only [List.getD_eq_getElem?_getD, e1, Option.getD_some] at hb
    exact h.me.alw k ob e2 b hb
  · obtain ⟨k, ob, e1, e2, e3, e4, e5, e6⟩ := at_ j ob' (toMap j ob' hj)
    obtain ⟨hs, vals, ho, hr⟩ := h.me.obs k ob e2
    simp only [List.getD_eq_getElem?_getD, e1, Option.getD_some]
    refine ⟨by omega, vals, by rw [← e3, ← e4, ← e5]; exact ho, fun i hi => ?_⟩
    obtain ⟨q1, q2⟩ := hr i (by omega)
    obtain ⟨q3, q4⟩ := e6 i hi
    rw [q3, e4] at q1 q2
    refine ⟨q1, fun c av hc => ?_⟩
    obtain ⟨u, r1, r2, r3⟩ := q2 c av hc
    have hl := List.all_eq_true.1 q4 av (List.mem_of_getElem? hc)
    refine ⟨u, r1, r2, ?_⟩
    cases av <;> simp [isLit] at hl
    cases r3; exact .lit _
  · have hj' : j < ks.length := by simp at hj; omega
    simp only [List.getD_eq_getElem?_getD, List.getElem?_eq_getElem hj', Option.getD_some]
    have : ∃ ob', obs'[j]? = some ob' := ⟨obs'[j]'(by simpa using hj), by simp⟩
    obtain ⟨ob', hob'⟩ := this
    obtain ⟨k, ob, e1, e2, _⟩ := at_ j ob' hob'
    rw [List.getElem?_eq_getElem hj'] at e1
    simp only [Option.some.injEq] at e1
    rw [e1]
    exact h.me.hds k (List.getElem?_eq_some_iff.1 e2).1
  · obtain ⟨k, ob, e1, e2, _⟩ := at_ j o (toMap j o hj)
    obtain ⟨k', ob2, e1', e2', _⟩ := at_ j' o' (toMap j' o' hj')
    simp only [List.getD_eq_getElem?_getD, e1, e1', Option.getD_some]
    refine h.me.apart k k' ob ob2 e2 e2' fun e => hne ?_
    subst e
    have l1 := (List.getElem?_eq_some_iff.1 e1)
    have l2 := (List.getElem?_eq_some_iff.1 e1')
    obtain ⟨l1a, l1b⟩ := l1
    obtain ⟨l2a, l2b⟩ := l2
    exact (List.getElem_inj hnd).1 (l1b.trans l2b.symm)
  · refine h2.ren_ hfl fun k hk hkm => ?_
    rw [hks] at hk
    have hi := List.idxOf_lt_length_of_mem hk
    refine ⟨by omega, ?_⟩
    simp only [List.getD_eq_getElem?_getD, List.getElem?_eq_getElem hi, Option.getD_some, List.getElem_idxOf]

/-- the state in which a function begins -/
def start (args : List AV) : VS := .of ((List.range args.length).map fun j => (j, args.getD j .undef)) []

theorem vfun_intro {f : FuncId} {fn : Func} {c : Code} {args : List AV} {R : AV → List Ob → Prop} (hf : P.funcs[f]? = some fn) (hn : (fn.name == "runtime.NumGoroutine") = false) (hb : fn.body = some c) (hl : args.length ≤ fn.ntmps)
    (h : vc P fn.ntmps c (start args) (fun x s => match x with
      | .exit _ => False
      | _ => vret P fn.results.toList R s)) : VFun P f args R := by
  refine ⟨⟨fn, hf, hn, by rw [hb]; rfl⟩, fun w vs hlen hrep => ?_⟩
  refine calls_of_wp hf hb ?_
  have hst : ∀ t, lk (start args).tmps t = args.getD t .undef := by
    intro t
    have : ∀ (l : List Nat) (t : Nat), lk (l.map fun j => (j, args.getD j .undef)) t = if t ∈ l then args.getD t .undef else .undef := by
      intro l t
      induction l with
      | nil => rfl
      | cons x l ih =>
        simp only [List.map_cons, lk]
        by_cases e : x = t
        · subst e; simp
        · rw [if_neg e, ih]
          have e' : ¬ t = x := fun h => e h.symm
          simp [e']
    rw [start, this]
    by_cases ht : t < args.length
    · rw [if_pos (by simpa using ht)]
    · rw [if_neg (by simpa using ht), List.getD_eq_getElem?_getD, List.getElem?_eq_none (by omega)]; rfl
  have hrel : RelH fn.ntmps ⟨P, (fun b => w.heap.size ≤ b), fun _ => undef, []⟩ w (fun _ => undef) (start args) { tmps := vs.toArray ++ Array.replicate (fn.ntmps - vs.toArray.size) undef, defers := [] } w := by
    refine ⟨rfl, by simp; omega, Bel.refl _ _, fun b hb => hb, Nat.zero_le _, ⟨fun k hk => by simp [start] at hk, TailEq.refl _, ⟨0, fun k _ b hb => by simp [undef, Value.ownBlock] at hb⟩⟩, fun b mp hb => by simp [start, lkm] at hb, fun t => ?_, ⟨fun k ob hk => by simp [start] at hk, fun k ob hk => by simp [start] at hk, fun k hk => by simp [start] at hk, fun k k' ob ob' hk => by simp [start] at hk⟩⟩
    rw [hst]
    by_cases ht : t < args.length
    · have h1 : (vs.toArray ++ Array.replicate (fn.ntmps - vs.toArray.size) undef).getD t undef = vs[t]'(by omega) := by
        rw [Array.getD_eq_getD_getElem?, Array.getElem?_append_left (by simp; omega)]
        simp [show t < vs.length by omega]
      rw [h1, List.getD_eq_getElem?_getD, List.getElem?_eq_getElem ht]
      exact (hrep t _ _ (List.getElem?_eq_getElem ht) (List.getElem?_eq_getElem (by omega))).mono (fun ad u _ hc => ⟨hc, fun k ob hk => by simp [start] at hk, ⟨0, fun k _ => by simp [undef, Value.ownBlock]⟩⟩) (fun _ _ => rfl) (Nat.le_refl _)
    · rw [List.getD_eq_getElem?_getD, List.getElem?_eq_none (by omega)]; exact .undef _
  refine vc_sound rfl c hrel h fun x hd' s' a' w' h' hk => ?_
  cases x with
  | exit id => exact hk.elim
  | normal =>
    obtain ⟨v, h1, h2⟩ := vret_sound h' hk
    exact ⟨h'.defers, v, h1, v, rfl, h2⟩
  | ret =>
    obtain ⟨v, h1, h2⟩ := vret_sound h' hk
    exact ⟨h'.defers, v, h1, v, rfl, h2⟩
end
end Go.Proofs.Ytcnmgfbafcnkhaa.V
/- The value machine, part 11: how its conditions are reckoned (rules for the walk's own set of rules). -/
namespace Go.Proofs.Ytcnmgfbafcnkhaa.V
open Go.RowKit
set_option linter.unusedVariables false
set_option linter.unusedSimpArgs false

section
variable {P : Program} {n : Nat} {s : VS}
def Kseq (P : Program) (n : Nat) (y : Code) (K : VX → VS → Prop) (e : VX) (s : VS) : Prop := match e with
  | .normal => vc P n y s K
  | e => K e s
def Kblock (id : Nat) (K : VX → VS → Prop) (e : VX) (s : VS) : Prop := match e with
  | .exit i => if i = id then K .normal s else K (.exit i) s
  | e => K e s
def Kfin (P : Program) (rs : List ResultVar) (R : AV → List Ob → Prop) (e : VX) (s : VS) : Prop := match e with
  | .exit _ => False
  | _ => vret P rs R s
def Kput (n : Nat) (dst : Option Tmp) (k : VS → Prop) (av : AV) (s : VS) : Prop := putO n dst av s k
def Kcall (s : VS) (k : AV → VS → Prop) (av : AV) (obs : List Ob) : Prop := k (ren (· + s.mem.length) av) { s with mem := s.mem ++ obs.map some }
def Kops (P : Program) (n : Nat) (all r : List Oper) (k : VS → Prop) (s : VS) : Prop := vops P n all r s k
/-- a loop's round -/
def Kround {ι : Type} (I : ι → Prop) (μ : ι → Nat) (S : ι → VS) (i : ι) (K : VX → VS → Prop) (e : VX) (s : VS) : Prop := match e with
  | .normal => ∃ j, I j ∧ μ j < μ i ∧ Le s (S j)
  | e => K e s
variable {K : VX → VS → Prop} {k : VS → Prop} {all r : List Oper}
@[go_sem] theorem Kseq_n {y : Code} : Kseq P n y K .normal s = vc P n y s K := _root_.id rfl
@[go_sem] theorem Kseq_e {y : Code} {id : Nat} : Kseq P n y K (.exit id) s = K (.exit id) s := _root_.id rfl
@[go_sem] theorem Kseq_r {y : Code} : Kseq P n y K .ret s = K .ret s := _root_.id rfl
@[go_sem] theorem Kblock_n {id : Nat} : Kblock id K .normal s = K .normal s := _root_.id rfl
@[go_sem] theorem Kblock_r {id : Nat} : Kblock id K .ret s = K .ret s := _root_.id rfl
@[go_sem] theorem Kblock_e {id i : Nat} : Kblock id K (.exit i) s = if i = id then K .normal s else K (.exit i) s := _root_.id rfl
@[go_sem] theorem Kfin_n {rs : List ResultVar} {R : AV → List Ob → Prop} : Kfin P rs R .normal s = vret P rs R s := _root_.id rfl
@[go_sem] theorem Kfin_r {rs : List ResultVar} {R : AV → List Ob → Prop} : Kfin P rs R .ret s = vret P rs R s := _root_.id rfl
@[go_sem] theorem Kround_e {ι : Type} {I : ι → Prop} {μ : ι → Nat} {S : ι → VS} {i : ι} {id : Nat} : Kround I μ S i K (.exit id) s = K (.exit id) s := _root_.id rfl
@[go_sem] theorem Kround_r {ι : Type} {I : ι → Prop} {μ : ι → Nat} {S : ι → VS} {i : ι} : Kround I μ S i K .ret s = K .ret s := _root_.id rfl
@[go_sem] theorem Kround_n {ι : Type} {I : ι → Prop} {μ : ι → Nat} {S : ι → VS} {i : ι} : Kround I μ S i K .normal s = ∃ j, I j ∧ μ j < μ i ∧ Le s (S j) := _root_.id rfl
@[go_sem] theorem Kput_s {t : Tmp} {av : AV} : Kput n (some t) k av s = (t < n ∧ k { s with tmps := (t, av) :: s.tmps }) := _root_.id rfl
@[go_sem] theorem Kput_n {av : AV} : Kput n none k av s = k s := _root_.id rfl
@[go_sem] theorem Kops_ : Kops P n all r k s = vops P n all r s k := _root_.id rfl

@[go_sem] theorem vc_skip : vc P n .skip s K = K .normal s := _root_.id rfl
@[go_sem] theorem vc_region {id : Nat} {l : List Oper} : vc P n (.region id l.toArray false) s K = vops P n l l s (K .normal) := _root_.id rfl
@[go_sem] theorem vc_seq {x y : Code} : vc P n (.seq x y) s K = vc P n x s (Kseq P n y K) := _root_.id rfl
def vcond (P : Program) (n : Nat) (x y : Code) (s : VS) (K : VX → VS → Prop) : AV → Prop
  | .lit (.bool t) => (t = true → vc P n x s K) ∧ (t = false → vc P n y s K)
  | _ => False
@[go_sem] theorem vc_cond {c : Operand} {x y : Code} : vc P n (.cond c x y) s K = vcond P n x y s K (ev s c) := by
  simp only [vc]
  generalize ev s c = v
  cases v with
  | lit v => cases v <;> rfl
  | _ => rfl
@[go_sem] theorem vcond_b {x y : Code} {t : Bool} : vcond P n x y s K (.lit (.bool t)) = ((t = true → vc P n x s K) ∧ (t = false → vc P n y s K)) := _root_.id rfl
@[go_sem 2000] theorem vcond_t {x y : Code} : vcond P n x y s K (.lit (.bool true)) = vc P n x s K := by simp [vcond]
@[go_sem 2000] theorem vcond_f {x y : Code} : vcond P n x y s K (.lit (.bool false)) = vc P n y s K := by simp [vcond]
@[go_sem] theorem vc_block {id : Nat} {x : Code} : vc P n (.block id x) s K = vc P n x s (Kblock id K) := _root_.id rfl
@[go_sem] theorem vc_exit {id : Nat} : vc P n (.exit id) s K = K (.exit id) s := _root_.id rfl
@[go_sem] theorem vc_scope {x : Code} : vc P n (.scope x) s K = vc P n x s K := _root_.id rfl
@[go_sem] theorem vc_label {l : Nat} : vc P n (.label l) s K = K .normal s := _root_.id rfl
@[go_sem] theorem vc_ret : vc P n .ret s K = K .ret s := _root_.id rfl
theorem vc_loop {x : Code} {ι : Type} (I : ι → Prop) (μ : ι → Nat) (S : ι → VS) (h0 : ∃ i, I i ∧ Le s (S i)) (h : ∀ i, I i → vc P n x (S i) (Kround I μ S i K)) : vc P n (.loop x) s K :=
  ⟨ι, I, μ, S, fun _ => .le, h0.imp fun _ h => ⟨h.1, Ent.of_le h.2⟩, h⟩
/-- a loop's round that gives the own objects other numbers -/
def KroundR {ι : Type} (I : ι → Prop) (μ : ι → Nat) (S : ι → VS) (f : Nat → Nat) (i : ι) (K : VX → VS → Prop) (e : VX) (s : VS) : Prop := match e with
  | .normal => ∃ j, I j ∧ μ j < μ i ∧ LeR f s (S j)
  | e => K e s
@[go_sem] theorem KroundR_e {ι : Type} {I : ι → Prop} {μ : ι → Nat} {S : ι → VS} {f : Nat → Nat} {i : ι} {id : Nat} : KroundR I μ S f i K (.exit id) s = K (.exit id) s := _root_.id rfl
@[go_sem] theorem KroundR_r {ι : Type} {I : ι → Prop} {μ : ι → Nat} {S : ι → VS} {f : Nat → Nat} {i : ι} : KroundR I μ S f i K .ret s = K .ret s := _root_.id rfl
@[go_sem] theorem KroundR_n {ι : Type} {I : ι → Prop} {μ : ι → Nat} {S : ι → VS} {f : Nat → Nat} {i : ι} : KroundR I μ S f i K .normal s = ∃ j, I j ∧ μ j < μ i ∧ LeR f s (S j) := _root_.id rfl
theorem vc_loopR {x : Code} {ι : Type} (I : ι → Prop) (μ : ι → Nat) (S : ι → VS) (f : Nat → Nat) (h0 : ∃ i, I i ∧ Le s (S i)) (h : ∀ i, I i → vc P n x (S i) (KroundR I μ S f i K)) : vc P n (.loop x) s K :=
  ⟨ι, I, μ, S, fun _ => .ren f, h0.imp fun _ h => ⟨h.1, Ent.of_le h.2⟩, h⟩
/-- a loop whose rounds end in states that say what the next begins with -/
def KroundE {ι : Type} (I : ι → Prop) (μ : ι → Nat) (S : ι → VS) (i : ι) (K : VX → VS → Prop) (e : VX) (s : VS) : Prop := match e with
  | .normal => ∃ j, I j ∧ μ j < μ i ∧ Ent s (S j)
  | e => K e s
@[go_sem] theorem KroundE_e {ι : Type} {I : ι → Prop} {μ : ι → Nat} {S : ι → VS} {i : ι} {id : Nat} : KroundE I μ S i K (.exit id) s = K (.exit id) s := _root_.id rfl
@[go_sem] theorem KroundE_r {ι : Type} {I : ι → Prop} {μ : ι → Nat} {S : ι → VS} {i : ι} : KroundE I μ S i K .ret s = K .ret s := _root_.id rfl
@[go_sem] theorem KroundE_n {ι : Type} {I : ι → Prop} {μ : ι → Nat} {S : ι → VS} {i : ι} : KroundE I μ S i K .normal s = ∃ j, I j ∧ μ j < μ i ∧ Ent s (S j) := _root_.id rfl
theorem vc_loopE {x : Code} {ι : Type} (I : ι → Prop) (μ : ι → Nat) (S : ι → VS) (h0 : ∃ i, I i ∧ Ent s (S i)) (h : ∀ i, I i → vc P n x (S i) (KroundE I μ S i K)) : vc P n (.loop x) s K :=
  ⟨ι, I, μ, S, fun _ => .ent, h0, h⟩
theorem vfun_start {f : FuncId} {fn : Func} {c : Code} {args : List AV} {R : AV → List Ob → Prop} (hf : P.funcs[f]? = some fn) (hn : (fn.name == "runtime.NumGoroutine") = false) (hb : fn.body = some c) (hl : args.length ≤ fn.ntmps)
    (h : vc P fn.ntmps c (start args) (Kfin P fn.results.toList R)) : VFun P f args R := vfun_intro hf hn hb hl h

/-! lists of operations -/
@[go_sem] theorem vops_nil : vops P n all [] s k = k s := _root_.id rfl
section
variable {d : Option Tmp} {op : Op} {ty : TypeId} {ps : String} {af : Array Edge}
@[go_sem] theorem vops_cons : vops P n all (⟨d, op, ty, ps, af, none⟩ :: r) s k = vstep P n ⟨d, op, ty, ps, af, none⟩ s (Kops P n all r k) := _root_.id rfl
def vguard (P : Program) (n : Nat) (all : List Oper) (o : Oper) (r : List Oper) (s : VS) (k : VS → Prop) (b : Bool) (t : Tmp) : AV → Prop
  | .lit (.bool c) => (c = b → vstep P n o { s with tmps := (t, .lit (.bool b)) :: s.tmps } (Kops P n all r k)) ∧ (c = !b → putO n o.dst (.lit undef) { s with tmps := (t, .lit (.bool (!b))) :: s.tmps } (Kops P n all r k))
  | .lit (.tuple _) => putO n o.dst (.lit undef) s (Kops P n all r k)
  | _ => False
def vguardO (P : Program) (n : Nat) (all : List Oper) (o : Oper) (r : List Oper) (s : VS) (k : VS → Prop) (b : Bool) : Option Tmp → Prop
  | some t => vguard P n all o r s k b t (lk s.tmps t)
  | none => False
@[go_sem] theorem vops_guard {g : Nat} {b : Bool} : vops P n all (⟨d, op, ty, ps, af, some (g, b)⟩ :: r) s k = vguardO P n all ⟨d, op, ty, ps, af, some (g, b)⟩ r s k b (slotOf all g) := by
  simp only [vops]
  cases slotOf all g with
  | none => rfl
  | some t =>
    simp only [vguardO]
    generalize lk s.tmps t = v
    cases v with
    | lit v => cases v <;> rfl
    | _ => rfl
@[go_sem] theorem vguardO_s {o : Oper} {b : Bool} {t : Tmp} : vguardO P n all o r s k b (some t) = vguard P n all o r s k b t (lk s.tmps t) := _root_.id rfl
@[go_sem] theorem vguard_b {o : Oper} {b : Bool} {t : Tmp} {c : Bool} : vguard P n all o r s k b t (.lit (.bool c)) = ((c = b → vstep P n o { s with tmps := (t, .lit (.bool b)) :: s.tmps } (Kops P n all r k)) ∧ (c = !b → putO n o.dst (.lit undef) { s with tmps := (t, .lit (.bool (!b))) :: s.tmps } (Kops P n all r k))) := _root_.id rfl
@[go_sem] theorem vguard_u {o : Oper} {b : Bool} {t : Tmp} : vguard P n all o r s k b t (.lit undef) = putO n o.dst (.lit undef) s (Kops P n all r k) := _root_.id rfl
@[go_sem] theorem vguard_u' {o : Oper} {b : Bool} {t : Tmp} {q : Array Value} : vguard P n all o r s k b t (.lit (.tuple q)) = putO n o.dst (.lit undef) s (Kops P n all r k) := _root_.id rfl
@[go_sem 2000] theorem vguard_tt {o : Oper} {t : Tmp} : vguard P n all o r s k true t (.lit (.bool true)) = vstep P n o { s with tmps := (t, .lit (.bool true)) :: s.tmps } (Kops P n all r k) := by simp [vguard]
@[go_sem 2000] theorem vguard_ff {o : Oper} {t : Tmp} : vguard P n all o r s k false t (.lit (.bool false)) = vstep P n o { s with tmps := (t, .lit (.bool false)) :: s.tmps } (Kops P n all r k) := by simp [vguard]
@[go_sem 2000] theorem vguard_tf {o : Oper} {t : Tmp} : vguard P n all o r s k true t (.lit (.bool false)) = putO n o.dst (.lit undef) { s with tmps := (t, .lit (.bool false)) :: s.tmps } (Kops P n all r k) := by simp [vguard]
@[go_sem 2000] theorem vguard_ft {o : Oper} {t : Tmp} : vguard P n all o r s k false t (.lit (.bool true)) = putO n o.dst (.lit undef) { s with tmps := (t, .lit (.bool true)) :: s.tmps } (Kops P n all r k) := by simp [vguard]
@[go_sem] theorem putO_s {t : Tmp} {av : AV} : putO n (some t) av s k = (t < n ∧ k { s with tmps := (t, av) :: s.tmps }) := _root_.id rfl
@[go_sem] theorem putO_n {av : AV} : putO n none av s k = k s := _root_.id rfl
@[go_sem] theorem lk_cons {u : Nat} {v : AV} {l : List (Nat × AV)} {t : Nat} : lk ((u, v) :: l) t = if u = t then v else lk l t := _root_.id rfl
@[go_sem] theorem lk_nil {t : Nat} : lk [] t = .undef := _root_.id rfl
@[go_sem] theorem ev_tmp {t : Tmp} : ev s (.tmp t) = lk s.tmps t := _root_.id rfl
@[go_sem] theorem ev_const {v : Value} : ev s (.const v) = .lit v := _root_.id rfl
@[go_sem] theorem slotOf_ {g : Nat} : slotOf all g = (all[g]?).bind (·.dst) := _root_.id rfl

/-! single operations -/
variable {g : Option (Nat × Bool)}
@[go_sem] theorem vs_move {x : Operand} : vstep P n ⟨d, .move x, ty, ps, af, g⟩ s k = Kput n d k (ev s x) s := _root_.id rfl
@[go_sem] theorem vs_assign {x : Operand} : vstep P n ⟨d, .assign x, ty, ps, af, g⟩ s k = Kput n d k (ev s x) s := _root_.id rfl
def vpick (s : VS) (a b : Operand) (k : AV → VS → Prop) : AV → Prop
  | .lit (.bool t) => (t = true → k (ev s a) s) ∧ (t = false → k (ev s b) s)
  | _ => False
@[go_sem] theorem vs_pick {c x y : Operand} : vstep P n ⟨d, .pick c x y, ty, ps, af, g⟩ s k = vpick s x y (Kput n d k) (ev s c) := by
  show vop P (.pick c x y) s (Kput n d k) = _
  simp only [vop]
  generalize ev s c = v
  cases v with
  | lit v => cases v <;> rfl
  | _ => rfl
@[go_sem] theorem vpick_b {x y : Operand} {k : AV → VS → Prop} {t : Bool} : vpick s x y k (.lit (.bool t)) = ((t = true → k (ev s x) s) ∧ (t = false → k (ev s y) s)) := _root_.id rfl
@[go_sem 2000] theorem vpick_t {x y : Operand} {k : AV → VS → Prop} : vpick s x y k (.lit (.bool true)) = k (ev s x) s := by simp [vpick]
@[go_sem 2000] theorem vpick_f {x y : Operand} {k : AV → VS → Prop} : vpick s x y k (.lit (.bool false)) = k (ev s y) s := by simp [vpick]
def vbox (P : Program) (T : TypeId) (s : VS) (k : AV → VS → Prop) (sz : Option Nat) (cells : List AV) : Prop := match sz with
  | some n => 0 < n ∧ cells.length = n ∧ cells.all oneAV = true ∧ k (.ptr s.mem.length n 0 0) { s with mem := s.mem ++ [some ⟨T, n, 1, fun _ => cells⟩] }
  | none => False
@[go_sem] theorem vs_box {T : TypeId} {x : Operand} : vstep P n ⟨d, .box T x, ty, ps, af, g⟩ s k = vbox P T s (Kput n d k) (tsz P T) (avCells (ev s x)) := by
  show vop P (.box T x) s (Kput n d k) = _
  simp only [vop]
  cases tsz P T <;> rfl
@[go_sem] theorem vbox_s {T : TypeId} {k : AV → VS → Prop} {m : Nat} {cells : List AV} : vbox P T s k (some m) cells = (0 < m ∧ cells.length = m ∧ cells.all oneAV = true ∧ k (.ptr s.mem.length m 0 0) { s with mem := s.mem ++ [some ⟨T, m, 1, fun _ => cells⟩] }) := _root_.id rfl
@[go_sem] theorem vs_alloc {T : TypeId} : vstep P n ⟨d, .alloc T, ty, ps, af, g⟩ s k = valloc P T s (Kput n d k) := _root_.id rfl
/-- a read -/
def vrd (s : VS) (k : AV → VS → Prop) (agg : Option Bool) (sz : Option Nat) (cs : List AV) (c : Nat) : Prop :=
  match agg, sz with
  | some false, _ => c < cs.length ∧ k (cs.getD c .undef) s
  | some true, some n => c + n ≤ cs.length ∧ k (.agg ((cs.drop c).take n)) s
  | _, _ => False
theorem rd_eq {T : TypeId} {cs : List AV} {c : Nat} {k : AV → VS → Prop} : rd P T cs c (fun av => k av s) = vrd s k (tagg P T) (tsz P T) cs c := rfl
@[go_sem] theorem vrd_f {k : AV → VS → Prop} {sz : Option Nat} {cs : List AV} {c : Nat} : vrd s k (some false) sz cs c = (c < cs.length ∧ k (cs.getD c .undef) s) := by cases sz <;> rfl
@[go_sem] theorem vrd_t {k : AV → VS → Prop} {m : Nat} {cs : List AV} {c : Nat} : vrd s k (some true) (some m) cs c = (c + m ≤ cs.length ∧ k (.agg ((cs.drop c).take m)) s) := _root_.id rfl
/-- a load by a pointer that is told to be one to borrowed cells -/
def vloadF (P : Program) (T : TypeId) (s : VS) (k : AV → VS → Prop) (ad : Addr) : Prop := ∃ t N vs as i cs, lk s.tmps t = .fam N vs as ∧ i < N ∧ vs i = .pointer (some ad) ∧ as i = .bptr cs ∧ vrd s k (tagg P T) (tsz P T) cs 0
def vload (P : Program) (T : TypeId) (s : VS) (k : AV → VS → Prop) : AV → Prop
  | .ptr j sz i c => match s.mem[j]? with
    | some (some ob) => ob.sz = sz ∧ i < ob.n ∧ vrd s k (tagg P T) (tsz P T) (ob.f i) c
    | _ => False
  | .bptr cs => vrd s k (tagg P T) (tsz P T) cs 0
  | .lit (.pointer (some ad)) => vloadF P T s k ad
  | _ => False
@[go_sem] theorem vload_f {T : TypeId} {k : AV → VS → Prop} {ad : Addr} : vload P T s k (.lit (.pointer (some ad))) = vloadF P T s k ad := _root_.id rfl
@[go_sem] theorem vs_load {T : TypeId} {x : Operand} : vstep P n ⟨d, .load T x, ty, ps, af, g⟩ s k = vload P T s (Kput n d k) (ev s x) := by
  show vop P (.load T x) s (Kput n d k) = _
  simp only [vop]
  generalize ev s x = v
  cases v <;> first | rfl | (rename_i lv; cases lv <;> first | rfl | (rename_i p; cases p <;> rfl))
@[go_sem] theorem vload_b {T : TypeId} {k : AV → VS → Prop} {cs : List AV} : vload P T s k (.bptr cs) = vrd s k (tagg P T) (tsz P T) cs 0 := _root_.id rfl
def vloadO (P : Program) (T : TypeId) (s : VS) (k : AV → VS → Prop) (sz i c : Nat) : Option (Option Ob) → Prop
  | some (some ob) => ob.sz = sz ∧ i < ob.n ∧ vrd s k (tagg P T) (tsz P T) (ob.f i) c
  | _ => False
@[go_sem] theorem vload_p {T : TypeId} {k : AV → VS → Prop} {j sz i c : Nat} : vload P T s k (.ptr j sz i c) = vloadO P T s k sz i c (s.mem[j]?) := by
  simp only [vload]
  generalize s.mem[j]? = v
  cases v with
  | none => rfl
  | some v => cases v <;> rfl
@[go_sem] theorem vloadO_s {T : TypeId} {k : AV → VS → Prop} {sz i c : Nat} {ob : Ob} : vloadO P T s k sz i c (some (some ob)) = (ob.sz = sz ∧ i < ob.n ∧ vrd s k (tagg P T) (tsz P T) (ob.f i) c) := _root_.id rfl
def vstoreO (s : VS) (k : AV → VS → Prop) (n j sz i c : Nat) (cells : List AV) : Option (Option Ob) → Prop
  | some (some ob) => ob.sz = sz ∧ i < ob.n ∧ cells.length = n ∧ 0 < n ∧ c + n ≤ sz ∧ cells.all oneAV = true ∧ k .undef { s with mem := s.mem.set j (some (upd ob i c cells)) }
  | _ => False
def vstore (s : VS) (k : AV → VS → Prop) (sz : Option Nat) (cells : List AV) : AV → Prop
  | .ptr j sz' i c => match sz with
    | some n => vstoreO s k n j sz' i c cells (s.mem[j]?)
    | none => False
  | _ => False
@[go_sem] theorem vs_store {T : TypeId} {p x : Operand} : vstep P n ⟨d, .store T p x, ty, ps, af, g⟩ s k = vstore s (Kput n d k) (tsz P T) (avCells (ev s x)) (ev s p) := by
  show vop P (.store T p x) s (Kput n d k) = _
  simp only [vop]
  generalize ev s p = v
  generalize tsz P T = z
  cases v <;> cases z <;> rfl
@[go_sem] theorem vstore_p {k : AV → VS → Prop} {m : Nat} {cells : List AV} {j sz i c : Nat} : vstore s k (some m) cells (.ptr j sz i c) = vstoreO s k m j sz i c cells (s.mem[j]?) := _root_.id rfl
@[go_sem] theorem vstoreO_s {k : AV → VS → Prop} {m j sz i c : Nat} {cells : List AV} {ob : Ob} : vstoreO s k m j sz i c cells (some (some ob)) = (ob.sz = sz ∧ i < ob.n ∧ cells.length = m ∧ 0 < m ∧ c + m ≤ sz ∧ cells.all oneAV = true ∧ k .undef { s with mem := s.mem.set j (some (upd ob i c cells)) }) := _root_.id rfl
def vfa (P : Program) (s : VS) (k : AV → VS → Prop) : Option (TypeId × Nat) → AV → Prop
  | some (ft, off), .ptr j sz i c => (∃ n, tsz P ft = some n ∧ n ≠ 0) ∧ k (.ptr j sz i (c + off)) s
  | some (ft, off), .bptr cs => (∃ n, tsz P ft = some n ∧ n ≠ 0) ∧ off < cs.length ∧ k (.bptr (cs.drop off)) s
  | _, _ => False
@[go_sem] theorem vs_fa {T : TypeId} {x : Operand} {f : Nat} : vstep P n ⟨d, .fieldAddr T x f, ty, ps, af, g⟩ s k = vfa P s (Kput n d k) (fieldOff P T f) (ev s x) := by
  show vop P (.fieldAddr T x f) s (Kput n d k) = _
  simp only [vop]
  generalize ev s x = v
  cases fieldOff P T f with
  | none => cases v <;> rfl
  | some y => cases v <;> first | rfl | (simp only [vfa]; exact propext ⟨fun h => h.2.elim, fun h => h.elim⟩)
@[go_sem] theorem vfa_p {k : AV → VS → Prop} {ft off j sz i c : Nat} : vfa P s k (some (ft, off)) (.ptr j sz i c) = ((∃ n, tsz P ft = some n ∧ n ≠ 0) ∧ k (.ptr j sz i (c + off)) s) := _root_.id rfl
@[go_sem] theorem vfa_b {k : AV → VS → Prop} {ft off : Nat} {cs : List AV} : vfa P s k (some (ft, off)) (.bptr cs) = ((∃ n, tsz P ft = some n ∧ n ≠ 0) ∧ off < cs.length ∧ k (.bptr (cs.drop off)) s) := _root_.id rfl
def via (s : VS) (k : AV → VS → Prop) (sz : Option Nat) (ix : Option Value) : AV → Prop
  | .sl sz' n f => match sz, ix with
    | some z, some (.int _ i) => sz' = z ∧ 0 ≤ i ∧ i < n ∧ k (.bptr (f i.toNat)) s
    | _, _ => False
  | .own j => match sz, ix, s.mem[j]? with
    | some z, some (.int _ i), some (some ob) => ob.sz = z ∧ 0 ≤ i ∧ i < ob.n ∧ k (.ptr j z i.toNat 0) s
    | _, _, _ => False
  | _ => False
def esz (P : Program) (T : TypeId) : Option Nat := match P.underlying T with
  | some (.slice e) => tsz P e
  | _ => none
@[go_sem] theorem vs_ia {T : TypeId} {x ix : Operand} : vstep P n ⟨d, .indexAddr T x ix, ty, ps, af, g⟩ s k = via s (Kput n d k) (esz P T) (toVal (ev s ix)) (ev s x) := by
  show vop P (.indexAddr T x ix) s (Kput n d k) = _
  simp only [vop]
  unfold esz
  generalize ev s x = v
  generalize toVal (ev s ix) = u
  cases P.underlying T with
  | none => cases v <;> first | rfl | (cases u <;> first | rfl | (rename_i y; cases y <;> rfl))
  | some D =>
    cases D with
    | slice e =>
      simp only
      cases u with
      | none => generalize tsz P e = z; cases z <;> cases v <;> rfl
      | some y =>
        cases y with
        | int q i =>
          simp only
          generalize tsz P e = z
          cases z with
          | none => cases v <;> rfl
          | some z =>
            cases v <;> first | rfl | skip
            rename_i j
            simp only [via]
            generalize s.mem[j]? = y
            cases y with
            | none => rfl
            | some y => cases y <;> rfl
        | _ => generalize tsz P e = z; cases z <;> cases v <;> rfl
    | _ => cases v <;> first | rfl | (cases u <;> first | rfl | (rename_i y; cases y <;> rfl))
@[go_sem] theorem via_s {k : AV → VS → Prop} {z sz' m : Nat} {f : Nat → List AV} {q : IntKind} {i : Int} : via s k (some z) (some (.int q i)) (.sl sz' m f) = (sz' = z ∧ 0 ≤ i ∧ i < m ∧ k (.bptr (f i.toNat)) s) := _root_.id rfl
def viaO (s : VS) (k : AV → VS → Prop) (z j : Nat) (i : Int) : Option (Option Ob) → Prop
  | some (some ob) => ob.sz = z ∧ 0 ≤ i ∧ i < ob.n ∧ k (.ptr j z i.toNat 0) s
  | _ => False
@[go_sem] theorem via_o {k : AV → VS → Prop} {z j : Nat} {q : IntKind} {i : Int} : via s k (some z) (some (.int q i)) (.own j) = viaO s k z j i (s.mem[j]?) := by
  simp only [via]
  generalize s.mem[j]? = v
  cases v with
  | none => rfl
  | some v => cases v <;> rfl
@[go_sem] theorem viaO_s {k : AV → VS → Prop} {z j : Nat} {i : Int} {ob : Ob} : viaO s k z j i (some (some ob)) = (ob.sz = z ∧ 0 ≤ i ∧ i < ob.n ∧ k (.ptr j z i.toNat 0) s) := _root_.id rfl
end
end
end Go.Proofs.Ytcnmgfbafcnkhaa.V
