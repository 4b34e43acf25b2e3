/- The value machine, part 10: whole functions. -/
import Derived.Test.YtnjnkhmcdkjekaaVC
namespace Go.Proofs.Ytnjnkhmcdkjekaa.V
open Go.RowKit
set_option linter.unusedVariables false
set_option linter.unusedSimpArgs false

def vresL (P : Program) (s : VS) : List ResultVar → (List AV → Prop) → Prop
  | [], k => k []
  | .tmp t :: r, k => vresL P s r (fun l => k (lk s.tmps t :: l))
  | .cell t T :: r, k => vop P (.load T (.tmp t)) s (fun av _ => vresL P s r (fun l => k (av :: l)))
def joined : List AV → AV
  | [x] => x
  | l => .tup l
def exports (mem : List (Option Ob)) : List Nat → Option (List Ob)
  | [] => some []
  | k :: r => match mem[k]? with
    | some (some ob) => (exports mem r).map (ob :: ·)
    | _ => none
def ObSame (ob ob' : Ob) : Prop := ob.ty = ob'.ty ∧ ob.sz = ob'.sz ∧ ob.n = ob'.n ∧ ∀ i, i < ob'.n → ob.f i = ob'.f i ∧ (ob'.f i).all isLit = true
def ObsSame : List Ob → List Ob → Prop
  | [], [] => True
  | a :: r, b :: r' => ObSame a b ∧ ObsSame r r'
  | _, _ => False
/-- the end of a function: what it hands back -/
def vret (P : Program) (rs : List ResultVar) (R : AV → List Ob → Prop) (s : VS) : Prop :=
  vresL P s rs fun l => flatV (joined l) = true ∧ (ownsV (joined l)).Nodup ∧ ∃ obs obs', exports s.mem (ownsV (joined l)) = some obs ∧ ObsSame obs obs' ∧ R (ren (fun k => (ownsV (joined l)).idxOf k) (joined l)) obs'

def resM (tmps : Array Value) : ResultVar → Sem Value
  | .tmp t => pure (tmps.getD t undef)
  | .cell b t => do loadVar t (← asAddr (tmps.getD b undef))
theorem results_eq (fn : Func) (tmps : Array Value) : results fn tmps = (do let vs ← fn.results.mapM (resM tmps); pure (if h : vs.size = 1 then vs[0] else .tuple vs)) := rfl

section
variable {P : Program} {n : Nat} {base : Fr} {w0 w : World} {hd : Nat → Value} {s : VS} {a : Act}

theorem vresL_sound (h : RelH n base w0 hd s a w) : ∀ (rs : List ResultVar) {k : List AV → Prop}, vresL P s rs k → ∃ vs l, (rs.mapM (resM a.tmps)).run P w = .ok vs w ∧ vs.length = l.length ∧ (∀ (j : Nat) av v, l[j]? = some av → vs[j]? = some v → Rep w (okOf s.mem hd) hd s.mem.length av v) ∧ k l
  | [], k, hv => ⟨[], [], rfl, rfl, fun j av v hj => by simp at hj, hv⟩
  | .tmp t :: r, k, hv => by
    obtain ⟨vs, l, h1, h2, h3, h4⟩ := vresL_sound h r hv
    refine ⟨a.tmps.getD t undef :: vs, _, ?_, by simp [h2], fun j av v hj hv' => ?_, h4⟩
    · simp only [List.mapM_cons, Sem.run_bind, resM, Sem.run_pure, Result.andThen_ok, h1]
    · cases j with
      | zero =>
        simp only [List.getElem?_cons_zero, Option.some.injEq] at hj hv'
        subst hj; subst hv'
        exact h.tm t
      | succ j => exact h3 j av v (by simpa using hj) (by simpa using hv')
  | .cell t T :: r, k, hv => by
    simp only [vresL] at hv
    obtain ⟨v, av, g1, g2, g3⟩ := load_sound h hv
    obtain ⟨vs, l, h1, h2, h3, h4⟩ := vresL_sound h r g3
    refine ⟨v :: vs, av :: l, ?_, by simp [h2], fun j av' v' hj hv' => ?_, h4⟩
    · have key : ∃ ad, a.tmps.getD t undef = .pointer (some ad) := by
        change (Instr.loadAt T (a.tmps.getD t undef)).run P w = .ok v w at g1
        generalize a.tmps.getD t undef = x at g1
        unfold Instr.loadAt Instr.sureAddr at g1
        split at g1
        · exact ⟨_, rfl⟩
        · simp [Sem.run_bind, stuck, Sem.run, Result.andThen] at g1
      obtain ⟨ad, had⟩ := key
      change (Instr.loadAt T (a.tmps.getD t undef)).run P w = .ok v w at g1
      rw [had] at g1
      simp only [Instr.loadAt, Instr.sureAddr, Sem.run_bind, Sem.run_pure, Result.andThen_ok] at g1
      have e : (resM a.tmps (.cell t T)).run P w = .ok v w := by
        simp only [resM, had, asAddr, Sem.run_bind, Sem.run_pure, Result.andThen_ok, g1]
      simp only [List.mapM_cons, Sem.run_bind, e, Result.andThen_ok, h1, Sem.run_pure]
    · cases j with
      | zero =>
        simp only [List.getElem?_cons_zero, Option.some.injEq] at hj hv'
        subst hj; subst hv'
        exact g2
      | succ j => exact h3 j av' v' (by simpa using hj) (by simpa using hv')

theorem results_sound (h : RelH n base w0 hd s a w) {fn : Func} {k : List AV → Prop} (hv : vresL P s fn.results.toList k) : ∃ v l, (results fn a.tmps).run P w = .ok v w ∧ Rep w (okOf s.mem hd) hd s.mem.length (joined l) v ∧ k l := by
  obtain ⟨vs, l, h1, h2, h3, h4⟩ := vresL_sound h fn.results.toList hv
  refine ⟨if h : vs.length = 1 then vs[0] else .tuple vs.toArray, l, ?_, ?_, h4⟩
  · rw [results_eq, Array.mapM_eq_mapM_toList]
    simp only [Sem.run_bind, Sem.run_map, h1, Result.andThen_ok, Sem.run_pure]
    by_cases e : vs.length = 1
    · simp [e]
    · simp [e]
  · by_cases e : vs.length = 1
    · rw [dif_pos e]
      have hl : l.length = 1 := by omega
      match l, hl with
      | [x], _ => exact h3 0 x _ rfl (by simp)
    · rw [dif_neg e]
      have hj : joined l = .tup l := by
        unfold joined
        split
        · rename_i x; simp at h2; omega
        · rfl
      rw [hj]
      exact .tup l vs h2.symm h3

theorem exports_get {mem : List (Option Ob)} : ∀ {ks : List Nat} {obs : List Ob}, exports mem ks = some obs → obs.length = ks.length ∧ ∀ (j : Nat) ob, obs[j]? = some ob → ∃ k, ks[j]? = some k ∧ mem[k]? = some (some ob)
  | [], obs, h => by
    simp only [exports, Option.some.injEq] at h
    subst h
    exact ⟨rfl, fun j ob hj => by simp at hj⟩
  | k :: ks, obs, h => by
    simp only [exports] at h
    split at h
    · rename_i ob hob
      obtain ⟨r, hr, rfl⟩ := Option.map_eq_some_iff.1 h
      obtain ⟨h1, h2⟩ := exports_get hr
      refine ⟨by simp [h1], fun j o hj => ?_⟩
      cases j with
      | zero =>
        simp only [List.getElem?_cons_zero, Option.some.injEq] at hj
        subst hj
        exact ⟨k, rfl, hob⟩
      | succ j => exact h2 j o (by simpa using hj)
    · simp at h

theorem obsSame_get : ∀ {l l' : List Ob}, ObsSame l l' → l.length = l'.length ∧ ∀ (j : Nat) ob', l'[j]? = some ob' → ∃ ob, l[j]? = some ob ∧ ObSame ob ob'
  | [], [], _ => ⟨rfl, fun j ob hj => by simp at hj⟩
  | a :: r, b :: r', h => by
    obtain ⟨h1, h2⟩ := obsSame_get h.2
    refine ⟨by simp [h1], fun j ob' hj => ?_⟩
    cases j with
    | zero =>
      simp only [List.getElem?_cons_zero, Option.some.injEq] at hj
      subst hj
      exact ⟨a, rfl, h.1⟩
    | succ j => exact h2 j ob' (by simpa using hj)
  | [], _ :: _, h => h.elim
  | _ :: _, [], h => h.elim

theorem vret_sound {fn : Func} {R : AV → List Ob → Prop} {hd0 : Nat → Value} (h : RelH n ⟨P, (fun b => w0.heap.size ≤ b), hd0⟩ w0 hd s a w) (hv : vret P fn.results.toList R s) :
    ∃ v, (results fn a.tmps).run P w = .ok v w ∧ w0.grownBy w none ∧ ∃ hd av obs, R av obs ∧ flatV av = true ∧ (∀ ob, ob ∈ obs → ∀ i, i < ob.n → (ob.f i).all isLit = true) ∧
      MemRel (fun b => w0.heap.size ≤ b) w hd (obs.map some) ∧ Rep w (fun _ => True) hd obs.length av v := by
  obtain ⟨v, l, h1, h2, hfl, hnd, obs, obs', hex, hsame, hR⟩ := results_sound h hv
  obtain ⟨g1, g2⟩ := exports_get hex
  obtain ⟨g3, g4⟩ := obsSame_get hsame
  generalize hks : ownsV (joined l) = ks at *
  have at_ : ∀ (j : Nat) ob', obs'[j]? = some ob' → ∃ k ob, ks[j]? = some k ∧ s.mem[k]? = some (some ob) ∧ ObSame ob ob' := by
    intro j ob' hj
    obtain ⟨ob, e1, e2⟩ := g4 j ob' hj
    obtain ⟨k, e3, e4⟩ := g2 j ob e1
    exact ⟨k, ob, e3, e4, e2⟩
  have toMap : ∀ (j : Nat) ob', (obs'.map some)[j]? = some (some ob') → obs'[j]? = some ob' := by
    intro j ob' hj
    rw [List.getElem?_map, Option.map_eq_some_iff] at hj
    obtain ⟨o, h1, h2⟩ := hj
    simp only [Option.some.injEq] at h2
    rw [← h2]; exact h1
  refine ⟨v, h1, ⟨h.below.os, h.below.tape, h.below.output, h.below.size, fun k hk _ => h.below.block k hk (by simp only; omega)⟩, fun j => hd (ks.getD j 0), _, obs', hR, ?_, ?_, ⟨fun j ob' hj b hb => ?_, fun j ob' hj => ?_, fun j hj => ?_, fun j j' o o' hj hj' hne => ?_⟩, ?_⟩
  · -- flat
    have f1 : ∀ x, flat1 (ren1 (fun k => ks.idxOf k) x) = flat1 x := by intro x; cases x <;> rfl
    have f2 : ∀ x, flat2 (ren2 (fun k => ks.idxOf k) x) = flat2 x := by
      intro x
      cases x with
      | agg cs => simp [flat2, ren2, Function.comp_def, f1]
      | _ => rfl
    have f3 : ∀ x, flatV (ren (fun k => ks.idxOf k) x) = flatV x := by
      intro x
      cases x with
      | tup vs => simp [flatV, ren, Function.comp_def, f2]
      | agg cs => exact f2 (.agg cs)
      | _ => rfl
    exact (f3 _).trans hfl
  · intro ob' hob' i hi
    obtain ⟨j, hj⟩ := List.getElem?_of_mem hob'
    obtain ⟨k, ob, _, _, e⟩ := at_ j ob' hj
    exact (e.2.2.2 i hi).2
  · obtain ⟨k, ob, e1, e2, _⟩ := at_ j ob' (toMap j ob' hj)
    simp only [List.getD_eq_getElem?_getD, e1, Option.getD_some] at hb
    exact h.me.alw k ob e2 b hb
  · obtain ⟨k, ob, e1, e2, e3, e4, e5, e6⟩ := at_ j ob' (toMap j ob' hj)
    obtain ⟨hs, vals, ho, hr⟩ := h.me.obs k ob e2
    simp only [List.getD_eq_getElem?_getD, e1, Option.getD_some]
    refine ⟨by omega, vals, by rw [← e3, ← e4, ← e5]; exact ho, fun i hi => ?_⟩
    obtain ⟨q1, q2⟩ := hr i (by omega)
    obtain ⟨q3, q4⟩ := e6 i hi
    rw [q3, e4] at q1 q2
    refine ⟨q1, fun c av hc => ?_⟩
    obtain ⟨u, r1, r2, r3⟩ := q2 c av hc
    have hl := List.all_eq_true.1 q4 av (List.mem_of_getElem? hc)
    refine ⟨u, r1, r2, ?_⟩
    cases av <;> simp [isLit] at hl
    cases r3; exact .lit _
  · have hj' : j < ks.length := by simp at hj; omega
    simp only [List.getD_eq_getElem?_getD, List.getElem?_eq_getElem hj', Option.getD_some]
    have : ∃ ob', obs'[j]? = some ob' := ⟨obs'[j]'(by simpa using hj), by simp⟩
    obtain ⟨ob', hob'⟩ := this
    obtain ⟨k, ob, e1, e2, _⟩ := at_ j ob' hob'
    rw [List.getElem?_eq_getElem hj'] at e1
    simp only [Option.some.injEq] at e1
    rw [e1]
    exact h.me.hds k (List.getElem?_eq_some_iff.1 e2).1
  · obtain ⟨k, ob, e1, e2, _⟩ := at_ j o (toMap j o hj)
    obtain ⟨k', ob2, e1', e2', _⟩ := at_ j' o' (toMap j' o' hj')
    simp only [List.getD_eq_getElem?_getD, e1, e1', Option.getD_some]
    refine h.me.apart k k' ob ob2 e2 e2' fun e => hne ?_
    subst e
    have l1 := (List.getElem?_eq_some_iff.1 e1)
    have l2 := (List.getElem?_eq_some_iff.1 e1')
    obtain ⟨l1a, l1b⟩ := l1
    obtain ⟨l2a, l2b⟩ := l2
    exact (List.getElem_inj hnd).1 (l1b.trans l2b.symm)
  · refine h2.ren_ hfl fun k hk hkm => ?_
    rw [hks] at hk
    have hi := List.idxOf_lt_length_of_mem hk
    refine ⟨by omega, ?_⟩
    simp only [List.getD_eq_getElem?_getD, List.getElem?_eq_getElem hi, Option.getD_some, List.getElem_idxOf]

/-- the state in which a function begins -/
def start (args : List AV) : VS := .of ((List.range args.length).map fun j => (j, args.getD j .undef)) []

theorem vfun_intro {f : FuncId} {fn : Func} {c : Code} {args : List AV} {R : AV → List Ob → Prop} (hf : P.funcs[f]? = some fn) (hn : (fn.name == "runtime.NumGoroutine") = false) (hb : fn.body = some c) (hl : args.length ≤ fn.ntmps)
    (h : vc P fn.ntmps c (start args) (fun x s => match x with
      | .exit _ => False
      | _ => vret P fn.results.toList R s)) : VFun P f args R := by
  refine ⟨⟨fn, hf, hn, by rw [hb]; rfl⟩, fun w vs hlen hrep => ?_⟩
  refine calls_of_wp hf hb ?_
  have hst : ∀ t, lk (start args).tmps t = args.getD t .undef := by
    intro t
    have : ∀ (l : List Nat) (t : Nat), lk (l.map fun j => (j, args.getD j .undef)) t = if t ∈ l then args.getD t .undef else .undef := by
      intro l t
      induction l with
      | nil => rfl
      | cons x l ih =>
        simp only [List.map_cons, lk]
        by_cases e : x = t
        · subst e; simp
        · rw [if_neg e, ih]
          have e' : ¬ t = x := fun h => e h.symm
          simp [e']
    rw [start, this]
    by_cases ht : t < args.length
    · rw [if_pos (by simpa using ht)]
    · rw [if_neg (by simpa using ht), List.getD_eq_getElem?_getD, List.getElem?_eq_none (by omega)]; rfl
  have hrel : RelH fn.ntmps ⟨P, (fun b => w.heap.size ≤ b), fun _ => undef⟩ w (fun _ => undef) (start args) { tmps := vs.toArray ++ Array.replicate (fn.ntmps - vs.toArray.size) undef, defers := [] } w := by
    refine ⟨rfl, by simp; omega, Bel.refl _ _, fun b hb => hb, Nat.zero_le _, fun k hk => by simp [start] at hk, fun b mp hb => by simp [start, lkm] at hb, fun t => ?_, ⟨fun k ob hk => by simp [start] at hk, fun k ob hk => by simp [start] at hk, fun k hk => by simp [start] at hk, fun k k' ob ob' hk => by simp [start] at hk⟩⟩
    rw [hst]
    by_cases ht : t < args.length
    · have h1 : (vs.toArray ++ Array.replicate (fn.ntmps - vs.toArray.size) undef).getD t undef = vs[t]'(by omega) := by
        rw [Array.getD_eq_getD_getElem?, Array.getElem?_append_left (by simp; omega)]
        simp [show t < vs.length by omega]
      rw [h1, List.getD_eq_getElem?_getD, List.getElem?_eq_getElem ht]
      exact (hrep t _ _ (List.getElem?_eq_getElem ht) (List.getElem?_eq_getElem (by omega))).mono (fun ad u _ hc => ⟨hc, fun k ob hk => by simp [start] at hk⟩) (fun _ _ => rfl) (Nat.le_refl _)
    · rw [List.getD_eq_getElem?_getD, List.getElem?_eq_none (by omega)]; exact .undef _
  refine vc_sound rfl c hrel h fun x hd' s' a' w' h' hk => ?_
  cases x with
  | exit id => exact hk.elim
  | normal =>
    obtain ⟨v, h1, h2⟩ := vret_sound h' hk
    exact ⟨h'.defers, v, h1, v, rfl, h2⟩
  | ret =>
    obtain ⟨v, h1, h2⟩ := vret_sound h' hk
    exact ⟨h'.defers, v, h1, v, rfl, h2⟩
end
end Go.Proofs.Ytnjnkhmcdkjekaa.V
