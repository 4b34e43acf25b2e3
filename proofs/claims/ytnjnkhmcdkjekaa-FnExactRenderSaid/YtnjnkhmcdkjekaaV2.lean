/- The value machine, part 2: what single operations do to abstract values, and that the model does the same. -/
import Derived.Test.YtnjnkhmcdkjekaaV1
namespace Go.Proofs.Ytnjnkhmcdkjekaa.V
open Go.RowKit
set_option linter.unusedVariables false
set_option linter.unusedSimpArgs false

/-! types -/
def tsz (P : Program) (t : TypeId) : Option Nat := match (sizeOf t).run P default with | .ok n _ => some n | _ => none
def tagg (P : Program) (t : TypeId) : Option Bool := match (isAgg t).run P default with | .ok n _ => some n | _ => none
theorem sizeOf_eq (P : Program) (t : TypeId) (w : World) : (sizeOf t).run P w = match P.info? t with | some i => .ok i.size w | none => .halt (.stuck "no such type") w := by
  have e : sizeOf t = Sem.program fun p => (match p.info? t with | some i => (Sem.pure i : Sem TypeInfo) | none => stuck "no such type").bind fun x => Sem.pure x.size := rfl
  rw [e]; simp only [Sem.run]
  cases P.info? t <;> rfl
theorem isAgg_eq (P : Program) (t : TypeId) (w : World) : (isAgg t).run P w = match P.underlying t with | some (.struct _) => .ok true w | some (.array _ _) => .ok true w | some _ => .ok false w | none => .halt (.stuck "no such type") w := by
  have e : isAgg t = Sem.program fun p => (match p.underlying t with | some i => (Sem.pure i : Sem TypeDesc) | none => stuck "no such type").bind fun x => match x with | .struct _ => Sem.pure true | .array _ _ => Sem.pure true | _ => Sem.pure false := rfl
  rw [e]; simp only [Sem.run]
  cases P.underlying t with
  | none => rfl
  | some d => cases d <;> rfl
theorem tsz_run {P : Program} {t : TypeId} {n : Nat} (h : tsz P t = some n) (w : World) : (sizeOf t).run P w = .ok n w := by
  unfold tsz at h
  rw [sizeOf_eq] at h ⊢
  cases hi : P.info? t <;> simp_all
theorem tagg_run {P : Program} {t : TypeId} {n : Bool} (h : tagg P t = some n) (w : World) : (isAgg t).run P w = .ok n w := by
  unfold tagg at h
  rw [isAgg_eq] at h ⊢
  cases hi : P.underlying t with
  | none => simp_all
  | some d => cases d <;> simp_all
theorem und_run {P : Program} {t : TypeId} {d : TypeDesc} (h : P.underlying t = some d) (w : World) : (underlying t).run P w = .ok d w := by
  unfold underlying program
  simp [bind, Sem.bind, Sem.run, h, pure]

/-! cells -/
def avCells : AV → List AV
  | .agg cs => cs
  | .undef => []
  | .lit v => v.cells.toList.map .lit
  | x => [x]
def oneAV : AV → Bool
  | .lit v => v.oneCell'
  | .sl _ _ _ => true
  | .own _ => true
  | .sub _ _ _ _ => true
  | .ptr _ _ _ _ => true
  | .bptr _ => true
  | _ => false
def litsOf : List AV → Option (List Value)
  | [] => some []
  | .lit v :: r => (litsOf r).map (v :: ·)
  | _ => none
def toVal : AV → Option Value
  | .lit v => some v
  | .agg cs => (litsOf cs).map fun vs => .agg vs.toArray
  | _ => none

section
variable {w : World} {ok : Nat → Prop} {hd : Nat → Value} {m : Nat}
theorem Rep.cells_ {av : AV} {v : Value} (h : Rep w ok hd m av v) (hne : avCells av ≠ [] ∨ av ≠ .undef) (hh : ∀ k, k < m → ∃ A n c, hd k = .slice A n c) : v.cells.size = (avCells av).length ∧ ∀ (j : Nat) a, (avCells av)[j]? = some a → ∃ u, v.cells[j]? = some u ∧ Rep w ok hd m a u := by
  cases h with
  | undef v => simp [avCells] at hne
  | lit v => exact ⟨by simp [avCells], fun j a hj => by
      simp only [avCells, List.getElem?_map, Option.map_eq_some_iff] at hj
      obtain ⟨u, h1, rfl⟩ := hj
      exact ⟨u, by simpa using h1, .lit u⟩⟩
  | agg cs vs hl h => exact ⟨by simp [avCells, Value.cells, hl], fun j a hj => by
      simp only [avCells] at hj
      have hj' : j < vs.length := by rw [← hl]; exact (List.getElem?_eq_some_iff.1 hj).1
      exact ⟨vs[j], by simp [Value.cells, hj'], h j a _ hj (by simp [hj'])⟩⟩
  | tup cs vs hl h => exact ⟨by simp [avCells, Value.cells], fun j a hj => by
      cases j with
      | zero => simp only [avCells, List.getElem?_cons_zero, Option.some.injEq] at hj; subst hj; exact ⟨_, rfl, .tup cs vs hl h⟩
      | succ j => simp [avCells] at hj⟩
  | sl sz n f A c u hc hm hsz hl ha h => exact ⟨by simp [avCells, Value.cells], fun j a hj => by
      cases j with
      | zero => simp only [avCells, List.getElem?_cons_zero, Option.some.injEq] at hj; subst hj; exact ⟨_, rfl, .sl sz n f A c u hc hm hsz hl ha h⟩
      | succ j => simp [avCells] at hj⟩
  | own k hk =>
    obtain ⟨A, n, c, e⟩ := hh k hk
    exact ⟨by simp [avCells, e, Value.cells], fun j a hj => by
      cases j with
      | zero => simp only [avCells, List.getElem?_cons_zero, Option.some.injEq] at hj; subst hj; exact ⟨hd k, by simp [e, Value.cells], .own k hk⟩
      | succ j => simp [avCells] at hj⟩
  | sub k sz lo n A c hk hc ha => exact ⟨by simp [avCells, Value.cells], fun j a hj => by
      cases j with
      | zero => simp only [avCells, List.getElem?_cons_zero, Option.some.injEq] at hj; subst hj; exact ⟨_, rfl, .sub k sz lo n A c hk hc ha⟩
      | succ j => simp [avCells] at hj⟩
  | ptr k sz i j b n' c' hk h => exact ⟨by simp [avCells, Value.cells], fun j' a hj => by
      cases j' with
      | zero => simp only [avCells, List.getElem?_cons_zero, Option.some.injEq] at hj; subst hj; exact ⟨_, rfl, .ptr k sz i j b n' c' hk h⟩
      | succ j => simp [avCells] at hj⟩
  | bptr cs ad u hne' hok hc h => exact ⟨by simp [avCells, Value.cells], fun j a hj => by
      cases j with
      | zero => simp only [avCells, List.getElem?_cons_zero, Option.some.injEq] at hj; subst hj; exact ⟨_, rfl, .bptr cs ad u hne' hok hc h⟩
      | succ j => simp [avCells] at hj⟩
theorem Rep.one_ {av : AV} {v : Value} (h : Rep w ok hd m av v) (h1 : oneAV av = true) (hh : ∀ k, k < m → ∃ A n c, hd k = .slice A n c) : v.oneCell' = true := by
  cases h with
  | undef v => simp [oneAV] at h1
  | lit v => exact h1
  | agg cs vs hl h => simp [oneAV] at h1
  | tup cs vs hl h => simp [oneAV] at h1
  | own k hk => obtain ⟨A, n, c, e⟩ := hh k hk; rw [e]; rfl
  | _ => rfl
theorem lits_rep {cs : List AV} {ls : List Value} (hl : litsOf cs = some ls) {vs : List Value} (hlen : cs.length = vs.length) (h : ∀ (j : Nat) a u, cs[j]? = some a → vs[j]? = some u → Rep w ok hd m a u) : vs = ls := by
  induction cs generalizing ls vs with
  | nil =>
    simp only [litsOf, Option.some.injEq] at hl
    subst hl
    exact List.eq_nil_of_length_eq_zero (by simpa using hlen.symm)
  | cons c cs ih =>
    cases c with
    | lit v =>
      simp only [litsOf, Option.map_eq_some_iff] at hl
      obtain ⟨r, hr, hre⟩ := hl
      subst hre
      cases vs with
      | nil => simp at hlen
      | cons u vs =>
        have h0 := h 0 (.lit v) u rfl rfl
        cases h0
        have e := ih (vs := vs) hr (by simpa using hlen) (fun j a u' h1 h2 => h (j + 1) a u' (by simpa using h1) (by simpa using h2))
        rw [e]
    | _ => simp [litsOf] at hl
theorem Rep.val_ {av : AV} {v u : Value} (h : Rep w ok hd m av v) (hv : toVal av = some u) : v = u := by
  cases h with
  | lit v => simpa [toVal] using hv
  | agg cs vs hl h =>
    simp only [toVal, Option.map_eq_some_iff] at hv
    obtain ⟨ls, h1, rfl⟩ := hv
    rw [lits_rep h1 hl h]
  | _ => simp [toVal] at hv
end

/-- a read of type T out of cells from c on -/
def rd (P : Program) (T : TypeId) (cs : List AV) (c : Nat) (k : AV → Prop) : Prop :=
  match tagg P T, tsz P T with
  | some false, _ => c < cs.length ∧ k (cs.getD c .undef)
  | some true, some n => c + n ≤ cs.length ∧ k (.agg ((cs.drop c).take n))
  | _, _ => False

def fieldOff (P : Program) (T : TypeId) (f : Nat) : Option (TypeId × Nat) :=
  match P.underlying T with
  | some (.struct fs) => (fs[f]?).map fun x => (x.type, x.offset)
  | _ => none

theorem load_of {P : Program} {w : World} {ok : Nat → Prop} {hd : Nat → Value} {m : Nat} {T : TypeId} {cs : List AV} {c : Nat} {k : AV → Prop} (h : rd P T cs c k) (ad : Addr)
    (hc : ∀ (j : Nat) a, cs[j]? = some a → ∃ u, w.cell? (ad.add j) = some u ∧ Rep w ok hd m a u) : ∃ v av, (loadVar T (ad.add c)).run P w = .ok v w ∧ Rep w ok hd m av v ∧ k av := by
  unfold rd at h
  have add2 : ∀ j, (ad.add c).add j = ad.add (c + j) := by
    intro j
    unfold Addr.add
    by_cases h1 : c = 0 <;> by_cases h2 : j = 0 <;> simp [h1, h2]; omega
  split at h
  · rename_i h1
    obtain ⟨hl, hk⟩ := h
    obtain ⟨u, hu, hr⟩ := hc c cs[c] (by simp [hl])
    refine ⟨u, _, ?_, ?_, hk⟩
    · unfold loadVar
      simp only [Sem.run_bind, tagg_run h1, Result.andThen_ok, Bool.false_eq_true, if_false]
      simp [load, Sem.run, hu]
    · rw [List.getD_eq_getElem?_getD, List.getElem?_eq_getElem hl]; exact hr
  · rename_i n h1 h2
    obtain ⟨hl, hk⟩ := h
    have hf : ∀ j : Nat, ∃ u, j < n → w.cell? ((ad.add c).add j) = some u ∧ ∀ a, cs[c + j]? = some a → Rep w ok hd m a u := by
      intro j
      by_cases hj : j < n
      · obtain ⟨u, hu, hr⟩ := hc (c + j) (cs[c + j]'(by omega)) (by simp [show c + j < cs.length by omega])
        refine ⟨u, fun _ => ⟨by rw [add2]; exact hu, fun a ha => ?_⟩⟩
        rw [List.getElem?_eq_getElem (by omega)] at ha
        simp only [Option.some.injEq] at ha
        subst ha; exact hr
      · exact ⟨undef, fun h => absurd h hj⟩
    obtain ⟨g, hg⟩ : ∃ g : Nat → Value, ∀ j, j < n → w.cell? ((ad.add c).add j) = some (g j) ∧ ∀ a, cs[c + j]? = some a → Rep w ok hd m a (g j) := ⟨fun j => (hf j).choose, fun j => (hf j).choose_spec⟩
    refine ⟨.agg ((List.range n).map g).toArray, _, ?_, ?_, hk⟩
    · unfold loadVar
      simp only [Sem.run_bind, tagg_run h1, Result.andThen_ok, if_true, tsz_run h2]
      rw [run_loadCells (P := P) w (ad.add c) n g (fun j hj => (hg j hj).1)]
      simp [Sem.run, pure]
    · refine .agg _ _ (by simp; omega) fun j a u h3 h4 => ?_
      simp only [List.getElem?_map, Option.map_eq_some_iff] at h4
      obtain ⟨j', h5, rfl⟩ := h4
      have : j' = j ∧ j < n := by
        by_cases hj : j < n
        · rw [List.getElem?_range hj] at h5
          simp only [Option.some.injEq] at h5
          omega
        · rw [List.getElem?_eq_none (by simpa using hj)] at h5; simp at h5
      obtain ⟨rfl, hj⟩ := this
      refine (hg j' hj).2 a ?_
      rw [List.getElem?_take] at h3
      rw [if_pos hj, List.getElem?_drop] at h3
      exact h3
  · exact h.elim
end Go.Proofs.Ytnjnkhmcdkjekaa.V
