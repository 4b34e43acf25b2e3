import Derived.Test.YtbjkgfooangjhaaDoorMB
import Derived.SizedLaws
import Derived.ProofKit
import Derived.Deep.Slices
/- The value machine, part 13: a law's arguments as abstract values, and the law out of a contract. -/
namespace Go.Proofs.YtbjkgfooangjhaaDoor.V
open Go.RowKit
set_option linter.unusedVariables false
set_option linter.unusedSimpArgs false

/-- cells read as abstract values, none of them the call's own -/
def RepA (w : World) (hd : Nat → Value) (as : List AV) (cs : List Value) : Prop := as.length = cs.length ∧ ∀ (j : Nat) a u, as[j]? = some a → cs[j]? = some u → Rep w (fun _ => True) hd 0 a u
def All2 {α β : Type} (p : α → β → Prop) : List α → List β → Prop
  | [], [] => True
  | a :: r, b :: r' => p a b ∧ All2 p r r'
  | _, _ => False
/-- what cells of a type look like -/
def Shape (P : Program) : Nat → TypeId → List AV → Prop
  | 0, _, _ => True
  | n + 1, t, as => match P.underlying t with
    | some .bool => ∃ b, as = [.lit (.bool b)]
    | some (.int k) => ∃ i, as = [.lit (.int k i)] ∧ (Lit.int k i).wf = true
    | some .string => ∃ s, as = [.lit (.string s)] ∧ s.size ≤ maxLen
    | some (.slice e) => ∃ m f, as = [.sl (P.cellsOf e) m f] ∧ m ≤ maxLen ∧ ∀ i, i < m → (f i).length = P.cellsOf e ∧ Shape P n e (f i)
    | some (.struct fs) => ∃ parts : List (List AV), All2 (fun (f : Field) c => c.length = P.cellsOf f.type ∧ Shape P n f.type c) fs.toList parts ∧ as = parts.flatten
    | _ => True

theorem all2_nil {α β : Type} {p : α → β → Prop} {l : List β} : All2 p [] l ↔ l = [] := by cases l <;> simp [All2]
theorem all2_cons {α β : Type} {p : α → β → Prop} {a : α} {r : List α} {l : List β} : All2 p (a :: r) l ↔ ∃ b l', l = b :: l' ∧ p a b ∧ All2 p r l' := by
  cases l with
  | nil => simp [All2]
  | cons b l => exact ⟨fun h => ⟨b, l, rfl, h⟩, fun ⟨_, _, e, h⟩ => by cases e; exact h⟩
section
variable {P : Program} {n : Nat} {t e : TypeId} {xs : List AV}
theorem shape_bool (hu : P.underlying t = some .bool) (h : Shape P (n + 1) t xs) : ∃ b, xs = [.lit (.bool b)] := by unfold Shape at h; rw [hu] at h; exact h
theorem shape_int {k : IntKind} (hu : P.underlying t = some (.int k)) (h : Shape P (n + 1) t xs) : ∃ i, xs = [.lit (.int k i)] ∧ (Lit.int k i).wf = true := by unfold Shape at h; rw [hu] at h; exact h
theorem shape_string (hu : P.underlying t = some .string) (h : Shape P (n + 1) t xs) : ∃ s, xs = [.lit (.string s)] ∧ s.size ≤ maxLen := by unfold Shape at h; rw [hu] at h; exact h
theorem shape_slice (hu : P.underlying t = some (.slice e)) (h : Shape P (n + 1) t xs) : ∃ m f, xs = [.sl (P.cellsOf e) m f] ∧ m ≤ maxLen ∧ ∀ i, i < m → (f i).length = P.cellsOf e ∧ Shape P n e (f i) := by unfold Shape at h; rw [hu] at h; exact h
theorem shape_struct {fs : Array Field} (hu : P.underlying t = some (.struct fs)) (h : Shape P (n + 1) t xs) : ∃ parts : List (List AV), All2 (fun (f : Field) c => c.length = P.cellsOf f.type ∧ Shape P n f.type c) fs.toList parts ∧ xs = parts.flatten := by unfold Shape at h; rw [hu] at h; exact h
end
section
variable {w : World} {hd : Nat → Value}
theorem RepA.nil : RepA w hd [] [] := ⟨rfl, fun j a u h => by simp at h⟩
theorem RepA.append {a b : List AV} {c d : List Value} (h : RepA w hd a c) (h' : RepA w hd b d) : RepA w hd (a ++ b) (c ++ d) := by
  refine ⟨by simp [h.1, h'.1], fun j x u hx hu => ?_⟩
  by_cases hj : j < a.length
  · rw [List.getElem?_append_left hj] at hx
    rw [List.getElem?_append_left (by rw [← h.1]; exact hj)] at hu
    exact h.2 j x u hx hu
  · rw [List.getElem?_append_right (by omega)] at hx
    rw [List.getElem?_append_right (by rw [← h.1]; omega), ← h.1] at hu
    exact h'.2 _ x u hx hu
theorem RepA.one {a : AV} {u : Value} (h : Rep w (fun _ => True) hd 0 a u) : RepA w hd [a] [u] := by
  refine ⟨rfl, fun j x v hx hv => ?_⟩
  cases j with
  | zero => simp at hx hv; subst hx; subst hv; exact h
  | succ j => simp at hx
theorem RepA.undefs (cs : List Value) : RepA w hd (cs.map fun _ => .undef) cs := by
  refine ⟨by simp, fun j a u hx hu => ?_⟩
  rw [List.getElem?_map, hu] at hx
  simp at hx
  subst hx
  exact .undef u

theorem pieces {cs0 : List Value} (sz : Field → Nat) : ∀ (fs : List Field) (o : Nat), (∀ (j : Nat) f, fs[j]? = some f → f.offset = o + ((fs.take j).map sz).sum) → (cs0.drop o).length = (fs.map sz).sum →
    cs0.drop o = (fs.map fun f => (cs0.drop f.offset).take (sz f)).flatten
  | [], o, _, h => by
    simp only [List.map_nil, List.sum_nil, List.flatten_nil] at h ⊢
    exact List.length_eq_zero_iff.mp h
  | f :: fs, o, ho, h => by
    have e0 : f.offset = o := by simpa using ho 0 f rfl
    have hl : (cs0.drop (o + sz f)).length = (fs.map sz).sum := by
      simp only [List.map_cons, List.sum_cons, List.length_drop] at h ⊢
      omega
    have := pieces sz fs (o + sz f) (fun j g hg => by
      have := ho (j + 1) g (by simpa using hg)
      simp only [List.take_succ_cons, List.map_cons, List.sum_cons] at this
      omega) hl
    simp only [List.map_cons, List.flatten_cons]
    rw [← this, e0, ← List.drop_drop]
    exact (List.take_append_drop _ _).symm

variable {H : Type} {enc : TypeId × Value → H} {P : Program} {sp : Nat → Bool} {held : Bool}

theorem flat_all2 {p : Field → List AV → Prop} {g : Field → List Value} : ∀ (fs : List Field), (∀ f, f ∈ fs → ∃ as, RepA w hd as (g f) ∧ p f as) → ∃ parts, All2 p fs parts ∧ RepA w hd parts.flatten (fs.map g).flatten
  | [], _ => ⟨[], trivial, .nil⟩
  | f :: fs, h => by
    obtain ⟨as, h1, h2⟩ := h f (by simp)
    obtain ⟨parts, h3, h4⟩ := flat_all2 fs fun f hf => h f (by simp [hf])
    exact ⟨as :: parts, ⟨h2, h3⟩, by simpa using h1.append h4⟩

theorem take_sum_le (l : List Nat) (k : Nat) : (l.take k).sum ≤ l.sum := by
  have : (l.take k).sum + (l.drop k).sum = l.sum := by rw [← List.sum_append_nat, List.take_append_drop]
  omega
instance : Inhabited AV := ⟨.undef⟩
theorem open_shape (hl : laidOutB P = true) (hz : ∀ t e, t < P.types.size → P.underlying t = some (.slice e) → 0 < P.cellsOf e) : ∀ (n fuel : Nat) (t : TypeId) (cs : List Value) (x : DataW H × List MemPlace), t < P.types.size →
    DataW.trod enc P w 0 sp held fuel t cs = some x → ∃ as, RepA w hd as cs ∧ Shape P n t as
  | 0, fuel, t, cs, x, ht, h => ⟨_, .undefs cs, trivial⟩
  | n + 1, fuel, t, cs, x, ht, h => by
    unfold Shape
    cases hu : P.underlying t with
    | none => exact ⟨_, .undefs cs, trivial⟩
    | some D =>
      cases D with
      | bool =>
        obtain ⟨b, rfl, _⟩ := DataW.trod_bool hu h
        exact ⟨_, .one (.lit _), b, rfl⟩
      | int k =>
        obtain ⟨i, rfl, _, hw⟩ := DataW.trod_int hu h
        exact ⟨_, .one (.lit _), i, rfl, hw⟩
      | string =>
        obtain ⟨s, rfl, _, hw⟩ := DataW.trod_string hu h
        exact ⟨_, .one (.lit _), s, rfl, hw⟩
      | slice e =>
        have hse := hz t e ht hu
        rcases Go.Deep.open_slice hu h with ⟨rfl, _⟩ | ⟨a, len, cap, m, k, D, Pl, rfl, hb, hlc, hm, hmm, _, hx⟩
        · refine ⟨[.sl (P.cellsOf e) 0 (fun _ => [])], .one (.sl _ _ _ _ _ (fun _ _ => undef) (Nat.le_refl _) (by omega) hse (fun i hi => by omega) (fun h => by omega) (fun i j a hi => by omega)), 0, _, rfl, by simp [maxLen], fun i hi => by omega⟩
        · have hlm : len ≤ m := by rw [hmm]; split <;> omega
          have hmx : len ≤ 9223372036854775807 := by simp only [maxLen] at hm; omega
          have each : ∀ i, i < len → ∃ q : List AV × List Value, w.cells? 0 (a.add (i * P.cellsOf e)) (P.cellsOf e) = some q.2 ∧ RepA w hd q.1 q.2 ∧ Shape P n e q.1 := by
            intro i hi
            obtain ⟨cs', h1, h2⟩ := hx i (by omega)
            obtain ⟨as, h3, h4⟩ := open_shape hl hz n k e cs' _ (kid_slice hl ht hu) h2
            exact ⟨(as, cs'), h1, h3, h4⟩
          obtain ⟨q, hq⟩ := Go.Deep.choose_lt each
          refine ⟨[.sl (P.cellsOf e) len (fun i => (q i).1)], .one (.sl _ _ _ _ _ (fun i j => (q i).2.getD j undef) hlc hmx hse (fun i hi => ?_) (fun _ => ⟨a, rfl, trivial, fun i j hi hj => ?_⟩) (fun i j av hi hav => ?_)), len, _, rfl, by simp only [maxLen] at hm ⊢; omega, fun i hi => ⟨?_, (hq i hi).2.2⟩⟩
          · rw [(hq i hi).2.1.1]; exact (World.cells?_some (hq i hi).1).2.1
          · obtain ⟨_, h2, h3⟩ := World.cells?_some (hq i hi).1
            have := h3 j hj
            rw [Go.Deep.add_add] at this
            rw [this, List.getD_eq_getElem?_getD, List.getElem?_eq_getElem (by omega)]
            rfl
          · have hj : j < (q i).2.length := by rw [← (hq i hi).2.1.1]; exact (List.getElem?_eq_some_iff.mp hav).1
            refine (hq i hi).2.1.2 j av _ hav ?_
            rw [List.getD_eq_getElem?_getD, List.getElem?_eq_getElem hj]
            rfl
          · rw [(hq i hi).2.1.1]; exact (World.cells?_some (hq i hi).1).2.1
      | struct fs =>
        obtain ⟨xs, k, _, _, hlen, hxl, hf⟩ := DataW.trod_struct hu h
        obtain ⟨hk1, hk2, hk3⟩ := kid_struct hl ht hu
        have hp := pieces (cs0 := cs) (fun f => P.cellsOf f.type) fs.toList 0 (fun j f hj => by simpa using hk3 j f hj) (by simpa [hlen] using hk2)
        have each : ∀ f, f ∈ fs.toList → ∃ as, RepA w hd as ((cs.drop f.offset).take (P.cellsOf f.type)) ∧ (as.length = P.cellsOf f.type ∧ Shape P n f.type as) := by
          intro f hfm
          obtain ⟨j, hj, e⟩ := List.mem_iff_getElem.mp hfm
          have hj' : fs[j]? = some f := by rw [← Array.getElem?_toList, List.getElem?_eq_getElem hj, e]
          have h1 := hf j f hj'
          have hjx : j < xs.length := by rw [hxl]; simpa using hj
          rw [List.getElem?_eq_getElem hjx] at h1
          obtain ⟨as, h3, h4⟩ := open_shape hl hz n k f.type _ _ (hk1 f hfm) h1
          refine ⟨as, h3, ?_, h4⟩
          rw [h3.1, List.length_take, List.length_drop]
          have h5 := hk3 j f (by rw [Array.getElem?_toList]; exact hj')
          have h6 : ((fs.toList.take (j + 1)).map fun f => P.cellsOf f.type).sum ≤ (fs.toList.map fun f => P.cellsOf f.type).sum := by
            rw [List.map_take]
            exact take_sum_le _ _
          rw [List.take_add_one, List.getElem?_eq_getElem hj] at h6
          simp only [List.map_append, List.sum_append, e, Option.toList_some, List.map_cons, List.map_nil, List.sum_cons, List.sum_nil] at h6
          omega
        obtain ⟨parts, h1, h2⟩ := flat_all2 fs.toList each
        refine ⟨parts.flatten, ?_, parts, h1, rfl⟩
        rw [← hp] at h2
        simpa using h2
      | _ => exact ⟨_, .undefs cs, trivial⟩

/-- an argument's abstract value, of its cells -/
def avOf (P : Program) (t : TypeId) (as : List AV) : AV := match P.underlying t with
  | some (.struct _) => .agg as
  | some .bool | some (.int _) | some .string | some (.slice _) => as.headD .undef
  | _ => .undef
theorem open_arg (hl : laidOutB P = true) (hz : ∀ t e, t < P.types.size → P.underlying t = some (.slice e) → 0 < P.cellsOf e) (n : Nat) {r : Reach} {b0 : Nat} {t : TypeId} {v : Value} {d : DataW H} {ps : List MemPlace} (ht : t < P.types.size)
    (hval : Value.okWide P w r b0 t v) (h : DataW.Trod enc P w 0 sp held t v d ps) : ∃ as, (as.length = v.cells.size ∧ Shape P n t as) ∧ Rep w (fun _ => True) hd 0 (avOf P t as) v := by
  obtain ⟨fuel, h⟩ := h
  obtain ⟨as, h1, h2⟩ := open_shape (hd := hd) hl hz n fuel t _ _ ht h
  refine ⟨as, ⟨by simpa using h1.1, h2⟩, ?_⟩
  have one : ∀ (hv : v.cells = #[v]), Rep w (fun _ => True) hd 0 (as.headD .undef) v := by
    intro hv
    rw [hv] at h1
    obtain ⟨h3, h4⟩ := h1
    match as, h3 with
    | [a], _ => exact h4 0 a v rfl rfl
  unfold avOf
  unfold Value.okWide at hval
  cases hu : P.underlying t with
  | none => exact .undef v
  | some D =>
    rw [hu] at hval
    cases D with
    | struct fs =>
      obtain ⟨cs, rfl, _, _⟩ := hval
      have := Rep.agg (w := w) (ok := fun _ => True) (hd := hd) (m := 0) as cs.toList (by simpa [Value.cells] using h1.1) (by simpa [Value.cells] using h1.2)
      simpa using this
    | bool => exact one (by cases v <;> first | rfl | (simp [Cell.okWide, Cell.ok, hu] at hval))
    | int k => exact one (by cases v <;> first | rfl | (simp [Cell.okWide, Cell.ok, hu] at hval))
    | string => exact one (by cases v <;> first | rfl | (simp [Cell.okWide, Cell.ok, hu] at hval))
    | slice e => exact one (by cases v <;> first | rfl | (simp [Cell.okWide, Cell.ok, hu] at hval))
    | _ => exact .undef v

theorem open_args (hl : laidOutB P = true) (hz : ∀ t e, t < P.types.size → P.underlying t = some (.slice e) → 0 < P.cellsOf e) (n : Nat) {r : Reach} {b0 : Nat} : ∀ {ts : List TypeId} {vs : List Value} {ds : List (DataW H)} {ps : List MemPlace},
    (∀ t, t ∈ ts → t < P.types.size) → (∀ (j : Nat) t v, ts[j]? = some t → vs[j]? = some v → Value.okWide P w r b0 t v) → DataW.TrodAll enc P w 0 sp held ts vs ds ps →
    ∃ ass : List (List AV), All2 (fun t as => Shape P n t as) ts ass ∧ (List.zipWith (avOf P) ts ass).length = vs.length ∧ ∀ (j : Nat) a u, (List.zipWith (avOf P) ts ass)[j]? = some a → vs[j]? = some u → Rep w (fun _ => True) hd 0 a u
  | [], [], [], ps, _, _, h => ⟨[], trivial, rfl, fun j a u hj => by simp at hj⟩
  | t :: ts, v :: vs, d :: ds, ps, ht, hval, ⟨p, q, h1, h2, _⟩ => by
    obtain ⟨as, h3, h4⟩ := open_arg (hd := hd) hl hz n (ht t (by simp)) (hval 0 t v rfl rfl) h1
    obtain ⟨ass, h5, h6, h7⟩ := open_args hl hz n (fun t h => ht t (by simp [h])) (fun j t v hj hv => hval (j + 1) t v (by simpa using hj) (by simpa using hv)) h2
    refine ⟨as :: ass, ⟨h3.2, h5⟩, by simpa using h6, fun j a u ha hu => ?_⟩
    cases j with
    | zero => simp at ha hu; subst ha; subst hu; exact h4
    | succ j => exact h7 j a u (by simpa using ha) (by simpa using hu)

theorem trodAll_below (hl : laidOutB P = true) {W W' : World} (hb : Below W.heap.size W W') : ∀ {ts : List TypeId} {vs : List Value} {ds : List (DataW H)} {ps : List MemPlace},
    (∀ t, t ∈ ts → t < P.types.size ∧ P.readableRec t = true) → (∀ x ∈ ps, x.block < W.heap.size) → DataW.TrodAll enc P W 0 (fun _ => true) true ts vs ds ps → DataW.TrodAll enc P W' 0 (fun b => decide (b < W.heap.size)) true ts vs ds ps
  | [], [], [], _, _, _, h => h
  | t :: ts, v :: vs, d :: ds, ps, ht, hlt, ⟨p, q, h1, h2, e⟩ =>
    ⟨p, q, Below.trod hl (ht t (by simp)).2 (ht t (by simp)).1 h1 hb (fun x hx => hlt x (by rw [e]; exact List.mem_append_left _ hx)),
      trodAll_below hl hb (fun t h => ht t (by simp [h])) (fun x hx => hlt x (by rw [e]; exact List.mem_append_right _ hx)) h2, e⟩

/-- THE LAW OUT OF A CONTRACT -/
theorem law_of {f : FuncId} {fn : Func} {s : ChangeSpec} {tb : TypeId} (n : Nat) (hl : laidOutB P = true) (hz : ∀ t e, t < P.types.size → P.underlying t = some (.slice e) → 0 < P.cellsOf e) (hvars : s.vars = [])
    (hts : ∀ t, t ∈ fn.params.toList → t < P.types.size ∧ P.readableRec t = true) (hs : ∀ ds : List (DataW H), ds.length = fn.params.size → s.fn H ds = ⟨[.lit (.bool true)], ds, []⟩)
    (hrt : fn.resultTypes = #[tb]) (htb : P.underlying tb = some .bool)
    (hv : ∀ ass : List (List AV), All2 (fun t as => Shape P n t as) fn.params.toList ass → VFun P f (List.zipWith (avOf P) fn.params.toList ass) (fun av _ => av = .lit (.bool true)))
    {W : World} {base : Nat} {args : Array Value} {ds gs : List (DataW H)} {before : List MemPlace}
    (hval : ∀ (j : Nat) t v, fn.params[j]? = some t → args[j]? = some v → Value.okWide P W .any base t v)
    (hW : DataW.Whole enc P fn.params.toList s.vars false W args.toList ds gs before) :
    Calls P f args W fun e W' => ∃ v, e = .returned v ∧ s.post enc P fn false true false false W args v W' := by
  have hW' := hW
  have hlt := hW.lt
  obtain ⟨p, q, hA, hV, rfl, hfz, hnd⟩ := hW
  rw [hvars] at hV
  obtain ⟨rfl, rfl⟩ := Go.ChangeShapes.trodVars_none hV
  obtain ⟨ass, h1, h2, h3⟩ := open_args (hd := fun _ => undef) hl hz n (r := .any) (b0 := base) (fun t h => (hts t h).1) (fun j t v hj hv => hval j t v (by simpa using hj) (by simpa using hv)) hA
  have hlen : ds.length = fn.params.size := by
    have : ∀ {ts : List TypeId} {vs : List Value} {ds : List (DataW H)} {ps : List MemPlace}, DataW.TrodAll enc P W 0 (fun _ => true) true ts vs ds ps → ds.length = ts.length := by
      intro ts
      induction ts with
      | nil => intro vs ds ps h; cases vs <;> cases ds <;> first | rfl | exact h.elim
      | cons t ts ih => intro vs ds ps h; cases vs <;> cases ds <;> first | exact h.elim | (obtain ⟨_, _, _, h, _⟩ := h; simp [ih h])
    simpa using this hA
  have := (hv ass h1).2 W args.toList h2 h3
  simp only [Array.toArray_toList] at this
  refine this.mono fun e W' ⟨v, he, hg, hd, av, obs, hr, _, _, _, hrep⟩ => ⟨v, he, ?_⟩
  subst hr
  have hvb : v = .bool true := by cases hrep; rfl
  subst hvb
  have bel : Below W.heap.size W W' := (Below.refl _ W).grown hg (Nat.le_refl _) (fun k hk => by simp at hk)
  refine ⟨_, _, _, [], p, [], hW', ?_, ?_, ?_, bel.frame _, fun h => by cases h⟩
  · rw [hrt, List.append_nil, hs _ hlen]
    exact Go.ChangeShapes.trodAll_mk1 (shut_bool htb _)
  · rw [List.append_nil, hs _ hlen]
    exact trodAll_below hl bel hts (fun x hx => hlt x (by simpa using hx)) hA
  · rw [List.append_nil, hs _ hlen, hvars]
    rfl
end
end Go.Proofs.YtbjkgfooangjhaaDoor.V
