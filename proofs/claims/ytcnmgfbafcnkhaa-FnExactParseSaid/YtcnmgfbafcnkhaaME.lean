import Derived.Test.YtcnmgfbafcnkhaaMC
import Derived.Test.YtcnmgfbafcnkhaaMD
import Derived.Shelf.Strings.SlTrimAscii
/- The theory of operator precedence: trees, yields, the parser. Plain Lean, no program in sight. -/
namespace Go.Proofs.Ytcnmgfbafcnkhaa.Ops

/-- what is known of an operator: its level and its sort (1 left, 2 right, 3 lone) -/
structure Lv where
  lev : Int
  srt : Int

def Lv.h1 (a : Lv) : Int := if a.srt = 1 then a.lev else a.lev + 1
def Lv.h2 (a : Lv) : Int := if a.srt = 2 then a.lev else a.lev + 1

inductive Tr (α β : Type) where
  | leaf (b : β)
  | grp (t : Tr α β)
  | pre (o : α) (t : Tr α β)
  | post (o : α) (t : Tr α β)
  | inf (o : α) (l r : Tr α β)

inductive Tk (α β : Type) where
  | leaf (b : β)
  | pre (o : α)
  | inf (o : α)
  | post (o : α)
  | opn
  | cls

variable {α β : Type} (v : α → Lv)

def Tr.level : Tr α β → Int
  | .leaf _ => 1001
  | .grp _ => 1001
  | .pre o _ => (v o).lev
  | .post o _ => (v o).lev
  | .inf o _ _ => (v o).lev

def Tr.yield : Tr α β → List (Tk α β)
  | .leaf b => [.leaf b]
  | .grp t => .opn :: (t.yield ++ [.cls])
  | .pre o t => .pre o :: t.yield
  | .post o t => t.yield ++ [.post o]
  | .inf o l r => l.yield ++ .inf o :: r.yield

def Tr.Adm : Tr α β → Prop
  | .leaf _ => True
  | .grp t => t.Adm
  | .pre o t => (v o).h2 ≤ t.level v ∧ t.Adm
  | .post o t => (v o).h1 ≤ t.level v ∧ t.Adm
  | .inf o l r => (v o).h1 ≤ l.level v ∧ (v o).h2 ≤ r.level v ∧ l.Adm ∧ r.Adm

/-- each operator of the tree meets p; prefix operators are of the right sort, postfix ones of the left -/
def Tr.All (p : α → Prop) : Tr α β → Prop
  | .leaf _ => True
  | .grp t => t.All p
  | .pre o t => p o ∧ (v o).srt = 2 ∧ t.All p
  | .post o t => p o ∧ (v o).srt = 1 ∧ t.All p
  | .inf o l r => p o ∧ l.All p ∧ r.All p

/-- the levels lie in 1 .. 1000, one level has one sort -/
structure Good (p : α → Prop) : Prop where
  low : ∀ a, p a → 1 ≤ (v a).lev
  high : ∀ a, p a → (v a).lev ≤ 1000
  one : ∀ a b, p a → p b → (v a).lev = (v b).lev → (v a).srt = (v b).srt

abbrev Res (α β : Type) := Option (Option (Tr α β × List (Tk α β)))
def firstF (ope : Int → List (Tk α β) → Res α β) (ts : List (Tk α β)) : Res α β :=
  match ts with
  | .leaf b :: r => some (some (.leaf b, r))
  | .opn :: r =>
    match ope 0 r with
    | none => none
    | some none => some none
    | some (some (t, rest)) =>
      match rest with
      | .cls :: r' => some (some (.grp t, r'))
      | _ => some none
  | .pre o :: r =>
    match ope (v o).h2 r with
    | none => none
    | some none => some none
    | some (some (t, rest)) => some (some (.pre o t, rest))
  | _ => some none
def loopF (ope : Int → List (Tk α β) → Res α β) (lp : Int → Tr α β → List (Tk α β) → Res α β) (m : Int) (l : Tr α β) (ts : List (Tk α β)) : Res α β :=
  match ts with
  | .inf o :: r =>
    if (v o).lev < m then some (some (l, ts))
    else if l.level v < (v o).h1 then some (some (l, ts))
    else
      match ope (v o).h2 r with
      | none => none
      | some none => some none
      | some (some (t, rest)) => lp m (.inf o l t) rest
  | .post o :: r =>
    if (v o).lev < m then some (some (l, ts))
    else if l.level v < (v o).h1 then some (some (l, ts))
    else lp m (.post o l) r
  | _ => some (some (l, ts))
/- the operator-precedence parser: none: out of fuel; some none: no tree -/
mutual
def operand : Nat → Int → List (Tk α β) → Res α β
  | 0, _, _ => none
  | n + 1, m, ts =>
    match first n ts with
    | none => none
    | some none => some none
    | some (some (l, rest)) => if l.level v < m then some none else loop n m l rest
def first : Nat → List (Tk α β) → Res α β
  | 0, _ => none
  | n + 1, ts => firstF v (operand n) ts
def loop : Nat → Int → Tr α β → List (Tk α β) → Res α β
  | 0, _, _, _ => none
  | n + 1, m, l, ts => loopF v (operand n) (loop n) m l ts
end

/-! more fuel, the same answer -/
theorem mono_all (n : Nat) :
    (∀ m (ts : List (Tk α β)) r, operand v n m ts = some r → operand v (n + 1) m ts = some r) ∧
    (∀ (ts : List (Tk α β)) r, first v n ts = some r → first v (n + 1) ts = some r) ∧
    (∀ m (l : Tr α β) ts r, loop v n m l ts = some r → loop v (n + 1) m l ts = some r) := by
  induction n with
  | zero => exact ⟨fun _ _ _ h => by simp [operand] at h, fun _ _ h => by simp [first] at h, fun _ _ _ _ h => by simp [loop] at h⟩
  | succ n ih =>
    obtain ⟨iho, ihf, ihl⟩ := ih
    refine ⟨fun m ts r h => ?_, fun ts r h => ?_, fun m l ts r h => ?_⟩
    · rw [operand] at h ⊢
      cases hf : first v n ts with
      | none => rw [hf] at h; simp at h
      | some x =>
        rw [ihf _ _ hf]; rw [hf] at h
        cases x with
        | none => exact h
        | some y =>
          obtain ⟨l, rest⟩ := y
          simp only at h ⊢
          split
          · rename_i hl; rw [if_pos hl] at h; exact h
          · rename_i hl; rw [if_neg hl] at h; exact ihl _ _ _ _ h
    · rw [first] at h ⊢; unfold firstF at h ⊢
      split at h
      · exact h
      · rename_i r0
        cases ho : operand v n 0 r0 with
        | none => rw [ho] at h; simp at h
        | some x => rw [iho _ _ _ ho]; rw [ho] at h; exact h
      · rename_i o r0
        cases ho : operand v n (v o).h2 r0 with
        | none => rw [ho] at h; simp at h
        | some x => rw [iho _ _ _ ho]; rw [ho] at h; exact h
      · exact h
    · rw [loop] at h ⊢; unfold loopF at h ⊢
      split at h
      · rename_i o r0
        split
        · rename_i hc; rw [if_pos hc] at h; exact h
        · rename_i hc; rw [if_neg hc] at h
          split
          · rename_i hd; rw [if_pos hd] at h; exact h
          · rename_i hd; rw [if_neg hd] at h
            cases ho : operand v n (v o).h2 r0 with
            | none => rw [ho] at h; simp at h
            | some x =>
              rw [iho _ _ _ ho]; rw [ho] at h
              cases x with
              | none => exact h
              | some y => exact ihl _ _ _ _ h
      · rename_i o r0
        split
        · rename_i hc; rw [if_pos hc] at h; exact h
        · rename_i hc; rw [if_neg hc] at h
          split
          · rename_i hd; rw [if_pos hd] at h; exact h
          · rename_i hd; rw [if_neg hd] at h; exact ihl _ _ _ _ h
      · exact h

theorem operand_le {n n' : Nat} (h : n ≤ n') {m} {ts : List (Tk α β)} {r} (e : operand v n m ts = some r) : operand v n' m ts = some r := by
  induction h with
  | refl => exact e
  | step _ ih => exact (mono_all v _).1 _ _ _ ih
theorem first_le {n n' : Nat} (h : n ≤ n') {ts : List (Tk α β)} {r} (e : first v n ts = some r) : first v n' ts = some r := by
  induction h with
  | refl => exact e
  | step _ ih => exact (mono_all v _).2.1 _ _ ih
theorem loop_le {n n' : Nat} (h : n ≤ n') {m} {l : Tr α β} {ts : List (Tk α β)} {r} (e : loop v n m l ts = some r) : loop v n' m l ts = some r := by
  induction h with
  | refl => exact e
  | step _ ih => exact (mono_all v _).2.2 _ _ _ _ ih

/-! sound -/
theorem sound_all (n : Nat) :
    (∀ m (ts : List (Tk α β)) t rest, operand v n m ts = some (some (t, rest)) → ts = t.yield ++ rest ∧ t.Adm v ∧ m ≤ t.level v) ∧
    (∀ (ts : List (Tk α β)) t rest, first v n ts = some (some (t, rest)) → ts = t.yield ++ rest ∧ t.Adm v) ∧
    (∀ m (l : Tr α β) ts t rest, loop v n m l ts = some (some (t, rest)) → l.Adm v → m ≤ l.level v → l.yield ++ ts = t.yield ++ rest ∧ t.Adm v ∧ m ≤ t.level v) := by
  induction n with
  | zero => exact ⟨fun _ _ _ _ h => by simp [operand] at h, fun _ _ _ h => by simp [first] at h, fun _ _ _ _ _ h => by simp [loop] at h⟩
  | succ n ih =>
    obtain ⟨iho, ihf, ihl⟩ := ih
    refine ⟨fun m ts t rest h => ?_, fun ts t rest h => ?_, fun m l ts t rest h ha hm => ?_⟩
    · rw [operand] at h
      cases hf : first v n ts with
      | none => rw [hf] at h; simp at h
      | some x =>
        rw [hf] at h
        cases x with
        | none => simp at h
        | some y =>
          obtain ⟨l, r0⟩ := y
          simp only at h
          split at h
          · simp at h
          · rename_i hl
            obtain ⟨h1, h2⟩ := ihf _ _ _ hf
            obtain ⟨h3, h4, h5⟩ := ihl _ _ _ _ _ h h2 (by omega)
            exact ⟨by rw [h1, h3], h4, h5⟩
    · rw [first] at h; unfold firstF at h
      split at h
      · simp only [Option.some.injEq, Prod.mk.injEq] at h
        obtain ⟨rfl, rfl⟩ := h
        exact ⟨rfl, trivial⟩
      · rename_i r0
        cases ho : operand v n 0 r0 with
        | none => rw [ho] at h; simp at h
        | some x =>
          rw [ho] at h
          cases x with
          | none => simp at h
          | some y =>
            obtain ⟨t0, r1⟩ := y
            simp only at h
            split at h
            · simp only [Option.some.injEq, Prod.mk.injEq] at h
              obtain ⟨rfl, rfl⟩ := h
              obtain ⟨h1, h2, _⟩ := iho _ _ _ _ ho
              refine ⟨?_, h2⟩
              rw [h1]; simp [Tr.yield]
            · simp at h
      · rename_i o r0
        cases ho : operand v n (v o).h2 r0 with
        | none => rw [ho] at h; simp at h
        | some x =>
          rw [ho] at h
          cases x with
          | none => simp at h
          | some y =>
            obtain ⟨t0, r1⟩ := y
            simp only [Option.some.injEq, Prod.mk.injEq] at h
            obtain ⟨rfl, rfl⟩ := h
            obtain ⟨h1, h2, h3⟩ := iho _ _ _ _ ho
            refine ⟨?_, h3, h2⟩
            rw [h1]; simp [Tr.yield]
      · simp at h
    · rw [loop] at h; unfold loopF at h
      split at h
      · rename_i o r0
        split at h
        · simp only [Option.some.injEq, Prod.mk.injEq] at h
          obtain ⟨rfl, rfl⟩ := h
          exact ⟨rfl, ha, hm⟩
        · rename_i hc
          split at h
          · simp only [Option.some.injEq, Prod.mk.injEq] at h
            obtain ⟨rfl, rfl⟩ := h
            exact ⟨rfl, ha, hm⟩
          · rename_i hd
            cases ho : operand v n (v o).h2 r0 with
            | none => rw [ho] at h; simp at h
            | some x =>
              rw [ho] at h
              cases x with
              | none => simp at h
              | some y =>
                obtain ⟨t0, r1⟩ := y
                obtain ⟨h1, h2, h3⟩ := iho _ _ _ _ ho
                obtain ⟨h4, h5, h6⟩ := ihl _ _ _ _ _ h ⟨by omega, h3, ha, h2⟩ (by simp only [Tr.level]; omega)
                refine ⟨?_, h5, h6⟩
                rw [← h4, h1]; simp [Tr.yield]
      · rename_i o r0
        split at h
        · simp only [Option.some.injEq, Prod.mk.injEq] at h
          obtain ⟨rfl, rfl⟩ := h
          exact ⟨rfl, ha, hm⟩
        · rename_i hc
          split at h
          · simp only [Option.some.injEq, Prod.mk.injEq] at h
            obtain ⟨rfl, rfl⟩ := h
            exact ⟨rfl, ha, hm⟩
          · rename_i hd
            obtain ⟨h4, h5, h6⟩ := ihl _ _ _ _ _ h ⟨by omega, ha⟩ (by simp only [Tr.level]; omega)
            refine ⟨?_, h5, h6⟩
            rw [← h4]; simp [Tr.yield]
      · simp only [Option.some.injEq, Prod.mk.injEq] at h
        obtain ⟨rfl, rfl⟩ := h
        exact ⟨rfl, ha, hm⟩

/-! complete -/
/-- what follows stops a hole of least m -/
def Stop (m : Int) : List (Tk α β) → Prop
  | .inf o :: _ => (v o).lev < m
  | .post o :: _ => (v o).lev < m
  | _ => True
/-- what follows stops each hole on the tree's right edge -/
def Edge : Tr α β → List (Tk α β) → Prop
  | .pre o t, r => Stop v (v o).h2 r ∧ Edge t r
  | .inf o _ t, r => Stop v (v o).h2 r ∧ Edge t r
  | _, _ => True

theorem Edge.of_low {t : Tr α β} {r : List (Tk α β)} {m : Int} (ha : t.Adm v) (hm : m ≤ t.level v) (hs : Stop v m r) : Edge v t r := by
  induction t generalizing m with
  | leaf b => trivial
  | grp t => trivial
  | post o t => trivial
  | pre o t ih =>
    have h2 : (v o).lev ≤ (v o).h2 := by unfold Lv.h2; split <;> omega
    simp only [Tr.level] at hm
    have hs' : Stop v (v o).h2 r := by
      unfold Stop at hs ⊢
      split <;> simp_all <;> omega
    exact ⟨hs', ih ha.2 ha.1 hs'⟩
  | inf o l t _ ih =>
    have h2 : (v o).lev ≤ (v o).h2 := by unfold Lv.h2; split <;> omega
    simp only [Tr.level] at hm
    have hs' : Stop v (v o).h2 r := by
      unfold Stop at hs ⊢
      split <;> simp_all <;> omega
    exact ⟨hs', ih ha.2.2.2 ha.2.1 hs'⟩

/-- an operator that takes the tree as its left operand stops the tree's right edge -/
theorem Edge.of_op {p : α → Prop} (hg : Good v p) {t : Tr α β} {x : α} {tk : Tk α β} {r : List (Tk α β)} (hp : t.All v p) (hx : p x) (htk : tk = .inf x ∨ tk = .post x)
    (ha : t.Adm v) (hm : (v x).h1 ≤ t.level v) : Edge v t (tk :: r) := by
  have stop : ∀ m, (v x).lev < m → Stop v m (tk :: r) := by
    intro m h
    rcases htk with rfl | rfl <;> exact h
  have e1 : (v x).lev ≤ (v x).h1 := by unfold Lv.h1; split <;> omega
  have key : ∀ o, p o → (v x).h1 ≤ (v o).lev → (v x).lev < (v o).h2 := by
    intro o ho h
    by_cases he : (v x).lev = (v o).lev
    · have hs := hg.one x o hx ho he
      unfold Lv.h1 at h
      unfold Lv.h2
      split at h
      · rename_i h1
        rw [if_neg (by omega)]; omega
      · omega
    · have : (v o).lev ≤ (v o).h2 := by unfold Lv.h2; split <;> omega
      omega
  cases t with
  | leaf b => trivial
  | grp t => trivial
  | post o t => trivial
  | pre o t =>
    have hs : Stop v (v o).h2 (tk :: r) := stop _ (key o hp.1 hm)
    exact ⟨hs, Edge.of_low v ha.2 ha.1 hs⟩
  | inf o l t =>
    have hs : Stop v (v o).h2 (tk :: r) := stop _ (key o hp.1 hm)
    exact ⟨hs, Edge.of_low v ha.2.2.2 ha.2.1 hs⟩

theorem loop_stop {m : Int} {l : Tr α β} {r : List (Tk α β)} (hs : Stop v m r) : loop v 1 m l r = some (some (l, r)) := by
  rw [loop]; unfold loopF
  split
  · exact if_pos hs
  · exact if_pos hs
  · rfl

theorem complete {p : α → Prop} (hg : Good v p) (t : Tr α β) : ∀ (m : Int) (rest : List (Tk α β)) (n : Nat) (res : Option (Tr α β × List (Tk α β))), t.All v p → t.Adm v → m ≤ t.level v → Edge v t rest →
    loop v n m t rest = some res → ∃ n', operand v n' m (t.yield ++ rest) = some res := by
  induction t with
  | leaf b =>
    intro m rest n res _ _ hm _ h
    refine ⟨n + 2, ?_⟩
    rw [operand]
    have e : first v (n + 1) (Tr.yield (.leaf b) ++ rest) = some (some (.leaf b, rest)) := by rw [first]; unfold firstF; rfl
    rw [e]; simp only
    rw [if_neg (by omega)]
    exact loop_le v (by omega) h
  | grp t ih =>
    intro m rest n res hp ha hm _ h
    obtain ⟨n', h'⟩ := ih 0 (.cls :: rest) 1 _ hp ha (by
      cases t <;> simp only [Tr.level] <;> first | omega | (have := hg.low _ hp.1; omega)) (Edge.of_low v (m := t.level v) ha (by omega) trivial) (loop_stop v trivial)
    refine ⟨n + n' + 3, ?_⟩
    rw [operand]
    have e : first v (n + n' + 2) (Tr.yield (.grp t) ++ rest) = some (some (.grp t, rest)) := by
      rw [first]; unfold firstF
      simp only [Tr.yield, List.cons_append, List.append_assoc, List.nil_append]
      rw [operand_le v (by omega) h']
    rw [e]; simp only
    rw [if_neg (by omega)]
    exact loop_le v (by omega) h
  | pre o t ih =>
    intro m rest n res hp ha hm he h
    obtain ⟨n', h'⟩ := ih (v o).h2 rest 1 _ hp.2.2 ha.2 ha.1 he.2 (loop_stop v he.1)
    refine ⟨n + n' + 3, ?_⟩
    rw [operand]
    have e : first v (n + n' + 2) (Tr.yield (.pre o t) ++ rest) = some (some (.pre o t, rest)) := by
      rw [first]; unfold firstF
      simp only [Tr.yield, List.cons_append]
      rw [operand_le v (by omega) h']
    rw [e]; simp only
    rw [if_neg (by omega)]
    exact loop_le v (by omega) h
  | post o t ih =>
    intro m rest n res hp ha hm he h
    simp only [Tr.level] at hm
    have e1 : (v o).lev ≤ (v o).h1 := by unfold Lv.h1; split <;> omega
    have ha1 := ha.1
    have hl : loop v (n + 1) m t (.post o :: rest) = some res := by
      rw [loop]; unfold loopF; simp only
      rw [if_neg (by omega), if_neg (by omega)]
      exact h
    obtain ⟨n', h'⟩ := ih m (.post o :: rest) (n + 1) res hp.2.2 ha.2 (by omega) (Edge.of_op v hg hp.2.2 hp.1 (.inr rfl) ha.2 ha.1) hl
    exact ⟨n', by simpa [Tr.yield] using h'⟩
  | inf o l r ihl ihr =>
    intro m rest n res hp ha hm he h
    simp only [Tr.level] at hm
    have e1 : (v o).lev ≤ (v o).h1 := by unfold Lv.h1; split <;> omega
    have ha1 := ha.1
    obtain ⟨n2, h2⟩ := ihr (v o).h2 rest 1 _ hp.2.2 ha.2.2.2 ha.2.1 he.2 (loop_stop v he.1)
    have hl : loop v (n + n2 + 1) m l (.inf o :: (r.yield ++ rest)) = some res := by
      rw [loop]; unfold loopF; simp only
      rw [if_neg (by omega), if_neg (by omega), operand_le v (by omega) h2]
      exact loop_le v (by omega) h
    obtain ⟨n', h'⟩ := ihl m (.inf o :: (r.yield ++ rest)) (n + n2 + 1) res hp.2.1 ha.2.2.1 (by omega) (Edge.of_op v hg hp.2.1 hp.1 (.inl rfl) ha.2.2.1 ha.1) hl
    exact ⟨n', by simpa [Tr.yield] using h'⟩

theorem level_low {p : α → Prop} (hg : Good v p) {t : Tr α β} (hp : t.All v p) : 1 ≤ t.level v := by
  cases t <;> simp only [Tr.level] <;> first | omega | exact hg.low _ hp.1

/-! the fuel suffices -/
theorem fuel_all (n : Nat) :
    (∀ m (ts : List (Tk α β)), 2 * ts.length + 2 ≤ n → ∃ r, operand v n m ts = some r) ∧
    (∀ (ts : List (Tk α β)), 2 * ts.length + 1 ≤ n → ∃ r, first v n ts = some r ∧ ∀ t rest, r = some (t, rest) → rest.length < ts.length) ∧
    (∀ m (l : Tr α β) ts, 2 * ts.length + 1 ≤ n → ∃ r, loop v n m l ts = some r) := by
  have shorter : ∀ k m (ts : List (Tk α β)) t rest, operand v k m ts = some (some (t, rest)) → rest.length < ts.length := by
    intro k m ts t rest h
    have := ((sound_all v k).1 _ _ _ _ h).1
    have ht : 0 < (t.yield).length := by cases t <;> simp [Tr.yield] <;> omega
    rw [this, List.length_append]; omega
  induction n with
  | zero => exact ⟨fun _ _ h => by omega, fun _ h => by omega, fun _ _ _ h => by omega⟩
  | succ n ih =>
    obtain ⟨iho, ihf, ihl⟩ := ih
    refine ⟨fun m ts h => ?_, fun ts h => ?_, fun m l ts h => ?_⟩
    · obtain ⟨r, hr, hlt⟩ := ihf ts (by omega)
      rw [operand, hr]
      cases r with
      | none => exact ⟨_, rfl⟩
      | some y =>
        obtain ⟨l, rest⟩ := y
        have := hlt _ _ rfl
        simp only
        split
        · exact ⟨_, rfl⟩
        · exact ihl _ _ _ (by omega)
    · rw [first]; unfold firstF
      split
      · exact ⟨_, rfl, fun t rest h => by
          simp only [Option.some.injEq, Prod.mk.injEq] at h
          obtain ⟨_, rfl⟩ := h
          simp⟩
      · rename_i r0
        simp only [List.length_cons] at h
        obtain ⟨x, hx⟩ := iho 0 r0 (by omega)
        rw [hx]
        cases x with
        | none => exact ⟨_, rfl, fun _ _ h => by simp at h⟩
        | some y =>
          obtain ⟨t0, r1⟩ := y
          have := shorter _ _ _ _ _ hx
          simp only
          split
          · exact ⟨_, rfl, fun t rest h => by
              simp only [Option.some.injEq, Prod.mk.injEq] at h
              obtain ⟨_, rfl⟩ := h
              simp only [List.length_cons] at this ⊢
              omega⟩
          · exact ⟨_, rfl, fun _ _ h => by simp at h⟩
      · rename_i o r0
        simp only [List.length_cons] at h
        obtain ⟨x, hx⟩ := iho (v o).h2 r0 (by omega)
        rw [hx]
        cases x with
        | none => exact ⟨_, rfl, fun _ _ h => by simp at h⟩
        | some y =>
          obtain ⟨t0, r1⟩ := y
          have := shorter _ _ _ _ _ hx
          exact ⟨_, rfl, fun t rest h => by
            simp only [Option.some.injEq, Prod.mk.injEq] at h
            obtain ⟨_, rfl⟩ := h
            simp only [List.length_cons]
            omega⟩
      · exact ⟨_, rfl, fun _ _ h => by simp at h⟩
    · rw [loop]; unfold loopF
      split
      · rename_i o r0
        simp only [List.length_cons] at h
        split
        · exact ⟨_, rfl⟩
        · split
          · exact ⟨_, rfl⟩
          · obtain ⟨x, hx⟩ := iho (v o).h2 r0 (by omega)
            rw [hx]
            cases x with
            | none => exact ⟨_, rfl⟩
            | some y =>
              obtain ⟨t0, r1⟩ := y
              have := shorter _ _ _ _ _ hx
              exact ihl _ _ _ (by omega)
      · rename_i o r0
        simp only [List.length_cons] at h
        split
        · exact ⟨_, rfl⟩
        · split
          · exact ⟨_, rfl⟩
          · exact ihl _ _ _ (by omega)
      · exact ⟨_, rfl⟩

/-- the whole list is read as t exactly when t is admissible and yields it -/
theorem whole {p : α → Prop} (hg : Good v p) (t : Tr α β) (hp : t.All v p) (ts : List (Tk α β)) :
    operand v (2 * ts.length + 2) 0 ts = some (some (t, [])) ↔ t.Adm v ∧ t.yield = ts := by
  constructor
  · intro h
    obtain ⟨h1, h2, _⟩ := (sound_all v _).1 _ _ _ _ h
    exact ⟨h2, by rw [h1]; simp⟩
  · rintro ⟨ha, rfl⟩
    have := level_low v hg hp
    obtain ⟨n', h'⟩ := complete v hg t 0 [] 1 _ hp ha (by omega) (Edge.of_low v (m := t.level v) ha (by omega) trivial) (loop_stop v trivial)
    rw [List.append_nil] at h'
    obtain ⟨r, hr⟩ := (fuel_all v (2 * t.yield.length + 2)).1 0 t.yield (by omega)
    rw [hr]
    have h1 := operand_le v (Nat.le_max_left n' (2 * t.yield.length + 2)) h'
    have h2 := operand_le v (Nat.le_max_right n' (2 * t.yield.length + 2)) hr
    rw [h1] at h2
    exact h2.symm

end Go.Proofs.Ytcnmgfbafcnkhaa.Ops
/- The theory of operator precedence: the reference builds the same tree. Plain Lean, no program in sight. -/
namespace Go.Proofs.Ytcnmgfbafcnkhaa.Ops
variable {α β : Type} (v : α → Lv)

/-! the parser that looks for the root -/
def Tk.op? : Tk α β → Option α
  | .pre o => some o
  | .inf o => some o
  | .post o => some o
  | _ => none
def Tk.turn : Tk α β → Int
  | .opn => 1
  | .cls => -1
  | _ => 0
/-- the better of the best so far and a new one -/
def better (best : Option (Nat × α)) (x : Nat × α) : Option (Nat × α) :=
  match best with
  | none => some x
  | some b => if (v x.2).lev < (v b.2).lev ∨ ((v x.2).lev = (v b.2).lev ∧ (v x.2).srt ≠ 2) then some x else some b
def root : List (Tk α β) → Nat → Int → Option (Nat × α) → Option (Nat × α)
  | [], _, _, best => best
  | tk :: r, i, d, best =>
    if d + tk.turn = 0 then
      match tk.op? with
      | none => root r (i + 1) (d + tk.turn) best
      | some o => root r (i + 1) (d + tk.turn) (better v best (i, o))
    else root r (i + 1) (d + tk.turn) best

def buildF (bl : List (Tk α β) → Option (Tr α β)) (s : List (Tk α β)) : Option (Tr α β) :=
  match root v s 0 0 none with
  | none =>
    match s with
    | .opn :: r => (bl r.dropLast).map .grp
    | .leaf b :: _ => some (.leaf b)
    | _ => none
  | some (i, _) =>
    match s[i]? with
    | some (.pre o) =>
      if i ≠ 0 then none
      else match bl (s.drop 1) with
        | none => none
        | some t => if (v o).h2 ≤ t.level v then some (.pre o t) else none
    | some (.post o) =>
      if i + 1 ≠ s.length then none
      else match bl (s.take i) with
        | none => none
        | some t => if (v o).h1 ≤ t.level v then some (.post o t) else none
    | some (.inf o) =>
      match bl (s.take i) with
      | none => none
      | some l =>
        match bl (s.drop (i + 1)) with
        | none => none
        | some r => if (v o).h1 ≤ l.level v ∧ (v o).h2 ≤ r.level v then some (.inf o l r) else none
    | _ => none
def build : Nat → List (Tk α β) → Option (Tr α β)
  | 0, _ => none
  | n + 1, s => buildF v (build n) s

/-! the operators outside of brackets -/
def Tr.tops : Tr α β → Nat → List (Nat × α)
  | .leaf _, _ => []
  | .grp _, _ => []
  | .pre o t, i => (i, o) :: t.tops (i + 1)
  | .post o t, i => t.tops i ++ [(i + t.yield.length, o)]
  | .inf o l r, i => l.tops i ++ (i + l.yield.length, o) :: r.tops (i + l.yield.length + 1)

theorem root_skip {tk : Tk α β} {r : List (Tk α β)} {i : Nat} {d d' : Int} {best} (e : d + tk.turn = d') (h : d' ≠ 0) : root v (tk :: r) i d best = root v r (i + 1) d' best := by
  subst e; rw [root, if_neg h]
theorem root_none_ {tk : Tk α β} {r : List (Tk α β)} {i : Nat} {d d' : Int} {best} (e : d + tk.turn = d') (h : tk.op? = none) : root v (tk :: r) i d best = root v r (i + 1) d' best := by
  subst e; rw [root]; split
  · rw [h]
  · rfl
theorem root_take {tk : Tk α β} {r : List (Tk α β)} {i : Nat} {best} {o : α} (e : tk.turn = 0) (h : tk.op? = some o) : root v (tk :: r) i 0 best = root v r (i + 1) 0 (better v best (i, o)) := by
  rw [root, e, if_pos (by omega), h]; rfl

theorem root_deep (t : Tr α β) : ∀ (rest : List (Tk α β)) (i : Nat) (d : Int) best, 0 < d → root v (t.yield ++ rest) i d best = root v rest (i + t.yield.length) d best := by
  induction t with
  | leaf b =>
    intro rest i d best h
    simp only [Tr.yield, List.cons_append, List.nil_append, List.length_cons, List.length_nil]
    rw [root_skip v (d' := d) (by simp [Tk.turn]) (by omega)]
  | grp t ih =>
    intro rest i d best h
    simp only [Tr.yield, List.cons_append, List.append_assoc, List.nil_append, List.length_cons, List.length_append, List.length_nil]
    rw [root_skip v (d' := d + 1) (by simp [Tk.turn]) (by omega), ih _ _ _ _ (by omega), root_skip v (d' := d) (by simp [Tk.turn]; omega) (by omega)]
    rw [show i + 1 + t.yield.length + 1 = i + (t.yield.length + (0 + 1) + 1) by omega]
  | pre o t ih =>
    intro rest i d best h
    simp only [Tr.yield, List.cons_append, List.length_cons]
    rw [root_skip v (d' := d) (by simp [Tk.turn]) (by omega), ih _ _ _ _ (by omega)]
    rw [show i + 1 + t.yield.length = i + (t.yield.length + 1) by omega]
  | post o t ih =>
    intro rest i d best h
    simp only [Tr.yield, List.append_assoc, List.cons_append, List.nil_append, List.length_append, List.length_cons, List.length_nil]
    rw [ih _ _ _ _ h, root_skip v (d' := d) (by simp [Tk.turn]) (by omega)]
    rw [show i + t.yield.length + 1 = i + (t.yield.length + (0 + 1)) by omega]
  | inf o l r ihl ihr =>
    intro rest i d best h
    simp only [Tr.yield, List.append_assoc, List.cons_append, List.length_append, List.length_cons]
    rw [ihl _ _ _ _ h, root_skip v (d' := d) (by simp [Tk.turn]) (by omega), ihr _ _ _ _ (by omega)]
    rw [show i + l.yield.length + 1 + r.yield.length = i + (l.yield.length + (r.yield.length + 1)) by omega]

theorem root_flat (t : Tr α β) : ∀ (rest : List (Tk α β)) (i : Nat) best, root v (t.yield ++ rest) i 0 best = root v rest (i + t.yield.length) 0 ((t.tops i).foldl (better v) best) := by
  induction t with
  | leaf b =>
    intro rest i best
    simp only [Tr.yield, List.cons_append, List.nil_append, List.length_cons, List.length_nil, Tr.tops, List.foldl_nil]
    rw [root_none_ v (d' := 0) (by simp [Tk.turn]) rfl]
  | grp t ih =>
    intro rest i best
    simp only [Tr.yield, List.cons_append, List.append_assoc, List.nil_append, List.length_cons, List.length_append, List.length_nil, Tr.tops, List.foldl_nil]
    rw [root_none_ v (d' := 1) (by simp [Tk.turn]) rfl, root_deep v t _ _ _ _ (by omega), root_none_ v (d' := 0) (by simp [Tk.turn]) rfl]
    rw [show i + 1 + t.yield.length + 1 = i + (t.yield.length + (0 + 1) + 1) by omega]
  | pre o t ih =>
    intro rest i best
    simp only [Tr.yield, List.cons_append, List.length_cons, Tr.tops, List.foldl_cons]
    rw [root_take v (o := o) rfl rfl, ih]
    rw [show i + 1 + t.yield.length = i + (t.yield.length + 1) by omega]
  | post o t ih =>
    intro rest i best
    simp only [Tr.yield, List.append_assoc, List.cons_append, List.nil_append, List.length_append, List.length_cons, List.length_nil, Tr.tops, List.foldl_append, List.foldl_cons, List.foldl_nil]
    rw [ih, root_take v (o := o) rfl rfl]
    rw [show i + t.yield.length + 1 = i + (t.yield.length + (0 + 1)) by omega]
  | inf o l r ihl ihr =>
    intro rest i best
    simp only [Tr.yield, List.append_assoc, List.cons_append, List.length_append, List.length_cons, Tr.tops, List.foldl_append, List.foldl_cons]
    rw [ihl, root_take v (o := o) rfl rfl, ihr]
    rw [show i + l.yield.length + 1 + r.yield.length = i + (l.yield.length + (r.yield.length + 1)) by omega]

theorem root_yield (t : Tr α β) : root v t.yield 0 0 none = (t.tops 0).foldl (better v) none := by
  have := root_flat v t [] 0 none
  rw [List.append_nil] at this
  rw [this]; rfl

theorem tops_all {p : α → Prop} (t : Tr α β) : ∀ i, t.All v p → ∀ x ∈ t.tops i, p x.2 := by
  induction t with
  | leaf b => intro i _ x h; simp [Tr.tops] at h
  | grp t _ => intro i _ x h; simp [Tr.tops] at h
  | pre o t ih =>
    intro i hp x h
    simp only [Tr.tops, List.mem_cons] at h
    rcases h with rfl | h
    · exact hp.1
    · exact ih _ hp.2.2 x h
  | post o t ih =>
    intro i hp x h
    simp only [Tr.tops, List.mem_append, List.mem_cons, List.not_mem_nil, or_false] at h
    rcases h with h | rfl
    · exact ih _ hp.2.2 x h
    · exact hp.1
  | inf o l r ihl ihr =>
    intro i hp x h
    simp only [Tr.tops, List.mem_append, List.mem_cons] at h
    rcases h with h | rfl | h
    · exact ihl _ hp.2.1 x h
    · exact hp.1
    · exact ihr _ hp.2.2 x h

theorem tops_high (t : Tr α β) : ∀ i, t.Adm v → ∀ x ∈ t.tops i, t.level v ≤ (v x.2).lev := by
  have le1 : ∀ o, (v o).lev ≤ (v o).h1 := by intro o; unfold Lv.h1; split <;> omega
  have le2 : ∀ o, (v o).lev ≤ (v o).h2 := by intro o; unfold Lv.h2; split <;> omega
  induction t with
  | leaf b => intro i _ x h; simp [Tr.tops] at h
  | grp t _ => intro i _ x h; simp [Tr.tops] at h
  | pre o t ih =>
    intro i ha x h
    simp only [Tr.tops, List.mem_cons] at h
    simp only [Tr.level]
    rcases h with rfl | h
    · exact Int.le_refl _
    · have := ih _ ha.2 x h; have := ha.1; have := le2 o; omega
  | post o t ih =>
    intro i ha x h
    simp only [Tr.tops, List.mem_append, List.mem_cons, List.not_mem_nil, or_false] at h
    simp only [Tr.level]
    rcases h with h | rfl
    · have := ih _ ha.2 x h; have := ha.1; have := le1 o; omega
    · exact Int.le_refl _
  | inf o l r ihl ihr =>
    intro i ha x h
    simp only [Tr.tops, List.mem_append, List.mem_cons] at h
    simp only [Tr.level]
    rcases h with h | rfl | h
    · have := ihl _ ha.2.2.1 x h; have := ha.1; have := le1 o; omega
    · exact Int.le_refl _
    · have := ihr _ ha.2.2.2 x h; have := ha.2.1; have := le2 o; omega

theorem fold_mem (l : List (Nat × α)) : ∀ best, (l.foldl (better v) best = best) ∨ ∃ x ∈ l, l.foldl (better v) best = some x := by
  induction l with
  | nil => intro best; exact .inl rfl
  | cons y l ih =>
    intro best
    simp only [List.foldl_cons]
    have hb : better v best y = best ∨ better v best y = some y := by
      unfold better
      cases best with
      | none => exact .inr rfl
      | some b => simp only; split; exact .inr rfl; exact .inl rfl
    rcases ih (better v best y) with h | ⟨x, hx, h⟩
    · rcases hb with hb | hb
      · rw [hb] at h; rw [hb]; exact .inl h
      · rw [h]; exact .inr ⟨y, List.mem_cons_self, hb⟩
    · exact .inr ⟨x, List.mem_cons_of_mem _ hx, h⟩

theorem fold_stays (l : List (Nat × α)) (b : Nat × α) (h : ∀ x ∈ l, ¬ ((v x.2).lev < (v b.2).lev ∨ ((v x.2).lev = (v b.2).lev ∧ (v x.2).srt ≠ 2))) : l.foldl (better v) (some b) = some b := by
  induction l with
  | nil => rfl
  | cons y l ih =>
    simp only [List.foldl_cons]
    have : better v (some b) y = some b := by
      unfold better; simp only; rw [if_neg (h y List.mem_cons_self)]
    rw [this]
    exact ih fun x hx => h x (List.mem_cons_of_mem _ hx)

/-- left operand's operators give way -/
theorem fold_gives (l : List (Nat × α)) (y : Nat × α) (h : ∀ x ∈ l, (v y.2).h1 ≤ (v x.2).lev) : better v (l.foldl (better v) none) y = some y := by
  rcases fold_mem v l none with e | ⟨x, hx, e⟩
  · rw [e]; rfl
  · rw [e]; unfold better; simp only
    have := h x hx
    rw [if_pos]
    unfold Lv.h1 at this
    split at this
    · rename_i hs
      by_cases he : (v y.2).lev = (v x.2).lev
      · exact .inr ⟨he, by omega⟩
      · exact .inl (by omega)
    · exact .inl (by omega)

theorem fold_right {p : α → Prop} (hg : Good v p) (l : List (Nat × α)) (y : Nat × α) (hy : p y.2) (hl : ∀ x ∈ l, p x.2) (h : ∀ x ∈ l, (v y.2).h2 ≤ (v x.2).lev) : l.foldl (better v) (some y) = some y := by
  refine fold_stays v l y fun x hx => ?_
  have h1 := h x hx
  have h2 := hg.one x.2 y.2 (hl x hx) hy
  unfold Lv.h2 at h1
  split at h1 <;> omega

/-- the root of an admissible tree -/
theorem root_pre {p : α → Prop} (hg : Good v p) (o : α) (t : Tr α β) (hp : (Tr.pre o t).All v p) (ha : (Tr.pre o t).Adm v) : root v (Tr.pre o t).yield 0 0 none = some (0, o) := by
  rw [root_yield]
  simp only [Tr.tops, List.foldl_cons]
  refine fold_right v hg _ (0, o) hp.1 (tops_all v t _ hp.2.2) fun x hx => ?_
  have := tops_high v t _ ha.2 x hx
  have := ha.1
  simp only; omega
theorem root_post (o : α) (t : Tr α β) (ha : (Tr.post o t).Adm v) : root v (Tr.post o t).yield 0 0 none = some (t.yield.length, o) := by
  rw [root_yield]
  simp only [Tr.tops, List.foldl_append, List.foldl_cons, List.foldl_nil, Nat.zero_add]
  refine fold_gives v _ (t.yield.length, o) fun x hx => ?_
  have := tops_high v t _ ha.2 x hx
  have := ha.1
  simp only; omega
theorem root_inf {p : α → Prop} (hg : Good v p) (o : α) (l r : Tr α β) (hp : (Tr.inf o l r).All v p) (ha : (Tr.inf o l r).Adm v) : root v (Tr.inf o l r).yield 0 0 none = some (l.yield.length, o) := by
  rw [root_yield]
  simp only [Tr.tops, List.foldl_append, List.foldl_cons, Nat.zero_add]
  rw [fold_gives v _ (l.yield.length, o) fun x hx => ?_]
  · refine fold_right v hg _ (l.yield.length, o) hp.1 (tops_all v r _ hp.2.2) fun x hx => ?_
    have := tops_high v r _ ha.2.2.2 x hx
    have := ha.2.1
    simp only; omega
  · have := tops_high v l _ ha.2.2.1 x hx
    have := ha.1
    simp only; omega

theorem yield_pos (t : Tr α β) : 0 < t.yield.length := by cases t <;> simp [Tr.yield] <;> omega

theorem build_complete {p : α → Prop} (hg : Good v p) (t : Tr α β) : ∀ n, t.yield.length ≤ n → t.All v p → t.Adm v → build v n t.yield = some t := by
  induction t with
  | leaf b =>
    intro n hn _ _
    obtain ⟨n, rfl⟩ : ∃ m, n = m + 1 := ⟨n - 1, by simp [Tr.yield] at hn; omega⟩
    rw [build]; unfold buildF; rw [root_yield]; rfl
  | grp t ih =>
    intro n hn hp ha
    obtain ⟨n, rfl⟩ : ∃ m, n = m + 1 := ⟨n - 1, by simp [Tr.yield] at hn; omega⟩
    rw [build]; unfold buildF; rw [root_yield]
    show (build v n (t.yield ++ [Tk.cls]).dropLast).map Tr.grp = _
    rw [List.dropLast_concat, ih n (by simp [Tr.yield] at hn; omega) hp ha]; rfl
  | pre o t ih =>
    intro n hn hp ha
    obtain ⟨n, rfl⟩ : ∃ m, n = m + 1 := ⟨n - 1, by simp [Tr.yield] at hn; omega⟩
    rw [build]; unfold buildF; rw [root_pre v hg o t hp ha]
    simp only [Tr.yield, List.getElem?_cons_zero, List.drop_succ_cons, List.drop_zero]
    rw [ih n (by simp [Tr.yield] at hn; omega) hp.2.2 ha.2]
    simp only [ne_eq, not_true_eq_false, if_false]
    rw [if_pos ha.1]
  | post o t ih =>
    intro n hn hp ha
    have := yield_pos t
    obtain ⟨n, rfl⟩ : ∃ m, n = m + 1 := ⟨n - 1, by simp [Tr.yield] at hn; omega⟩
    rw [build]; unfold buildF; rw [root_post v o t ha]
    simp only [Tr.yield]
    rw [List.getElem?_append_right (Nat.le_refl _), Nat.sub_self, List.take_left]
    simp only [List.getElem?_cons_zero, List.length_append, List.length_cons, List.length_nil]
    rw [ih n (by simp [Tr.yield] at hn; omega) hp.2.2 ha.2]
    simp only
    rw [if_neg (by omega), if_pos ha.1]
  | inf o l r ihl ihr =>
    intro n hn hp ha
    have := yield_pos l
    have := yield_pos r
    obtain ⟨n, rfl⟩ : ∃ m, n = m + 1 := ⟨n - 1, by simp [Tr.yield] at hn; omega⟩
    rw [build]; unfold buildF; rw [root_inf v hg o l r hp ha]
    simp only [Tr.yield]
    rw [List.getElem?_append_right (Nat.le_refl _), Nat.sub_self, List.take_left]
    simp only [List.getElem?_cons_zero]
    rw [show l.yield ++ Tk.inf o :: r.yield = (l.yield ++ [Tk.inf o]) ++ r.yield by simp, List.drop_left' (by simp)]
    rw [ihl n (by simp [Tr.yield] at hn; omega) hp.2.1 ha.2.2.1, ihr n (by simp [Tr.yield] at hn; omega) hp.2.2 ha.2.2.2]
    simp only
    rw [if_pos ⟨ha.1, ha.2.1⟩]

/-! taking the yield of any tree apart -/
def OF (s : List (Tk α β)) : Prop := ∃ t : Tr α β, t.yield = s
theorem of_pre {o : α} {w : List (Tk α β)} (h : OF (.pre o :: w)) : OF w := by
  obtain ⟨t, ht⟩ := h
  induction t generalizing w with
  | leaf b => simp [Tr.yield] at ht
  | grp t => simp [Tr.yield] at ht
  | pre p t => simp only [Tr.yield, List.cons.injEq] at ht; exact ⟨t, ht.2⟩
  | post p t ih =>
    simp only [Tr.yield] at ht
    rcases List.append_eq_cons_iff.1 ht with ⟨h1, _⟩ | ⟨w1, h1, h2⟩
    · have := yield_pos t; rw [h1] at this; simp at this
    · obtain ⟨t', ht'⟩ := ih h1
      exact ⟨.post p t', by rw [h2]; simp [Tr.yield, ht']⟩
  | inf p l r ih _ =>
    simp only [Tr.yield] at ht
    rcases List.append_eq_cons_iff.1 ht with ⟨h1, _⟩ | ⟨w1, h1, h2⟩
    · have := yield_pos l; rw [h1] at this; simp at this
    · obtain ⟨t', ht'⟩ := ih h1
      exact ⟨.inf p t' r, by rw [h2]; simp [Tr.yield, ht']⟩
theorem of_post {o : α} {u : List (Tk α β)} (h : OF (u ++ [.post o])) : OF u := by
  obtain ⟨t, ht⟩ := h
  induction t generalizing u with
  | leaf b =>
    have h2 := congrArg List.getLast? ht
    simp [Tr.yield] at h2
  | grp t =>
    have h2 := congrArg List.getLast? ht
    simp only [Tr.yield, ← List.cons_append, List.getLast?_append, List.getLast?_singleton, Option.some_or] at h2
    simp at h2
  | post p t =>
    simp only [Tr.yield] at ht
    exact ⟨t, (List.append_inj' ht rfl).1⟩
  | pre p t ih =>
    simp only [Tr.yield] at ht
    cases u with
    | nil =>
      simp at ht
    | cons x u =>
      simp only [List.cons_append, List.cons.injEq] at ht
      obtain ⟨t', ht'⟩ := ih ht.2
      exact ⟨.pre p t', by rw [← ht.1]; simp [Tr.yield, ht']⟩
  | inf p l r _ ih =>
    simp only [Tr.yield] at ht
    rw [show l.yield ++ Tk.inf p :: r.yield = (l.yield ++ [Tk.inf p]) ++ r.yield by simp] at ht
    rcases List.append_eq_append_iff.1 ht with ⟨a', h1, h2⟩ | ⟨c', h1, h2⟩
    · obtain ⟨t', ht'⟩ := ih h2
      exact ⟨.inf p l t', by rw [h1]; simp [Tr.yield, ht']⟩
    · have := yield_pos r
      cases c' with
      | nil =>
        simp only [List.append_nil, List.nil_append] at h1 h2
        obtain ⟨t', ht'⟩ := ih (u := []) (by simpa using h2.symm)
        have := yield_pos t'
        rw [ht'] at this; simp at this
      | cons x c' =>
        have h3 := congrArg List.length h2
        simp only [List.length_append, List.length_cons, List.length_nil] at h3
        omega

def depth (s : List (Tk α β)) : Int := (s.map Tk.turn).sum
theorem depth_append (a b : List (Tk α β)) : depth (a ++ b) = depth a + depth b := by unfold depth; rw [List.map_append, List.sum_append_int]
theorem depth_cons (a : Tk α β) (b : List (Tk α β)) : depth (a :: b) = a.turn + depth b := by simp [depth]
theorem depth_yield (t : Tr α β) : depth t.yield = 0 := by
  induction t with
  | leaf b => simp [Tr.yield, depth, Tk.turn]
  | grp t ih => simp only [Tr.yield, depth_cons, depth_append, ih, Tk.turn]; simp [depth]
  | pre o t ih => simp only [Tr.yield, depth_cons, ih, Tk.turn]; rfl
  | post o t ih => simp only [Tr.yield, depth_append, depth_cons, ih, Tk.turn]; rfl
  | inf o l r ihl ihr => simp only [Tr.yield, depth_append, depth_cons, ihl, ihr, Tk.turn]; rfl
/-- a beginning of a yield is never below 0 -/
theorem depth_begin (t : Tr α β) : ∀ u w, t.yield = u ++ w → 0 ≤ depth u := by
  induction t with
  | leaf b =>
    intro u w h
    rcases u with _ | ⟨x, u⟩
    · simp [depth]
    · simp only [Tr.yield, List.cons_append, List.cons.injEq] at h
      obtain ⟨rfl, h⟩ := h
      have : u = [] := by simpa using (List.append_eq_nil_iff.1 h.symm).1
      subst this; simp [depth, Tk.turn]
  | grp t ih =>
    intro u w h
    rcases u with _ | ⟨x, u⟩
    · simp [depth]
    · simp only [Tr.yield, List.cons_append, List.cons.injEq] at h
      obtain ⟨rfl, h⟩ := h
      rw [depth_cons]
      rcases List.append_eq_append_iff.1 h with ⟨a', h1, h2⟩ | ⟨c', h1, h2⟩
      · rw [h1, depth_append, depth_yield]
        have : a' = [] ∨ a' = [.cls] := by
          rcases a' with _ | ⟨y, a'⟩
          · exact .inl rfl
          · simp only [List.cons_append, List.cons.injEq] at h2
            obtain ⟨rfl, h2⟩ := h2
            have : a' = [] := by simpa using (List.append_eq_nil_iff.1 h2.symm).1
            subst this; exact .inr rfl
        rcases this with rfl | rfl <;> simp [depth, Tk.turn]
      · have := ih u c' h1
        simp only [Tk.turn]; omega
  | pre o t ih =>
    intro u w h
    rcases u with _ | ⟨x, u⟩
    · simp [depth]
    · simp only [Tr.yield, List.cons_append, List.cons.injEq] at h
      obtain ⟨rfl, h⟩ := h
      rw [depth_cons]
      have := ih u w h
      simp only [Tk.turn]; omega
  | post o t ih =>
    intro u w h
    simp only [Tr.yield] at h
    rcases List.append_eq_append_iff.1 h with ⟨a', h1, h2⟩ | ⟨c', h1, h2⟩
    · rw [h1, depth_append, depth_yield]
      rcases a' with _ | ⟨y, a'⟩
      · simp [depth]
      · simp only [List.cons_append, List.cons.injEq] at h2
        obtain ⟨rfl, h2⟩ := h2
        have : a' = [] := by simpa using (List.append_eq_nil_iff.1 h2.symm).1
        subst this; simp [depth, Tk.turn]
    · exact ih u c' h1
  | inf o l r ihl ihr =>
    intro u w h
    simp only [Tr.yield] at h
    rcases List.append_eq_append_iff.1 h with ⟨a', h1, h2⟩ | ⟨c', h1, h2⟩
    · rw [h1, depth_append, depth_yield]
      rcases a' with _ | ⟨y, a'⟩
      · simp [depth]
      · simp only [List.cons_append, List.cons.injEq] at h2
        obtain ⟨rfl, h2⟩ := h2
        rw [depth_cons]
        have := ihr a' w h2
        simp only [Tk.turn]; omega
    · exact ihl u c' h1

theorem of_inf {o : α} {u w : List (Tk α β)} (h : OF (u ++ .inf o :: w)) (hd : depth u = 0) : OF u ∧ OF w := by
  obtain ⟨t, ht⟩ := h
  induction t generalizing u w with
  | leaf b =>
    exfalso
    rcases u with _ | ⟨x, u⟩
    · simp [Tr.yield] at ht
    · simp [Tr.yield] at ht
  | grp t ih =>
    exfalso
    rcases u with _ | ⟨x, u⟩
    · simp [Tr.yield] at ht
    · simp only [Tr.yield, List.cons_append, List.cons.injEq] at ht
      obtain ⟨rfl, h⟩ := ht
      rw [depth_cons] at hd
      rcases List.append_eq_append_iff.1 h with ⟨a', h1, h2⟩ | ⟨c', h1, h2⟩
      · rcases a' with _ | ⟨y, a'⟩
        · simp at h2
        · simp only [List.cons_append, List.cons.injEq] at h2
          have := (List.append_eq_nil_iff.1 h2.2.symm).2
          simp at this
      · have := depth_begin t u c' h1
        simp only [Tk.turn] at hd; omega
  | pre p t ih =>
    rcases u with _ | ⟨x, u⟩
    · simp [Tr.yield] at ht
    · simp only [Tr.yield, List.cons_append, List.cons.injEq] at ht
      obtain ⟨rfl, h⟩ := ht
      rw [depth_cons] at hd
      obtain ⟨⟨t1, e1⟩, h2⟩ := ih (by simp only [Tk.turn] at hd; omega) h
      exact ⟨⟨.pre p t1, by simp [Tr.yield, e1]⟩, h2⟩
  | post p t ih =>
    simp only [Tr.yield] at ht
    rcases List.append_eq_append_iff.1 ht with ⟨a', h1, h2⟩ | ⟨c', h1, h2⟩
    · exfalso
      rcases a' with _ | ⟨y, a'⟩
      · simp at h2
      · simp only [List.cons_append, List.cons.injEq] at h2
        have := (List.append_eq_nil_iff.1 h2.2.symm).2
        simp at this
    · rcases c' with _ | ⟨y, c'⟩
      · simp at h2
      · simp only [List.cons_append, List.cons.injEq] at h2
        obtain ⟨rfl, h2⟩ := h2
        obtain ⟨h3, ⟨t1, e1⟩⟩ := ih hd h1
        exact ⟨h3, ⟨.post p t1, by rw [h2]; simp [Tr.yield, e1]⟩⟩
  | inf p l r ihl ihr =>
    simp only [Tr.yield] at ht
    rcases List.append_eq_append_iff.1 ht with ⟨a', h1, h2⟩ | ⟨c', h1, h2⟩
    · rcases a' with _ | ⟨y, a'⟩
      · simp only [List.append_nil, List.nil_append, List.cons.injEq] at h1 h2
        exact ⟨⟨l, h1.symm⟩, ⟨r, h2.2⟩⟩
      · simp only [List.cons_append, List.cons.injEq] at h2
        obtain ⟨rfl, h2⟩ := h2
        rw [h1, depth_append, depth_yield, depth_cons] at hd
        obtain ⟨⟨t1, e1⟩, h4⟩ := ihr (by simp only [Tk.turn] at hd; omega) h2
        exact ⟨⟨.inf p l t1, by rw [h1]; simp [Tr.yield, e1]⟩, h4⟩
    · rcases c' with _ | ⟨y, c'⟩
      · simp only [List.append_nil, List.nil_append, List.cons.injEq] at h1 h2
        exact ⟨⟨l, h1⟩, ⟨r, h2.2.symm⟩⟩
      · simp only [List.cons_append, List.cons.injEq] at h2
        obtain ⟨rfl, h2⟩ := h2
        obtain ⟨h3, ⟨t1, e1⟩⟩ := ihl hd h1
        exact ⟨h3, ⟨.inf p t1 r, by rw [h2]; simp [Tr.yield, e1]⟩⟩

/-- where the root is found: its token, outside of brackets -/
theorem root_at (s : List (Tk α β)) : ∀ (i : Nat) (d : Int) best (j : Nat) (o : α), root v s i d best = some (j, o) → best = some (j, o) ∨ ∃ u tk w, s = u ++ tk :: w ∧ tk.op? = some o ∧ d + depth u = 0 ∧ j = i + u.length := by
  induction s with
  | nil => intro i d best j o h; exact .inl h
  | cons tk r ih =>
    intro i d best j o h
    rw [root] at h
    have go : ∀ best', root v r (i + 1) (d + tk.turn) best' = some (j, o) → best' = some (j, o) ∨ ∃ u t w, tk :: r = u ++ t :: w ∧ t.op? = some o ∧ d + depth u = 0 ∧ j = i + u.length := by
      intro best' h'
      rcases ih _ _ _ _ _ h' with h' | ⟨u, t, w, h1, h2, h3, h4⟩
      · exact .inl h'
      · exact .inr ⟨tk :: u, t, w, by rw [h1]; rfl, h2, by rw [depth_cons]; omega, by rw [List.length_cons]; omega⟩
    split at h
    rotate_left
    · exact go _ h
    · rename_i hd
      split at h
      · exact go _ h
      · rename_i o' ho
        rcases go _ h with h | h
        · have : better v best (i, o') = best ∨ better v best (i, o') = some (i, o') := by
            unfold better
            cases best with
            | none => exact .inr rfl
            | some b => simp only; split; exact .inr rfl; exact .inl rfl
          rcases this with e | e
          · rw [e] at h; exact .inl h
          · rw [e] at h
            simp only [Option.some.injEq, Prod.mk.injEq] at h
            obtain ⟨rfl, rfl⟩ := h
            refine .inr ⟨[], tk, r, rfl, ho, ?_, by simp⟩
            have : tk.turn = 0 := by cases tk <;> simp [Tk.op?] at ho <;> rfl
            rw [this] at hd
            simp [depth]; omega
        · exact .inr h

theorem better_some (best : Option (Nat × α)) (x : Nat × α) : ∃ y, better v best x = some y := by
  unfold better
  cases best with
  | none => exact ⟨_, rfl⟩
  | some b => simp only; split; exact ⟨_, rfl⟩; exact ⟨_, rfl⟩
theorem fold_some (l : List (Nat × α)) : ∀ x, ∃ y, l.foldl (better v) (some x) = some y := by
  induction l with
  | nil => intro x; exact ⟨x, rfl⟩
  | cons z l ih =>
    intro x
    obtain ⟨y, hy⟩ := better_some v (some x) z
    simp only [List.foldl_cons, hy]
    exact ih y
theorem root_none (t : Tr α β) (h : root v t.yield 0 0 none = none) : (∃ b, t = .leaf b) ∨ ∃ t', t = .grp t' := by
  rw [root_yield] at h
  cases t with
  | leaf b => exact .inl ⟨b, rfl⟩
  | grp t => exact .inr ⟨t, rfl⟩
  | pre o t =>
    simp only [Tr.tops, List.foldl_cons] at h
    obtain ⟨y, hy⟩ := better_some v none (0, o)
    rw [hy] at h
    obtain ⟨z, hz⟩ := fold_some v (t.tops (0 + 1)) y
    rw [hz] at h; simp at h
  | post o t =>
    simp only [Tr.tops, List.foldl_append, List.foldl_cons, List.foldl_nil] at h
    obtain ⟨y, hy⟩ := better_some v (List.foldl (better v) none (t.tops 0)) (0 + t.yield.length, o)
    rw [hy] at h; simp at h
  | inf o l r =>
    simp only [Tr.tops, List.foldl_append, List.foldl_cons] at h
    obtain ⟨y, hy⟩ := better_some v (List.foldl (better v) none (l.tops 0)) (0 + l.yield.length, o)
    rw [hy] at h
    obtain ⟨z, hz⟩ := fold_some v (r.tops (0 + l.yield.length + 1)) y
    rw [hz] at h; simp at h

theorem build_sound (n : Nat) : ∀ (s : List (Tk α β)) (t : Tr α β), OF s → build v n s = some t → t.Adm v ∧ t.yield = s := by
  induction n with
  | zero => intro s t _ h; simp [build] at h
  | succ n ih =>
    intro s t hof h
    rw [build] at h; unfold buildF at h
    cases hr : root v s 0 0 none with
    | none =>
      rw [hr] at h; simp only at h
      obtain ⟨t0, rfl⟩ := hof
      rcases root_none v t0 hr with ⟨b, rfl⟩ | ⟨t1, rfl⟩
      · simp only [Tr.yield, Option.some.injEq] at h
        subst h; exact ⟨trivial, rfl⟩
      · simp only [Tr.yield, List.dropLast_concat] at h
        cases hb : build v n t1.yield with
        | none => rw [hb] at h; simp at h
        | some t2 =>
          rw [hb] at h
          simp only [Option.map_some, Option.some.injEq] at h
          subst h
          obtain ⟨h1, h2⟩ := ih _ _ ⟨t1, rfl⟩ hb
          exact ⟨h1, by simp [Tr.yield, h2]⟩
    | some x =>
      obtain ⟨i, o⟩ := x
      rw [hr] at h; simp only at h
      rcases root_at v s _ _ _ _ _ hr with h0 | ⟨u, tk, w, rfl, ho, hd, rfl⟩
      · simp at h0
      · rw [List.getElem?_append_right (by omega)] at h
        simp only [Nat.zero_add, Nat.sub_self, List.getElem?_cons_zero] at h
        rw [Int.zero_add] at hd
        have hdr : (u ++ tk :: w).drop (u.length + 1) = w := by
          rw [show u ++ tk :: w = (u ++ [tk]) ++ w by simp, List.drop_left' (by simp)]
        rw [List.take_left, hdr] at h
        split at h
        · rename_i p hp
          simp only [Option.some.injEq] at hp
          subst hp
          split at h
          · simp at h
          · rename_i hu
            have hu' : u = [] := List.eq_nil_of_length_eq_zero (by omega)
            subst hu'
            simp only [List.nil_append, List.drop_succ_cons, List.drop_zero] at h hof ⊢
            cases hb : build v n w with
            | none => rw [hb] at h; simp at h
            | some t2 =>
              rw [hb] at h; simp only at h
              split at h
              · rename_i hc
                simp only [Option.some.injEq] at h
                subst h
                obtain ⟨h1, h2⟩ := ih _ _ (of_pre hof) hb
                exact ⟨⟨hc, h1⟩, by simp [Tr.yield, h2]⟩
              · simp at h
        · rename_i p hp
          simp only [Option.some.injEq] at hp
          subst hp
          split at h
          · simp at h
          · rename_i hw
            have hw' : w = [] := List.eq_nil_of_length_eq_zero (by simp only [List.length_append, List.length_cons] at hw; omega)
            subst hw'
            cases hb : build v n u with
            | none => rw [hb] at h; simp at h
            | some t2 =>
              rw [hb] at h; simp only at h
              split at h
              · rename_i hc
                simp only [Option.some.injEq] at h
                subst h
                obtain ⟨h1, h2⟩ := ih _ _ (of_post hof) hb
                exact ⟨⟨hc, h1⟩, by simp [Tr.yield, h2]⟩
              · simp at h
        · rename_i p hp
          simp only [Option.some.injEq] at hp
          subst hp
          obtain ⟨ofu, ofw⟩ := of_inf hof hd
          cases hb : build v n u with
          | none => rw [hb] at h; simp at h
          | some t2 =>
            rw [hb] at h; simp only at h
            cases hb' : build v n w with
            | none => rw [hb'] at h; simp at h
            | some t3 =>
              rw [hb'] at h; simp only at h
              split at h
              · rename_i hc
                simp only [Option.some.injEq] at h
                subst h
                obtain ⟨h1, h2⟩ := ih _ _ ofu hb
                obtain ⟨h3, h4⟩ := ih _ _ ofw hb'
                exact ⟨⟨hc.1, hc.2, h1, h3⟩, by simp [Tr.yield, h2, h4]⟩
              · simp at h
        · rename_i h1 h2 h3
          cases tk with
          | pre p => exact absurd rfl (h1 p)
          | post p => exact absurd rfl (h2 p)
          | inf p => exact absurd rfl (h3 p)
          | leaf b => simp [Tk.op?] at ho
          | opn => simp [Tk.op?] at ho
          | cls => simp [Tk.op?] at ho

/-- tokens that fit are the yield of some tree -/
def Fit : Bool → Nat → List (Tk α β) → Prop
  | false, d, [] => d = 0
  | true, _, [] => False
  | true, d, .leaf _ :: r => Fit false d r
  | true, d, .opn :: r => Fit true (d + 1) r
  | true, d, .pre _ :: r => Fit true d r
  | false, d, .inf _ :: r => Fit true d r
  | false, d, .post _ :: r => Fit false d r
  | false, d + 1, .cls :: r => Fit false d r
  | _, _, _ => False

theorem fit_of (n : Nat) :
    (∀ d (ts : List (Tk α β)), ts.length < n → Fit true d ts → ∃ t : Tr α β, ∃ rest, ts = t.yield ++ rest ∧ ((rest = [] ∧ d = 0) ∨ ∃ r d', rest = .cls :: r ∧ d = d' + 1 ∧ Fit false d' r)) ∧
    (∀ d (t0 : Tr α β) (ts : List (Tk α β)), ts.length < n → Fit false d ts → ∃ t : Tr α β, ∃ rest, t0.yield ++ ts = t.yield ++ rest ∧ ((rest = [] ∧ d = 0) ∨ ∃ r d', rest = .cls :: r ∧ d = d' + 1 ∧ Fit false d' r)) := by
  induction n with
  | zero => exact ⟨fun _ _ h => by omega, fun _ _ _ h => by omega⟩
  | succ n ih =>
    obtain ⟨ih1, ih2⟩ := ih
    refine ⟨fun d ts hl h => ?_, fun d t0 ts hl h => ?_⟩
    · rcases ts with _ | ⟨tk, r⟩
      · simp [Fit] at h
      · simp only [List.length_cons] at hl
        cases tk with
        | leaf b =>
          simp only [Fit] at h
          exact ih2 d (.leaf b) r (by omega) h
        | opn =>
          simp only [Fit] at h
          obtain ⟨t1, rest, e, hr⟩ := ih1 _ _ (by omega) h
          rcases hr with ⟨_, h0⟩ | ⟨r', d', h1, h2, h3⟩
          · omega
          · obtain rfl : d' = d := by omega
            obtain ⟨t, rest', e', hr'⟩ := ih2 _ (.grp t1) r' (by
              have := congrArg List.length e
              rw [h1] at this
              simp at this; omega) h3
            refine ⟨t, rest', ?_, hr'⟩
            rw [← e', e, h1]; simp [Tr.yield]
        | pre o =>
          simp only [Fit] at h
          obtain ⟨t1, rest, e, hr⟩ := ih1 _ _ (by omega) h
          exact ⟨.pre o t1, rest, by rw [e]; simp [Tr.yield], hr⟩
        | inf o => simp [Fit] at h
        | post o => simp [Fit] at h
        | cls => simp [Fit] at h
    · rcases ts with _ | ⟨tk, r⟩
      · simp only [Fit] at h
        exact ⟨t0, [], rfl, .inl ⟨rfl, h⟩⟩
      · simp only [List.length_cons] at hl
        cases tk with
        | leaf b => simp [Fit] at h
        | opn => simp [Fit] at h
        | pre o => simp [Fit] at h
        | inf o =>
          simp only [Fit] at h
          obtain ⟨t1, rest, e, hr⟩ := ih1 _ _ (by omega) h
          exact ⟨.inf o t0 t1, rest, by rw [e]; simp [Tr.yield], hr⟩
        | post o =>
          simp only [Fit] at h
          obtain ⟨t, rest, e, hr⟩ := ih2 _ (.post o t0) r (by omega) h
          exact ⟨t, rest, by rw [← e]; simp [Tr.yield], hr⟩
        | cls =>
          cases d with
          | zero => simp [Fit] at h
          | succ d =>
            simp only [Fit] at h
            exact ⟨t0, _, rfl, .inr ⟨r, d, rfl, rfl, h⟩⟩

theorem OF.of_fit {ts : List (Tk α β)} (h : Fit true 0 ts) : OF ts := by
  obtain ⟨t, rest, e, hr⟩ := (fit_of (ts.length + 1)).1 0 ts (by omega) h
  rcases hr with ⟨rfl, _⟩ | ⟨_, _, _, h0, _⟩
  · exact ⟨t, by rw [e, List.append_nil]⟩
  · omega

/-- both parsers give the same tree -/
theorem build_eq_operand {p : α → Prop} (hg : Good v p) (s : List (Tk α β)) (hs : OF s) (hall : ∀ t : Tr α β, t.yield = s → t.All v p) (t : Tr α β) :
    build v s.length s = some t ↔ operand v (2 * s.length + 2) 0 s = some (some (t, [])) := by
  constructor
  · intro h
    obtain ⟨h1, h2⟩ := build_sound v _ s t hs h
    exact (whole v hg t (hall t h2) s).2 ⟨h1, h2⟩
  · intro h
    obtain ⟨h1, h2, _⟩ := (sound_all v _).1 _ _ _ _ h
    have h2' : t.yield = s := by rw [h1]; simp
    rw [← h2']
    exact build_complete v hg t _ (by omega) (hall t h2') h2
end Go.Proofs.Ytcnmgfbafcnkhaa.Ops
/- Contracts: the parser's parts: values, levels, heights; the next token, the operator behind. -/
namespace Go.Proofs.Ytcnmgfbafcnkhaa.V
open Go.RowKit
open Go.Maps (Keyed)
open Go.Proofs.Ytcnmgfbafcnkhaa.Ops (Tr Tk)
set_option linter.unusedVariables false
set_option linter.unusedSimpArgs false
set_option linter.constructorNameAsVariable false
/-- a parsed tree: a leaf is its kind of node and its text -/
abbrev PT := Tr POp (Int × ByteArray)
def highT : PT → Int
  | .leaf _ => 1
  | .grp e => 1 + highT e
  | .pre _ e => 1 + highT e
  | .post _ e => 1 + highT e
  | .inf _ x y => 1 + max (highT x) (highT y)
def partP : PT → Value
  | .leaf b => .iface 153 (.agg #[.int .i64 b.1, .string b.2, .int .i64 0, .int .i64 0])
  | .grp e => .iface 155 (.agg #[partP e, .int .i64 (1 + highT e)])
  | .pre o e => .iface 135 (.agg #[.string o.text, .int .i64 o.kind, .int .i64 o.level, .int .i64 o.side, .nilIface, partP e, .int .i64 (1 + highT e)])
  | .post o e => .iface 135 (.agg #[.string o.text, .int .i64 o.kind, .int .i64 o.level, .int .i64 o.side, partP e, .nilIface, .int .i64 (1 + highT e)])
  | .inf o x y => .iface 135 (.agg #[.string o.text, .int .i64 o.kind, .int .i64 o.level, .int .i64 o.side, partP x, partP y, .int .i64 (1 + max (highT x) (highT y))])
def lvlP : PT → Int
  | .leaf _ => 1001
  | .grp _ => 1001
  | .pre o _ => o.level
  | .post o _ => o.level
  | .inf o _ _ => o.level
theorem highT_pos : ∀ e : PT, 1 ≤ highT e
  | .leaf _ => by simp [highT]
  | .grp e => by have := highT_pos e; simp only [highT]; omega
  | .pre _ e => by have := highT_pos e; simp only [highT]; omega
  | .post _ e => by have := highT_pos e; simp only [highT]; omega
  | .inf _ x y => by have := highT_pos x; simp only [highT]; omega
theorem highT_yield : ∀ e : PT, highT e ≤ e.yield.length
  | .leaf _ => by simp [highT, Tr.yield]
  | .grp e => by have := highT_yield e; simp [highT, Tr.yield]; omega
  | .pre _ e => by have := highT_yield e; simp [highT, Tr.yield]; omega
  | .post _ e => by have := highT_yield e; simp [highT, Tr.yield]; omega
  | .inf _ x y => by have := highT_yield x; have := highT_yield y; simp [highT, Tr.yield]; omega
/-- what a call of a part's methods answers -/
def PartIs (v : Value) (lv hi : Int) : Prop := ∃ T u, v = .iface T u ∧ (∃ f, methOf Try.prog T "loop.example/s0059/impl.level" = some f ∧ VFun Try.prog f [.lit u] (fun av obs => obs = [] ∧ av = .lit (.int .i64 lv))) ∧ ∃ f, methOf Try.prog T "loop.example/s0059/impl.height" = some f ∧ VFun Try.prog f [.lit u] (fun av obs => obs = [] ∧ av = .lit (.int .i64 hi))
theorem partP_iface (e : PT) : ∃ T u, partP e = .iface T u := by cases e <;> exact ⟨_, _, rfl⟩
def isIfP (v : Value) : Prop := v = .nilIface ∨ ∃ t u, v = .iface t u
theorem c_leaf_levelP (a c d : Int) (b : ByteArray) : VFun Try.prog 121 [.lit (.agg #[.int .i64 a, .string b, .int .i64 c, .int .i64 d])] (fun av obs => obs = [] ∧ av = .lit (.int .i64 1001)) := by
  refine vfun_start Try.func121 (by kernel_rfl) rfl (by simp [Try.ntmps121]) ?_; simp only [Try.ntmps121, Try.results121]; simp [go_sem]
theorem c_leaf_heightP (a c d : Int) (b : ByteArray) : VFun Try.prog 120 [.lit (.agg #[.int .i64 a, .string b, .int .i64 c, .int .i64 d])] (fun av obs => obs = [] ∧ av = .lit (.int .i64 1)) := by
  refine vfun_start Try.func120 (by kernel_rfl) rfl (by simp [Try.ntmps120]) ?_; simp only [Try.ntmps120, Try.results120]; simp [go_sem]
theorem c_group_levelP (a : Value) (ha : isIfP a) (c : Int) : VFun Try.prog 124 [.lit (.agg #[a, .int .i64 c])] (fun av obs => obs = [] ∧ av = .lit (.int .i64 1001)) := by
  refine vfun_start Try.func124 (by kernel_rfl) rfl (by simp [Try.ntmps124]) ?_; simp only [Try.ntmps124, Try.results124]; simp [go_sem]
  rcases ha with rfl | ⟨_, _, rfl⟩ <;> rfl
theorem c_group_heightP (a : Value) (ha : isIfP a) (c : Int) : VFun Try.prog 123 [.lit (.agg #[a, .int .i64 c])] (fun av obs => obs = [] ∧ av = .lit (.int .i64 c)) := by
  refine vfun_start Try.func123 (by kernel_rfl) rfl (by simp [Try.ntmps123]) ?_; simp only [Try.ntmps123, Try.results123]; simp [go_sem]
  rcases ha with rfl | ⟨_, _, rfl⟩ <;> rfl
theorem c_applied_levelP (o : POp) (a b : Value) (ha : isIfP a) (hb : isIfP b) (c : Int) : VFun Try.prog 118 [.lit (.agg #[.string o.text, .int .i64 o.kind, .int .i64 o.level, .int .i64 o.side, a, b, .int .i64 c])] (fun av obs => obs = [] ∧ av = .lit (.int .i64 o.level)) := by
  refine vfun_start Try.func118 (by kernel_rfl) rfl (by simp [Try.ntmps118]) ?_; simp only [Try.ntmps118, Try.results118]; simp [go_sem]
  constructor
  · rcases ha with rfl | ⟨_, _, rfl⟩ <;> rfl
  · rcases hb with rfl | ⟨_, _, rfl⟩ <;> rfl
theorem c_applied_heightP (o : POp) (a b : Value) (ha : isIfP a) (hb : isIfP b) (c : Int) : VFun Try.prog 117 [.lit (.agg #[.string o.text, .int .i64 o.kind, .int .i64 o.level, .int .i64 o.side, a, b, .int .i64 c])] (fun av obs => obs = [] ∧ av = .lit (.int .i64 c)) := by
  refine vfun_start Try.func117 (by kernel_rfl) rfl (by simp [Try.ntmps117]) ?_; simp only [Try.ntmps117, Try.results117]; simp [go_sem]
  constructor
  · rcases ha with rfl | ⟨_, _, rfl⟩ <;> rfl
  · rcases hb with rfl | ⟨_, _, rfl⟩ <;> rfl
theorem mo_leaf_l : methOf Try.prog 153 "loop.example/s0059/impl.level" = some 121 := by kernel_rfl
theorem mo_leaf_h : methOf Try.prog 153 "loop.example/s0059/impl.height" = some 120 := by kernel_rfl
theorem mo_group_l : methOf Try.prog 155 "loop.example/s0059/impl.level" = some 124 := by kernel_rfl
theorem mo_group_h : methOf Try.prog 155 "loop.example/s0059/impl.height" = some 123 := by kernel_rfl
theorem mo_applied_l : methOf Try.prog 135 "loop.example/s0059/impl.level" = some 118 := by kernel_rfl
theorem mo_applied_h : methOf Try.prog 135 "loop.example/s0059/impl.height" = some 117 := by kernel_rfl
theorem partIs (e : PT) : PartIs (partP e) (lvlP e) (highT e) := by
  have hi : ∀ e : PT, isIfP (partP e) := fun e => .inr (partP_iface e)
  cases e with
  | leaf b => exact ⟨_, _, rfl, ⟨_, mo_leaf_l, c_leaf_levelP _ _ _ _⟩, _, mo_leaf_h, c_leaf_heightP _ _ _ _⟩
  | grp e => exact ⟨_, _, rfl, ⟨_, mo_group_l, c_group_levelP _ (hi e) _⟩, _, mo_group_h, c_group_heightP _ (hi e) _⟩
  | pre o e => exact ⟨_, _, rfl, ⟨_, mo_applied_l, c_applied_levelP o _ _ (.inl rfl) (hi e) _⟩, _, mo_applied_h, c_applied_heightP o _ _ (.inl rfl) (hi e) _⟩
  | post o e => exact ⟨_, _, rfl, ⟨_, mo_applied_l, c_applied_levelP o _ _ (hi e) (.inl rfl) _⟩, _, mo_applied_h, c_applied_heightP o _ _ (hi e) (.inl rfl) _⟩
  | inf o x y => exact ⟨_, _, rfl, ⟨_, mo_applied_l, c_applied_levelP o _ _ (hi x) (hi y) _⟩, _, mo_applied_h, c_applied_heightP o _ _ (hi x) (hi y) _⟩
/-! the parser -/
def pOb (b1 b2 b3 b4 : Nat) (t : List PTok) (i : Nat) : Option Ob := some ⟨131, 6, 1, fun _ => [.lit (.map (some b1)), .lit (.map (some b2)), .sl 3 t.length (tokCells t), .lit (.int .i64 i), .lit (.map (some b3)), .lit (.map (some b4))]⟩
theorem pOut {idx : Nat → Nat} {ks : List Nat} {b1 b2 b3 b4 n ty : Nat} {t : List PTok} {i : Int} : OutAt idx ks ⟨ty, 6, 1, fun _ => [.lit (.map (some b1)), .lit (.map (some b2)), .sl 3 n (tokCells t), .lit (.int .i64 i), .lit (.map (some b3)), .lit (.map (some b4))]⟩ (some (some ⟨ty, 6, 1, fun _ => [.lit (.map (some b1)), .lit (.map (some b2)), .sl 3 n (tokCells t), .lit (.int .i64 i), .lit (.map (some b3)), .lit (.map (some b4))]⟩)) :=
  ⟨rfl, rfl, rfl, fun i hi => ⟨rfl, fun c hc => by
    simp at hc
    rcases hc with rfl | rfl | rfl | rfl | rfl | rfl
    · exact .inl rfl
    · exact .inl rfl
    · exact .inr ⟨⟨_, _, _, rfl⟩, .sl _ _ _ fun i c _ h => tokClosed t i c h⟩
    · exact .inl rfl
    · exact .inl rfl
    · exact .inl rfl, fun c hc q hq => by
    simp at hc
    rcases hc with rfl | rfl | rfl | rfl | rfl | rfl <;> simp [owns1] at hq⟩⟩
theorem c_pnext (b1 b2 b3 b4 : Nat) (t : List PTok) (ht : t.length ≤ 1048576) (i : Nat) (hi : i < t.length) : VProc Try.prog 97 [.ptr 0 6 0 0] [pOb b1 b2 b3 b4 t i] [] (fun av mem maps => av = .agg (tokAt t i).cells ∧ mem = [pOb b1 b2 b3 b4 t (i + 1)] ∧ maps = []) := by
  have ew : IntKind.i64.wrap ((i : Int) + 1) = ((i + 1 : Nat) : Int) := wrap_succ (by omega)
  simp only [pOb, PTok.cells]
  refine vproc_start Try.func97 (by kernel_rfl) rfl (by simp [Try.ntmps97]) ?_; simp only [Try.ntmps97, Try.results97]; simp [go_sem]
  refine vc_drawn [11] (.q 0 <| .q 1 <| .q 2 <| .q 3 <| .q 4 <| .q 5 <| .q 6 <| .q 7 <| .q 8 <| .q 9 <| .or 10 (.or 11 (.done) (.nil)) (.nil)) (by kernel_rfl) ?_
  simp [go_sem, tokCells_at, hi, ew]
  refine ⟨rfl, [], [pOb b1 b2 b3 b4 t (i + 1)], by simp, by simp, by simp [go_sem], ?_, by simp [go_sem], ?_⟩
  · simp [go_sem, pOb]
    exact pOut
  · simp [go_sem, pOb]
theorem c_behind (l : List POp) (b1 b2 b3 b4 : Nat) (t : List PTok) (i : Nat) (hu : Uniq l) (es : List (Value × Value)) (h : AtIs l l.length es) (j : Nat) (hj : j < l.length) (hk : (opAt l j).kind ≠ 1) (hz : (opAt l j).text.size ≤ maxLen) :
    VProc Try.prog 95 [.ptr 0 6 0 0, .lit (.string (opAt l j).text)] [pOb b1 b2 b3 b4 t i] [(b1, ⟨115, es⟩)] (fun av mem maps => av = .agg (opAt l j).cells ∧ mem = [pOb b1 b2 b3 b4 t i] ∧ maps = [(b1, ⟨115, es⟩)]) := by
  have hget : mget es (.agg #[.string (opAt l j).text, .bool false]) = some (opV (opAt l j)) := by
    rcases at_cases h (opAt l j).text false with ⟨_, h2⟩ | ⟨j', hj', h1, h2, h3⟩
    · exact absurd ⟨rfl, by simpa using hk⟩ (h2 j hj)
    · rw [h1, hu j' j hj' hj h2 (by rw [h3]; simpa using hk)]
  simp only [pOb, POp.cells]
  refine vproc_start Try.func95 (by kernel_rfl) rfl (by simp [Try.ntmps95]) ?_; simp only [Try.ntmps95, Try.results95]; simp [go_sem]
  refine vlookK_use keyedPlace (keyPlace hz) _ zeroOpV ?_
  rw [hget]
  simp [go_sem, opV]
  refine ⟨rfl, [], [pOb b1 b2 b3 b4 t i], by simp, by simp, by simp [go_sem], ?_, by simp [go_sem], ?_⟩
  · simp [go_sem, pOb]
    exact pOut
  · simp [go_sem, pOb]
end Go.Proofs.Ytcnmgfbafcnkhaa.V
/- What the parser reads: tokens as the theory's tokens; what the parser's maps and boxes hold. -/
namespace Go.Proofs.Ytcnmgfbafcnkhaa.V
open Go.RowKit
open Go.Maps (Keyed)
open Go.Proofs.Ytcnmgfbafcnkhaa.Ops (Tr Tk Lv Res)
set_option linter.unusedVariables false
set_option linter.unusedSimpArgs false
set_option linter.constructorNameAsVariable false
abbrev TkP := Tk POp (Int × ByteArray)
def lvO (o : POp) : Lv := ⟨o.level, sortN o⟩
theorem lvlP_eq (e : PT) : lvlP e = e.level lvO := by cases e <;> rfl
theorem hole_h1 {o : POp} (h : opOk o = true) (hk : o.kind ≠ 1) : hole o false = (lvO o).h1 := by
  unfold hole Lv.h1 lvO sortN
  rw [h]
  simp only [Bool.true_eq_false, Bool.false_eq_true, false_and, or_self, if_false, if_neg hk]
  have h3 : o.kind = 2 ∨ o.kind = 3 := by simp [opOk] at h; omega
  rcases h3 with h3 | h3
  · have hs : 1 ≤ o.side ∧ o.side ≤ 3 := by simp [opOk] at h; omega
    rw [h3]
    by_cases h1 : o.side = 1
    · simp [h1]
    · simp [h1]
  · rw [h3]; simp
theorem hole_h2p {o : POp} (h : opOk o = true) (hk : o.kind = 1) : hole o false = (lvO o).h2 := by
  unfold hole Lv.h2 lvO sortN
  rw [h, hk]
  simp
theorem hole_h2i {o : POp} (h : opOk o = true) (hk : o.kind = 2) : hole o true = (lvO o).h2 := by
  unfold hole Lv.h2 lvO sortN
  rw [h, hk]
  have hs : 1 ≤ o.side ∧ o.side ≤ 3 := by simp [opOk] at h; omega
  rcases (by omega : o.side = 1 ∨ o.side = 2 ∨ o.side = 3) with h1 | h1 | h1 <;> simp [h1]
/-- a token, as the theory has it -/
def TokIs (l : List POp) (k : PTok) : TkP → Prop
  | .leaf b => (k.kind = 1 ∨ k.kind = 2) ∧ b = (k.kind, k.text)
  | .opn => k.kind = 4
  | .cls => k.kind = 5
  | .pre o => k.kind = 3 ∧ o.text = k.text ∧ o.kind = 1 ∧ ∃ j, j < l.length ∧ opAt l j = o
  | .inf o => k.kind = 3 ∧ o.text = k.text ∧ o.kind = 2 ∧ ∃ j, j < l.length ∧ opAt l j = o
  | .post o => k.kind = 3 ∧ o.text = k.text ∧ o.kind = 3 ∧ ∃ j, j < l.length ∧ opAt l j = o
def ToksAre (l : List POp) (t : List PTok) : Nat → List TkP → Prop
  | i, [] => i + 1 = t.length ∧ (tokAt t i).kind = 7
  | i, tk :: r => TokIs l (tokAt t i) tk ∧ ToksAre l t (i + 1) r
theorem toksAre_len {l : List POp} {t : List PTok} : ∀ {ts : List TkP} {i : Nat}, ToksAre l t i ts → i + ts.length + 1 = t.length
  | [], i, h => by simpa using h.1
  | tk :: r, i, h => by
    have := toksAre_len h.2
    simp only [List.length_cons]; omega
theorem toksAre_drop {l : List POp} {t : List PTok} : ∀ {u ts : List TkP} {i : Nat}, ToksAre l t i (u ++ ts) → ToksAre l t (i + u.length) ts
  | [], ts, i, h => by simpa using h
  | tk :: u, ts, i, h => by
    have := toksAre_drop (u := u) h.2
    simp only [List.length_cons]
    rw [show i + (u.length + 1) = i + 1 + u.length by omega]; exact this
theorem toksAre_rest {l : List POp} {t : List PTok} {u ts : List TkP} {i : Nat} (h : ToksAre l t i (u ++ ts)) : ToksAre l t (t.length - 1 - ts.length) ts := by
  have h1 := toksAre_drop h
  have h2 := toksAre_len h
  simp only [List.length_append] at h2
  rw [show t.length - 1 - ts.length = i + u.length by omega]; exact h1
open Go.Proofs.Ytcnmgfbafcnkhaa.Ops (Fit) in
theorem fit_yield : ∀ (e : PT) (d : Nat) (rest : List TkP), Fit true d (e.yield ++ rest) → Fit false d rest
  | .leaf b, d, rest, h => by simpa [Tr.yield, Fit] using h
  | .grp e, d, rest, h => by
    simp only [Tr.yield, List.cons_append, List.append_assoc, List.nil_append, Fit] at h
    have := fit_yield e (d + 1) _ h
    simpa [Fit] using this
  | .pre o e, d, rest, h => by
    simp only [Tr.yield, List.cons_append, Fit] at h
    exact fit_yield e d rest h
  | .post o e, d, rest, h => by
    simp only [Tr.yield, List.append_assoc, List.cons_append, List.nil_append] at h
    have := fit_yield e d _ h
    simpa [Fit] using this
  | .inf o x y, d, rest, h => by
    simp only [Tr.yield, List.append_assoc, List.cons_append, List.nil_append] at h
    have := fit_yield x d _ h
    simp only [Fit] at this
    exact fit_yield y d rest this
/-! what the maps hold -/
def vsP (bp : Nat) (bo : Nat → Nat) : Nat → Value
  | 0 => .pointer (some ⟨bp, 0, none⟩)
  | j + 1 => .pointer (some ⟨bo j, 0, none⟩)
def asP (lo : List POp) : Nat → AV
  | 0 => .bptr [.ptr 0 6 0 0]
  | j + 1 => .bptr (opAt lo j).cells
theorem rnP (lo : List POp) (i : Nat) : Rn (fun j => [0].getD j 0) 1 (asP lo i) (asP lo i) := by
  cases i with
  | zero =>
    refine .bptr _ _ rfl fun j a b h1 h2 => ?_
    match j with
    | 0 =>
      simp only [List.getElem?_cons_zero, Option.some.injEq] at h1 h2
      subst h1; subst h2
      exact .ptr 0 6 0 0 (by omega)
    | j + 1 => simp at h1
  | succ j => exact .closed _ (.bptr _ fun c hc => by
      simp [POp.cells] at hc
      rcases hc with rfl | rfl | rfl | rfl <;> exact .lit _)
structure PMaps (l lo : List POp) (bp : Nat) (bo : Nat → Nat) (esA esN esL : List (Value × Value)) : Prop where
  uniq : Uniq l
  ok : ∀ j, j < l.length → opOk (opAt l j) = true
  wf : opsWf l
  at_ : AtIs l l.length esA
  nud : ∀ j, j < l.length → (opAt l j).kind = 1 → ∃ q, q < lo.length ∧ opAt lo q = opAt l j ∧ mget esN (.string (opAt l j).text) = some (.func (.func 73) #[] #[vsP bp bo 0, vsP bp bo (q + 1)])
  led2 : ∀ j, j < l.length → (opAt l j).kind = 2 → mget esL (.string (opAt l j).text) = some (.func (.func 76) #[] #[vsP bp bo 0])
  led3 : ∀ j, j < l.length → (opAt l j).kind = 3 → mget esL (.string (opAt l j).text) = some (.func (.func 77) #[] #[])
def mapsP (b1 b3 b4 : Nat) (esA esN esL : List (Value × Value)) : List (Nat × Mp) := [(b1, ⟨115, esA⟩), (b3, ⟨9, esN⟩), (b4, ⟨9, esL⟩)]
def noTreeV : Value := .iface 139 (.agg #[])
/-- the maps that come back may be said to be those that were handed over -/
theorem VProcG.maps {P : Program} {f : FuncId} {args : List AV} {N : Nat} {vs0 : Nat → Value} {as0 : Nat → AV} {mem0 : List (Option Ob)} {maps0 : List (Nat × Mp)} {R : AV → List (Option Ob) → Prop} (h : VProcG P f args N vs0 as0 mem0 maps0 (fun av mem maps => R av mem ∧ MapsLe maps maps0)) : VProcG P f args N vs0 as0 mem0 maps0 (fun av mem maps => R av mem ∧ maps = maps0) :=
  ⟨h.1, fun w vs hd0 hl hv hg hm hmp ht => (h.2 w vs hd0 hl hv hg hm hmp ht).mono fun e w' ⟨v, e1, g, hd, av, mem, maps, ⟨r, hle⟩, po, hf, hmr, hmap, hrep⟩ => ⟨v, e1, g, hd, av, mem, maps0, ⟨r, rfl⟩, ⟨po.len, po.flat, po.cells, fun b hb => hb⟩, hf, hmr, fun b mp hb => hmap b mp (mapsLe_get hle (b, mp) (lkm_mem hb)), hrep⟩⟩
end Go.Proofs.Ytcnmgfbafcnkhaa.V
/- The parser's closures: what they answer, given what operand answers. -/
namespace Go.Proofs.Ytcnmgfbafcnkhaa.V
open Go.RowKit
open Go.Maps (Keyed)
open Go.Proofs.Ytcnmgfbafcnkhaa.Ops (Tr Tk Lv Res)
set_option linter.unusedVariables false
set_option linter.unusedSimpArgs false
set_option linter.constructorNameAsVariable false
/-- where the parser stands: its boxes, its maps, what is known of them -/
structure PEnv where
  l : List POp
  lo : List POp
  t : List PTok
  bp : Nat
  bo : Nat → Nat
  b1 : Nat
  b2 : Nat
  b3 : Nat
  b4 : Nat
  esA : List (Value × Value)
  esN : List (Value × Value)
  esL : List (Value × Value)
  maps : PMaps l lo bp bo esA esN esL
  len : t.length ≤ 1048576
  txt : ∀ i, i < t.length → (tokAt t i).text.size ≤ maxLen
  n13 : b1 ≠ b3
  n14 : b1 ≠ b4
  n34 : b3 ≠ b4
namespace PEnv
variable (E : PEnv)
def ob (i : Nat) : Option Ob := pOb E.b1 E.b2 E.b3 E.b4 E.t i
def mps : List (Nat × Mp) := mapsP E.b1 E.b3 E.b4 E.esA E.esN E.esL
def at_ (rest : List TkP) : Nat := E.t.length - 1 - rest.length
def Rt (u : Value) (j : Nat) (av : AV) (mem : List (Option Ob)) (maps : List (Nat × Mp)) : Prop := (av = .lit u ∧ mem = [E.ob j]) ∧ MapsLe maps E.mps
/-- what a function of the parser answers -/
def Ans (f : FuncId) (args : List AV) (i : Nat) : Option (PT × List TkP) → Prop
  | some (e, rest) => VProcG Try.prog f args (E.lo.length + 1) (vsP E.bp E.bo) (asP E.lo) [E.ob i] E.mps (fun av mem maps => (av = .lit (partP e) ∧ mem = [E.ob (E.at_ rest)]) ∧ maps = E.mps)
  | none => VDies Try.prog f noTreeV args (E.lo.length + 1) (vsP E.bp E.bo) (asP E.lo) [E.ob i] E.mps
theorem Ans.mk {E : PEnv} {f : FuncId} {args : List AV} {i : Nat} {e : PT} {rest : List TkP} (h : VProcG Try.prog f args (E.lo.length + 1) (vsP E.bp E.bo) (asP E.lo) [E.ob i] E.mps (E.Rt (partP e) (E.at_ rest))) : E.Ans f args i (some (e, rest)) := VProcG.maps h
theorem mpsLe (M : List (Nat × Mp)) : MapsLe (E.mps ++ M) E.mps := by
  have h1 := E.n13
  have h2 := E.n14
  have h3 := E.n34
  simp [mps, mapsP, MapsLe, lkm, h1, h2, h3, Ne.symm h1, Ne.symm h2, Ne.symm h3]
theorem fin_ {u v : Value} {i j : Nat} (M : List (Nat × Mp)) {r : List (Option Ob)} {tm : List (Nat × AV)} (hv : v = u) (hij : i = j) : vendP E.mps (E.Rt u j) ⟨tm, E.ob i :: r, E.mps ++ M, 1⟩ (.lit v) := by
  subst hv; subst hij
  refine ⟨rfl, [], [E.ob i], by simp, by simp, by simp [go_sem], ?_, fun b hb => ?_, ⟨⟨rfl, rfl⟩, E.mpsLe M⟩⟩
  · simp only [ob, pOb]
    simp [go_sem]
    exact pOut
  · cases hq : lkm E.mps b with
    | none => rw [hq] at hb; simp at hb
    | some mp => rw [mapsLe_get (E.mpsLe M) (b, mp) (lkm_mem hq)]; rfl
end PEnv
theorem an_post (E : PEnv) (e : PT) (o : POp) (rest : List TkP) (hl : highT e < 2 ^ 62) : E.Ans 77 [.lit (partP e), .agg o.cells] (E.at_ rest) (some (.post o e, rest)) := by
  refine .mk ?_
  obtain ⟨T, u, hT, _, fh, hh, ch⟩ := partIs e
  have ew : IntKind.i64.wrap (1 + highT e) = 1 + highT e := wrap_i64 (by have := highT_pos e; omega)
  simp only [PEnv.ob, pOb, PEnv.mps, mapsP, POp.cells]
  refine vprocG_start Try.func77 (by kernel_rfl) rfl (by simp [Try.ntmps77]) ?_; simp only [Try.ntmps77, Try.results77]; simp [go_sem]
  refine vc_drawn [] (.q 0 <| .q 1 <| .q 2 <| .or 3 (.q 4 <| .q 5 <| .q 6 <| .q 7 <| .done) (.nil)) (by kernel_rfl) ?_
  simp [go_sem]
  rw [hT]
  simp [go_sem, hh]
  refine vcallV_pure ch ?_ ?_
  · simp [go_sem]
  · simp [go_sem, ew]
    exact E.fin_ [] (by simp only [partP, hT]) rfl
theorem an_pre (E : PEnv) (k : PTok) (q : Nat) (hq : q < E.lo.length) (hw : (opAt E.lo q).wf) (i : Nat) (e : PT) (rest : List TkP) (hl : highT e < 2 ^ 62) (ho : E.Ans 74 [.ptr 0 6 0 0, .lit (.int .i64 (hole (opAt E.lo q) false))] i (some (e, rest))) : E.Ans 73 [.agg k.cells, .lit (vsP E.bp E.bo 0), .lit (vsP E.bp E.bo (q + 1))] i (some (.pre (opAt E.lo q) e, rest)) := by
  refine .mk ?_
  obtain ⟨T, u, hT, _, fh, hh, ch⟩ := partIs e
  have ew : IntKind.i64.wrap (1 + highT e) = 1 + highT e := wrap_i64 (by have := highT_pos e; omega)
  have cH := c_Hole _ hw false
  simp only [PEnv.ob, pOb, PEnv.mps, mapsP, PTok.cells, vsP, POp.cells] at cH ⊢
  refine vprocG_start Try.func73 (by kernel_rfl) rfl (by simp [Try.ntmps73]) ?_; simp only [Try.ntmps73, Try.results73]; simp [go_sem]
  refine vc_drawn [3] (.q 0 <| .q 1 <| .or 2 (.or 3 (.q 4 <| .done) (.nil)) (.nil)) (by kernel_rfl) ?_
  simp [go_sem]
  refine vloadF_of 17 0 rfl (by omega) rfl rfl ?_
  simp [go_sem]
  refine vloadF_of 17 (q + 1) rfl (by omega) rfl rfl ?_
  simp [go_sem, POp.cells]
  refine vcallV_pure cH ?_ ?_
  · simp [go_sem]
  · simp [go_sem]
    refine vcall_tell [0] 17 ho (by simp) rfl (fun i _ => rnP E.lo i) ?_ ?_ ?_ ?_
    · simp [go_sem]
    · simp [go_sem, PEnv.ob, pOb]
      exact fun i c _ h => tokClosed E.t i c h
    · exact E.mpsLe []
    · rintro av mem maps ⟨⟨rfl, rfl⟩, rfl⟩
      simp only [PEnv.ob, pOb, PEnv.mps, mapsP]
      simp [go_sem]
      refine vc_drawn [] (.q 0 <| .q 1 <| .q 2 <| .or 3 (.q 4 <| .q 5 <| .q 6 <| .q 7 <| .done) (.nil)) (by kernel_rfl) ?_
      simp [go_sem]
      refine vloadF_of 17 (q + 1) rfl (by omega) rfl rfl ?_
      simp [go_sem, POp.cells]
      rw [hT]
      simp [go_sem, hh]
      refine vcallV_pure ch ?_ ?_
      · simp [go_sem]
      · simp [go_sem, ew]
        exact E.fin_ E.mps (by simp only [partP, hT]) rfl
theorem an_pre_dies (E : PEnv) (k : PTok) (q : Nat) (hq : q < E.lo.length) (hw : (opAt E.lo q).wf) (i : Nat) (ho : E.Ans 74 [.ptr 0 6 0 0, .lit (.int .i64 (hole (opAt E.lo q) false))] i none) : E.Ans 73 [.agg k.cells, .lit (vsP E.bp E.bo 0), .lit (vsP E.bp E.bo (q + 1))] i none := by
  have cH := c_Hole _ hw false
  simp only [PEnv.Ans, PEnv.ob, pOb, PEnv.mps, mapsP, PTok.cells, vsP, POp.cells] at cH ho ⊢
  refine vdies_start Try.func73 (by kernel_rfl) rfl (by simp [Try.ntmps73]) ?_; simp only [Try.ntmps73, startG, startP, List.length_cons, List.length_nil, List.length_singleton]
  refine vd_snd ?_
  simp [go_sem]
  refine vd_fst (vd_drawn [3] (.q 0 <| .q 1 <| .or 2 (.or 3 (.q 4 <| .done) (.nil)) (.nil)) (by kernel_rfl) ?_)
  simp [go_sem]
  refine vloadF_of 17 0 rfl (by omega) rfl rfl ?_
  simp [go_sem]
  refine vloadF_of 17 (q + 1) rfl (by omega) rfl rfl ?_
  simp [go_sem, POp.cells]
  refine vcallV_pure cH ?_ ?_
  · simp [go_sem]
  · simp [go_sem]
    refine vdcall_tell [0] 17 ho (by simp) rfl (fun i _ => rnP E.lo i) ?_ ?_ (E.mpsLe []) (E.mpsLe [])
    · simp [go_sem]
    · simp [go_sem, PEnv.ob, pOb]
      exact fun i c _ h => tokClosed E.t i c h
theorem an_inf (E : PEnv) (o : POp) (hw : o.wf) (i : Nat) (x e : PT) (rest : List TkP) (hlx : highT x < 2 ^ 61) (hl : highT e < 2 ^ 61) (ho : E.Ans 74 [.ptr 0 6 0 0, .lit (.int .i64 (hole o true))] i (some (e, rest))) : E.Ans 76 [.lit (partP x), .agg o.cells, .lit (vsP E.bp E.bo 0)] i (some (.inf o x e, rest)) := by
  refine .mk ?_
  obtain ⟨T, u, hT, _, fh, hh, ch⟩ := partIs e
  obtain ⟨T', u', hT', _, fh', hh', ch'⟩ := partIs x
  have ew : IntKind.i64.wrap (1 + max (highT x) (highT e)) = 1 + max (highT x) (highT e) := wrap_i64 (by have := highT_pos e; have := highT_pos x; omega)
  have cH := c_Hole _ hw true
  simp only [PEnv.ob, pOb, PEnv.mps, mapsP, vsP, POp.cells] at cH ⊢
  refine vprocG_start Try.func76 (by kernel_rfl) rfl (by simp [Try.ntmps76]) ?_; simp only [Try.ntmps76, Try.results76]; simp [go_sem]
  refine vc_drawn [3] (.q 0 <| .q 1 <| .or 2 (.or 3 (.q 4 <| .done) (.nil)) (.nil)) (by kernel_rfl) ?_
  simp [go_sem]
  refine vloadF_of 22 0 rfl (by omega) rfl rfl ?_
  simp [go_sem]
  refine vcallV_pure cH ?_ ?_
  · simp [go_sem]
  · simp [go_sem]
    refine vcall_tell [0] 22 ho (by simp) rfl (fun i _ => rnP E.lo i) ?_ ?_ ?_ ?_
    · simp [go_sem]
    · simp [go_sem, PEnv.ob, pOb]
      exact fun i c _ h => tokClosed E.t i c h
    · exact E.mpsLe []
    · rintro av mem maps ⟨⟨rfl, rfl⟩, rfl⟩
      simp only [PEnv.ob, pOb, PEnv.mps, mapsP]
      simp [go_sem]
      refine vc_drawn [] (.q 0 <| .q 1 <| .q 2 <| .q 3 <| .q 5 <| .or 4 (.or 6 (.q 7 <| .q 8 <| .q 9 <| .q 10 <| .q 11 <| .done) (.nil)) (.nil)) (by kernel_rfl) ?_
      simp [go_sem]
      rw [hT, hT']
      simp [go_sem, hh, hh']
      refine vcallV_pure ch' ?_ ?_
      · simp [go_sem]
      · simp [go_sem, hh]
        refine vcallV_pure ch ?_ ?_
        · simp [go_sem]
        · simp [go_sem, ew]
          have em : (if highT x < highT e then highT e else highT x) = max (highT x) (highT e) := by split <;> omega
          exact E.fin_ E.mps (by simp only [partP, hT, hT', em, ew]) rfl
theorem an_inf_dies (E : PEnv) (o : POp) (hw : o.wf) (i : Nat) (x : PT) (ho : E.Ans 74 [.ptr 0 6 0 0, .lit (.int .i64 (hole o true))] i none) : E.Ans 76 [.lit (partP x), .agg o.cells, .lit (vsP E.bp E.bo 0)] i none := by
  have cH := c_Hole _ hw true
  simp only [PEnv.Ans, PEnv.ob, pOb, PEnv.mps, mapsP, vsP, POp.cells] at cH ho ⊢
  refine vdies_start Try.func76 (by kernel_rfl) rfl (by simp [Try.ntmps76]) ?_; simp only [Try.ntmps76, startG, startP, List.length_cons, List.length_nil, List.length_singleton]
  refine vd_snd ?_
  simp [go_sem]
  refine vd_fst (vd_drawn [3] (.q 0 <| .q 1 <| .or 2 (.or 3 (.q 4 <| .done) (.nil)) (.nil)) (by kernel_rfl) ?_)
  simp [go_sem]
  refine vloadF_of 22 0 rfl (by omega) rfl rfl ?_
  simp [go_sem]
  refine vcallV_pure cH ?_ ?_
  · simp [go_sem]
  · simp [go_sem]
    refine vdcall_tell [0] 22 ho (by simp) rfl (fun i _ => rnP E.lo i) ?_ ?_ (E.mpsLe []) (E.mpsLe [])
    · simp [go_sem]
    · simp [go_sem, PEnv.ob, pOb]
      exact fun i c _ h => tokClosed E.t i c h
end Go.Proofs.Ytcnmgfbafcnkhaa.V
/- The parser is made: maps of closures. -/
namespace Go.Proofs.Ytcnmgfbafcnkhaa.V
open Go.RowKit
open Go.Maps (Keyed)
open Go.ChangeMaps (setBlock)
set_option linter.unusedVariables false
set_option linter.unusedSimpArgs false
set_option linter.constructorNameAsVariable false
/-- what the parser's cell and the operators' boxes stand for, while the parser is made -/
def asN (lo : List POp) : Nat → AV
  | 0 => .ptr 1 1 0 0
  | j + 1 => .bptr (opAt lo j).cells
/-- where the loop over the operators stands -/
structure NP where
  lo : List POp
  bo : Nat → Nat
  esN : List (Value × Value)
  esL : List (Value × Value)
  seen : Array Nat
def npS (b1 b2 b3 b4 bp bi : Nat) (t : List PTok) (x : NP) : VS := ⟨[(50, .fam (x.lo.length + 1) (vsP bp x.bo) (asN x.lo)), (5, .ptr 1 1 0 0), (16, .lit (.pointer (some ⟨bi, 0, none⟩)))], [pOb b1 b2 b3 b4 t 0, some ⟨95, 1, 1, fun _ => [.ptr 0 6 0 0]⟩], [(b3, ⟨9, x.esN⟩), (b4, ⟨9, x.esL⟩)], 0⟩
/-- an operator that the loop has seen -/
structure NPDone (bp : Nat) (x : NP) (o : POp) : Prop where
  k1 : o.kind = 1 → ∃ q, q < x.lo.length ∧ opAt x.lo q = o ∧ mget x.esN (.string o.text) = some (.func (.func 73) #[] #[vsP bp x.bo 0, vsP bp x.bo (q + 1)])
  k2 : o.kind = 2 → mget x.esL (.string o.text) = some (.func (.func 76) #[] #[vsP bp x.bo 0])
  k3 : o.kind = 3 → mget x.esL (.string o.text) = some (.func (.func 77) #[] #[])
def NPInv (l : List POp) (es : Array MapEntry) (bp : Nat) (x : NP) : Prop := ∀ e, e ∈ es.toList → x.seen.contains e.born = true → ∃ j, j < l.length ∧ e.val = opV (opAt l j) ∧ NPDone bp x (opAt l j)
def npR (b1 b2 b3 b4 : Nat) (t : List PTok) (esA : List (Value × Value)) (tm : List (Nat × AV)) : VS := ⟨tm ++ [(5, .ptr 1 1 0 0), (2, .ptr 2 2 0 0)], [pOb b1 b2 b3 b4 t 0, some ⟨95, 1, 1, fun _ => [.ptr 0 6 0 0]⟩, some ⟨67, 2, 1, fun _ => [.lit (.map (some b1)), .lit (.map (some b2))]⟩], [(b1, ⟨115, esA⟩), (b3, ⟨9, []⟩), (b4, ⟨9, []⟩)], 0⟩
theorem wpList_step {P : Program} {n : Nat} {base : Fr} {w0 w : World} {hd : Nat → Value} {s : VS} {a : Act} {all : Array Oper} {o : Oper} {rest : List Oper} {Q : Exit → Act → World → Prop} {k : VS → Prop} (h : RelH n base w0 hd s a w) (hP : base.P = P) (hg : o.guard = none) (hv : vstep P n o s k) (hK : ∀ hd' s' a' w', RelH n base w0 hd' s' a' w' → k s' → wpList P all Q rest a' w') : wpList P all Q (o :: rest) a w := by
  unfold wpList
  rw [if_pos (by simp [Region.wanted, hg])]
  exact .inl (vstep_sound h hP hv hK)
theorem wpList_run {P : Program} {a : Act} {w w' : World} {all : Array Oper} {o : Oper} {rest : List Oper} {Q : Exit → Act → World → Prop} {v : Value} (hg : o.guard = none) (hr : (execOp a.eval o).run P w = .ok (.value v) w') (hK : wpList P all Q rest (a.put o.dst v) w') : wpList P all Q (o :: rest) a w := by
  unfold wpList
  rw [if_pos (by simp [Region.wanted, hg])]
  refine .inl ?_
  unfold Oper.wp
  rw [hr]
  exact hK
/-- the parser as it is handed back -/
def npR2 (l : List POp) (t : List PTok) (b1 b2 : Nat) (esA : List (Value × Value)) (av : AV) (mem : List (Option Ob)) (maps : List (Nat × Mp)) (N : Nat) (vs : Nat → Value) (as' : Nat → AV) : Prop :=
  ∃ lo bp bo b3 b4 esN esL, (b1 ≠ b3 ∧ b1 ≠ b4 ∧ b3 ≠ b4) ∧ av = .ptr 0 6 0 0 ∧ mem = [pOb b1 b2 b3 b4 t 0, none] ∧ maps = mapsP b1 b3 b4 esA esN esL ∧ N = lo.length + 1 ∧ vs = vsP bp bo ∧ as' = asP lo ∧ PMaps l lo bp bo esA esN esL
theorem np_end {l : List POp} {t : List PTok} {b1 b2 b3 b4 bp bi : Nat} {esA : List (Value × Value)} {x : NP} {w0 w : World} {hd0 hd : Nat → Value} {a : Act} {es : Array MapEntry} {clock : Nat} (hb : b1 ≠ b3 ∧ b1 ≠ b4 ∧ b3 ≠ b4)
    (h : RelH 50 ⟨Try.prog, Sh w0 hd0 [] [(b1, ⟨115, esA⟩)], hd0, []⟩ w0 hd { npS b1 b2 b3 b4 bp bi t x with tmps := (4, .ptr 0 6 0 0) :: (npS b1 b2 b3 b4 bp bi t x).tmps } a w) (hes : w.heap[b1]? = some (.map es clock)) (hmi : MapIs Try.prog ⟨115, esA⟩ es clock) (hP : PMaps l x.lo bp x.bo esA x.esN x.esL) :
    ∃ v, (results Try.f44 a.tmps).run Try.prog w = .ok v w ∧ Bel (Sh w0 hd0 [] [(b1, ⟨115, esA⟩)]) w0 w ∧ ∃ hd av mem maps N vs1 as1, (npR2 l t b1 b2 esA av mem maps N vs1 as1 ∧ ∀ i, i < N → FlatB (as1 i) ∧ Rep w (okOf mem hd) hd mem.length (as1 i) (vs1 i)) ∧ PostOk [] [(b1, ⟨115, esA⟩)] av mem maps ∧
      ((∀ k, k < ([] : List (Option Ob)).length → hd k = hd0 k) ∧ TailEq hd0 hd) ∧ MemRel (Sh w0 hd0 [] [(b1, ⟨115, esA⟩)]) w hd mem ∧ MapRel Try.prog (Sh w0 hd0 [] [(b1, ⟨115, esA⟩)]) w maps ∧ Rep w (okOf mem hd) hd mem.length av v := by
  have hf := h.free 1
  have hm := (h.again_map hes hmi (.inr (.inr (by simp [lkm])))).mp
  have h4 := hf.tm 4
  have t0 := h.told (t := 50) (i := 0) rfl (by omega)
  have f0 := h.freed (k := 1) (ob := ⟨95, 1, 1, fun _ => [.ptr 0 6 0 0]⟩) rfl (by simp) t0
  refine ⟨a.tmps.getD 4 undef, ?_, h.below, hd, .ptr 0 6 0 0, [pOb b1 b2 b3 b4 t 0, none], mapsP b1 b3 b4 esA x.esN x.esL, x.lo.length + 1, vsP bp x.bo, asP x.lo, ⟨⟨x.lo, bp, x.bo, b3, b4, x.esN, x.esL, hb, rfl, rfl, rfl, rfl, rfl, rfl, hP⟩, fun i hi => ?_⟩, ⟨by simp, rfl, fun k ob hk i hi c hc => ?_, fun b hb' => ?_⟩, ⟨fun k hk => by simp at hk, h.fix.2.1⟩, hf.me, hm, h4⟩
  · simp [results, Try.results44, go_sem]
  · cases i with
    | zero => exact ⟨⟨_, rfl, rfl⟩, f0⟩
    | succ j =>
      refine ⟨⟨_, rfl, rfl⟩, ?_⟩
      have tj := hf.told (t := 50) (i := j + 1) rfl (by omega)
      exact tj
  · match k, hk with
    | 0, hk =>
      simp only [List.getElem?_cons_zero, Option.some.injEq, pOb] at hk
      subst hk
      simp at hc
      rcases hc with rfl | rfl | rfl | rfl | rfl | rfl
      · exact .inl rfl
      · exact .inl rfl
      · exact .inr ⟨⟨_, _, _, rfl⟩, .sl _ _ _ fun i c _ h => tokClosed t i c h⟩
      · exact .inl rfl
      · exact .inl rfl
      · exact .inl rfl
    | 1, hk => simp at hk
    | k + 2, hk => simp at hk
  · simp only [lkm] at hb'
    split at hb'
    · rename_i e
      subst e
      simp [mapsP, lkm]
    · simp at hb'
end Go.Proofs.Ytcnmgfbafcnkhaa.V
/- The loop that makes the parser's maps: what it keeps. Plain Lean. -/
namespace Go.Proofs.Ytcnmgfbafcnkhaa.V
open Go.RowKit
set_option linter.unusedVariables false
set_option linter.unusedSimpArgs false
theorem mget_mem : ∀ {es : List (Value × Value)} {x v : Value}, mget es x = some v → (x, v) ∈ es
  | [], x, v, h => by simp [mget] at h
  | p :: r, x, v, h => by
    simp only [mget] at h
    split at h
    · rename_i e
      simp only [Option.some.injEq] at h
      subst h; subst e
      exact List.mem_cons_self
    · exact List.mem_cons_of_mem _ (mget_mem h)
theorem opV_inj {a b : POp} (h : opV a = opV b) : a = b := by
  cases a; cases b
  simp [opV] at h
  obtain ⟨rfl, rfl, rfl, rfl⟩ := h
  rfl
theorem np_all {l : List POp} {es : Array MapEntry} {clock bp : Nat} {x : NP} {esA : List (Value × Value)} (hu : Uniq l) (hok : ∀ j, j < l.length → opOk (opAt l j) = true) (hw : opsWf l) (hat : AtIs l l.length esA) (hmi : MapIs Try.prog ⟨115, esA⟩ es clock) (hinv : NPInv l es bp x) (hleft : (leftOf es x.seen).size = 0) : PMaps l x.lo bp x.bo esA x.esN x.esL := by
  have done : ∀ j, j < l.length → NPDone bp x (opAt l j) := fun j hj => by
    have h1 := hat.1 j hj
    cases hg : mget esA (placeV (opAt l j)) with
    | none => rw [hg] at h1; simp at h1
    | some v =>
      obtain ⟨j', hj', hp, hv⟩ := hat.2 _ _ hg
      have hmem := mget_mem hg
      have heq : es.toList.map (fun e => (e.key, e.val)) = esA := hmi.eq
      rw [← heq, List.mem_map] at hmem
      obtain ⟨e, he, hee⟩ := hmem
      obtain ⟨j'', hj'', hv2, hd⟩ := hinv e he (all_seen es x.seen hleft e he)
      have e1 : opAt l j = opAt l j' := by
        simp [placeV] at hp
        exact hu j j' hj hj' hp.1 hp.2
      have e2 : opAt l j'' = opAt l j' := opV_inj (by rw [← hv2, ← hv]; simp at hee; exact hee.2)
      rw [e1, ← e2]
      exact hd
  exact ⟨hu, hok, hw, hat, fun j hj hk => (done j hj).k1 hk, fun j hj hk => (done j hj).k2 hk, fun j hj hk => (done j hj).k3 hk⟩
/-- one operator more -/
noncomputable def npNext (bp b7 : Nat) (x : NP) (o : POp) (born : Nat) : NP :=
  ⟨x.lo ++ [o], fun j => if j = x.lo.length then b7 else x.bo j,
    if o.kind = 1 then mput x.esN (.string o.text) (.func (.func 73) #[] #[.pointer (some ⟨bp, 0, none⟩), .pointer (some ⟨b7, 0, none⟩)]) else x.esN,
    if o.kind = 2 then mput x.esL (.string o.text) (.func (.func 76) #[] #[.pointer (some ⟨bp, 0, none⟩)]) else if o.kind = 3 then mput x.esL (.string o.text) (.func (.func 77) #[] #[]) else x.esL, x.seen.push born⟩
theorem opAt_snoc {l : List POp} {o : POp} {q : Nat} (h : q < l.length) : opAt (l ++ [o]) q = opAt l q := by
  simp [opAt, List.getD_eq_getElem?_getD, List.getElem?_append_left h]
theorem opAt_last {l : List POp} {o : POp} : opAt (l ++ [o]) l.length = o := by
  simp [opAt, List.getD_eq_getElem?_getD]
theorem np_next {l : List POp} {es : Array MapEntry} {clock bp b7 : Nat} {x : NP} {esA : List (Value × Value)} (hu : Uniq l) (hmi : MapIs Try.prog ⟨115, esA⟩ es clock) (hinv : NPInv l es bp x) {e : MapEntry} (he : e ∈ es.toList) {j : Nat} (hj : j < l.length) (hv : e.val = opV (opAt l j)) : NPInv l es bp (npNext bp b7 x (opAt l j) e.born) := by
  generalize ho : opAt l j = o at *
  intro e' he' hs
  have hcase : x.seen.contains e'.born = true ∨ e' = e := by
    simp [npNext] at hs
    rcases hs with hs | hs
    · exact .inl (by simpa using hs)
    · refine .inr ?_
      have h1 := find_born e es.toList hmi.born he
      have h2 := find_born e' es.toList hmi.born he'
      rw [← hs, h2] at h1
      simpa using h1
  rcases hcase with hc | rfl
  · obtain ⟨j1, hj1, hv1, hd⟩ := hinv e' he' hc
    refine ⟨j1, hj1, hv1, ?_, ?_, ?_⟩
    · intro hk
      obtain ⟨q, hq, hq1, hq2⟩ := hd.k1 hk
      by_cases ho1 : o.kind = 1
      · by_cases htx : o.text = (opAt l j1).text
        · have eo : o = opAt l j1 := by
            rw [← ho]
            exact hu j j1 hj hj1 (by rw [ho]; exact htx) (by rw [ho, ho1, hk])
          refine ⟨x.lo.length, by simp [npNext], by simp only [npNext]; rw [opAt_last, eo], ?_⟩
          simp only [npNext, if_pos ho1, mget_mput, htx, if_true, vsP]
        · refine ⟨q, by simp [npNext]; omega, by simp only [npNext]; rw [opAt_snoc hq, hq1], ?_⟩
          simp only [npNext, if_pos ho1, mget_mput, vsP, if_neg (show q ≠ x.lo.length by omega)]
          rw [if_neg (by simpa using htx)]
          exact hq2
      · refine ⟨q, by simp [npNext]; omega, by simp only [npNext]; rw [opAt_snoc hq, hq1], ?_⟩
        simp only [npNext, if_neg ho1, vsP, if_neg (show q ≠ x.lo.length by omega)]
        exact hq2
    · intro hk
      have h2 := hd.k2 hk
      by_cases ho2 : o.kind = 2
      · simp only [npNext, if_pos ho2, mget_mput, vsP]
        split
        · rfl
        · exact h2
      · by_cases ho3 : o.kind = 3
        · simp only [npNext, if_neg ho2, if_pos ho3, mget_mput]
          split
          · rename_i htx
            exfalso
            simp at htx
            have eo : o = opAt l j1 := by
              rw [← ho]
              exact hu j j1 hj hj1 (by rw [ho]; exact htx) (by rw [ho, ho3, hk]; rfl)
            rw [← eo] at hk; omega
          · exact h2
        · simp only [npNext, if_neg ho2, if_neg ho3]; exact h2
    · intro hk
      have h2 := hd.k3 hk
      by_cases ho2 : o.kind = 2
      · simp only [npNext, if_pos ho2, mget_mput]
        split
        · rename_i htx
          exfalso
          simp at htx
          have eo : o = opAt l j1 := by
            rw [← ho]
            exact hu j j1 hj hj1 (by rw [ho]; exact htx) (by rw [ho, ho2, hk]; rfl)
          rw [← eo] at hk; omega
        · exact h2
      · by_cases ho3 : o.kind = 3
        · simp only [npNext, if_neg ho2, if_pos ho3, mget_mput]
          split
          · rfl
          · exact h2
        · simp only [npNext, if_neg ho2, if_neg ho3]; exact h2
  · refine ⟨j, hj, by rw [ho]; exact hv, ?_⟩
    rw [ho]
    refine ⟨fun hk => ⟨x.lo.length, by simp [npNext], by simp only [npNext]; rw [opAt_last], ?_⟩, fun hk => ?_, fun hk => ?_⟩
    · simp only [npNext, if_pos hk, mget_mput, if_true, vsP]
    · simp only [npNext, if_pos hk, mget_mput, if_true, vsP]
    · simp only [npNext, if_pos hk, if_neg (show ¬ o.kind = 2 by omega), mget_mput, if_true]
end Go.Proofs.Ytcnmgfbafcnkhaa.V
/- The parser is made: the walk. -/
namespace Go.Proofs.Ytcnmgfbafcnkhaa.V
open Go.RowKit
open Go.Maps (Keyed)
open Go.ChangeMaps (setBlock)
set_option linter.unusedVariables false
set_option linter.unusedSimpArgs false
set_option linter.constructorNameAsVariable false
set_option maxRecDepth 20000 in
theorem np_start (l : List POp) (t : List PTok) (b1 b2 : Nat) (esA : List (Value × Value)) {w : World} {vs : List Value} {hd0 : Nat → Value} (hlen : [AV.agg [.lit (.map (some b1)), .lit (.map (some b2))], .sl 3 t.length (tokCells t)].length = vs.length)
    (hrep : ∀ (j : Nat) a u, [AV.agg [.lit (.map (some b1)), .lit (.map (some b2))], .sl 3 t.length (tokCells t)][j]? = some a → vs[j]? = some u → Rep w (okOf [] hd0) hd0 0 a u) (hm : MemRel (fun _ => True) w hd0 []) (hmp : MapRel Try.prog (fun _ => True) w [(b1, ⟨115, esA⟩)]) (htl : TailNot hd0 (Sh w hd0 [] [(b1, ⟨115, esA⟩)]))
    (hu : Uniq l) (hok : ∀ j, j < l.length → opOk (opAt l j) = true) (hw : opsWf l) (hat : AtIs l l.length esA)
    (R : Ending → World → Prop) (hR : ∀ v w', (Bel (Sh w hd0 [] [(b1, ⟨115, esA⟩)]) w w' ∧ ∃ hd av mem maps N vs1 as1, (npR2 l t b1 b2 esA av mem maps N vs1 as1 ∧ ∀ i, i < N → FlatB (as1 i) ∧ Rep w' (okOf mem hd) hd mem.length (as1 i) (vs1 i)) ∧ PostOk [] [(b1, ⟨115, esA⟩)] av mem maps ∧
      ((∀ k, k < ([] : List (Option Ob)).length → hd k = hd0 k) ∧ TailEq hd0 hd) ∧ MemRel (Sh w hd0 [] [(b1, ⟨115, esA⟩)]) w' hd mem ∧ MapRel Try.prog (Sh w hd0 [] [(b1, ⟨115, esA⟩)]) w' maps ∧ Rep w' (okOf mem hd) hd mem.length av v) → R (.returned v) w') : Calls Try.prog 44 vs.toArray w R := by
  have hrel := startP_rel (P := Try.prog) (fn := Try.f44) (by simp [Try.ntmps44]) hlen hrep hm hmp htl
  refine calls_of_wp Try.func44 rfl ?_
  refine wp_seq (vc_sound rfl _ hrel (K := fun e s => e = .normal ∧ s = ⟨[(4, .lit (.pointer none)), (2, .ptr 0 2 0 0), (0, AV.agg [.lit (.map (some b1)), .lit (.map (some b2))]), (1, .sl 3 t.length (tokCells t))], [some ⟨67, 2, 1, fun _ => [.lit (.map (some b1)), .lit (.map (some b2))]⟩], [(b1, ⟨115, esA⟩)], 0⟩) ?_ fun x hd' s' a' w' h' hk => ?_)
  · simp only [Try.ntmps44, startP]
    simp [go_sem]
  · obtain ⟨rfl, rfl⟩ := hk
    simp only [VX.out, Exit.then]
    refine wp_seq (vc_sound rfl _ h' (K := fun e s => e = .normal ∧ ∃ b3 b4, (b1 ≠ b3 ∧ b1 ≠ b4 ∧ b3 ≠ b4) ∧ Ent s ⟨[(5, .ptr 1 1 0 0), (2, .ptr 2 2 0 0)], [pOb b1 b2 b3 b4 t 0, some ⟨95, 1, 1, fun _ => [.ptr 0 6 0 0]⟩, some ⟨67, 2, 1, fun _ => [.lit (.map (some b1)), .lit (.map (some b2))]⟩], [(b1, ⟨115, esA⟩), (b3, ⟨9, []⟩), (b4, ⟨9, []⟩)], 0⟩) ?_ fun x hd' s' a' w' h' hk => ?_)
    · simp [go_sem]
      intro b3 h13 b4 h4
      have h34 : b3 ≠ b4 := fun e => by rw [if_pos e] at h4; simp at h4
      have h14 : b1 ≠ b4 := fun e => by
        by_cases e2 : b3 = b4
        · exact h34 e2
        · rw [if_neg e2, if_pos e] at h4; simp at h4
      refine ⟨b3, b4, ⟨h13, h14, h34⟩, ent_ks [1, 2, 0] (by simp) (by simp) (by simp) (by simp) ?_ ?_ ?_⟩
      · simp [MapsLe, lkm, h13, h14, h34, Ne.symm h13, Ne.symm h14, Ne.symm h34]
      · simp [go_sem]
      · simp [go_sem, pOb]
        exact fun i c _ h => tokClosed t i c h
    · obtain ⟨rfl, b3, b4, ⟨h13, h14, h34⟩, hent⟩ := hk
      obtain ⟨hd1, h1⟩ := hent _ _ _ _ _ _ h'
      simp only [VX.out, Exit.then]
      refine wp_seq (wp_seq (wp_region_list ?_))
      refine wpList_step h1 rfl rfl (k := fun s => s = npR b1 b2 b3 b4 t esA [(14, .ptr 2 2 0 0)]) (by simp only [npR, pOb]; simp [go_sem]) fun hd2 s2 a2 w2 h2 hk2 => ?_
      subst hk2
      refine wpList_step h2 rfl rfl (k := fun s => s = npR b1 b2 b3 b4 t esA [(15, .lit (.map (some b1))), (14, .ptr 2 2 0 0)]) (by simp only [npR, pOb]; simp [go_sem]) fun hd3 s3 a3 w3 h3 hk3 => ?_
      subst hk3
      obtain ⟨hmay1, es, clock, hes, hmi⟩ := h3.mp b1 ⟨115, esA⟩ (by simp [npR, lkm])
      have hr := run_range_map (P := Try.prog) w3 64 115 75 b1 es clock (by kernel_rfl) hes
      refine wpList_run (v := .pointer (some ⟨w3.heap.size, 0, none⟩)) (w' := w3.alloc (.mapIter (some b1) clock #[] clock)) rfl ?_ ?_
      · have e15 : a3.eval (.tmp 15) = .map (some b1) := (h3.ev_ (.tmp 15)).val_ rfl
        unfold execOp
        simp only [e15]
        exact run_v hr
      · simp only [wpList, Exit.then]
        have h4 := (h3.grown (World.grownBy_alloc w3 (.mapIter (some b1) clock #[] clock) none)).put (t := 16) (by rw [Try.ntmps44]; omega) (.lit (.pointer (some ⟨w3.heap.size, 0, none⟩)))
        have hes4 : (w3.alloc (.mapIter (some b1) clock #[] clock)).heap[b1]? = some (.map es clock) := (Below.heap_alloc _ _ _ (Array.getElem?_eq_some_iff.1 hes).1).trans hes
        have hit4 : (w3.alloc (.mapIter (some b1) clock #[] clock)).heap[w3.heap.size]? = some (.mapIter (some b1) clock #[] clock) := heap_alloc_new _ _
        have hbi : Sh w hd0 [] [(b1, ⟨115, esA⟩)] w3.heap.size := h3.le _ h3.below.size
        have hlt1 : b1 < w3.heap.size := (Array.getElem?_eq_some_iff.1 hes).1
        generalize hbi' : w3.heap.size = bi at *
        generalize w3.alloc (.mapIter (some b1) clock #[] clock) = w4 at *
        generalize a3.put (some 16) (.pointer (some ⟨bi, 0, none⟩)) = a4 at *
        obtain ⟨hd5, h5⟩ : ∃ hd, RelH 50 ⟨Try.prog, Sh w hd0 [] [(b1, ⟨115, esA⟩)], hd0, []⟩ w hd ⟨[(5, .ptr 1 1 0 0), (16, .lit (.pointer (some ⟨bi, 0, none⟩)))], [pOb b1 b2 b3 b4 t 0, some ⟨95, 1, 1, fun _ => [.ptr 0 6 0 0]⟩], [(b3, ⟨9, []⟩), (b4, ⟨9, []⟩)], 0⟩ a4 w4 := by
          refine (ent_ks [0, 1] (by simp) (by simp [npR]) (by simp) (by simp) ?_ ?_ ?_ : Ent _ _) _ _ _ _ _ _ h4
          · simp [MapsLe, npR, lkm, h13, h14, h34, Ne.symm h13, Ne.symm h14, Ne.symm h34]
          · simp [go_sem, npR]
          · simp [go_sem, pOb, npR]
            exact fun i c _ h => tokClosed t i c h
        obtain ⟨bp, _, _, hbp, hp5⟩ := rep_ptr (h5.tm 5)
        have h6 : RelH 50 ⟨Try.prog, Sh w hd0 [] [(b1, ⟨115, esA⟩)], hd0, []⟩ w hd5 (npS b1 b2 b3 b4 bp bi t ⟨[], fun _ => 0, [], [], #[]⟩) a4 w4 := h5.tell 50 fun i hi => by
          have e0 : i = 0 := by simp at hi; omega
          subst e0
          have := h5.tm 5
          rw [hp5] at this
          exact this
        refine wp_block (wp_loop_of (ι := NP) (fun x a w' => ∃ hd, RelH 50 ⟨Try.prog, Sh w hd0 [] [(b1, ⟨115, esA⟩)], hd0, []⟩ w hd (npS b1 b2 b3 b4 bp bi t x) a w' ∧ w'.heap[b1]? = some (.map es clock) ∧ (∃ c0, clock ≤ c0 ∧ w'.heap[bi]? = some (.mapIter (some b1) clock x.seen c0)) ∧ NPInv l es bp x) (fun x => (leftOf es x.seen).size) (fun x a w' hI => ?_) (i := ⟨[], fun _ => 0, [], [], #[]⟩) ⟨hd5, h6, hes4, ⟨clock, Nat.le_refl _, hit4⟩, fun e he hs => by simp at hs⟩)
        obtain ⟨hd7, h7, hes7, ⟨c0, hc0, hit7⟩, hinv⟩ := hI
        refine wp_seq (wp_region_list ?_)
        have e16 : a.eval (.tmp 16) = .pointer (some ⟨bi, 0, none⟩) := (h7.ev_ (.tmp 16)).val_ rfl
        rcases run_next_at (P := Try.prog) w' 0 bi b1 clock c0 x.seen es clock hit7 hes7 hmi.young hc0 with ⟨hleft, hrun⟩ | ⟨e, he, w8, hw8, hrun⟩
        · refine wpList_run (v := .tuple #[.bool false]) (w' := w') rfl ?_ ?_
          · unfold execOp
            simp only [e16]
            exact run_v hrun
          · have h8 := h7.put (t := 17) (by omega) (av := .tup [.lit (.bool false)]) (v := .tuple #[.bool false]) (.tup _ [.bool false] rfl fun j a q g1 g2 => by
              rcases j with _ | j
              · simp at g1 g2; subst g1; subst g2; exact .lit _
              · simp at g1)
            have e17 : (a.put (some 17) (.tuple #[.bool false])).eval (.tmp 17) = .tuple #[.bool false] := by
              show (a.put (some 17) (.tuple #[.bool false])).tmps.getD 17 undef = _
              rw [put_getD _ _ _ (by rw [h7.size]; omega), if_pos rfl]
            refine wpList_run (v := .bool false) (w' := w') rfl (by unfold execOp; simp only [e17]; exact run_v (by simp [Instr.extract])) ?_
            have h9 := h8.put (t := 18) (by omega) (av := .lit (.bool false)) (v := .bool false) (.lit _)
            simp only [wpList, Exit.then]
            refine wp_seq (wp_cond_false ((h9.ev_ (.tmp 18)).val_ rfl) (wp_exit ?_))
            simp only [Exit.then, Exit.inBlock, if_true]
            refine vc_keep h9 rfl (fun b => b = b1) (fun b hb => by subst hb; exact (Array.getElem?_eq_some_iff.1 hes7).1) (fun b hb mp => by subst hb; simp [npS, lkm, Ne.symm h13, Ne.symm h14]) (fun b hb k ob hk => by subst hb; exact h9.own_ne hes7 (by simp) k ob hk) (K := fun e s => e = .ret ∧ s = { npS b1 b2 b3 b4 bp bi t x with tmps := (4, .ptr 0 6 0 0) :: (49, .ptr 0 6 0 0) :: (18, .lit (.bool false)) :: (17, .tup [.lit (.bool false)]) :: (npS b1 b2 b3 b4 bp bi t x).tmps }) (by simp only [npS, pOb]; simp [go_sem]) fun y hd10 s10 a10 w10 h10 hb10 hk10 => ?_
            obtain ⟨rfl, rfl⟩ := hk10
            have h11 : RelH 50 ⟨Try.prog, Sh w hd0 [] [(b1, ⟨115, esA⟩)], hd0, []⟩ w hd10 { npS b1 b2 b3 b4 bp bi t x with tmps := (4, .ptr 0 6 0 0) :: (npS b1 b2 b3 b4 bp bi t x).tmps } a10 w10 := by
              refine ⟨h10.defers, h10.size, h10.below, h10.le, h10.fixl, h10.fix, h10.mp, fun u => ?_, h10.me⟩
              have := h10.tm u
              simp only [lk] at this ⊢
              by_cases e4 : 4 = u
              · rw [if_pos e4] at this ⊢; exact this
              · rw [if_neg e4] at this ⊢
                by_cases e49 : 49 = u
                · subst e49; exact .undef _
                · rw [if_neg e49] at this
                  by_cases e18 : 18 = u
                  · subst e18; exact .undef _
                  · rw [if_neg e18] at this
                    by_cases e17 : 17 = u
                    · subst e17; exact .undef _
                    · rw [if_neg e17] at this; exact this
            obtain ⟨v, q1, q2⟩ := np_end ⟨h13, h14, h34⟩ h11 ((hb10 b1 rfl).trans hes7) hmi (np_all hu hok hw hat hmi hinv hleft)
            exact ⟨h10.defers, v, q1, hR v w10 q2⟩
        · obtain ⟨he1, he2⟩ := mem_left he
          obtain ⟨j, hj, hkey, hval⟩ : ∃ j, j < l.length ∧ e.key = placeV (opAt l j) ∧ e.val = opV (opAt l j) := by
            have heq : es.toList.map (fun e => (e.key, e.val)) = esA := hmi.eq
            have hmem : (e.key, e.val) ∈ esA := by rw [← heq]; exact List.mem_map.2 ⟨e, he1, rfl⟩
            obtain ⟨q, hq⟩ := List.getElem?_of_mem hmem
            have hg : mget esA e.key = some e.val := mget_at hq (pair_first hmi.apart hq)
            exact hat.2 _ _ hg
          have hne : b1 ≠ bi := by omega
          have hinv' := fun b7 => np_next (b7 := b7) hu hmi hinv he1 hj hval
          have hko : (opAt l j).kind = 1 ∨ (opAt l j).kind = 2 ∨ (opAt l j).kind = 3 := by
            have := hok j hj
            simp [opOk] at this; omega
          have hzo : (opAt l j).text.size ≤ maxLen := hw j hj
          generalize ho : opAt l j = o at *
          have h8 : RelH 50 ⟨Try.prog, Sh w hd0 [] [(b1, ⟨115, esA⟩)], hd0, []⟩ w hd7 (npS b1 b2 b3 b4 bp bi t x) a w8 := by
            rcases hw8 with rfl | rfl
            · exact h7
            · exact h7.grown ⟨rfl, rfl, rfl, Nat.le_refl _, fun _ _ _ => rfl⟩
          have hp8 : w8.heap = w'.heap := by rcases hw8 with rfl | rfl <;> rfl
          have h9 := h8.iterTurn (b := bi) (o := .mapIter (some b1) clock x.seen c0) (by rw [hp8]; exact hit7) (by simp) (by simp) (fun ad u e hc => by
            unfold World.cell? at hc
            rw [e, hp8, hit7] at hc
            simp at hc) hbi (.mapIter (some b1) clock (x.seen.push e.born) clock)
          have hes9 : (setBlock w8 bi (.mapIter (some b1) clock (x.seen.push e.born) clock)).heap[b1]? = some (.map es clock) := by
            simp only [setBlock]
            rw [Array.getElem?_setIfInBounds_ne (fun e => hne e.symm), hp8]; exact hes7
          have hit9 : (setBlock w8 bi (.mapIter (some b1) clock (x.seen.push e.born) clock)).heap[bi]? = some (.mapIter (some b1) clock (x.seen.push e.born) clock) := by
            have : bi < w8.heap.size := by rw [hp8]; exact (Array.getElem?_eq_some_iff.1 hit7).1
            simp [setBlock, this]
          refine wpList_run (v := .tuple #[.bool true, e.key, e.val]) (w' := setBlock w8 bi (.mapIter (some b1) clock (x.seen.push e.born) clock)) rfl ?_ ?_
          · unfold execOp
            simp only [e16]
            exact run_v hrun
          · generalize setBlock w8 bi (.mapIter (some b1) clock (x.seen.push e.born) clock) = w9 at *
            have h10 := h9.put (t := 17) (by omega) (.undef (.tuple #[.bool true, e.key, e.val]))
            have e17 : (a.put (some 17) (.tuple #[.bool true, e.key, e.val])).eval (.tmp 17) = .tuple #[.bool true, e.key, e.val] := by
              show (a.put (some 17) _).tmps.getD 17 undef = _
              rw [put_getD _ _ _ (by rw [h7.size]; omega), if_pos rfl]
            refine wpList_run (v := .bool true) (w' := w9) rfl (by unfold execOp; simp only [e17]; exact run_v (by simp [Instr.extract])) ?_
            have h11 := h10.put (t := 18) (by omega) (av := .lit (.bool true)) (v := .bool true) (.lit _)
            simp only [wpList, Exit.then]
            refine wp_seq (wp_cond_true ((h11.ev_ (.tmp 18)).val_ rfl) (wp_skip ?_))
            generalize ((a.put (some 17) (.tuple #[.bool true, e.key, e.val])).put (some 18) (.bool true)) = a11 at *
            simp only [Exit.then]
            refine wp_block (wp_seq (wp_region_list ?_))
            have hrun2 := run_entry_at (P := Try.prog) w9 bi b1 clock x.seen es clock e hit9 hes9 he1 hmi.born
            have e16b : a11.eval (.tmp 16) = .pointer (some ⟨bi, 0, none⟩) := (h11.ev_ (.tmp 16)).val_ rfl
            refine wpList_run (v := .tuple #[e.key, e.val]) (w' := w9) rfl (by unfold execOp; simp only [e16b]; exact run_v hrun2) ?_
            have h12 := h11.put (t := 19) (by omega) (.undef (.tuple #[e.key, e.val]))
            have e19 : (a11.put (some 19) (.tuple #[e.key, e.val])).eval (.tmp 19) = .tuple #[e.key, e.val] := by
              show (a11.put (some 19) _).tmps.getD 19 undef = _
              rw [put_getD _ _ _ (by rw [h11.size]; omega), if_pos rfl]
            refine wpList_run (v := e.val) (w' := w9) rfl (by unfold execOp; simp only [e19]; exact run_v (by simp [Instr.extract])) ?_
            have h13' := h12.put (t := 20) (by omega) (av := .agg o.cells) (v := e.val) (by
              rw [hval]
              exact .agg _ [.string o.text, .int .i64 o.kind, .int .i64 o.level, .int .i64 o.side] rfl fun j a q g1 g2 => by
                rcases j with _ | _ | _ | _ | j <;> simp [POp.cells] at g1 g2 <;> subst g1 <;> subst g2 <;> exact .lit _)
            generalize ((a11.put (some 19) (.tuple #[e.key, e.val])).put (some 20) e.val) = a13 at *
            have tail3 : ∀ {s : VS} {a : Act} {w2 : World} {hd : Nat → Value}, RelH 50 ⟨Try.prog, Sh w hd0 [] [(b1, ⟨115, esA⟩)], hd0, []⟩ w hd s a w2 → w2.heap[b1]? = some (.map es clock) → w2.heap[bi]? = some (.mapIter (some b1) clock (x.seen.push e.born) clock) → (∀ mp, lkm s.maps b1 ≠ some mp) → (∀ b, b = b1 ∨ b = bi → b < w2.heap.size) ∧ (∀ b, b = b1 ∨ b = bi → ∀ mp, lkm s.maps b ≠ some mp) ∧ (∀ b, b = b1 ∨ b = bi → ∀ k ob, s.mem[k]? = some (some ob) → (hd k).ownBlock ≠ some b) := fun h g1 g2 g3 => by
              refine ⟨fun b hb => ?_, fun b hb mp hq => ?_, fun b hb => ?_⟩
              · rcases hb with rfl | rfl
                · exact (Array.getElem?_eq_some_iff.1 g1).1
                · exact (Array.getElem?_eq_some_iff.1 g2).1
              · rcases hb with rfl | rfl
                · exact g3 mp hq
                · obtain ⟨_, es', clock', h3, _⟩ := h.mp _ mp hq
                  rw [g2] at h3; simp at h3
              · rcases hb with rfl | rfl
                · exact h.own_ne g1 (by simp)
                · exact h.own_ne g2 (by simp)
            obtain ⟨p1, p2, p3⟩ := tail3 h13' hes9 hit9 (fun mp => by simp [npS, lkm, Ne.symm h13, Ne.symm h14])
            refine wpList_keep h13' rfl (fun b => b = b1 ∨ b = bi) p1 p2 p3 rfl (k := fun s => s = ⟨(7, .ptr 2 4 0 0) :: (20, .agg o.cells) :: (19, .undef) :: (18, .lit (.bool true)) :: (17, .undef) :: (npS b1 b2 b3 b4 bp bi t x).tmps, (npS b1 b2 b3 b4 bp bi t x).mem ++ [some ⟨75, 4, 1, fun _ => zeroOp⟩], (npS b1 b2 b3 b4 bp bi t x).maps, 0⟩) (by simp only [npS, pOb]; simp [go_sem, zeroOp]) fun hd14 s14 a14 w14 h14' hb14 hk14 => ?_
            subst hk14
            obtain ⟨p4, p5, p6⟩ := tail3 h14' ((hb14 b1 (.inl rfl)).trans hes9) ((hb14 bi (.inr rfl)).trans hit9) (fun mp => by simp [npS, lkm, Ne.symm h13, Ne.symm h14])
            refine wpList_keep h14' rfl (fun b => b = b1 ∨ b = bi) p4 p5 p6 rfl (k := fun s => s = ⟨(7, .ptr 2 4 0 0) :: (20, .agg o.cells) :: (19, .undef) :: (18, .lit (.bool true)) :: (17, .undef) :: (npS b1 b2 b3 b4 bp bi t x).tmps, (npS b1 b2 b3 b4 bp bi t x).mem ++ [some ⟨75, 4, 1, fun _ => o.cells⟩], (npS b1 b2 b3 b4 bp bi t x).maps, 0⟩) (by simp only [npS, pOb, POp.cells, zeroOp]; simp [go_sem]) fun hd15 s15 a15 w15 h15 hb15 hk15 => ?_
            subst hk15
            simp only [wpList, Exit.then]
            obtain ⟨b7, _, _, hb7, hp7⟩ := rep_ptr (h15.tm 7)
            have hes15 : w15.heap[b1]? = some (.map es clock) := ((hb15 b1 (.inl rfl)).trans (hb14 b1 (.inl rfl))).trans hes9
            have hit15 : w15.heap[bi]? = some (.mapIter (some b1) clock (x.seen.push e.born) clock) := ((hb15 bi (.inr rfl)).trans (hb14 bi (.inr rfl))).trans hit9
            have h16 := h15.tell 50 (N := x.lo.length + 2) (vs := vsP bp fun j => if j = x.lo.length then b7 else x.bo j) («as» := fun i => if i = x.lo.length + 1 then .ptr 2 4 0 0 else asN x.lo i) (fun i hi => by
              by_cases hq : i = x.lo.length + 1
              · subst hq
                have := h15.tm 7
                rw [hp7] at this
                simp only [if_true, vsP]
                exact this
              · simp only [if_neg hq]
                have := h15.told (t := 50) (i := i) rfl (by omega)
                cases i with
                | zero => exact this
                | succ j => simp only [vsP, if_neg (show j ≠ x.lo.length by omega)]; exact this)
            obtain ⟨p7, p8, p9⟩ := tail3 h16 hes15 hit15 (fun mp => by simp [npS, lkm, Ne.symm h13, Ne.symm h14])
            refine vc_keep h16 rfl (fun b => b = b1 ∨ b = bi) p7 p8 p9 (K := fun e' s => e' = .normal ∧ Ent s ⟨[(50, .fam (x.lo.length + 2) (vsP bp fun j => if j = x.lo.length then b7 else x.bo j) (fun i => if i = x.lo.length + 1 then .ptr 2 4 0 0 else asN x.lo i)), (5, .ptr 1 1 0 0), (16, .lit (.pointer (some ⟨bi, 0, none⟩)))], [pOb b1 b2 b3 b4 t 0, some ⟨95, 1, 1, fun _ => [.ptr 0 6 0 0]⟩, some ⟨75, 4, 1, fun _ => o.cells⟩], [(b3, ⟨9, (npNext bp b7 x o e.born).esN⟩), (b4, ⟨9, (npNext bp b7 x o e.born).esL⟩)], 0⟩) ?_ fun y hd17 s17 a17 w17 h17 hb17 hk17 => ?_
            · simp only [npS, pOb, POp.cells]
              rcases hko with hk1 | hk1 | hk1
              · simp [go_sem, hk1]
                refine vc_drawn [7] (.q 0 <| .q 1 <| .q 2 <| .q 3 <| .q 4 <| .q 5 <| .q 6 <| .or 7 (.done) (.nil)) (by kernel_rfl) ?_
                simp [go_sem]
                refine vmkfun_use [.pointer (some ⟨bp, 0, none⟩), .pointer (some ⟨b7, 0, none⟩)] ⟨capIs_told 50 0 rfl (by omega) rfl (by simp [asN]) rfl, capIs_told 50 (x.lo.length + 1) rfl (by omega) (by simp [vsP]) (by simp) rfl, trivial⟩ ?_
                simp [go_sem, h34]
                refine vmsetK_use keyedString (keyString hzo) ?_
                simp [go_sem]
                refine ent_ks [0, 1, 2] (by simp) (by simp) (by simp) (by simp) ?_ ?_ ?_
                · simp [MapsLe, lkm, h34, Ne.symm h34, npNext, hk1]
                · simp [go_sem]
                  exact .fam _ _ _ _ fun i hi => by
                    by_cases hq : i = x.lo.length + 1
                    · simp only [if_pos hq]; exact .ptr 2 4 0 0 (by omega)
                    · simp only [if_neg hq]
                      cases i with
                      | zero => exact .ptr 1 1 0 0 (by omega)
                      | succ j => exact .closed _ (.bptr _ fun c hc => by
                          simp [POp.cells] at hc
                          rcases hc with rfl | rfl | rfl | rfl <;> exact .lit _)
                · simp [go_sem]
                  exact fun i c _ h => tokClosed t i c h
              · simp [go_sem, hk1]
                refine vc_drawn [7] (.q 0 <| .q 1 <| .q 2 <| .q 3 <| .q 4 <| .q 5 <| .q 6 <| .or 7 (.done) (.nil)) (by kernel_rfl) ?_
                simp [go_sem]
                refine vmkfun_use [.pointer (some ⟨bp, 0, none⟩)] ⟨capIs_told 50 0 rfl (by omega) rfl (by simp [asN]) rfl, trivial⟩ ?_
                simp [go_sem, h34, Ne.symm h34]
                refine vmsetK_use keyedString (keyString hzo) ?_
                simp [go_sem]
                refine ent_ks [0, 1, 2] (by simp) (by simp) (by simp) (by simp) ?_ ?_ ?_
                · simp [MapsLe, lkm, h34, Ne.symm h34, npNext, hk1]
                · simp [go_sem]
                  exact .fam _ _ _ _ fun i hi => by
                    by_cases hq : i = x.lo.length + 1
                    · simp only [if_pos hq]; exact .ptr 2 4 0 0 (by omega)
                    · simp only [if_neg hq]
                      cases i with
                      | zero => exact .ptr 1 1 0 0 (by omega)
                      | succ j => exact .closed _ (.bptr _ fun c hc => by
                          simp [POp.cells] at hc
                          rcases hc with rfl | rfl | rfl | rfl <;> exact .lit _)
                · simp [go_sem]
                  exact fun i c _ h => tokClosed t i c h
              · simp [go_sem, hk1]
                refine vc_drawn [6] (.q 0 <| .q 1 <| .q 2 <| .q 3 <| .q 4 <| .q 5 <| .or 6 (.done) (.nil)) (by kernel_rfl) ?_
                simp [go_sem, h34, Ne.symm h34]
                refine vmsetK_use keyedString (keyString hzo) ?_
                simp [go_sem]
                refine ent_ks [0, 1, 2] (by simp) (by simp) (by simp) (by simp) ?_ ?_ ?_
                · simp [MapsLe, lkm, h34, Ne.symm h34, npNext, hk1]
                · simp [go_sem]
                  exact .fam _ _ _ _ fun i hi => by
                    by_cases hq : i = x.lo.length + 1
                    · simp only [if_pos hq]; exact .ptr 2 4 0 0 (by omega)
                    · simp only [if_neg hq]
                      cases i with
                      | zero => exact .ptr 1 1 0 0 (by omega)
                      | succ j => exact .closed _ (.bptr _ fun c hc => by
                          simp [POp.cells] at hc
                          rcases hc with rfl | rfl | rfl | rfl <;> exact .lit _)
                · simp [go_sem]
                  exact fun i c _ h => tokClosed t i c h
            · obtain ⟨rfl, hent⟩ := hk17
              obtain ⟨hd18, h18⟩ := hent _ _ _ _ _ _ h17
              simp only [VX.out, Exit.inBlock, Exit.then]
              have fo := h18.freed (k := 2) (ob := ⟨75, 4, 1, fun _ => o.cells⟩) (v := .pointer (some ⟨b7, 0, none⟩)) rfl (by simp) (by
                have := h18.told (t := 50) (i := x.lo.length + 1) rfl (by omega)
                simp only [if_true, vsP] at this
                exact this)
              have h19 := (h18.free 2).tell 50 (N := x.lo.length + 2) (vs := vsP bp fun j => if j = x.lo.length then b7 else x.bo j) («as» := asN (x.lo ++ [o])) (fun i hi => by
                by_cases hq : i = x.lo.length + 1
                · subst hq
                  simp only [asN, opAt_last, vsP, if_true]
                  exact fo
                · have := (h18.free 2).told (t := 50) (i := i) rfl (by omega)
                  simp only [if_neg hq] at this
                  cases i with
                  | zero => exact this
                  | succ j =>
                    simp only [asN] at this ⊢
                    rw [opAt_snoc (by omega)]; exact this)
              obtain ⟨hd20, h20⟩ : ∃ hd, RelH 50 ⟨Try.prog, Sh w hd0 [] [(b1, ⟨115, esA⟩)], hd0, []⟩ w hd (npS b1 b2 b3 b4 bp bi t (npNext bp b7 x o e.born)) a17 w17 := by
                refine (ent_ks [0, 1] (by simp) (by simp) (by simp) (by simp) ?_ ?_ ?_ : Ent _ _) _ _ _ _ _ _ h19
                · simp [MapsLe, lkm, h34, Ne.symm h34]
                · simp [go_sem, npNext]
                  exact .fam _ _ _ _ fun i hi => by
                    cases i with
                    | zero => exact .ptr 1 1 0 0 (by omega)
                    | succ j => exact .closed _ (.bptr _ fun c hc => by
                        simp [POp.cells] at hc
                        rcases hc with rfl | rfl | rfl | rfl <;> exact .lit _)
                · simp [go_sem, pOb]
                  exact fun i c _ h => tokClosed t i c h
              exact ⟨npNext bp b7 x o e.born, ⟨hd20, h20, (hb17 b1 (.inl rfl)).trans hes15, ⟨clock, Nat.le_refl _, (hb17 bi (.inr rfl)).trans hit15⟩, hinv' b7⟩, left_shrinks es x.seen e he⟩
theorem c_newParser (l : List POp) (t : List PTok) (b1 b2 : Nat) (esA : List (Value × Value)) (hu : Uniq l) (hok : ∀ j, j < l.length → opOk (opAt l j) = true) (hw : opsWf l) (hat : AtIs l l.length esA) :
    VProcT Try.prog 44 [.agg [.lit (.map (some b1)), .lit (.map (some b2))], .sl 3 t.length (tokCells t)] [] [(b1, ⟨115, esA⟩)] (npR2 l t b1 b2 esA) :=
  ⟨⟨_, Try.func44, by kernel_rfl, rfl⟩, fun w vs hd0 hlen hrep hm hmp htl => np_start l t b1 b2 esA hlen hrep hm hmp htl hu hok hw hat _ fun v w' h => ⟨v, rfl, h⟩⟩
end Go.Proofs.Ytcnmgfbafcnkhaa.V
/- Contracts: lists of nodes, trees: sizes, copies, comparisons, marks. -/
namespace Go.Proofs.Ytcnmgfbafcnkhaa.V
open Go.RowKit
set_option linter.unusedVariables false
set_option linter.unusedSimpArgs false
set_option linter.constructorNameAsVariable false
/-- a node of a tree -/
structure PNode where
  text : ByteArray
  kind : Int
  a : Int
  b : Int
def PNode.cells (o : PNode) : List AV := [.lit (.int .i64 o.kind), .lit (.string o.text), .lit (.int .i64 o.a), .lit (.int .i64 o.b)]
def PNode.wf (o : PNode) : Prop := o.text.size ≤ maxLen
instance : Inhabited PNode := ⟨⟨⟨#[]⟩, 0, 0, 0⟩⟩
def nodCells (l : List PNode) (i : Nat) : List AV := (l.getD i default).cells
theorem nodClosed (l : List PNode) (i : Nat) (c : AV) (h : c ∈ nodCells l i) : Closed c := by
  simp [nodCells, PNode.cells] at h
  rcases h with rfl | rfl | rfl | rfl <;> exact .lit _
theorem nodLit (l : List PNode) (i : Nat) : (nodCells l i).all isLit = true := rfl
def zeroNod : List AV := [.lit (.int .i64 0), .lit (.string ⟨#[]⟩), .lit (.int .i64 0), .lit (.int .i64 0)]
def nodFill (l : List PNode) (i j : Nat) : List AV := if j < i then nodCells l j else zeroNod
theorem nodBd (l : List PNode) (i j m : Nat) : ∀ c, c ∈ nodFill l i j → Bd m c := by
  intro c h
  unfold nodFill at h
  split at h
  · exact .closed _ (nodClosed l j c h)
  · simp [zeroNod] at h
    rcases h with rfl | rfl | rfl <;> exact .closed _ (.lit _)
def nodSum (l : List PNode) : Nat := (l.map fun o => o.text.size).sum
theorem nodSum_take (l : List PNode) (i : Nat) (h : i < l.length) : nodSum (l.take (i + 1)) = nodSum (l.take i) + (l.getD i default).text.size := by
  unfold nodSum
  rw [List.take_add_one, List.getElem?_eq_getElem h, List.map_append, List.sum_append_nat, List.getD_eq_getElem?_getD, List.getElem?_eq_getElem h]
  simp only [Option.toList_some, List.map_cons, List.map_nil, List.sum_cons, List.sum_nil, Option.getD_some, Nat.add_zero]
/-- operators as they are compared -/
def nodEq (a b : PNode) : Bool := a.text == b.text && a.kind == b.kind && a.a == b.a && a.b == b.b
theorem c_eqNode (a b : PNode) : VFun Try.prog 79 [.agg a.cells, .agg b.cells] (fun av obs => obs = [] ∧ av = .lit (.bool (nodEq a b))) := by
  obtain ⟨z, k, l, s⟩ := a
  obtain ⟨z', k', l', s'⟩ := b
  simp only [PNode.cells]
  refine vfun_start Try.func79 (by kernel_rfl) rfl (by simp [Try.ntmps79]) ?_; simp only [Try.ntmps79, Try.results79]; simp [go_sem]
  simp only [nodEq, ba_toList, ba_beq]
  by_cases h1 : z = z' <;> by_cases h2 : k = k' <;> by_cases h3 : l = l' <;> by_cases h4 : s = s' <;> simp [h1, h2, h3, h4]
def nodAt (l : List PNode) (i : Nat) : PNode := l.getD i default
theorem nodCells_at (l : List PNode) (i : Nat) : nodCells l i = [.lit (.int .i64 (nodAt l i).kind), .lit (.string (nodAt l i).text), .lit (.int .i64 (nodAt l i).a), .lit (.int .i64 (nodAt l i).b)] := rfl
def nodsEq (a b : List PNode) : Bool := decide (a.length = b.length) && (List.range a.length).all fun i => nodEq (nodAt a i) (nodAt b i)
theorem nodsEq_false {a b : List PNode} {i : Nat} (h : i < a.length) (e : nodEq (nodAt a i) (nodAt b i) = false) : nodsEq a b = false := by
  simp only [nodsEq, Bool.and_eq_false_iff, List.all_eq_false, List.mem_range]
  exact .inr ⟨i, h, by rw [e]; simp⟩
theorem nodsEq_true {a b : List PNode} (hl : a.length = b.length) (h : ∀ i, i < a.length → nodEq (nodAt a i) (nodAt b i) = true) : nodsEq a b = true := by
  simp only [nodsEq, Bool.and_eq_true, decide_eq_true_eq, List.all_eq_true, List.mem_range]
  exact ⟨hl, h⟩
theorem nodEq_refl (a : PNode) : nodEq a a = true := by simp [nodEq, ba_beq]
theorem nodsEq_refl (a : List PNode) : nodsEq a a = true := nodsEq_true rfl fun i _ => nodEq_refl _
theorem c_eqNodeS (a b : List PNode) (ha : a.length ≤ 9223372036854775807) (hb : b.length ≤ 9223372036854775807) : VFun Try.prog 46 [.sl 4 a.length (nodCells a), .sl 4 b.length (nodCells b)] (fun av obs => obs = [] ∧ av = .lit (.bool (nodsEq a b))) := by
  refine vfun_start Try.func46 (by kernel_rfl) rfl (by simp [Try.ntmps46]) ?_; simp only [Try.ntmps46, Try.results46]; simp [go_sem]
  refine ⟨by omega, by omega, fun h1 => ?_, fun h1 => ?_⟩
  · simp [nodsEq]; omega
  · refine vc_loop (fun i : Nat => i ≤ a.length ∧ ∀ j, j < i → nodEq (nodAt a j) (nodAt b j) = true) (fun i => a.length - i) (fun i => .of [(0, .sl 4 a.length (nodCells a)), (1, .sl 4 b.length (nodCells b)), (4, .lit (.bool false)), (5, .lit (.int .i64 i))] []) ⟨0, ⟨by omega, by simp⟩, ?_⟩ (fun i hi => ?_)
    · simp [go_sem]
      exact ⟨fun i c _ h => nodClosed a i c h, fun i c _ h => nodClosed b i c h⟩
    · simp [go_sem]
      refine ⟨by omega, fun h => ?_, fun h => ?_⟩
      · refine vc_drawn [] (.q 0 <| .q 1 <| .q 2 <| .q 3 <| .q 4 <| .q 5 <| .q 6 <| .q 7 <| .or 8 (.q 9 <| .done) (.nil)) (by kernel_rfl) ?_
        simp [go_sem, nodCells_at]
        refine ⟨h, by omega, vcallV_pure (c_eqNode (nodAt a i) (nodAt b i)) ?_ ?_⟩
        · simp [go_sem, PNode.cells]
        · simp [go_sem]
          refine ⟨fun e => nodsEq_false h e, fun e => ⟨i + 1, ⟨by omega, fun j hj => ?_⟩, by omega, ⟨fun i c _ h => nodClosed a i c h, fun i c _ h => nodClosed b i c h, wrap_succ (by omega)⟩⟩⟩
          rcases Nat.lt_succ_iff_lt_or_eq.mp hj with hj | rfl
          · exact hi.2 j hj
          · exact e
      · exact nodsEq_true (by omega) fun j hj => hi.2 j (by omega)
theorem c_eqTree (a b : List PNode) (ha : a.length ≤ 9223372036854775807) (hb : b.length ≤ 9223372036854775807) : VFun Try.prog 15 [.agg [.sl 4 a.length (nodCells a)], .agg [.sl 4 b.length (nodCells b)]] (fun av obs => obs = [] ∧ av = .lit (.bool (nodsEq a b))) := by
  refine vfun_start Try.func15 (by kernel_rfl) rfl (by simp [Try.ntmps15]) ?_; simp only [Try.ntmps15, Try.results15]; simp [go_sem]
  refine vcall_pure (c_eqNodeS a b ha hb) ?_ ?_
  · simp [go_sem]
    exact ⟨argSl_refl (by omega) fun i c _ h => nodClosed a i c h, argSl_refl (by omega) fun i c _ h => nodClosed b i c h⟩
  · simp [go_sem]
def markNod (k i : Nat) : PNode := ⟨mtext (k + 4 * i + 1), (k + 4 * i : Nat), (k + 4 * i + 2 : Nat), (k + 4 * i + 3 : Nat)⟩
def markNCells (k i : Nat) : List AV := (markNod k i).cells
def markNFill (l : List PNode) (k i j : Nat) : List AV := if j < i then markNCells k j else nodCells l j
theorem markNFill_bd (l : List PNode) (k i j m : Nat) : ∀ c, c ∈ markNFill l k i j → Bd m c := by
  intro c h
  unfold markNFill at h
  split at h
  · simp [markNCells, PNode.cells] at h
    rcases h with rfl | rfl | rfl | rfl <;> exact .closed _ (.lit _)
  · exact .closed _ (nodClosed l j c h)
theorem c_markNodeS (l : List PNode) (k : Nat) (hl : l.length ≤ 1048576) (hk : 0 < k ∧ k ≤ 1000000000) : VProc Try.prog 49 [.own 0, .lit (.int .i64 k)] [some ⟨124, 4, l.length, nodCells l⟩] [] (fun av mem maps => av = .lit (.int .i64 (k + 4 * l.length : Nat)) ∧ mem = [some ⟨124, 4, l.length, markNCells k⟩] ∧ maps = []) := by
  refine vproc_start Try.func49 (by kernel_rfl) rfl (by simp [Try.ntmps49]) ?_; simp only [Try.ntmps49, Try.results49]; simp [go_sem]
  refine vc_loop (fun i : Nat => i ≤ l.length) (fun i => l.length - i) (fun i => ⟨[(0, .own 0), (1, .lit (.int .i64 (k + 4 * i : Nat))), (5, .lit (.int .i64 i))], [some ⟨124, 4, l.length, markNFill l k i⟩], [], 1⟩) ⟨0, by omega, ?_⟩ (fun i hi => ?_)
  · simp [go_sem, markNFill]
    exact fun i h c hc => .closed _ (nodClosed l i c hc)
  · simp [go_sem]
    refine ⟨by omega, fun h => ⟨h, vcall_pure (c_markText (k + 4 * i + 1) (by omega)) ?_ ?_⟩, fun h => ?_⟩
    · simp [go_sem]
      exact wrap_i64 (by omega)
    · simp [go_sem]
      simp only [wrap_i64 (n := (k : Int) + 4 * i + 1) (by omega), wrap_i64 (n := (k : Int) + 4 * i + 1 + 1) (by omega), wrap_i64 (n := (k : Int) + 4 * i + 1 + 1 + 1) (by omega), wrap_i64 (n := (k : Int) + 4 * i + 1 + 1 + 1 + 1) (by omega)]
      refine ⟨h, i + 1, by omega, by omega, ⟨by omega, wrap_succ (by omega)⟩, fun j hj => ⟨?_, markNFill_bd _ _ _ _ _⟩⟩
      simp only [updF_at h hj, updF_at h h, if_true]
      by_cases hji : j = i
      · subst hji
        simp only [if_true, markNFill, Nat.lt_irrefl, if_false, Nat.lt_succ_self]
        simp [nodCells_at, splice, markNCells, markNod, PNode.cells, Nat.add_assoc]
        omega
      · simp only [if_neg hji, markNFill]
        by_cases h2 : j < i
        · rw [if_pos h2, if_pos (by omega)]
        · rw [if_neg h2, if_neg (by omega)]
    · have : i = l.length := by omega
      subst this
      refine ⟨rfl, [], [some ⟨124, 4, l.length, markNCells k⟩], by simp, by simp, by simp [go_sem], ?_, by simp [go_sem], ?_⟩
      · simp [go_sem]
        exact outAt_lits (fun i hi => by simp only [markNFill, if_pos hi]) (fun i _ => rfl)
      · simp [go_sem]
@[go_sem] theorem markNCells_ren {g : Nat → Nat} {k i : Nat} : (markNCells k i).map (ren1 g) = markNCells k i := map_lits rfl
@[go_sem] theorem nodCells_ren {g : Nat → Nat} {l : List PNode} {i : Nat} : (nodCells l i).map (ren1 g) = nodCells l i := map_lits rfl
theorem c_markTree (l : List PNode) (k : Nat) (hl : l.length ≤ 1048576) (hk : 0 < k ∧ k ≤ 1000000000) : VProc Try.prog 18 [.agg [.own 0], .lit (.int .i64 k)] [some ⟨124, 4, l.length, nodCells l⟩] [] (fun av mem maps => av = .lit (.int .i64 (k + 4 * l.length : Nat)) ∧ mem = [some ⟨124, 4, l.length, markNCells k⟩] ∧ maps = []) := by
  refine vproc_start Try.func18 (by kernel_rfl) rfl (by simp [Try.ntmps18]) ?_; simp only [Try.ntmps18, Try.results18]; simp [go_sem]
  refine vcall_share [0] (c_markNodeS l k hl hk) (by simp) ?_ ?_ trivial ?_
  · simp [go_sem]
  · simp [go_sem]
    exact fun i _ => cellsRn_lits rfl
  · rintro av mem maps ⟨rfl, rfl, rfl⟩
    simp [go_sem]
    refine ⟨rfl, [], [some ⟨124, 4, l.length, markNCells k⟩], by simp, by simp, by simp [go_sem], ?_, by simp [go_sem], ?_⟩
    · simp [go_sem]
      exact outAt_lits (fun i _ => rfl) (fun i _ => rfl)
    · simp [go_sem]
theorem markNClosed (k i : Nat) (c : AV) (h : c ∈ markNCells k i) : Closed c := by
  simp [markNCells, PNode.cells] at h
  rcases h with rfl | rfl | rfl | rfl <;> exact .lit _
theorem markNCells_at (k i : Nat) : markNCells k i = [.lit (.int .i64 (k + 4 * i : Nat)), .lit (.string (mtext (k + 4 * i + 1))), .lit (.int .i64 (k + 4 * i + 2 : Nat)), .lit (.int .i64 (k + 4 * i + 3 : Nat))] := rfl
theorem c_heldNodeS (n k : Nat) (hl : n ≤ 1048576) (hk : 0 < k ∧ k ≤ 1000000000) : VFun Try.prog 50 [.sl 4 n (markNCells k), .lit (.int .i64 k)] (fun av obs => obs = [] ∧ av = .lit (.int .i64 (k + 4 * n : Nat))) := by
  have cl : ∀ (i : Nat) (c : AV), i < n → c ∈ markNCells k i → Closed c := fun i c _ h => markNClosed k i c h
  refine vfun_start Try.func50 (by kernel_rfl) rfl (by simp [Try.ntmps50]) ?_; simp only [Try.ntmps50, Try.results50]; simp [go_sem]
  refine vc_loop (fun i : Nat => i ≤ n) (fun i => n - i) (fun i => .of [(0, .sl 4 n (markNCells k)), (1, .lit (.int .i64 (k + 4 * i : Nat))), (5, .lit (.int .i64 i))] []) ⟨0, by omega, ?_⟩ (fun i hi => ?_)
  · simp [go_sem]
    exact cl
  · simp [go_sem, markNCells_at]
    have e1 := wrap_i64 (n := (k : Int) + 4 * i + 1) (by omega)
    refine ⟨by omega, fun h => ⟨h, ?_⟩, fun h => ?_⟩
    · refine vc_drawn [] (.q 0 <| .q 1 <| .q 2 <| .q 3 <| .q 4 <| .q 5 <| .or 6 (.q 7 <| .done) (.nil)) (by kernel_rfl) ?_
      simp [go_sem, markNCells_at]
      refine ⟨h, vcallV_pure (c_markText (k + 4 * i + 1) (by omega)) ?_ ?_⟩
      · simp [go_sem]
        exact e1
      · simp [go_sem, markNCells_at]
        have e2 := wrap_i64 (n := (k : Int) + 4 * i + 1 + 1) (by omega)
        have e3 := wrap_i64 (n := (k : Int) + 4 * i + 1 + 1 + 1) (by omega)
        have e4 := wrap_i64 (n := (k : Int) + 4 * i + 1 + 1 + 1 + 1) (by omega)
        simp only [e1, e2, e3, e4]
        refine ⟨h, fun h1 => by omega, fun _ => ⟨h, fun h1 => by omega, fun _ => ⟨i + 1, by omega, by omega, fun i c hi hc => cl i c hi (by simp only [markNCells_at]; simpa using hc), by omega, wrap_succ (by omega)⟩⟩⟩
    · omega
theorem c_heldTree (n k : Nat) (hl : n ≤ 1048576) (hk : 0 < k ∧ k ≤ 1000000000) : VFun Try.prog 19 [.agg [.sl 4 n (markNCells k)], .lit (.int .i64 k)] (fun av obs => obs = [] ∧ av = .lit (.int .i64 (k + 4 * n : Nat))) := by
  refine vfun_start Try.func19 (by kernel_rfl) rfl (by simp [Try.ntmps19]) ?_; simp only [Try.ntmps19, Try.results19]; simp [go_sem]
  refine vcall_pure (c_heldNodeS n k hl hk) ?_ ?_
  · simp [go_sem]
    exact argSl_refl (by omega) fun i c _ h => markNClosed k i c h
  · simp [go_sem]
    omega
end Go.Proofs.Ytcnmgfbafcnkhaa.V
/- Contracts: kids and texts of nodes. -/
namespace Go.Proofs.Ytcnmgfbafcnkhaa.V
open Go.RowKit
set_option linter.unusedVariables false
set_option linter.unusedSimpArgs false
set_option linter.constructorNameAsVariable false
theorem vfun_below {P : Program} {f : FuncId} {vs : List Value} {v : Value} (hf : FnOk P f) (h : ∀ w, Calls P f vs.toArray w fun e w' => e = .returned v ∧ Below w.heap.size w w') : VFun P f (vs.map .lit) (fun av obs => obs = [] ∧ av = .lit v) := by
  refine ⟨hf, fun w us hl hu => ?_⟩
  have e : us = vs := by
    have hl' : vs.length = us.length := by simpa using hl
    apply List.ext_getElem hl'.symm
    intro j h1 h2
    have := hu j (.lit vs[j]) us[j] (by simp [h2]) (List.getElem?_eq_getElem h1)
    generalize us[j] = x at this
    generalize vs[j] = y at this
    cases this
    rfl
  subst e
  refine (h w).mono fun e w' ⟨he, hw⟩ => ?_
  subst he
  exact ⟨v, rfl, ⟨hw.os, hw.tape, hw.output, hw.size, fun k hk _ => hw.block k hk⟩, fun _ => undef, .lit v, [], ⟨rfl, rfl⟩, rfl, fun ob h => by simp at h, ⟨fun k ob h => by simp at h, fun k ob h => by simp at h, fun k h => by simp at h, fun k k' ob ob' h => by simp at h⟩, .lit v⟩
def digitBytes : ByteArray := { data := #[48, 49, 50, 51, 52, 53, 54, 55, 56, 57] }
theorem contains_digit (b : UInt8) : digitBytes.data.toList.contains b = isDg b.toNat := by
  revert b
  have h : (List.range 256).all (fun n => digitBytes.data.toList.contains n.toUInt8 == isDg n) = true := by kernel_rfl
  intro b
  have := List.all_eq_true.mp h b.toNat (List.mem_range.mpr b.toNat_lt)
  simpa using this
theorem dropWhile_all {α : Type} {p : α → Bool} {l : List α} : l.dropWhile p = [] ↔ ∀ x, x ∈ l → p x = true := by
  induction l with
  | nil => simp
  | cons a l ih =>
    rw [List.dropWhile_cons]
    split
    · rename_i h; simp [ih, h]
    · rename_i h; simp [h]
theorem trim_nil {l cs : List UInt8} : Lib.trimS l cs = [] ↔ ∀ x, x ∈ l → cs.contains x = true := by
  unfold Lib.trimS Lib.trimLeftS
  rw [dropWhile_all]
  unfold Lib.trimRightS
  constructor
  · intro h x hx
    have hd : l = (l.reverse.dropWhile (cs.contains ·)).reverse ++ (l.reverse.takeWhile (cs.contains ·)).reverse := by
      rw [← List.reverse_append, List.takeWhile_append_dropWhile, List.reverse_reverse]
    rw [hd, List.mem_append] at hx
    rcases hx with hx | hx
    · exact h x hx
    · rw [List.mem_reverse] at hx
      exact List.all_eq_true.mp (List.all_takeWhile (p := (cs.contains ·)) (l := l.reverse)) x hx
  · intro h x hx
    rw [List.mem_reverse] at hx
    exact h x (List.mem_reverse.mp ((List.dropWhile_sublist _).subset hx))
def trimDg (z : ByteArray) : ByteArray := ⟨(Lib.trimS z.data.toList digitBytes.data.toList).toArray⟩
theorem trimDg_num (z : ByteArray) (h : 0 < z.size) : decide (trimDg z = ⟨#[]⟩) = numZ z := by
  have e : trimDg z = ⟨#[]⟩ ↔ ∀ i, i < z.size → isDg (byteAt z i) = true := by
    unfold trimDg
    rw [ByteArray.mk.injEq, Array.mk.injEq, trim_nil]
    simp only [contains_digit]
    constructor
    · intro h i hi
      have := h (z.data.toList[i]'hi) (List.getElem_mem _)
      unfold byteAt
      rw [dif_pos hi]
      exact this
    · intro h x hx
      obtain ⟨i, hi, rfl⟩ := List.getElem_of_mem hx
      have := h i hi
      unfold byteAt at this
      rw [dif_pos (show i < z.size from hi)] at this
      exact this
  rw [Bool.eq_iff_iff, decide_eq_true_eq, e]
  simp only [numZ, h, decide_true, Bool.and_true, List.all_eq_true, List.mem_range]
theorem ba_nil {z : ByteArray} : z.toList = [] ↔ z.size = 0 := by
  rw [ByteArray.toList_eq]
  constructor
  · intro h
    show z.data.size = 0
    rw [← Array.length_toList, h]; rfl
  · intro h
    apply List.eq_nil_of_length_eq_zero
    rw [Array.length_toList]; exact h
theorem ba_empty {z : ByteArray} : z.toList.isEmpty = decide (z = ⟨#[]⟩) := by
  rw [Bool.eq_iff_iff, List.isEmpty_iff, decide_eq_true_iff, ba_nil]
  constructor
  · intro h
    exact ByteArray.ext (Array.eq_empty_of_size_eq_zero h)
  · intro h
    rw [h]; rfl
def kidsN (k : Int) : Int := if k = 4 then 2 else if k = 3 ∨ k = 5 ∨ k = 6 then 1 else 0
theorem c_l3Kids (k : Int) : VFun Try.prog 71 [.lit (.int .i64 k)] (fun av obs => obs = [] ∧ av = .lit (.int .i64 (kidsN k))) := by
  refine vfun_start Try.func71 (by kernel_rfl) rfl (by simp [Try.ntmps71]) ?_; simp only [Try.ntmps71, Try.results71]; simp [go_sem]
  by_cases h1 : k = 4
  · simp [kidsN, h1]
  · by_cases h2 : k = 3 <;> by_cases h3 : k = 5 <;> by_cases h4 : k = 6 <;> simp [kidsN, h1, h2, h3, h4]
def txtOk (o : PNode) : Bool := decide (o.text.size ≤ 20000) && (if o.kind = 1 then numZ o.text else if o.kind = 2 then namZ o.text else if o.kind = 6 then decide (o.text = ⟨#[]⟩) else decide (3 ≤ o.kind ∧ o.kind ≤ 5) && sgOk o.text)
end Go.Proofs.Ytcnmgfbafcnkhaa.V
/- Contracts: trees in order. -/
namespace Go.Proofs.Ytcnmgfbafcnkhaa.V
open Go.RowKit
set_option linter.unusedVariables false
set_option linter.unusedSimpArgs false
set_option linter.constructorNameAsVariable false
def fromS (l : List PNode) (n : Nat) : {f : Int // f ≤ n} :=
  if kidsN (nodAt l n).kind = 0 then (if (nodAt l n).a ≠ 0 ∨ (nodAt l n).b ≠ 0 then ⟨-1, by omega⟩ else ⟨n, by omega⟩)
  else if h0 : n = 0 then ⟨-1, by omega⟩
  else if kidsN (nodAt l n).kind = 1 then (if (nodAt l n).a ≠ (n : Int) - 1 ∨ (nodAt l n).b ≠ 0 then ⟨-1, by omega⟩ else match fromS l (n - 1) with | ⟨f, hf⟩ => ⟨f, by omega⟩)
  else if (nodAt l n).b ≠ (n : Int) - 1 then ⟨-1, by omega⟩
  else match fromS l (n - 1) with
    | ⟨f, hf⟩ => if h : f < 1 ∨ (nodAt l n).a ≠ f - 1 then ⟨-1, by omega⟩ else match fromS l (f - 1).toNat with | ⟨g, hg⟩ => ⟨g, by omega⟩
termination_by n
decreasing_by all_goals omega
/-- the first place of the stretch of node i, -1 when the nodes do not stand in order -/
def fromZ (l : List PNode) (i : Int) : Int := if i < 0 then -1 else (fromS l i.toNat).1
theorem kidsN_cases (k : Int) : kidsN k = 0 ∨ kidsN k = 1 ∨ kidsN k = 2 := by
  unfold kidsN; split <;> (try split) <;> simp
theorem fromZ_neg (l : List PNode) {i : Int} (h : i < 0) : fromZ l i = -1 := if_pos h
theorem fromZ_le (l : List PNode) {i : Int} (h : 0 ≤ i) : fromZ l i ≤ i := by
  unfold fromZ
  rw [if_neg (by omega)]
  have := (fromS l i.toNat).2
  omega
theorem fromZ_nat (l : List PNode) (n : Nat) : fromZ l n = (fromS l n).1 := by
  unfold fromZ
  rw [if_neg (by omega), Int.toNat_natCast]
theorem fromZ_eq (l : List PNode) (n : Nat) : fromZ l n = if kidsN (nodAt l n).kind = 0 then (if (nodAt l n).a ≠ 0 ∨ (nodAt l n).b ≠ 0 then -1 else (n : Int))
    else if kidsN (nodAt l n).kind = 1 then (if (nodAt l n).a ≠ (n : Int) - 1 ∨ (nodAt l n).b ≠ 0 then -1 else fromZ l ((n : Int) - 1))
    else if (nodAt l n).b ≠ (n : Int) - 1 then -1
    else if fromZ l ((n : Int) - 1) < 1 ∨ (nodAt l n).a ≠ fromZ l ((n : Int) - 1) - 1 then -1 else fromZ l (fromZ l ((n : Int) - 1) - 1) := by
  rw [fromZ_nat, fromS]
  by_cases h0 : kidsN (nodAt l n).kind = 0
  · simp only [h0, if_true]
    split <;> rfl
  · simp only [h0, if_false]
    by_cases hn : n = 0
    · subst hn
      have e : fromZ l (((0 : Nat) : Int) - 1) = -1 := fromZ_neg l (by omega)
      simp only [e, dite_true]
      split
      · split <;> rfl
      · split
        · rfl
        · rw [if_pos (.inl (by omega))]
    · have e : ((n : Nat) : Int) - 1 = (n - 1 : Nat) := by omega
      have e2 : fromZ l ((n - 1 : Nat) : Int) = (fromS l (n - 1)).1 := fromZ_nat l (n - 1)
      simp only [hn, dite_false]
      split
      · split
        · rfl
        · rw [e, e2]
      · split
        · rfl
        · simp only [e, e2]
          generalize fromS l (n - 1) = y
          obtain ⟨f, hf⟩ := y
          simp only
          split
          · rfl
          · rename_i h
            unfold fromZ
            rw [if_neg (by omega)]
theorem fromZ_ge (l : List PNode) (i : Int) : -1 ≤ fromZ l i := by
  have key : ∀ (g : Nat) (i : Int), i < g → -1 ≤ fromZ l i := by
    intro g
    induction g with
    | zero => intro i h; rw [fromZ_neg l (by omega)]; decide
    | succ g ih =>
      intro i h
      by_cases hi : i < 0
      · rw [fromZ_neg l hi]; decide
      · obtain ⟨n, rfl⟩ := Int.eq_ofNat_of_zero_le (show 0 ≤ i by omega)
        rw [fromZ_eq]
        split
        · split <;> omega
        · split
          · split
            · decide
            · exact ih _ (by omega)
          · split
            · decide
            · split
              · decide
              · rename_i h3
                by_cases hn : n = 0
                · subst hn
                  rw [fromZ_neg l (i := ((0 : Nat) : Int) - 1) (by omega)] at h3
                  omega
                · have := fromZ_le l (i := (n : Int) - 1) (by omega)
                  exact ih _ (by omega)
  exact key (i.toNat + 1) i (by omega)
/-- in a tree in order every node stands in order -/
theorem fromZ_all (l : List PNode) : ∀ (n : Nat) (j : Nat), 0 ≤ fromZ l n → fromZ l n ≤ j → j ≤ n → 0 ≤ fromZ l j := by
  intro n
  induction n using Nat.strongRecOn with
  | ind n ih =>
    intro j h0 hj hn
    by_cases hjn : j = n
    · subst hjn; exact h0
    · rw [fromZ_eq] at h0 hj
      split at h0
      · rename_i hk
        split at h0
        · omega
        · rename_i h1
          simp only [hk, if_true, if_neg h1] at hj
          omega
      · rename_i hk
        have hn1 : ((n : Int) - 1) = ((n - 1 : Nat) : Int) := by omega
        split at h0
        · rename_i hk1
          split at h0
          · omega
          · rename_i h1
            simp only [hk1, if_true, if_neg h1, if_neg (show ¬ (1 : Int) = 0 by decide)] at hj
            rw [hn1] at h0 hj
            exact ih (n - 1) (by omega) j h0 hj (by omega)
        · rename_i hk1
          split at h0
          · omega
          · rename_i h1
            split at h0
            · omega
            · rename_i h2
              simp only [if_neg hk, if_neg hk1, if_neg h1, if_neg h2] at hj
              rw [hn1] at h0 hj h2
              have hle := fromZ_le l (i := ((n - 1 : Nat) : Int)) (by omega)
              by_cases hs : fromZ l ((n - 1 : Nat) : Int) ≤ j
              · exact ih (n - 1) (by omega) j (by omega) hs (by omega)
              · have e : fromZ l ((n - 1 : Nat) : Int) - 1 = ((fromZ l ((n - 1 : Nat) : Int) - 1).toNat : Int) := by omega
                rw [e] at h0 hj
                exact ih _ (by omega) j h0 hj (by omega)
def inOrd (l : List PNode) : Bool := decide (1 ≤ l.length ∧ l.length ≤ 20000) && decide (fromZ l ((l.length : Int) - 1) = 0) && (List.range l.length).all fun i => txtOk (nodAt l i)
theorem txtOk_range {o : PNode} (h : ¬ (1 ≤ o.kind ∧ o.kind ≤ 6)) : txtOk o = false := by
  have h1 : ¬ o.kind = 1 := by omega
  have h2 : ¬ o.kind = 2 := by omega
  have h3 : ¬ o.kind = 6 := by omega
  simp only [txtOk, h1, h2, h3, if_false]
  have h4 : decide (3 ≤ o.kind ∧ o.kind ≤ 5) = false := decide_eq_false (by omega)
  rw [h4]; simp
/-- what impl.inOrder has written of a row of places -/
def stN (l : List PNode) (i j : Nat) : Int := if j < i then fromZ l j else 0
def stFill (l : List PNode) (i j : Nat) : List AV := [.lit (.int .i64 (stN l i j))]
theorem stFill_at (l : List PNode) (i j : Nat) : stFill l i j = [.lit (.int .i64 (stN l i j))] := rfl
end Go.Proofs.Ytcnmgfbafcnkhaa.V
/- Trees as plain data: the nodes of a tree. -/
namespace Go.Proofs.Ytcnmgfbafcnkhaa.V
open Go.RowKit
open Go.Proofs.Ytcnmgfbafcnkhaa.Ops (Tr)
set_option linter.unusedVariables false
set_option linter.unusedSimpArgs false
set_option linter.constructorNameAsVariable false
/-- a leaf: its kind of node and its text -/
abbrev ET := Tr POp (Int × ByteArray)
def ET.nil : ET := .leaf (0, ⟨#[]⟩)
/-- the nodes of a tree, behind those that are there -/
def lay : ET → List PNode → List PNode
  | .leaf b, out => out ++ [⟨b.2, b.1, 0, 0⟩]
  | .grp e, out => lay e out ++ [⟨⟨#[]⟩, 6, (lay e out).length - 1, 0⟩]
  | .pre o e, out => lay e out ++ [⟨o.text, o.kind + 2, (lay e out).length - 1, 0⟩]
  | .post o e, out => lay e out ++ [⟨o.text, o.kind + 2, (lay e out).length - 1, 0⟩]
  | .inf o x y, out => lay y (lay x out) ++ [⟨o.text, o.kind + 2, (lay x out).length - 1, (lay y (lay x out)).length - 1⟩]
def nodRow (t : List PNode) : Option Ob := some ⟨124, 4, t.length, nodCells t⟩
theorem nod_app (t : List PNode) (o : PNode) (j : Nat) (h : j < t.length + 1) : joinF t.length (nodCells t) (fun i => [o.cells][i]?.getD []) j = nodCells (t ++ [o]) j := by
  unfold joinF nodCells
  by_cases hj : j < t.length
  · rw [if_pos hj, List.getD_eq_getElem?_getD, List.getD_eq_getElem?_getD, List.getElem?_append_left hj]
  · have : j = t.length := by omega
    subst this
    rw [if_neg (by omega), List.getD_eq_getElem?_getD, List.getElem?_append_right (by omega)]
    simp
theorem outAt_app {idx : Nat → Nat} {ks : List Nat} {ty : Nat} {l T : List PNode} {o : PNode} {f : Nat → List AV} (h : T = l ++ [o]) (hf : ∀ j, j < l.length + 1 → f j = nodCells (l ++ [o]) j) : OutAt idx ks ⟨ty, 4, T.length, nodCells T⟩ (some (some ⟨ty, 4, l.length + 1, f⟩)) := by
  subst h
  rw [show (l ++ [o]).length = l.length + 1 by simp]
  exact outAt_lits hf (fun j _ => nodLit _ j)
theorem outAt_same {idx : Nat → Nat} {ks : List Nat} {ty : Nat} {l T : List PNode} {f : Nat → List AV} (h : T = l) (hf : ∀ j, j < l.length → f j = nodCells l j) : OutAt idx ks ⟨ty, 4, T.length, nodCells T⟩ (some (some ⟨ty, 4, l.length, f⟩)) := by
  subst h
  exact outAt_lits hf (fun j _ => nodLit _ j)
theorem nod_appF {T : List PNode} {o : PNode} {f : Nat → List AV} {n : Nat} (hn : n = T.length) (hf : ∀ j, j < n → f j = nodCells T j) (j : Nat) (h : j < n + 1) : joinF n f (fun q => [o.cells][q]?.getD []) j = nodCells (T ++ [o]) j := by
  rw [← nod_app T o j (by omega)]
  subst hn
  unfold joinF
  by_cases hj : j < T.length
  · rw [if_pos hj, if_pos hj, hf j hj]
  · rw [if_neg hj, if_neg hj]
theorem outAt_appF {idx : Nat → Nat} {ks : List Nat} {ty : Nat} {T R : List PNode} {o : PNode} {f : Nat → List AV} {n : Nat} (hn : n = T.length) (h : R = T ++ [o]) (hf : ∀ j, j < n + 1 → f j = nodCells (T ++ [o]) j) : OutAt idx ks ⟨ty, 4, R.length, nodCells R⟩ (some (some ⟨ty, 4, n + 1, f⟩)) := by
  subst hn
  exact outAt_app h hf
end Go.Proofs.Ytcnmgfbafcnkhaa.V
/- Contracts: the nodes of a part. -/
namespace Go.Proofs.Ytcnmgfbafcnkhaa.V
open Go.RowKit
open Go.Proofs.Ytcnmgfbafcnkhaa.Ops (Tr)
set_option linter.unusedVariables false
set_option linter.unusedSimpArgs false
set_option linter.constructorNameAsVariable false
/-- what a part's nodes are, behind those that are there -/
def NodesAre (e : PT) (out : List PNode) : Prop := ∃ T u, partP e = .iface T u ∧ ∃ f, methOf Try.prog T "loop.example/s0059/impl.nodes" = some f ∧ VProc Try.prog f [.lit u, .own 0] [nodRow out] [] (fun av mem maps => av = .own 1 ∧ mem = [none, nodRow (lay e out)] ∧ maps = [])
theorem mo_leaf_n : methOf Try.prog 153 "loop.example/s0059/impl.nodes" = some 122 := by kernel_rfl
theorem mo_group_n : methOf Try.prog 155 "loop.example/s0059/impl.nodes" = some 125 := by kernel_rfl
theorem mo_applied_n : methOf Try.prog 135 "loop.example/s0059/impl.nodes" = some 119 := by kernel_rfl
theorem nodes_leaf (b : Int × ByteArray) (out : List PNode) (hl : out.length ≤ 3000000) : NodesAre (.leaf b) out := by
  refine ⟨_, _, rfl, _, mo_leaf_n, ?_⟩
  simp only [nodRow]
  refine vproc_start Try.func122 (by kernel_rfl) rfl (by simp [Try.ntmps122]) ?_; simp only [Try.ntmps122, Try.results122]; simp [go_sem]
  refine ⟨by omega, by omega, ?_⟩
  refine ⟨rfl, [3], [none, nodRow (lay (.leaf b) out)], by simp, by simp [go_sem], by simp [go_sem], ?_, by simp [go_sem], ?_⟩
  · simp [go_sem, nodRow]
    refine outAt_app (o := ⟨b.2, b.1, 0, 0⟩) (by simp [lay]) fun j hj => ?_
    exact nod_app out ⟨b.2, b.1, 0, 0⟩ j hj
  · simp [go_sem, nodRow]
theorem nodes_group (e : PT) (out : List PNode) (ih : NodesAre e out) (h0 : 0 < (lay e out).length) (hl : (lay e out).length ≤ 3000000) : NodesAre (.grp e) out := by
  refine ⟨_, _, rfl, _, mo_group_n, ?_⟩
  obtain ⟨T, u, hT, f, hm, hc⟩ := ih
  have ew : IntKind.i64.wrap (((lay e out).length : Int) - 1) = ((lay e out).length : Int) - 1 := wrap_i64 (by omega)
  rw [hT]
  simp only [nodRow] at hc ⊢
  refine vproc_start Try.func125 (by kernel_rfl) rfl (by simp [Try.ntmps125]) ?_; simp only [Try.ntmps125, Try.results125]; simp [go_sem]
  simp [go_sem, hm]
  refine vcall_share [0] hc (by simp) ?_ ?_ trivial ?_
  · simp [go_sem]
  · simp [go_sem]
    exact fun i _ => cellsRn_lits (nodLit _ i)
  · rintro av mem maps ⟨rfl, rfl, rfl⟩
    simp [go_sem, ew]
    refine ⟨by omega, by omega, by omega, ?_⟩
    refine ⟨rfl, [4], [none, nodRow (lay (.grp e) out)], by simp, by simp [go_sem], by simp [go_sem], ?_, by simp [go_sem], ?_⟩
    · simp [go_sem, nodRow]
      refine outAt_app (o := ⟨⟨#[]⟩, 6, ((lay e out).length : Int) - 1, 0⟩) (by simp [lay]) fun j hj => ?_
      exact nod_app (lay e out) ⟨⟨#[]⟩, 6, ((lay e out).length : Int) - 1, 0⟩ j hj
    · simp [go_sem, nodRow]
theorem nodes_pre (o : POp) (hk : o.kind = 1) (e : PT) (out : List PNode) (ih : NodesAre e out) (h0 : 0 < (lay e out).length) (hl : (lay e out).length ≤ 3000000) : NodesAre (.pre o e) out := by
  refine ⟨_, _, rfl, _, mo_applied_n, ?_⟩
  obtain ⟨T, u, hT, f, hm, hc⟩ := ih
  have ew : IntKind.i64.wrap (((lay e out).length : Int) - 1) = ((lay e out).length : Int) - 1 := wrap_i64 (by omega)
  have ek : IntKind.i64.wrap (o.kind + 2) = o.kind + 2 := wrap_i64 (by omega)
  rw [hT]
  simp only [nodRow] at hc ⊢
  refine vproc_start Try.func119 (by kernel_rfl) rfl (by simp [Try.ntmps119]) ?_; simp only [Try.ntmps119, Try.results119]; simp [go_sem]
  simp [go_sem, hm, ek]
  refine vcall_share [0] hc (by simp) ?_ ?_ trivial ?_
  · simp [go_sem]
  · simp [go_sem]
    exact fun i _ => cellsRn_lits (nodLit _ i)
  · rintro av mem maps ⟨rfl, rfl, rfl⟩
    simp [go_sem, ew]
    refine ⟨by omega, by omega, by omega, ?_⟩
    refine ⟨rfl, [5], [none, nodRow (lay (.pre o e) out)], by simp, by simp [go_sem], by simp [go_sem], ?_, by simp [go_sem], ?_⟩
    · simp [go_sem, nodRow]
      refine outAt_app (o := ⟨o.text, o.kind + 2, ((lay e out).length : Int) - 1, 0⟩) (by simp [lay]) fun j hj => ?_
      exact nod_app (lay e out) ⟨o.text, o.kind + 2, ((lay e out).length : Int) - 1, 0⟩ j hj
    · simp [go_sem, nodRow]
theorem nodes_post (o : POp) (hk : o.kind = 3) (e : PT) (out : List PNode) (ih : NodesAre e out) (h0 : 0 < (lay e out).length) (hl : (lay e out).length ≤ 3000000) : NodesAre (.post o e) out := by
  refine ⟨_, _, rfl, _, mo_applied_n, ?_⟩
  obtain ⟨T, u, hT, f, hm, hc⟩ := ih
  have ew : IntKind.i64.wrap (((lay e out).length : Int) - 1) = ((lay e out).length : Int) - 1 := wrap_i64 (by omega)
  have ek : IntKind.i64.wrap (o.kind + 2) = o.kind + 2 := wrap_i64 (by omega)
  rw [hT]
  simp only [nodRow] at hc ⊢
  refine vproc_start Try.func119 (by kernel_rfl) rfl (by simp [Try.ntmps119]) ?_; simp only [Try.ntmps119, Try.results119]; simp [go_sem]
  simp [go_sem, hm, ek]
  refine vcall_share [0] hc (by simp) ?_ ?_ trivial ?_
  · simp [go_sem]
  · simp [go_sem]
    exact fun i _ => cellsRn_lits (nodLit _ i)
  · rintro av mem maps ⟨rfl, rfl, rfl⟩
    simp [go_sem, ew]
    refine ⟨by omega, by omega, by omega, ?_⟩
    refine ⟨rfl, [5], [none, nodRow (lay (.post o e) out)], by simp, by simp [go_sem], by simp [go_sem], ?_, by simp [go_sem], ?_⟩
    · simp [go_sem, nodRow]
      refine outAt_app (o := ⟨o.text, o.kind + 2, ((lay e out).length : Int) - 1, 0⟩) (by simp [lay]) fun j hj => ?_
      exact nod_app (lay e out) ⟨o.text, o.kind + 2, ((lay e out).length : Int) - 1, 0⟩ j hj
    · simp [go_sem, nodRow]
theorem nodes_inf (o : POp) (hk : o.kind = 2) (x y : PT) (out : List PNode) (ih : NodesAre x out) (ih2 : NodesAre y (lay x out)) (h0 : 0 < (lay x out).length) (h1 : 0 < (lay y (lay x out)).length) (hl : (lay x out).length ≤ 3000000) (hl2 : (lay y (lay x out)).length ≤ 3000000) : NodesAre (.inf o x y) out := by
  refine ⟨_, _, rfl, _, mo_applied_n, ?_⟩
  obtain ⟨T, u, hT, f, hm, hc⟩ := ih
  obtain ⟨T', u', hT', f', hm', hc'⟩ := ih2
  have ew : IntKind.i64.wrap (((lay x out).length : Int) - 1) = ((lay x out).length : Int) - 1 := wrap_i64 (by omega)
  have ew' : IntKind.i64.wrap (((lay y (lay x out)).length : Int) - 1) = ((lay y (lay x out)).length : Int) - 1 := wrap_i64 (by omega)
  have ek : IntKind.i64.wrap (o.kind + 2) = o.kind + 2 := wrap_i64 (by omega)
  rw [hT, hT']
  simp only [nodRow] at hc hc' ⊢
  refine vproc_start Try.func119 (by kernel_rfl) rfl (by simp [Try.ntmps119]) ?_; simp only [Try.ntmps119, Try.results119]; simp [go_sem]
  simp [go_sem, hm, ek]
  refine vcall_share [0] hc (by simp) ?_ ?_ trivial ?_
  · simp [go_sem]
  · simp [go_sem]
    exact fun i _ => cellsRn_lits (nodLit _ i)
  · rintro av mem maps ⟨rfl, rfl, rfl⟩
    simp [go_sem, ew, hm']
    refine ⟨by omega, ?_⟩
    refine vcall_share [3] hc' (by simp) ?_ ?_ trivial ?_
    · simp [go_sem]
    · simp [go_sem]
      exact fun i _ => cellsRn_lits (nodLit _ i)
    · rintro av mem maps ⟨rfl, rfl, rfl⟩
      simp [go_sem, ew']
      refine ⟨by omega, by omega, by omega, ?_⟩
      refine ⟨rfl, [6], [none, nodRow (lay (.inf o x y) out)], by simp, by simp [go_sem], by simp [go_sem], ?_, by simp [go_sem], ?_⟩
      · simp [go_sem, nodRow]
        refine outAt_app (o := ⟨o.text, o.kind + 2, ((lay x out).length : Int) - 1, ((lay y (lay x out)).length : Int) - 1⟩) (by simp [lay]) fun j hj => ?_
        exact nod_app (lay y (lay x out)) ⟨o.text, o.kind + 2, ((lay x out).length : Int) - 1, ((lay y (lay x out)).length : Int) - 1⟩ j hj
      · simp [go_sem, nodRow]
theorem lay_grows : ∀ (e : PT) (out : List PNode), out.length < (lay e out).length
  | .leaf _, out => by simp [lay]
  | .grp e, out => by have := lay_grows e out; simp [lay]; omega
  | .pre _ e, out => by have := lay_grows e out; simp [lay]; omega
  | .post _ e, out => by have := lay_grows e out; simp [lay]; omega
  | .inf _ x y, out => by have := lay_grows x out; have := lay_grows y (lay x out); simp [lay]; omega
/-- each operator of the tree is of the kind of its place -/
def KindsOk : PT → Prop
  | .leaf _ => True
  | .grp e => KindsOk e
  | .pre o e => o.kind = 1 ∧ KindsOk e
  | .post o e => o.kind = 3 ∧ KindsOk e
  | .inf o x y => o.kind = 2 ∧ KindsOk x ∧ KindsOk y
theorem nodesAre : ∀ (e : PT) (out : List PNode), KindsOk e → (lay e out).length ≤ 3000000 → NodesAre e out
  | .leaf b, out, _, hl => nodes_leaf b out (by have := lay_grows (.leaf b) out; omega)
  | .grp e, out, hk, hl => by
    have h1 := lay_grows e out
    have h2 : (lay e out).length < (lay (.grp e) out).length := by simp [lay]
    exact nodes_group e out (nodesAre e out hk (by omega)) (by omega) (by omega)
  | .pre o e, out, hk, hl => by
    have h1 := lay_grows e out
    have h2 : (lay e out).length < (lay (.pre o e) out).length := by simp [lay]
    exact nodes_pre o hk.1 e out (nodesAre e out hk.2 (by omega)) (by omega) (by omega)
  | .post o e, out, hk, hl => by
    have h1 := lay_grows e out
    have h2 : (lay e out).length < (lay (.post o e) out).length := by simp [lay]
    exact nodes_post o hk.1 e out (nodesAre e out hk.2 (by omega)) (by omega) (by omega)
  | .inf o x y, out, hk, hl => by
    have h1 := lay_grows x out
    have h2 := lay_grows y (lay x out)
    have h3 : (lay y (lay x out)).length < (lay (.inf o x y) out).length := by simp [lay]
    exact nodes_inf o hk.1 x y out (nodesAre x out hk.2.1 (by omega)) (nodesAre y (lay x out) hk.2.2 (by omega)) (by omega) (by omega) (by omega) (by omega)
end Go.Proofs.Ytcnmgfbafcnkhaa.V
/- Tokens whose roles fit are read as the theory's tokens. Plain Lean. -/
namespace Go.Proofs.Ytcnmgfbafcnkhaa.V
open Go.RowKit
open Go.Proofs.Ytcnmgfbafcnkhaa.Ops (Tr Tk Lv Res Fit)
set_option linter.unusedVariables false
set_option linter.unusedSimpArgs false
theorem toks_exist {l : List POp} {t : List PTok} {n : Nat} (hu : Uniq l) (hn : t.length = n + 1) (h : ∀ j, j < t.length → 0 ≤ roleAt l t j (stAt l t j)) (hk7 : (tokAt t n).kind = 7) : ∀ (m i d : Nat), i + m = n → (d : Int) = openAt t i → ∃ ts : List TkP, ToksAre l t i ts ∧ Fit (!stAt l t i) d ts := by
  intro m
  induction m with
  | zero =>
    intro i d hi hd
    obtain rfl : i = n := by omega
    have hr := h i (by omega)
    refine ⟨[], ⟨by omega, hk7⟩, ?_⟩
    cases hs : stAt l t i with
    | false => rw [hs] at hr; simp [roleAt, hk7] at hr
    | true =>
      rw [hs] at hr
      simp only [roleAt, hk7] at hr
      simp at hr
      simp only [Bool.not_true, Fit]
      split at hr
      · omega
      · omega
  | succ m ih =>
    intro i d hi hd
    have hr := h i (by omega)
    have nxt : ∀ (st : Bool) (d' : Nat), stAt l t (i + 1) = st → (d' : Int) = openAt t (i + 1) → ∃ ts : List TkP, ToksAre l t (i + 1) ts ∧ Fit (!st) d' ts := fun st d' h1 h2 => by
      obtain ⟨ts, g1, g2⟩ := ih (i + 1) d' (by omega) h2
      rw [h1] at g2
      exact ⟨ts, g1, g2⟩
    cases hs : stAt l t i with
    | false =>
      rw [hs] at hr
      by_cases k12 : (tokAt t i).kind = 1 ∨ (tokAt t i).kind = 2
      · obtain ⟨ts, g1, g2⟩ := nxt true d (by rcases k12 with e | e <;> simp [stAt, e]) (by rcases k12 with e | e <;> simp [openAt, e, hd])
        exact ⟨.leaf ((tokAt t i).kind, (tokAt t i).text) :: ts, ⟨⟨k12, rfl⟩, g1⟩, g2⟩
      · by_cases k4 : (tokAt t i).kind = 4
        · obtain ⟨ts, g1, g2⟩ := nxt false (d + 1) (by simp [stAt, k4]) (by simp [openAt, k4]; omega)
          exact ⟨.opn :: ts, ⟨k4, g1⟩, g2⟩
        · simp only [roleAt, if_true] at hr
          rw [if_neg (by omega)] at hr
          split at hr
          · rename_i h3
            obtain ⟨j, hj, e1, e2⟩ := (opHas_iff l _ _).1 h3.2
            obtain ⟨ts, g1, g2⟩ := nxt false d (by simp [stAt, h3.1, hs]) (by simp [openAt, h3.1, hd])
            exact ⟨.pre (opAt l j) :: ts, ⟨⟨h3.1, e1, e2, j, hj, rfl⟩, g1⟩, g2⟩
          · omega
    | true =>
      rw [hs] at hr
      simp only [roleAt, Bool.true_eq_false, if_false] at hr
      split at hr
      · rename_i h3
        obtain ⟨j, hj, e1, e2⟩ := (opHas_iff l _ _).1 h3.2
        have no3 : opHas l (tokAt t i).text 3 = false := by
          cases e : opHas l (tokAt t i).text 3 with
          | false => rfl
          | true =>
            obtain ⟨j', hj', e1', e2'⟩ := (opHas_iff l _ _).1 e
            have := hu j j' hj hj' (by rw [e1, e1']) (by rw [e2, e2']; rfl)
            rw [this, e2'] at e2; omega
        obtain ⟨ts, g1, g2⟩ := nxt false d (by simp [stAt, h3.1, no3]) (by simp [openAt, h3.1, hd])
        exact ⟨.inf (opAt l j) :: ts, ⟨⟨h3.1, e1, e2, j, hj, rfl⟩, g1⟩, g2⟩
      · split at hr
        · rename_i h3
          obtain ⟨j, hj, e1, e2⟩ := (opHas_iff l _ _).1 h3.2
          obtain ⟨ts, g1, g2⟩ := nxt true d (by simp [stAt, h3.1, hs, h3.2]) (by simp [openAt, h3.1, hd])
          exact ⟨.post (opAt l j) :: ts, ⟨⟨h3.1, e1, e2, j, hj, rfl⟩, g1⟩, g2⟩
        · split at hr
          · rename_i h5
            obtain ⟨ts, g1, g2⟩ := nxt true (d - 1) (by simp [stAt, h5.1]) (by simp [openAt, h5.1]; omega)
            refine ⟨.cls :: ts, ⟨h5.1, g1⟩, ?_⟩
            obtain ⟨d', rfl⟩ : ∃ d', d = d' + 1 := ⟨d - 1, by omega⟩
            simpa [Fit] using g2
          · split at hr
            · rename_i h7
              exfalso; omega
            · exfalso; omega
/-- all of a list of tokens whose roles fit -/
theorem toks_of {l : List POp} {t : List PTok} (hu : Uniq l) (hr : (rolesZ l t).2 = -1) : ∃ ts : List TkP, ToksAre l t 0 ts ∧ Fit true 0 ts := by
  unfold rolesZ at hr
  split at hr
  · simp at hr
  · split at hr
    · simp at hr
    · rename_i hb
      split at hr
      · rename_i he
        simp [endsOk] at he
        obtain ⟨n, hn⟩ : ∃ n, t.length = n + 1 := ⟨t.length - 1, by have : t.length ≠ 0 := fun e => he.1 (List.eq_nil_of_length_eq_zero e); omega⟩
        have h0 : ∀ j, j < t.length → 0 ≤ roleAt l t j (stAt l t j) := fun j hj => by
          unfold firstBad at hb
          rw [List.find?_eq_none] at hb
          have := hb j (by simpa using hj)
          simp at this; exact this
        exact toks_exist hu hn h0 (by have := he.2; rw [hn] at this; simpa using this) n 0 0 (by omega) (by simp [openAt])
      · simp at hr
end Go.Proofs.Ytcnmgfbafcnkhaa.V
/- A valid table's operators are good ones; trees over a list of tokens are over the table. Plain Lean. -/
namespace Go.Proofs.Ytcnmgfbafcnkhaa.V
open Go.RowKit
open Go.Proofs.Ytcnmgfbafcnkhaa.Ops (Tr Tk Lv Res Fit)
set_option linter.unusedVariables false
set_option linter.unusedSimpArgs false
theorem ok_of_ok {l : List POp} (h : tblOk l = 0) (j : Nat) (hj : j < l.length) : opOk (opAt l j) = true := by
  have := tblOk_ops h
  unfold tblOps at this
  rw [List.all_eq_true] at this
  exact this j (by simpa using hj)
def InL (l : List POp) (o : POp) : Prop := ∃ j, j < l.length ∧ opAt l j = o
theorem good_of_ok {l : List POp} (h : tblOk l = 0) : Ops.Good lvO (InL l) := by
  have hc : tblClash l 4 = false := by
    unfold tblOk at h
    cases hh : tblClash l 4
    · rfl
    · rw [hh] at h
      split at h
      · cases h
      · split at h
        · cases h
        · split at h
          · cases h
          · simp at h
  have no : ∀ i j, i < l.length → j < i → clash (opAt l i) (opAt l j) 4 = true → False := fun i j hi hj hcl => by
    have := (tblClash_iff l 4).2 ⟨i, hi, j, hj, hcl⟩
    rw [hc] at this
    cases this
  refine ⟨fun a ⟨j, hj, e⟩ => ?_, fun a ⟨j, hj, e⟩ => ?_, fun a b ⟨i, hi, e⟩ ⟨j, hj, e2⟩ hl => ?_⟩
  · have := ok_of_ok h j hj
    rw [e] at this
    exact (opOk_level this).1
  · have := ok_of_ok h j hj
    rw [e] at this
    exact (opOk_level this).2
  · subst e; subst e2
    have hl' : (opAt l i).level = (opAt l j).level := hl
    show sortN (opAt l i) = sortN (opAt l j)
    rcases Nat.lt_trichotomy i j with hlt | rfl | hlt
    · by_cases hs : sortN (opAt l i) = sortN (opAt l j)
      · exact hs
      · exact (no j i hj hlt (by simp [clash, hl', Ne.symm hs])).elim
    · rfl
    · by_cases hs : sortN (opAt l i) = sortN (opAt l j)
      · exact hs
      · exact (no i j hi hlt (by simp [clash, hl', hs])).elim
/-- what a tree's operators are, whose yield stands in the tokens -/
theorem tree_ok {l : List POp} {t : List PTok} (hok : ∀ j, j < l.length → opOk (opAt l j) = true) : ∀ (e : PT) (i : Nat) (rest : List TkP), ToksAre l t i (e.yield ++ rest) → e.All lvO (InL l) ∧ KindsOk e
  | .leaf b, i, rest, h => ⟨trivial, trivial⟩
  | .grp e, i, rest, h => by
    simp only [Tr.yield, List.cons_append, List.append_assoc, ToksAre] at h
    exact tree_ok hok e _ _ h.2
  | .pre o e, i, rest, h => by
    simp only [Tr.yield, List.cons_append, ToksAre, TokIs] at h
    obtain ⟨⟨_, _, hk, hj⟩, h2⟩ := h
    obtain ⟨g1, g2⟩ := tree_ok hok e _ _ h2
    exact ⟨⟨hj, by simp [lvO, sortN, hk], g1⟩, hk, g2⟩
  | .post o e, i, rest, h => by
    simp only [Tr.yield, List.append_assoc, List.cons_append, List.nil_append] at h
    obtain ⟨g1, g2⟩ := tree_ok hok e _ _ h
    have h3 := toksAre_drop h
    simp only [ToksAre, TokIs] at h3
    obtain ⟨⟨_, _, hk, hj⟩, _⟩ := h3
    exact ⟨⟨hj, by simp [lvO, sortN, hk], g1⟩, hk, g2⟩
  | .inf o x y, i, rest, h => by
    simp only [Tr.yield, List.append_assoc, List.cons_append] at h
    obtain ⟨g1, g2⟩ := tree_ok hok x _ _ h
    have h3 := toksAre_drop h
    simp only [ToksAre, TokIs] at h3
    obtain ⟨⟨_, _, hk, hj⟩, h4⟩ := h3
    obtain ⟨g3, g4⟩ := tree_ok hok y _ _ h4
    exact ⟨⟨hj, g1, g3⟩, hk, g2, g4⟩
end Go.Proofs.Ytcnmgfbafcnkhaa.V
/- Contracts: well-formed and admissible trees, by the reference. -/
namespace Go.Proofs.Ytcnmgfbafcnkhaa.V
open Go.RowKit
open Go.Maps (Keyed)
set_option linter.unusedVariables false
set_option linter.unusedSimpArgs false
set_option linter.constructorNameAsVariable false
def opIs (z : ByteArray) (k : Int) (o : POp) : Bool := decide (o.text = z) && decide (o.kind = k)
/-- the first operator of a table with a text and a kind -/
def opOf (l : List POp) (z : ByteArray) (k : Int) : POp := (l.find? (opIs z k)).getD noOp
theorem find_at {l : List POp} {z : ByteArray} {k : Int} : ∀ {i : Nat}, i < l.length → opIs z k (opAt l i) = true → (∀ j, j < i → opIs z k (opAt l j) = false) → l.find? (opIs z k) = some (opAt l i) := by
  induction l with
  | nil => intro i h; simp at h
  | cons a r ih =>
    intro i h h1 h2
    cases i with
    | zero =>
      have e : opAt (a :: r) 0 = a := rfl
      rw [e] at h1 ⊢
      simp [List.find?_cons, h1]
    | succ i =>
      have e0 := h2 0 (by omega)
      have e : opAt (a :: r) 0 = a := rfl
      have es : ∀ j, opAt (a :: r) (j + 1) = opAt r j := fun j => rfl
      rw [e] at e0
      rw [List.find?_cons, e0]
      simp only [es] at h1 ⊢
      exact ih (by simpa using h) h1 fun j hj => by
        have := h2 (j + 1) (by omega)
        rw [es] at this; exact this
theorem opOf_at {l : List POp} {z : ByteArray} {k : Int} {i : Nat} (h : i < l.length) (h1 : opIs z k (opAt l i) = true) (h2 : ∀ j, j < i → opIs z k (opAt l j) = false) : opOf l z k = opAt l i := by
  unfold opOf; rw [find_at h h1 h2]; rfl
theorem opHas_has {l : List POp} {z : ByteArray} {k : Int} (h : opHas l z k = true) : ∃ i, i < l.length ∧ opOf l z k = opAt l i ∧ (opAt l i).text = z ∧ (opAt l i).kind = k := by
  obtain ⟨j, hj, e1, e2⟩ := (opHas_iff l z k).1 h
  have key : ∀ n, (∃ j, j < n ∧ j < l.length ∧ opIs z k (opAt l j) = true) → ∃ i, i < l.length ∧ opIs z k (opAt l i) = true ∧ ∀ j, j < i → opIs z k (opAt l j) = false := by
    intro n
    induction n with
    | zero => rintro ⟨j, hj, _⟩; omega
    | succ n ih =>
      rintro ⟨j, hj, hl, h⟩
      by_cases hx : ∃ j, j < n ∧ j < l.length ∧ opIs z k (opAt l j) = true
      · exact ih hx
      · refine ⟨j, hl, h, fun q hq => ?_⟩
        cases e : opIs z k (opAt l q) with
        | false => rfl
        | true => exact absurd ⟨q, by omega, by omega, e⟩ hx
  obtain ⟨i, hi, g1, g2⟩ := key (j + 1) ⟨j, by omega, hj, by simp [opIs, e1, e2]⟩
  simp only [opIs, Bool.and_eq_true, decide_eq_true_eq] at g1
  exact ⟨i, hi, opOf_at hi (by simp [opIs, g1]) g2, g1.1, g1.2⟩
theorem c_l2FindS (l : List POp) (hl : l.length ≤ 9223372036854775807) (z : ByteArray) (kd : Int) : VFun Try.prog 64 [.agg [.sl 4 l.length (opCells l)], .lit (.string z), .lit (.int .i64 kd)] (fun av obs => obs = [] ∧ ((av = .lit (.int .i64 (-1)) ∧ opHas l z kd = false) ∨ ∃ i : Nat, av = .lit (.int .i64 i) ∧ i < l.length ∧ opHas l z kd = true ∧ opOf l z kd = opAt l i)) := by
  have cl : ∀ (i : Nat) (c : AV), i < l.length → c ∈ opCells l i → Closed c := fun i c _ h => opClosed l i c h
  refine vfun_start Try.func64 (by kernel_rfl) rfl (by simp [Try.ntmps64]) ?_; simp only [Try.ntmps64, Try.results64]; simp [go_sem]
  refine vc_loop (fun i : Nat => i ≤ l.length ∧ ∀ j, j < i → ¬ ((opAt l j).text = z ∧ (opAt l j).kind = kd)) (fun i => l.length - i) (fun i => .of [(1, .lit (.string z)), (2, .lit (.int .i64 kd)), (3, .ptr 0 1 0 0), (7, .lit (.int .i64 i))] [some ⟨25, 1, 1, fun _ => [.sl 4 l.length (opCells l)]⟩]) ⟨0, ⟨by omega, by simp⟩, ?_⟩ (fun i hi => ?_)
  · simp [go_sem]
    exact cl
  · simp [go_sem, opCells_at, ba_toList]
    have step : ¬ ((opAt l i).text = z ∧ (opAt l i).kind = kd) → ∀ j, j < i + 1 → ¬ ((opAt l j).text = z ∧ (opAt l j).kind = kd) := fun e j hj => by
      rcases Nat.lt_succ_iff_lt_or_eq.mp hj with hj | rfl
      · exact hi.2 j hj
      · exact e
    refine ⟨by omega, fun h => ?_, fun h => ?_⟩
    · have cl2 : ∀ (i : Nat) (c : AV), i < l.length → c = AV.lit (Value.string (opAt l i).text) ∨ c = AV.lit (Value.int IntKind.i64 (opAt l i).kind) ∨ c = AV.lit (Value.int IntKind.i64 (opAt l i).level) ∨ c = AV.lit (Value.int IntKind.i64 (opAt l i).side) → Closed c := by
        rintro i c _ (rfl | rfl | rfl | rfl) <;> exact .lit _
      refine ⟨h, fun e1 => ⟨h, fun e2 => ?_, fun e2 => ⟨i + 1, ⟨by omega, fun j hj e3 e4 => step (fun e5 => e2 e5.2) j hj ⟨e3, e4⟩⟩, by omega, wrap_succ (by omega), cl2⟩⟩, fun e1 => ⟨i + 1, ⟨by omega, fun j hj e3 e4 => step (fun e5 => e1 e5.1) j hj ⟨e3, e4⟩⟩, by omega, wrap_succ (by omega), cl2⟩⟩
      refine ⟨i, rfl, h, (opHas_iff l z kd).2 ⟨i, h, e1, e2⟩, opOf_at h (by simp [opIs, e1, e2]) fun j hj => ?_⟩
      have := hi.2 j hj
      simpa [opIs] using this
    · simp only [opHas, List.any_eq_false, List.mem_range]
      exact fun j hj => by
        have := hi.2 j (by omega)
        simp only [Bool.and_eq_true, decide_eq_true_eq]
        exact this
def isOpN (o : PNode) : Bool := decide (3 ≤ o.kind ∧ o.kind ≤ 5)
def ndOp (l : List POp) (n : PNode) : POp := opOf l n.text (n.kind - 2)
def lvlN (l : List POp) (n : PNode) : Int := if isOpN n then (ndOp l n).level else 1001
def fitsN (l : List POp) (t : List PNode) (i : Nat) : Bool := !isOpN (nodAt t i) || (decide (hole (ndOp l (nodAt t i)) false ≤ lvlN l (nodAt t (nodAt t i).a.toNat)) && (decide (kidsN (nodAt t i).kind = 1) || decide (hole (ndOp l (nodAt t i)) true ≤ lvlN l (nodAt t (nodAt t i).b.toNat))))
def opdAll (l : List POp) (t : List PNode) : Bool := (List.range t.length).all fun i => !isOpN (nodAt t i) || opHas l (nodAt t i).text ((nodAt t i).kind - 2)
def wellF (l : List POp) (t : List PNode) : Bool := decide (tblOk l = 0) && inOrd t && opdAll l t
def treeOk (l : List POp) (t : List PNode) : Int := if tblOk l ≠ 0 then 1 else if wellF l t = false then 2 else if (List.range t.length).all (fun i => fitsN l t i) then 0 else 3
/-- the kids of a node of a tree in order -/
theorem inOrd_kid {t : List PNode} (h : inOrd t = true) {i : Nat} (hi : i < t.length) : txtOk (nodAt t i) = true ∧ (1 ≤ (nodAt t i).kind ∧ (nodAt t i).kind ≤ 6) ∧ (kidsN (nodAt t i).kind ≠ 0 → 0 ≤ (nodAt t i).a ∧ (nodAt t i).a < i) ∧ (kidsN (nodAt t i).kind = 2 → 0 ≤ (nodAt t i).b ∧ (nodAt t i).b < i) := by
  simp only [inOrd, Bool.and_eq_true, decide_eq_true_eq] at h
  obtain ⟨⟨h1, h2⟩, h3⟩ := h
  have hx := List.all_eq_true.1 h3 i (List.mem_range.2 hi)
  have e1 : (t.length : Int) - 1 = ((t.length - 1 : Nat) : Int) := by omega
  rw [e1] at h2
  have h0 := fromZ_all t (t.length - 1) i (by omega) (by omega) (by omega)
  rw [fromZ_eq] at h0
  have hk : 1 ≤ (nodAt t i).kind ∧ (nodAt t i).kind ≤ 6 := Decidable.byContradiction fun hn => by rw [txtOk_range hn] at hx; cases hx
  refine ⟨hx, hk, fun hk0 => ?_, fun hk2 => ?_⟩
  · rw [if_neg hk0] at h0
    split at h0
    · split at h0
      · omega
      · rename_i hn
        by_cases hz : i = 0
        · subst hz; rw [fromZ_neg t (by omega)] at h0; omega
        · omega
    · split at h0
      · omega
      · split at h0
        · omega
        · rename_i hb hn
          have := fromZ_le t (i := (i : Int) - 1)
          by_cases hz : i = 0
          · subst hz; rw [fromZ_neg t (by omega)] at hn; omega
          · have := this (by omega)
            omega
  · rw [if_neg (by omega), if_neg (by omega)] at h0
    split at h0
    · omega
    · split at h0
      · omega
      · rename_i hb hn
        by_cases hz : i = 0
        · subst hz; rw [fromZ_neg t (by omega)] at hn; omega
        · omega
theorem opAt_wf {l : List POp} (hw : opsWf l) {z : ByteArray} {k : Int} (h : opHas l z k = true) : (opOf l z k).wf := by
  obtain ⟨i, hi, e, _⟩ := opHas_has h
  rw [e]; exact hw i hi
theorem c_l3IsOp (o : PNode) : VFun Try.prog 90 [.agg o.cells] (fun av obs => obs = [] ∧ av = .lit (.bool (isOpN o))) := by
  obtain ⟨z, k, x, y⟩ := o
  simp only [PNode.cells]
  refine vfun_start Try.func90 (by kernel_rfl) rfl (by simp [Try.ntmps90]) ?_; simp only [Try.ntmps90, Try.results90]; simp [go_sem]
  simp [isOpN]
  omega
theorem c_l3OpOf (l : List POp) (hl : l.length ≤ 9223372036854775807) (n : PNode) (hk : isOpN n = true) (h : opHas l n.text (n.kind - 2) = true) : VFun Try.prog 91 [.agg [.sl 4 l.length (opCells l)], .agg n.cells] (fun av obs => obs = [] ∧ av = .agg (ndOp l n).cells) := by
  have cl : ∀ (i : Nat) (c : AV), i < l.length → c ∈ opCells l i → Closed c := fun i c _ h => opClosed l i c h
  obtain ⟨z, k, x, y⟩ := n
  simp only [isOpN, decide_eq_true_eq] at hk
  simp only [PNode.cells] at h ⊢
  have e1 : IntKind.i64.wrap (k - 2) = k - 2 := wrap_i64 (by omega)
  refine vfun_start Try.func91 (by kernel_rfl) rfl (by simp [Try.ntmps91]) ?_; simp only [Try.ntmps91, Try.results91]; simp [go_sem]
  refine vc_drawn [11] (.q 0 <| .q 1 <| .q 2 <| .q 3 <| .q 4 <| .q 5 <| .q 6 <| .q 7 <| .or 8 (.q 9 <| .q 10 <| .or 11 (.done) (.nil)) (.nil)) (by kernel_rfl) ?_
  simp [go_sem, e1]
  refine vcallV_use (c_l2FindS l hl z (k - 2)) ?_ ?_
  · simp [go_sem]
    exact argSl_refl (by omega) cl
  · rintro av obs ⟨rfl, ⟨rfl, hn⟩ | ⟨i, rfl, hi, _, he⟩⟩
    · rw [h] at hn; cases hn
    · simp [go_sem, opCells_at]
      refine ⟨hi, ?_⟩
      simp [ndOp, he, POp.cells]
theorem c_l3Level (l : List POp) (hl : l.length ≤ 9223372036854775807) (n : PNode) (h : isOpN n = true → opHas l n.text (n.kind - 2) = true) : VFun Try.prog 92 [.agg [.sl 4 l.length (opCells l)], .agg n.cells] (fun av obs => obs = [] ∧ av = .lit (.int .i64 (lvlN l n))) := by
  have cl : ∀ (i : Nat) (c : AV), i < l.length → c ∈ opCells l i → Closed c := fun i c _ h => opClosed l i c h
  have c1 := c_l3IsOp n
  have c2 := c_l3OpOf l hl n
  simp only [PNode.cells, POp.cells] at c1 c2 ⊢
  refine vfun_start Try.func92 (by kernel_rfl) rfl (by simp [Try.ntmps92]) ?_; simp only [Try.ntmps92, Try.results92]; simp [go_sem]
  refine vcall_pure c1 ?_ ?_
  · simp [go_sem]
  · cases hk : isOpN n with
    | true =>
      simp [go_sem]
      refine vcall_val (c2 hk (h hk)) ?_ ?_ ?_
      · simp [go_sem]
        exact argSl_refl (by omega) cl
      · simp [go_sem]
      · simp [go_sem, lvlN, hk]
    | false => simp [go_sem, lvlN, hk]
theorem c_l3Fits (l : List POp) (hl : l.length ≤ 9223372036854775807) (hw : opsWf l) (t : List PNode) (ht : t.length ≤ 9223372036854775807) (i : Nat) (hi : i < t.length) (ha : isOpN (nodAt t i) = true → opHas l (nodAt t i).text ((nodAt t i).kind - 2) = true ∧ (0 ≤ (nodAt t i).a ∧ (nodAt t i).a < t.length) ∧ (isOpN (nodAt t (nodAt t i).a.toNat) = true → opHas l (nodAt t (nodAt t i).a.toNat).text ((nodAt t (nodAt t i).a.toNat).kind - 2) = true) ∧
    (kidsN (nodAt t i).kind ≠ 1 → (0 ≤ (nodAt t i).b ∧ (nodAt t i).b < t.length) ∧ (isOpN (nodAt t (nodAt t i).b.toNat) = true → opHas l (nodAt t (nodAt t i).b.toNat).text ((nodAt t (nodAt t i).b.toNat).kind - 2) = true))) :
    VFun Try.prog 70 [.agg [.sl 4 l.length (opCells l)], .sl 4 t.length (nodCells t), .lit (.int .i64 i)] (fun av obs => obs = [] ∧ av = .lit (.bool (fitsN l t i))) := by
  have cl : ∀ (i : Nat) (c : AV), i < l.length → c ∈ opCells l i → Closed c := fun i c _ h => opClosed l i c h
  have c1 := c_l3IsOp (nodAt t i)
  have c2 := c_l3OpOf l hl (nodAt t i)
  simp only [PNode.cells, POp.cells] at c1 c2
  refine vfun_start Try.func70 (by kernel_rfl) rfl (by simp [Try.ntmps70]) ?_; simp only [Try.ntmps70, Try.results70]; simp [go_sem]
  simp [go_sem, nodCells_at]
  refine ⟨hi, vcall_pure c1 ?_ ?_⟩
  · simp [go_sem]
  · cases hk : isOpN (nodAt t i) with
    | false => simp [go_sem, fitsN, hk]
    | true =>
      obtain ⟨h1, h2, h3, h4⟩ := ha hk
      have howf : (ndOp l (nodAt t i)).wf := opAt_wf hw h1
      simp [go_sem]
      refine vcall_val (c2 hk h1) ?_ ?_ ?_
      · simp [go_sem]
        exact argSl_refl (by omega) cl
      · simp [go_sem]
      · simp [go_sem]
        refine vc_drawn [] (.q 0 <| .q 1 <| .q 2 <| .q 3 <| .q 4 <| .q 5 <| .q 7 <| .or 6 (.or 8 (.q 9 <| .done) (.nil)) (.nil)) (by kernel_rfl) ?_
        simp [go_sem, nodCells_at]
        have c3 := c_l3Level l hl (nodAt t (nodAt t i).a.toNat) h3
        have c4 := c_l1Hole (ndOp l (nodAt t i)) howf
        simp only [PNode.cells, POp.cells] at c3 c4
        refine ⟨h2.1, h2.2, vcallV_pure c3 ?_ ?_⟩
        · simp [go_sem]
          exact argSl_refl (by omega) cl
        · simp [go_sem]
          refine vcallV_pure (c4 false) ?_ ?_
          · simp [go_sem]
          · simp [go_sem]
            refine ⟨fun h5 => by simp [fitsN, hk]; omega, fun h5 => vc_drawn [] (.q 0 <| .q 1 <| .or 2 (.q 3 <| .q 4 <| .q 5 <| .q 6 <| .q 7 <| .q 8 <| .q 9 <| .q 10 <| .q 12 <| .or 11 (.or 13 (.q 14 <| .q 15 <| .q 16 <| .done) (.nil)) (.nil)) (.nil)) (by kernel_rfl) ?_⟩
            simp [go_sem]
            refine vcallV_pure (c_l3Kids (nodAt t i).kind) ?_ ?_
            · simp [go_sem]
            · by_cases hk1 : kidsN (nodAt t i).kind = 1
              · simp [go_sem, hk1, fitsN, hk, h5]
              · obtain ⟨h6, h7⟩ := h4 hk1
                have c5 := c_l3Level l hl (nodAt t (nodAt t i).b.toNat) h7
                simp only [PNode.cells] at c5
                simp [go_sem, hk1, nodCells_at]
                refine ⟨h6.1, h6.2, vcallV_pure c5 ?_ ?_⟩
                · simp [go_sem]
                  exact argSl_refl (by omega) cl
                · simp [go_sem]
                  refine vcallV_pure (c4 true) ?_ ?_
                  · simp [go_sem]
                  · simp [go_sem, fitsN, hk, h5, hk1]
theorem wellF_fits {l : List POp} {t : List PNode} (h : wellF l t = true) {i : Nat} (hi : i < t.length) (hk : isOpN (nodAt t i) = true) : opHas l (nodAt t i).text ((nodAt t i).kind - 2) = true ∧ (0 ≤ (nodAt t i).a ∧ (nodAt t i).a < t.length) ∧ (isOpN (nodAt t (nodAt t i).a.toNat) = true → opHas l (nodAt t (nodAt t i).a.toNat).text ((nodAt t (nodAt t i).a.toNat).kind - 2) = true) ∧
    (kidsN (nodAt t i).kind ≠ 1 → (0 ≤ (nodAt t i).b ∧ (nodAt t i).b < t.length) ∧ (isOpN (nodAt t (nodAt t i).b.toNat) = true → opHas l (nodAt t (nodAt t i).b.toNat).text ((nodAt t (nodAt t i).b.toNat).kind - 2) = true)) := by
  simp only [wellF, Bool.and_eq_true, opdAll] at h
  obtain ⟨⟨h1, h2⟩, h3⟩ := h
  have has : ∀ j, j < t.length → isOpN (nodAt t j) = true → opHas l (nodAt t j).text ((nodAt t j).kind - 2) = true := fun j hj e => by
    have := List.all_eq_true.1 h3 j (List.mem_range.2 hj)
    simpa [e] using this
  obtain ⟨g1, g2, g3, g4⟩ := inOrd_kid h2 hi
  simp only [isOpN, decide_eq_true_eq] at hk
  have hk3 : kidsN (nodAt t i).kind ≠ 0 := by
    unfold kidsN
    split
    · decide
    · split
      · decide
      · omega
  have ga := g3 hk3
  refine ⟨has i hi (by simpa [isOpN] using hk), ⟨ga.1, by omega⟩, has _ (by omega), fun hk1 => ?_⟩
  have gb := g4 (by rcases kidsN_cases (nodAt t i).kind with e | e | e <;> omega)
  exact ⟨⟨gb.1, by omega⟩, has _ (by omega)⟩
end Go.Proofs.Ytcnmgfbafcnkhaa.V
/- Contracts: the reference's tokens as operators, the root of a stretch. -/
namespace Go.Proofs.Ytcnmgfbafcnkhaa.V
open Go.RowKit
open Go.Proofs.Ytcnmgfbafcnkhaa.Ops (Tr Tk Lv Res Fit)
set_option linter.unusedVariables false
set_option linter.unusedSimpArgs false
set_option linter.constructorNameAsVariable false
theorem c_l3Op (l : List POp) (hl : l.length ≤ 9223372036854775807) (t : List PTok) (ht : t.length ≤ 1048576) (rs : List Int) (i : Nat) (hi : i < t.length) (hr : i < rs.length) (h : opHas l (tokAt t i).text (intAt rs i) = true) :
    VFun Try.prog 89 [.agg [.sl 4 l.length (opCells l)], .sl 3 t.length (tokCells t), .sl 1 rs.length (intCells rs), .lit (.int .i64 i)] (fun av obs => obs = [] ∧ av = .agg (opOf l (tokAt t i).text (intAt rs i)).cells) := by
  have cl : ∀ (i : Nat) (c : AV), i < l.length → c ∈ opCells l i → Closed c := fun i c _ h => opClosed l i c h
  have cf := c_l2FindS l hl (tokAt t i).text (intAt rs i)
  refine vfun_start Try.func89 (by kernel_rfl) rfl (by simp [Try.ntmps89]) ?_; simp only [Try.ntmps89, Try.results89]; simp [go_sem]
  refine vc_drawn [15] (.q 0 <| .q 1 <| .q 2 <| .q 3 <| .q 4 <| .q 5 <| .q 6 <| .q 7 <| .q 8 <| .q 9 <| .q 10 <| .q 11 <| .or 12 (.q 13 <| .q 14 <| .or 15 (.done) (.nil)) (.nil)) (by kernel_rfl) ?_
  simp [go_sem, tokCells_at, intCells_at, hi, hr]
  refine vcallV_use cf ?_ ?_
  · simp [go_sem]
    exact argSl_refl (by omega) cl
  · rintro av obs ⟨rfl, ⟨rfl, hn⟩ | ⟨q, rfl, hq, _, he⟩⟩
    · rw [h] at hn; cases hn
    · simp [go_sem, opCells_at]
      refine ⟨hq, ?_⟩
      simp [he, POp.cells]
/-- the role of a token of the theory -/
def roleT : TkP → Int
  | .pre _ => 1
  | .inf _ => 2
  | .post _ => 3
  | _ => 0
theorem op_unique {l : List POp} {o : POp} {z : ByteArray} (hu : Uniq l) (h1 : o.text = z) (hj : ∃ j, j < l.length ∧ opAt l j = o) : opHas l z o.kind = true ∧ opOf l z o.kind = o := by
  obtain ⟨j, hj, rfl⟩ := hj
  have hh : opHas l z (opAt l j).kind = true := (opHas_iff l z _).2 ⟨j, hj, h1, rfl⟩
  obtain ⟨i, hi, e1, e2, e3⟩ := opHas_has hh
  exact ⟨hh, e1.trans (hu i j hi hj (by rw [e2, h1]) (by rw [e3]))⟩
/-- a stretch of tokens with their roles, as the theory has it -/
def SegIs (l : List POp) (t : List PTok) (rs : List Int) : Nat → List TkP → Prop
  | _, [] => True
  | i, tk :: r => TokIs l (tokAt t i) tk ∧ intAt rs i = roleT tk ∧ SegIs l t rs (i + 1) r
theorem seg_at {l : List POp} {t : List PTok} {rs : List Int} : ∀ {s : List TkP} {i k : Nat} {tk : TkP}, SegIs l t rs i s → s[k]? = some tk → TokIs l (tokAt t (i + k)) tk ∧ intAt rs (i + k) = roleT tk
  | [], i, k, tk, _, h => by simp at h
  | x :: r, i, 0, tk, hs, h => by
    simp at h; subst h
    exact ⟨hs.1, hs.2.1⟩
  | x :: r, i, k + 1, tk, hs, h => by
    have := seg_at hs.2.2 (by simpa using h)
    rw [show i + (k + 1) = i + 1 + k by omega]; exact this
theorem seg_op {l : List POp} {t : List PTok} {rs : List Int} (hu : Uniq l) {s : List TkP} {i k : Nat} {tk : TkP} {o : POp} (hs : SegIs l t rs i s) (h : s[k]? = some tk) (ho : tk.op? = some o) : opHas l (tokAt t (i + k)).text (intAt rs (i + k)) = true ∧ opOf l (tokAt t (i + k)).text (intAt rs (i + k)) = o := by
  obtain ⟨h1, h2⟩ := seg_at hs h
  rw [h2]
  cases tk with
  | pre o' =>
    simp [Tk.op?] at ho; subst ho
    have := op_unique hu h1.2.1 h1.2.2.2
    rw [h1.2.2.1] at this; exact this
  | inf o' =>
    simp [Tk.op?] at ho; subst ho
    have := op_unique hu h1.2.1 h1.2.2.2
    rw [h1.2.2.1] at this; exact this
  | post o' =>
    simp [Tk.op?] at ho; subst ho
    have := op_unique hu h1.2.1 h1.2.2.2
    rw [h1.2.2.1] at this; exact this
  | _ => simp [Tk.op?] at ho
theorem role_op {tk : TkP} : roleT tk = 0 ↔ tk.op? = none := by cases tk <;> simp [roleT, Tk.op?]
def bestI (a : Nat) : Option (Nat × POp) → Int
  | none => -1
  | some x => (a + x.1 : Nat)
end Go.Proofs.Ytcnmgfbafcnkhaa.V
/- Contracts: the root of a stretch of tokens. -/
namespace Go.Proofs.Ytcnmgfbafcnkhaa.V
open Go.RowKit
open Go.Proofs.Ytcnmgfbafcnkhaa.Ops (Tr Tk Lv Res Fit)
set_option linter.unusedVariables false
set_option linter.unusedSimpArgs false
set_option linter.constructorNameAsVariable false
/-- where the search for the root stands -/
structure AtRoot (s : List TkP) (i : Nat) (d : Int) (best : Option (Nat × POp)) : Prop where
  le : i ≤ s.length
  dle : -(i : Int) ≤ d ∧ d ≤ i
  run : Ops.root lvO s 0 0 none = Ops.root lvO (s.drop i) i d best
  has : ∀ k o, best = some (k, o) → k < i ∧ ∃ tk, s[k]? = some tk ∧ tk.op? = some o
theorem turn_le (tk : TkP) : -1 ≤ tk.turn ∧ tk.turn ≤ 1 := by cases tk <;> simp [Tk.turn]
theorem atRoot_unf {s : List TkP} {i : Nat} {d : Int} {best : Option (Nat × POp)} {tk : TkP} (hk : s[i]? = some tk) : Ops.root lvO (s.drop i) i d best = Ops.root lvO (tk :: s.drop (i + 1)) i d best := by
  obtain ⟨hl, e⟩ := List.getElem?_eq_some_iff.1 hk
  rw [List.drop_eq_getElem_cons hl, e]
theorem atRoot_skip {s : List TkP} {i : Nat} {d : Int} {best : Option (Nat × POp)} {tk : TkP} (h : AtRoot s i d best) (hk : s[i]? = some tk) (hc : d + tk.turn ≠ 0 ∨ tk.op? = none) : AtRoot s (i + 1) (d + tk.turn) best := by
  have hl := (List.getElem?_eq_some_iff.1 hk).1
  have ht := turn_le tk
  have hd := h.dle
  refine ⟨by omega, by omega, ?_, fun k o e => ⟨by have := (h.has k o e).1; omega, (h.has k o e).2⟩⟩
  rw [h.run, atRoot_unf hk, Ops.root]
  split
  · rename_i h0
    rcases hc with hc | hc
    · exact absurd h0 hc
    · rw [hc]
  · rfl
theorem atRoot_take {s : List TkP} {i : Nat} {d : Int} {best : Option (Nat × POp)} {tk : TkP} {o : POp} (h : AtRoot s i d best) (hk : s[i]? = some tk) (h0 : d + tk.turn = 0) (ho : tk.op? = some o) : AtRoot s (i + 1) (d + tk.turn) (Ops.better lvO best (i, o)) := by
  have hl := (List.getElem?_eq_some_iff.1 hk).1
  have ht := turn_le tk
  have hd := h.dle
  refine ⟨by omega, by omega, ?_, fun k o' e => ?_⟩
  · rw [h.run, atRoot_unf hk, Ops.root, if_pos h0, ho]
  · have new : ∀ {k o'}, some (i, o) = some (k, o') → k < i + 1 ∧ ∃ tk, s[k]? = some tk ∧ tk.op? = some o' := fun e => by
      simp at e
      obtain ⟨rfl, rfl⟩ := e
      exact ⟨by omega, tk, hk, ho⟩
    unfold Ops.better at e
    split at e
    · exact new e
    · rename_i b
      split at e
      · exact new e
      · have := h.has k o' e
        exact ⟨by omega, this.2⟩
set_option maxRecDepth 100000 in
theorem c_l3Root (l : List POp) (hl : l.length ≤ 9223372036854775807) (hu : Uniq l) (t : List PTok) (ht : t.length ≤ 1048576) (rs : List Int) (hrs : rs.length = t.length) (a b : Nat) (s : List TkP) (hab : a + s.length = b) (hb : b ≤ t.length) (hs : SegIs l t rs a s) :
    VFun Try.prog 69 [.agg [.sl 4 l.length (opCells l)], .sl 3 t.length (tokCells t), .sl 1 rs.length (intCells rs), .lit (.int .i64 a), .lit (.int .i64 b)] (fun av obs => obs = [] ∧ av = .lit (.int .i64 (bestI a (Ops.root lvO s 0 0 none)))) := by
  have cl : ∀ (i : Nat) (c : AV), i < l.length → c ∈ opCells l i → Closed c := fun i c _ h => opClosed l i c h
  have clt : ∀ (i : Nat) (c : AV), i < t.length → c ∈ tokCells t i → Closed c := fun i c _ h => tokClosed t i c h
  have cli : ∀ (i : Nat) (c : AV), i < rs.length → c ∈ intCells rs i → Closed c := fun i c _ h => intClosed rs i c h
  refine vfun_start Try.func69 (by kernel_rfl) rfl (by simp [Try.ntmps69]) ?_; simp only [Try.ntmps69, Try.results69]; simp [go_sem]
  refine vc_loop (fun x : Nat × Int × Option (Nat × POp) => a ≤ x.1 ∧ AtRoot s (x.1 - a) x.2.1 x.2.2) (fun x => b - x.1) (fun x => .of [(1, .sl 3 t.length (tokCells t)), (2, .sl 1 rs.length (intCells rs)), (4, .lit (.int .i64 b)), (5, .ptr 0 1 0 0), (11, .lit (.int .i64 (bestI a x.2.2))), (12, .lit (.int .i64 x.2.1)), (13, .lit (.int .i64 x.1))] [some ⟨25, 1, 1, fun _ => [.sl 4 l.length (opCells l)]⟩]) ⟨(a, 0, none), ⟨Nat.le_refl _, by simp, by simp, by simp, fun k o h => by cases h⟩, ?_⟩ (fun x hx => ?_)
  · simp [go_sem, bestI]
    exact ⟨⟨clt, cli⟩, cl⟩
  · obtain ⟨q, d, best⟩ := x
    obtain ⟨haq, hx⟩ := hx
    simp only at haq hx
    obtain ⟨i, hqi⟩ : ∃ i, q - a = i := ⟨_, rfl⟩
    rw [hqi] at hx
    have hle := hx.le
    have hd := hx.dle
    by_cases hlt : q < b
    · obtain ⟨tk, htk⟩ : ∃ tk, s[i]? = some tk := ⟨_, List.getElem?_eq_getElem (by omega)⟩
      obtain ⟨hT, hR⟩ := seg_at hs htk
      rw [show a + i = q by omega] at hT hR
      have skip := fun hc => atRoot_skip hx htk hc
      have take := fun o h0 ho => atRoot_take (o := o) hx htk h0 ho
      have hqt : q < t.length := by omega
      have ew : IntKind.i64.wrap ((q : Int) + 1) = ((q + 1 : Nat) : Int) := wrap_succ (by omega)
      have clt2 : ∀ (i : Nat) (c : AV), i < t.length → c = AV.lit (Value.int IntKind.i64 (tokAt t i).kind) ∨ c = AV.lit (Value.string (tokAt t i).gap) ∨ c = AV.lit (Value.string (tokAt t i).text) → Closed c := by
        rintro i c _ (rfl | rfl | rfl) <;> exact .lit _
      have out : ∀ {best' : Option (Nat × POp)} {d' : Int}, AtRoot s (i + 1) d' best' → a ≤ q + 1 ∧ AtRoot s (q + 1 - a) d' best' := fun h => ⟨by omega, by rw [show q + 1 - a = i + 1 by omega]; exact h⟩
      have hcl : (∃ bb, tk = .leaf bb) ∨ tk = .opn ∨ tk = .cls ∨ ∃ o, tk.op? = some o ∧ tk.turn = 0 ∧ (tokAt t q).kind = 3 ∧ roleT tk ≠ 0 := by
        cases tk with
        | leaf bb => exact .inl ⟨bb, rfl⟩
        | opn => exact .inr (.inl rfl)
        | cls => exact .inr (.inr (.inl rfl))
        | pre o => exact .inr (.inr (.inr ⟨o, rfl, rfl, hT.1, by simp [roleT]⟩))
        | inf o => exact .inr (.inr (.inr ⟨o, rfl, rfl, hT.1, by simp [roleT]⟩))
        | post o => exact .inr (.inr (.inr ⟨o, rfl, rfl, hT.1, by simp [roleT]⟩))
      rcases hcl with ⟨bb, rfl⟩ | rfl | rfl | ⟨o, hop, htu, hk3, hr0⟩
      · have k4 : (tokAt t q).kind ≠ 4 := by have := hT.1; omega
        have k5 : (tokAt t q).kind ≠ 5 := by have := hT.1; omega
        simp only [roleT] at hR
        have sk := out (skip (.inr rfl))
        simp only [Tk.turn, Int.add_zero] at sk
        by_cases h0 : d = 0
        · subst h0
          simp [go_sem, tokCells_at, intCells_at, hqt, hlt, k4, k5, hrs, hR]
          exact ⟨q + 1, 0, best, sk, by omega, ⟨clt2, rfl, rfl, ew⟩, cl⟩
        · simp [go_sem, tokCells_at, intCells_at, hqt, hlt, k4, k5, h0, hrs, hR]
          exact ⟨q + 1, d, best, sk, by omega, ⟨clt2, rfl, rfl, ew⟩, cl⟩
      · have k4 : (tokAt t q).kind = 4 := hT
        simp only [roleT] at hR
        have sk := out (skip (.inr rfl))
        simp only [Tk.turn] at sk
        have wd : IntKind.i64.wrap (d + 1) = d + 1 := wrap_i64 (by omega)
        by_cases h0 : d + 1 = 0
        · simp [go_sem, tokCells_at, intCells_at, hqt, hlt, k4, wd, h0, hrs, hR]
          exact ⟨q + 1, d + 1, best, sk, by omega, ⟨clt2, rfl, h0.symm, ew⟩, cl⟩
        · simp [go_sem, tokCells_at, intCells_at, hqt, hlt, k4, wd, h0, hrs, hR]
          exact ⟨q + 1, d + 1, best, sk, by omega, ⟨clt2, rfl, rfl, ew⟩, cl⟩
      · have k5 : (tokAt t q).kind = 5 := hT
        simp only [roleT] at hR
        have sk := out (skip (.inr rfl))
        simp only [Tk.turn] at sk
        have wd : IntKind.i64.wrap (d - 1) = d - 1 := wrap_i64 (by omega)
        by_cases h0 : d - 1 = 0
        · simp [go_sem, tokCells_at, intCells_at, hqt, hlt, k5, wd, h0, hrs, hR]
          refine ⟨q + 1, d + -1, best, sk, by omega, ⟨clt2, rfl, ?_, ew⟩, cl⟩
          first | omega | (rw [show IntKind.i64.wrap 0 = 0 by decide]; omega)
        · simp [go_sem, tokCells_at, intCells_at, hqt, hlt, k5, wd, h0, hrs, hR]
          refine ⟨q + 1, d + -1, best, sk, by omega, ⟨clt2, rfl, ?_, ew⟩, cl⟩
          first | omega | (rw [show IntKind.i64.wrap 0 = 0 by decide]; omega)
      · by_cases h0 : d = 0
        · subst h0
          have tk1 := out (take o (by omega) hop)
          rw [htu, Int.add_zero] at tk1
          obtain ⟨ho1, ho2⟩ := seg_op hu hs htk hop
          rw [show a + i = q by omega] at ho1 ho2
          have c1 := c_l3Op l hl t ht rs q hqt (by omega) ho1
          rw [ho2] at c1
          have c2 := c_l1Sort o
          simp only [POp.cells] at c1 c2
          simp [go_sem, tokCells_at, intCells_at, hqt, hlt, hk3, hrs, hR, hr0]
          refine vcall_val c1 ?_ ?_ ?_
          · simp [go_sem, hrs]
            exact ⟨argSl_refl (by omega) cl, argSl_refl (by omega) clt, argSl_refl (by omega) (fun i c hi h => cli i c (by omega) h)⟩
          · simp [go_sem]
          · simp [go_sem]
            refine vc_drawn [] (.q 0 <| .q 1 <| .q 2 <| .q 3 <| .q 4 <| .q 5 <| .q 6 <| .q 7 <| .q 8 <| .or 9 (.q 10 <| .q 11 <| .q 12 <| .q 13 <| .q 14 <| .q 15 <| .q 16 <| .q 17 <| .q 18 <| .q 19 <| .or 20 (.q 21 <| .q 22 <| .q 23 <| .q 24 <| .or 25 (.q 26 <| .q 27 <| .q 28 <| .done) (.nil)) (.nil)) (.nil)) (by kernel_rfl) ?_
            cases best with
            | none =>
              simp [go_sem, bestI]
              exact ⟨q + 1, 0, some (i, o), tk1, by omega, ⟨clt, fun i c hi h => cli i c (by omega) h, by simp only; omega, rfl, ew⟩, cl⟩
            | some x =>
              obtain ⟨k, ob⟩ := x
              obtain ⟨hk1, tkb, hkb, hob⟩ := hx.has k ob rfl
              obtain ⟨hb1, hb2⟩ := seg_op hu hs hkb hob
              have c3 := c_l3Op l hl t ht rs (a + k) (by omega) (by omega) hb1
              rw [hb2] at c3
              have eb : bestI a (some (k, ob)) = ((a + k : Nat) : Int) := rfl
              rw [eb]
              have hp1 : a + k < t.length := by omega
              generalize hp : a + k = p at *
              simp only [POp.cells] at c3
              have hp0 : ¬ ((p : Int) < 0) := by omega
              have hp2 : (0 : Int) ≤ p := by omega
              simp [go_sem, hp0, hp2]
              refine vcallV_val c3 ?_ ?_ ?_
              · simp [go_sem, hrs]
                exact ⟨argSl_refl (by omega) cl, argSl_refl (by omega) clt, argSl_refl (by omega) (fun i c hi h => cli i c (by omega) h)⟩
              · simp [go_sem]
              · have stay : Ops.better lvO (some (k, ob)) (i, o) = some (k, ob) → a ≤ q + 1 ∧ AtRoot s (q + 1 - a) 0 (some (k, ob)) := fun e => by rw [e] at tk1; exact tk1
                have turn : Ops.better lvO (some (k, ob)) (i, o) = some (i, o) → a ≤ q + 1 ∧ AtRoot s (q + 1 - a) 0 (some (i, o)) := fun e => by rw [e] at tk1; exact tk1
                have eb2 : bestI a (some (i, o)) = (q : Int) := by show ((a + i : Nat) : Int) = _; omega
                have cli2 : ∀ (i : Nat) (c : AV), i < t.length → c ∈ intCells rs i → Closed c := fun i c hi h => cli i c (by omega) h
                by_cases hll : o.level < ob.level
                · simp [go_sem, hll]
                  exact ⟨q + 1, 0, some (i, o), turn (by unfold Ops.better; exact if_pos (.inl hll)), by omega, ⟨clt, cli2, eb2.symm, rfl, ew⟩, cl⟩
                · simp [go_sem, hll]
                  refine vcallV_val c3 ?_ ?_ ?_
                  · simp [go_sem, hrs]
                    exact ⟨argSl_refl (by omega) cl, argSl_refl (by omega) clt, argSl_refl (by omega) cli2⟩
                  · simp [go_sem]
                  · by_cases he : o.level = ob.level
                    · simp [go_sem, he]
                      refine vcallV_pure c2 ?_ ?_
                      · simp [go_sem, he]
                      · by_cases hs2 : sortN o = 2
                        · simp [go_sem, hs2]
                          exact ⟨q + 1, 0, some (k, ob), stay (by unfold Ops.better; exact if_neg (by rintro (h | ⟨_, h⟩); exact hll h; exact h hs2)), by omega, ⟨clt, cli2, eb.symm, rfl, ew⟩, cl⟩
                        · simp [go_sem, hs2]
                          exact ⟨q + 1, 0, some (i, o), turn (by unfold Ops.better; exact if_pos (.inr ⟨he, hs2⟩)), by omega, ⟨clt, cli2, eb2.symm, rfl, ew⟩, cl⟩
                    · simp [go_sem, he]
                      exact ⟨q + 1, 0, some (k, ob), stay (by unfold Ops.better; exact if_neg (by rintro (h | ⟨h, _⟩); exact hll h; exact he h)), by omega, ⟨clt, cli2, eb.symm, rfl, ew⟩, cl⟩
        · have sk := out (skip (.inl (by rw [htu]; omega)))
          rw [htu, Int.add_zero] at sk
          simp [go_sem, tokCells_at, intCells_at, hqt, hlt, hk3, h0, hrs, hR]
          exact ⟨q + 1, d, best, sk, by omega, ⟨clt2, rfl, rfl, ew⟩, cl⟩
    · simp [go_sem, hlt]
      have hi : i = s.length := by omega
      have := hx.run
      rw [hi, List.drop_length] at this
      rw [this]
      simp [Ops.root]
end Go.Proofs.Ytcnmgfbafcnkhaa.V
/- The roles of tokens are the theory's. Plain Lean. -/
namespace Go.Proofs.Ytcnmgfbafcnkhaa.V
open Go.RowKit
open Go.Proofs.Ytcnmgfbafcnkhaa.Ops (Tr Tk Lv Res Fit)
set_option linter.unusedVariables false
set_option linter.unusedSimpArgs false
theorem roles_at {l : List POp} {t : List PTok} {n i : Nat} (h : i < n) : intAt (rolesUp l t n) i = roleAt l t i (stAt l t i) := by
  simp [intAt, rolesUp, List.getD_eq_getElem?_getD, List.getElem?_map, List.getElem?_range h]
theorem seg_of {l : List POp} {t : List PTok} (hu : Uniq l) : ∀ (ts : List TkP) (i d : Nat), ToksAre l t i ts → Fit (!stAt l t i) d ts → (d : Int) = openAt t i → SegIs l t (rolesUp l t t.length) i ts
  | [], _, _, _, _, _ => trivial
  | tk :: r, i, d, ht, hf, hd => by
    have hi : i < t.length := by have := toksAre_len ht; simp only [List.length_cons] at this; omega
    obtain ⟨h1, h2⟩ := ht
    have nxt : ∀ (st : Bool) (d' : Nat), roleAt l t i (stAt l t i) = roleT tk → stAt l t (i + 1) = st → (d' : Int) = openAt t (i + 1) → Fit (!st) d' r → SegIs l t (rolesUp l t t.length) i (tk :: r) := fun st d' hr e1 e2 e3 =>
      ⟨h1, by rw [roles_at hi]; exact hr, seg_of hu r (i + 1) d' h2 (by rw [e1]; exact e3) e2⟩
    have has : ∀ {o : POp}, o.text = (tokAt t i).text → (∃ j, j < l.length ∧ opAt l j = o) → opHas l (tokAt t i).text o.kind = true := fun {o} e ⟨j, hj, e2⟩ => (opHas_iff l _ _).2 ⟨j, hj, by rw [e2]; exact e, by rw [e2]⟩
    have hasno : ∀ {o : POp} {k : Int}, o.text = (tokAt t i).text → (∃ j, j < l.length ∧ opAt l j = o) → o.kind ≠ 1 → k ≠ 1 → o.kind ≠ k → opHas l (tokAt t i).text k = false := fun {o k} e ⟨j, hj, e2⟩ n1 n2 n3 => by
      cases hh : opHas l (tokAt t i).text k with
      | false => rfl
      | true =>
        obtain ⟨j', hj', g1, g2⟩ := (opHas_iff l _ _).1 hh
        have := hu j j' hj hj' (by rw [e2, e, g1]) (by
          rw [e2, g2]
          have a1 : (o.kind == 1) = false := by simpa using n1
          have a2 : (k == 1) = false := by simpa using n2
          rw [a1, a2])
        rw [e2] at this
        rw [← this] at g2
        exact absurd g2 n3
    cases hs : stAt l t i with
    | false =>
      rw [hs] at hf
      cases tk with
      | leaf b =>
        refine nxt true d ?_ ?_ ?_ (by simpa [Fit] using hf)
        · rw [hs]; rcases h1.1 with e | e <;> simp [roleAt, roleT, e]
        · rcases h1.1 with e | e <;> simp [stAt, e]
        · rcases h1.1 with e | e <;> simp [openAt, e, hd]
      | opn =>
        have k4 : (tokAt t i).kind = 4 := h1
        exact nxt false (d + 1) (by rw [hs]; simp [roleAt, roleT, k4]) (by simp [stAt, k4]) (by simp [openAt, k4]; omega) (by simpa [Fit] using hf)
      | pre o =>
        have hh := has h1.2.1 h1.2.2.2
        rw [h1.2.2.1] at hh
        exact nxt false d (by rw [hs]; simp [roleAt, roleT, h1.1, hh]) (by simp [stAt, h1.1, hs]) (by simp [openAt, h1.1, hd]) (by simpa [Fit] using hf)
      | cls => simp [Fit] at hf
      | inf o => simp [Fit] at hf
      | post o => simp [Fit] at hf
    | true =>
      rw [hs] at hf
      cases tk with
      | leaf b => simp [Fit] at hf
      | opn => simp [Fit] at hf
      | pre o => simp [Fit] at hf
      | inf o =>
        have hh := has h1.2.1 h1.2.2.2
        rw [h1.2.2.1] at hh
        have no := hasno (k := 3) h1.2.1 h1.2.2.2 (by rw [h1.2.2.1]; omega) (by omega) (by rw [h1.2.2.1]; omega)
        exact nxt false d (by rw [hs]; simp [roleAt, roleT, h1.1, hh]) (by simp [stAt, h1.1, hs, no]) (by simp [openAt, h1.1, hd]) (by simpa [Fit] using hf)
      | post o =>
        have hh := has h1.2.1 h1.2.2.2
        rw [h1.2.2.1] at hh
        have no := hasno (k := 2) h1.2.1 h1.2.2.2 (by rw [h1.2.2.1]; omega) (by omega) (by rw [h1.2.2.1]; omega)
        exact nxt true d (by rw [hs]; simp [roleAt, roleT, h1.1, hh, no]) (by simp [stAt, h1.1, hs, hh]) (by simp [openAt, h1.1, hd]) (by simpa [Fit] using hf)
      | cls =>
        have k5 : (tokAt t i).kind = 5 := h1
        cases d with
        | zero => simp [Fit] at hf
        | succ d =>
          exact nxt true d (by rw [hs]; simp [roleAt, roleT, k5]; omega) (by simp [stAt, k5]) (by simp [openAt, k5]; omega) (by simpa [Fit] using hf)
end Go.Proofs.Ytcnmgfbafcnkhaa.V
/- The level of the last node of a tree. Plain Lean. -/
namespace Go.Proofs.Ytcnmgfbafcnkhaa.V
open Go.RowKit
open Go.Proofs.Ytcnmgfbafcnkhaa.Ops (Tr Tk Lv Res Fit)
set_option linter.unusedVariables false
set_option linter.unusedSimpArgs false
/-- leaves are numbers or names -/
def LeavesOk : PT → Prop
  | .leaf b => b.1 = 1 ∨ b.1 = 2
  | .grp e => LeavesOk e
  | .pre _ e => LeavesOk e
  | .post _ e => LeavesOk e
  | .inf _ x y => LeavesOk x ∧ LeavesOk y
theorem leaves_ok {l : List POp} {t : List PTok} : ∀ (e : PT) (i : Nat) (rest : List TkP), ToksAre l t i (e.yield ++ rest) → LeavesOk e
  | .leaf b, i, rest, h => by
    simp only [Tr.yield, List.cons_append, ToksAre, TokIs] at h
    have := h.1
    simp only [LeavesOk]
    rw [this.2]; exact this.1
  | .grp e, i, rest, h => by
    simp only [Tr.yield, List.cons_append, List.append_assoc, ToksAre] at h
    exact leaves_ok e _ _ h.2
  | .pre o e, i, rest, h => by
    simp only [Tr.yield, List.cons_append, ToksAre] at h
    exact leaves_ok e _ _ h.2
  | .post o e, i, rest, h => by
    simp only [Tr.yield, List.append_assoc, List.cons_append, List.nil_append] at h
    exact leaves_ok e _ _ h
  | .inf o x y, i, rest, h => by
    simp only [Tr.yield, List.append_assoc, List.cons_append] at h
    have h3 := toksAre_drop h
    simp only [ToksAre] at h3
    exact ⟨leaves_ok x _ _ h, leaves_ok y _ _ h3.2⟩
theorem last_node {T : List PNode} {nd : PNode} : nodAt (T ++ [nd]) ((T ++ [nd]).length - 1) = nd := by
  simp [nodAt, List.getD_eq_getElem?_getD]
theorem lvl_op {l : List POp} (hu : Uniq l) {o : POp} (hj : InL l o) (hk : 1 ≤ o.kind ∧ o.kind ≤ 3) {nd : PNode} (h1 : nd.text = o.text) (h2 : nd.kind = o.kind + 2) : lvlN l nd = o.level := by
  obtain ⟨g1, g2⟩ := op_unique hu (z := nd.text) h1.symm hj
  have e : nd.kind - 2 = o.kind := by omega
  unfold lvlN
  have hop : isOpN nd = true := by simp [isOpN]; omega
  rw [if_pos hop, ndOp, e, g2]
theorem lvl_last {l : List POp} (hu : Uniq l) (e : PT) (out : List PNode) (h1 : LeavesOk e) (h2 : e.All lvO (InL l)) (h3 : KindsOk e) : lvlN l (nodAt (lay e out) ((lay e out).length - 1)) = e.level lvO := by
  cases e with
  | leaf b =>
    simp only [lay, last_node, Tr.level]
    have : isOpN (⟨b.2, b.1, 0, 0⟩ : PNode) = false := by
      have h1' : b.1 = 1 ∨ b.1 = 2 := h1
      simp [isOpN]; omega
    unfold lvlN
    rw [if_neg (by rw [this]; simp)]
  | grp e =>
    simp only [lay, last_node, Tr.level]
    unfold lvlN
    rw [if_neg (by simp [isOpN])]
  | pre o e =>
    simp only [lay, last_node, Tr.level]
    exact lvl_op hu h2.1 (by have := h3.1; omega) rfl rfl
  | post o e =>
    simp only [lay, last_node, Tr.level]
    exact lvl_op hu h2.1 (by have := h3.1; omega) rfl rfl
  | inf o x y =>
    simp only [lay, last_node, Tr.level]
    exact lvl_op hu h2.1 (by have := h3.1; omega) rfl rfl
end Go.Proofs.Ytcnmgfbafcnkhaa.V
/- Contracts: the reference builds a tree (under way: the leaf's case). -/
namespace Go.Proofs.Ytcnmgfbafcnkhaa.V
open Go.RowKit
open Go.Proofs.Ytcnmgfbafcnkhaa.Ops (Tr Tk Lv Res Fit)
set_option linter.unusedVariables false
set_option linter.unusedSimpArgs false
set_option linter.constructorNameAsVariable false
/-- what l3Build answers: the tree's nodes behind those that are there, or nodes and false -/
def BuildR (m : Nat) (out : List PNode) (r : Option PT) (av : AV) (mem : List (Option Ob)) (maps : List (Nat × Mp)) : Prop := match r with
  | some e => av = .tup [.own 1, .lit (.bool true)] ∧ mem = [none, nodRow (lay e out)] ∧ maps = []
  | none => ∃ T : List PNode, T.length ≤ out.length + m ∧ ((av = .tup [.own 1, .lit (.bool false)] ∧ mem = [none, nodRow T] ∧ maps = []) ∨ (av = .tup [.own 0, .lit (.bool false)] ∧ mem = [nodRow T] ∧ maps = []))
theorem c_build_leaf (l : List POp) (hl : l.length ≤ 9223372036854775807) (hu : Uniq l) (t : List PTok) (ht : t.length ≤ 1048576) (rs : List Int) (hrs : rs.length = t.length) (a : Nat) (ha : a + 1 ≤ t.length) (b : Int × ByteArray) (hs : SegIs l t rs a [.leaf b]) (out : List PNode) (ho : out.length ≤ 2000000) :
    VProc Try.prog 41 [.agg [.sl 4 l.length (opCells l)], .sl 3 t.length (tokCells t), .sl 1 rs.length (intCells rs), .lit (.int .i64 a), .lit (.int .i64 (a + 1 : Nat)), .own 0] [nodRow out] [] (BuildR 1 out (some (.leaf b))) := by
  have cl : ∀ (i : Nat) (c : AV), i < l.length → c ∈ opCells l i → Closed c := fun i c _ h => opClosed l i c h
  have clt : ∀ (i : Nat) (c : AV), i < t.length → c ∈ tokCells t i → Closed c := fun i c _ h => tokClosed t i c h
  have cli : ∀ (i : Nat) (c : AV), i < rs.length → c ∈ intCells rs i → Closed c := fun i c _ h => intClosed rs i c h
  have cr := c_l3Root l hl hu t ht rs hrs a (a + 1) [.leaf b] rfl ha hs
  have er : Ops.root lvO ([.leaf b] : List TkP) 0 0 none = none := by simp [Ops.root, Tk.turn, Tk.op?]
  rw [er] at cr
  simp only [bestI] at cr
  obtain ⟨⟨hk, hb⟩, _, _⟩ := hs
  have hat : a < t.length := by omega
  refine vproc_start Try.func41 (by kernel_rfl) rfl (by simp [Try.ntmps41]) ?_; simp only [Try.ntmps41, Try.results41]; simp [go_sem]
  refine vcall_pure cr ?_ ?_
  · simp [go_sem]
    exact ⟨argSl_refl (by omega) cl, argSl_refl (by omega) clt, argSl_refl (by omega) cli⟩
  · have k4 : (tokAt t a).kind ≠ 4 := by omega
    rcases hk with hk | hk
    · simp [go_sem, tokCells_at, hat, hk, nodRow]
      refine ⟨by omega, by omega, ?_⟩
      refine ⟨rfl, [4], [none, nodRow (lay (.leaf b) out)], by simp, by simp [go_sem], by simp [go_sem], ?_, by simp [go_sem], ?_⟩
      · simp [go_sem, nodRow]
        refine outAt_app (o := ⟨(tokAt t a).text, 1, 0, 0⟩) (by rw [hb, hk]; simp [lay]) fun j hj => ?_
        exact nod_app out ⟨(tokAt t a).text, 1, 0, 0⟩ j hj
      · simp [go_sem, BuildR, nodRow]
    · simp [go_sem, tokCells_at, hat, hk, nodRow]
      refine ⟨by omega, by omega, ?_⟩
      refine ⟨rfl, [4], [none, nodRow (lay (.leaf b) out)], by simp, by simp [go_sem], by simp [go_sem], ?_, by simp [go_sem], ?_⟩
      · simp [go_sem, nodRow]
        refine outAt_app (o := ⟨(tokAt t a).text, 2, 0, 0⟩) (by rw [hb, hk]; simp [lay]) fun j hj => ?_
        exact nod_app out ⟨(tokAt t a).text, 2, 0, 0⟩ j hj
      · simp [go_sem, BuildR, nodRow]
theorem c_build_grp (l : List POp) (hl : l.length ≤ 9223372036854775807) (hu : Uniq l) (t : List PTok) (ht : t.length ≤ 1048576) (rs : List Int) (hrs : rs.length = t.length) (a b : Nat) (s : List TkP) (hab : a + s.length = b) (hb : b ≤ t.length) (hs : SegIs l t rs a s) (u : List TkP) (hsu : s = .opn :: (u ++ [.cls])) (er : Ops.root lvO s 0 0 none = none) (out : List PNode) (ho : out.length ≤ 2000000) (r : Option PT) (hr : ∀ e, r = some e → (lay e out).length ≤ 3000000)
    (ih : VProc Try.prog 41 [.agg [.sl 4 l.length (opCells l)], .sl 3 t.length (tokCells t), .sl 1 rs.length (intCells rs), .lit (.int .i64 (a + 1 : Nat)), .lit (.int .i64 (b - 1 : Nat)), .own 0] [nodRow out] [] (BuildR u.length out r)) :
    VProc Try.prog 41 [.agg [.sl 4 l.length (opCells l)], .sl 3 t.length (tokCells t), .sl 1 rs.length (intCells rs), .lit (.int .i64 a), .lit (.int .i64 b), .own 0] [nodRow out] [] (BuildR s.length out (r.map .grp)) := by
  have cl : ∀ (i : Nat) (c : AV), i < l.length → c ∈ opCells l i → Closed c := fun i c _ h => opClosed l i c h
  have clt : ∀ (i : Nat) (c : AV), i < t.length → c ∈ tokCells t i → Closed c := fun i c _ h => tokClosed t i c h
  have cli : ∀ (i : Nat) (c : AV), i < rs.length → c ∈ intCells rs i → Closed c := fun i c _ h => intClosed rs i c h
  have cr := c_l3Root l hl hu t ht rs hrs a b s hab hb hs
  rw [er] at cr
  simp only [bestI] at cr
  have hlen : 2 ≤ s.length := by rw [hsu]; simp
  have hk : (tokAt t a).kind = 4 := by rw [hsu] at hs; exact hs.1
  have hat : a < t.length := by omega
  have ew1 : IntKind.i64.wrap ((a : Int) + 1) = ((a + 1 : Nat) : Int) := wrap_succ (by omega)
  have ew2 : IntKind.i64.wrap ((b : Int) - 1) = ((b - 1 : Nat) : Int) := by rw [wrap_i64 (by omega)]; omega
  refine vproc_start Try.func41 (by kernel_rfl) rfl (by simp [Try.ntmps41]) ?_; simp only [Try.ntmps41, Try.results41]; simp [go_sem]
  refine vcall_pure cr ?_ ?_
  · simp [go_sem]
    exact ⟨argSl_refl (by omega) cl, argSl_refl (by omega) clt, argSl_refl (by omega) cli⟩
  · simp [go_sem, tokCells_at, hat, hk, ew1, ew2]
    refine vcall_share [0] ih (by simp) ?_ ?_ trivial ?_
    · simp [go_sem]
      exact ⟨cl, clt, cli⟩
    · simp [go_sem, nodRow]
      exact fun i _ => cellsRn_lits (nodLit _ i)
    · intro av mem maps hB
      cases r with
      | some e =>
        obtain ⟨rfl, rfl, rfl⟩ := hB
        have h1 := hr e rfl
        have h0 := lay_grows e out
        have ew : IntKind.i64.wrap (((lay e out).length : Int) - 1) = ((lay e out).length : Int) - 1 := wrap_i64 (by omega)
        simp [go_sem, nodRow, ew]
        refine ⟨by omega, by omega, by omega, ?_⟩
        refine ⟨rfl, [4], [none, nodRow (lay (.grp e) out)], by simp, by simp [go_sem], by simp [go_sem], ?_, by simp [go_sem], ?_⟩
        · simp [go_sem, nodRow]
          refine outAt_app (o := ⟨⟨#[]⟩, 6, ((lay e out).length : Int) - 1, 0⟩) (by simp [lay]) fun j hj => ?_
          exact nod_app (lay e out) ⟨⟨#[]⟩, 6, ((lay e out).length : Int) - 1, 0⟩ j hj
        · simp [go_sem, BuildR, nodRow]
      | none =>
        have hsl : s.length = u.length + 2 := by rw [hsu]; simp
        obtain ⟨T, hT, hB⟩ := hB
        have ew : IntKind.i64.wrap ((T.length : Int) - 1) = (T.length : Int) - 1 := wrap_i64 (by omega)
        rcases hB with ⟨rfl, rfl, rfl⟩ | ⟨rfl, rfl, rfl⟩
        · simp [go_sem, nodRow, ew]
          refine ⟨by omega, by omega, by omega, ?_⟩
          obtain ⟨T2, hT2⟩ : ∃ T2, T2 = T ++ [(⟨⟨#[]⟩, 6, (T.length : Int) - 1, 0⟩ : PNode)] := ⟨_, rfl⟩
          have hl2 : T2.length = T.length + 1 := by rw [hT2]; simp
          refine ⟨rfl, [4], [none, nodRow T2], by simp, by simp [go_sem], by simp [go_sem], ?_, by simp [go_sem], ?_⟩
          · simp [go_sem, nodRow]
            refine outAt_app (o := ⟨⟨#[]⟩, 6, (T.length : Int) - 1, 0⟩) hT2 fun j hj => ?_
            exact nod_app T ⟨⟨#[]⟩, 6, (T.length : Int) - 1, 0⟩ j hj
          · simp [go_sem]
            exact ⟨T2, by omega, .inl ⟨rfl, rfl, rfl⟩⟩
        · simp [go_sem, nodRow, ew]
          refine ⟨by omega, by omega, by omega, ?_⟩
          obtain ⟨T2, hT2⟩ : ∃ T2, T2 = T ++ [(⟨⟨#[]⟩, 6, (T.length : Int) - 1, 0⟩ : PNode)] := ⟨_, rfl⟩
          have hl2 : T2.length = T.length + 1 := by rw [hT2]; simp
          refine ⟨rfl, [3], [none, nodRow T2], by simp, by simp [go_sem], by simp [go_sem], ?_, by simp [go_sem], ?_⟩
          · simp [go_sem, nodRow]
            refine outAt_app (o := ⟨⟨#[]⟩, 6, (T.length : Int) - 1, 0⟩) hT2 fun j hj => ?_
            exact nod_app T ⟨⟨#[]⟩, 6, (T.length : Int) - 1, 0⟩ j hj
          · simp [go_sem]
            exact ⟨T2, by omega, .inl ⟨rfl, rfl, rfl⟩⟩
end Go.Proofs.Ytcnmgfbafcnkhaa.V
/- Contracts: the reference builds a tree: operators. -/
namespace Go.Proofs.Ytcnmgfbafcnkhaa.V
open Go.RowKit
open Go.Proofs.Ytcnmgfbafcnkhaa.Ops (Tr Tk Lv Res Fit)
set_option linter.unusedVariables false
set_option linter.unusedSimpArgs false
set_option linter.constructorNameAsVariable false
/-- an operator that cannot be the root: no tree -/
theorem c_build_bad (l : List POp) (hl : l.length ≤ 9223372036854775807) (hu : Uniq l) (t : List PTok) (ht : t.length ≤ 1048576) (rs : List Int) (hrs : rs.length = t.length) (a b : Nat) (s : List TkP) (hab : a + s.length = b) (hb : b ≤ t.length) (hs : SegIs l t rs a s) (k : Nat) (o : POp) (er : Ops.root lvO s 0 0 none = some (k, o)) (tk : TkP) (hk : s[k]? = some tk) (hbad : (tk = .pre o ∧ k ≠ 0) ∨ (tk = .post o ∧ k + 1 ≠ s.length)) (out : List PNode) (ho : out.length ≤ 2000000) :
    VProc Try.prog 41 [.agg [.sl 4 l.length (opCells l)], .sl 3 t.length (tokCells t), .sl 1 rs.length (intCells rs), .lit (.int .i64 a), .lit (.int .i64 b), .own 0] [nodRow out] [] (BuildR s.length out none) := by
  have cl : ∀ (i : Nat) (c : AV), i < l.length → c ∈ opCells l i → Closed c := fun i c _ h => opClosed l i c h
  have clt : ∀ (i : Nat) (c : AV), i < t.length → c ∈ tokCells t i → Closed c := fun i c _ h => tokClosed t i c h
  have cli : ∀ (i : Nat) (c : AV), i < rs.length → c ∈ intCells rs i → Closed c := fun i c _ h => intClosed rs i c h
  have cr := c_l3Root l hl hu t ht rs hrs a b s hab hb hs
  rw [er] at cr
  have eb : bestI a (some (k, o)) = ((a + k : Nat) : Int) := rfl
  rw [eb] at cr
  have hlt := (List.getElem?_eq_some_iff.1 hk).1
  obtain ⟨_, hr⟩ := seg_at hs hk
  have hp : a + k < t.length := by omega
  obtain ⟨p, hp'⟩ : ∃ p, a + k = p := ⟨_, rfl⟩
  rw [hp'] at cr hr hp
  have hp0 : ¬ ((p : Int) < 0) := by omega
  have hp2 : p < rs.length := by omega
  refine vproc_start Try.func41 (by kernel_rfl) rfl (by simp [Try.ntmps41]) ?_; simp only [Try.ntmps41, Try.results41]; simp [go_sem]
  refine vcall_pure cr ?_ ?_
  · simp [go_sem]
    exact ⟨argSl_refl (by omega) cl, argSl_refl (by omega) clt, argSl_refl (by omega) cli⟩
  · simp [go_sem, hp0]
    refine vc_drawn [12] (.q 0 <| .q 1 <| .q 2 <| .q 3 <| .q 4 <| .q 5 <| .q 6 <| .q 7 <| .q 8 <| .q 9 <| .q 10 <| .or 11 (.or 12 (.done) (.nil)) (.nil)) (by kernel_rfl) ?_
    rcases hbad with ⟨rfl, hk0⟩ | ⟨rfl, hk0⟩
    · have w : IntKind.i64.wrap 3 = 3 := by decide
      have hne : ¬ (p : Int) = (a : Int) := by omega
      have hbn : ((p : Int) != (a : Int)) = true := by simp; omega
      simp only [roleT] at hr
      simp [go_sem, tokCells_at, intCells_at, hp, hp2, hr, w, hne, hbn, nodRow]
      refine ⟨rfl, [], [nodRow out], by simp, by simp [go_sem], by simp [go_sem], ?_, by simp [go_sem], ?_⟩
      · simp [go_sem, nodRow]
        exact outAt_same rfl fun j _ => rfl
      · simp [go_sem]
        exact ⟨out, by omega, .inr ⟨rfl, rfl, rfl⟩⟩
    · have w : IntKind.i64.wrap 5 = 5 := by decide
      have wb : IntKind.i64.wrap ((b : Int) - 1) = (b : Int) - 1 := wrap_i64 (by omega)
      have hne : ¬ (p : Int) = (b : Int) - 1 := by omega
      have hbn : ((p : Int) != (b : Int) - 1) = true := by simp; omega
      simp only [roleT] at hr
      simp [go_sem, tokCells_at, intCells_at, hp, hp2, hr, w, wb, hne, hbn, nodRow]
      refine ⟨rfl, [], [nodRow out], by simp, by simp [go_sem], by simp [go_sem], ?_, by simp [go_sem], ?_⟩
      · simp [go_sem, nodRow]
        exact outAt_same rfl fun j _ => rfl
      · simp [go_sem]
        exact ⟨out, by omega, .inr ⟨rfl, rfl, rfl⟩⟩
/-- a prefix operator's operand has no tree -/
theorem c_build_pre_none (l : List POp) (hl : l.length ≤ 9223372036854775807) (hu : Uniq l) (t : List PTok) (ht : t.length ≤ 1048576) (rs : List Int) (hrs : rs.length = t.length) (a b : Nat) (s : List TkP) (hab : a + s.length = b) (hb : b ≤ t.length) (hs : SegIs l t rs a s) (o : POp) (er : Ops.root lvO s 0 0 none = some (0, o)) (hk : s[0]? = some (.pre o)) (out : List PNode) (ho : out.length ≤ 2000000)
    (ih : VProc Try.prog 41 [.agg [.sl 4 l.length (opCells l)], .sl 3 t.length (tokCells t), .sl 1 rs.length (intCells rs), .lit (.int .i64 (a + 1 : Nat)), .lit (.int .i64 b), .own 0] [nodRow out] [] (BuildR (s.length - 1) out none)) :
    VProc Try.prog 41 [.agg [.sl 4 l.length (opCells l)], .sl 3 t.length (tokCells t), .sl 1 rs.length (intCells rs), .lit (.int .i64 a), .lit (.int .i64 b), .own 0] [nodRow out] [] (BuildR s.length out none) := by
  have cl : ∀ (i : Nat) (c : AV), i < l.length → c ∈ opCells l i → Closed c := fun i c _ h => opClosed l i c h
  have clt : ∀ (i : Nat) (c : AV), i < t.length → c ∈ tokCells t i → Closed c := fun i c _ h => tokClosed t i c h
  have cli : ∀ (i : Nat) (c : AV), i < rs.length → c ∈ intCells rs i → Closed c := fun i c _ h => intClosed rs i c h
  have cr := c_l3Root l hl hu t ht rs hrs a b s hab hb hs
  rw [er] at cr
  have eb : bestI a (some (0, o)) = (a : Int) := by simp [bestI]
  rw [eb] at cr
  have hlt := (List.getElem?_eq_some_iff.1 hk).1
  obtain ⟨_, hr⟩ := seg_at hs hk
  simp only [Nat.add_zero, roleT] at hr
  have hp : a < t.length := by omega
  have hp0 : ¬ ((a : Int) < 0) := by omega
  have hp2 : a < rs.length := by omega
  have w : IntKind.i64.wrap 3 = 3 := by decide
  have ew1 : IntKind.i64.wrap ((a : Int) + 1) = ((a + 1 : Nat) : Int) := wrap_succ (by omega)
  refine vproc_start Try.func41 (by kernel_rfl) rfl (by simp [Try.ntmps41]) ?_; simp only [Try.ntmps41, Try.results41]; simp [go_sem]
  refine vcall_pure cr ?_ ?_
  · simp [go_sem]
    exact ⟨argSl_refl (by omega) cl, argSl_refl (by omega) clt, argSl_refl (by omega) cli⟩
  · simp [go_sem, hp0]
    refine vc_drawn [12] (.q 0 <| .q 1 <| .q 2 <| .q 3 <| .q 4 <| .q 5 <| .q 6 <| .q 7 <| .q 8 <| .q 9 <| .q 10 <| .or 11 (.or 12 (.done) (.nil)) (.nil)) (by kernel_rfl) ?_
    simp [go_sem, tokCells_at, intCells_at, hp, hp2, hr, w, ew1, nodRow]
    refine vcall_share [0] ih (by simp) ?_ ?_ trivial ?_
    · simp [go_sem]
      exact ⟨cl, clt, cli⟩
    · simp [go_sem, nodRow]
      exact fun i _ => cellsRn_lits (nodLit _ i)
    · rintro av mem maps ⟨T, hT, hB⟩
      rcases hB with ⟨rfl, rfl, rfl⟩ | ⟨rfl, rfl, rfl⟩
      · simp [go_sem, nodRow]
        refine ⟨rfl, [3], [none, nodRow T], by simp, by simp [go_sem], by simp [go_sem], ?_, by simp [go_sem], ?_⟩
        · simp [go_sem, nodRow]
          exact outAt_same rfl fun j _ => rfl
        · simp [go_sem]
          exact ⟨T, by omega, .inl ⟨rfl, rfl, rfl⟩⟩
      · simp [go_sem, nodRow]
        refine ⟨rfl, [], [nodRow T], by simp, by simp [go_sem], by simp [go_sem], ?_, by simp [go_sem], ?_⟩
        · simp [go_sem, nodRow]
          exact outAt_same rfl fun j _ => rfl
        · simp [go_sem]
          exact ⟨T, by omega, .inr ⟨rfl, rfl, rfl⟩⟩
end Go.Proofs.Ytcnmgfbafcnkhaa.V
/- The kids of the last node fit its holes exactly when the theory says so. Plain Lean. -/
namespace Go.Proofs.Ytcnmgfbafcnkhaa.V
open Go.RowKit
open Go.Proofs.Ytcnmgfbafcnkhaa.Ops (Tr Tk Lv Res Fit)
set_option linter.unusedVariables false
set_option linter.unusedSimpArgs false
theorem nodAt_old {T : List PNode} {nd : PNode} {i : Nat} (h : i < T.length) : nodAt (T ++ [nd]) i = nodAt T i := by
  simp [nodAt, List.getD_eq_getElem?_getD, List.getElem?_append_left h]
theorem nodAt_new {T : List PNode} {nd : PNode} : nodAt (T ++ [nd]) T.length = nd := by
  simp [nodAt, List.getD_eq_getElem?_getD]
theorem fits_pre {l : List POp} (hu : Uniq l) {o : POp} (hj : InL l o) (hok : opOk o = true) (hk : o.kind = 1) (e : PT) (out : List PNode) (h1 : LeavesOk e) (h2 : e.All lvO (InL l)) (h3 : KindsOk e) :
    fitsN l (lay e out ++ [⟨o.text, 3, ((lay e out).length : Int) - 1, 0⟩]) (lay e out).length = decide ((lvO o).h2 ≤ e.level lvO) := by
  have hg := lay_grows e out
  have hl := lvl_last hu e out h1 h2 h3
  obtain ⟨g1, g2⟩ := op_unique hu (z := o.text) rfl hj
  rw [hk] at g2
  have hn : nodAt (lay e out ++ [(⟨o.text, 3, ((lay e out).length : Int) - 1, 0⟩ : PNode)]) (lay e out).length = ⟨o.text, 3, ((lay e out).length : Int) - 1, 0⟩ := nodAt_new
  have ha : (((lay e out).length : Int) - 1).toNat = (lay e out).length - 1 := by omega
  unfold fitsN
  rw [hn]
  simp only [ha]
  rw [nodAt_old (by omega), hl]
  have hd : ndOp l ⟨o.text, 3, ((lay e out).length : Int) - 1, 0⟩ = o := by simp only [ndOp]; exact g2
  rw [hd, hole_h2p hok hk]
  simp [isOpN, kidsN]
theorem fits_post {l : List POp} (hu : Uniq l) {o : POp} (hj : InL l o) (hok : opOk o = true) (hk : o.kind = 3) (e : PT) (out : List PNode) (h1 : LeavesOk e) (h2 : e.All lvO (InL l)) (h3 : KindsOk e) :
    fitsN l (lay e out ++ [⟨o.text, 5, ((lay e out).length : Int) - 1, 0⟩]) (lay e out).length = decide ((lvO o).h1 ≤ e.level lvO) := by
  have hg := lay_grows e out
  have hl := lvl_last hu e out h1 h2 h3
  obtain ⟨g1, g2⟩ := op_unique hu (z := o.text) rfl hj
  rw [hk] at g2
  have hn : nodAt (lay e out ++ [(⟨o.text, 5, ((lay e out).length : Int) - 1, 0⟩ : PNode)]) (lay e out).length = ⟨o.text, 5, ((lay e out).length : Int) - 1, 0⟩ := nodAt_new
  have ha : (((lay e out).length : Int) - 1).toNat = (lay e out).length - 1 := by omega
  unfold fitsN
  rw [hn]
  simp only [ha]
  rw [nodAt_old (by omega), hl]
  have hd : ndOp l ⟨o.text, 5, ((lay e out).length : Int) - 1, 0⟩ = o := by simp only [ndOp]; exact g2
  rw [hd, hole_h1 hok (by omega)]
  simp [isOpN, kidsN]
theorem lay_old : ∀ (e : PT) (out : List PNode) (i : Nat), i < out.length → nodAt (lay e out) i = nodAt out i
  | .leaf b, out, i, h => by simp only [lay]; exact nodAt_old h
  | .grp e, out, i, h => by
    have := lay_grows e out
    simp only [lay]; rw [nodAt_old (by omega)]; exact lay_old e out i h
  | .pre o e, out, i, h => by
    have := lay_grows e out
    simp only [lay]; rw [nodAt_old (by omega)]; exact lay_old e out i h
  | .post o e, out, i, h => by
    have := lay_grows e out
    simp only [lay]; rw [nodAt_old (by omega)]; exact lay_old e out i h
  | .inf o x y, out, i, h => by
    have := lay_grows x out
    have := lay_grows y (lay x out)
    simp only [lay]; rw [nodAt_old (by omega), lay_old y (lay x out) i (by omega)]; exact lay_old x out i h
theorem fits_inf {l : List POp} (hu : Uniq l) {o : POp} (hj : InL l o) (hok : opOk o = true) (hk : o.kind = 2) (x y : PT) (out : List PNode) (h1 : LeavesOk x) (h2 : x.All lvO (InL l)) (h3 : KindsOk x) (q1 : LeavesOk y) (q2 : y.All lvO (InL l)) (q3 : KindsOk y) :
    fitsN l (lay y (lay x out) ++ [⟨o.text, 4, ((lay x out).length : Int) - 1, ((lay y (lay x out)).length : Int) - 1⟩]) (lay y (lay x out)).length = decide ((lvO o).h1 ≤ x.level lvO ∧ (lvO o).h2 ≤ y.level lvO) := by
  have hg := lay_grows x out
  have hg2 := lay_grows y (lay x out)
  have hl := lvl_last hu x out h1 h2 h3
  have hl2 := lvl_last hu y (lay x out) q1 q2 q3
  obtain ⟨g1, g2⟩ := op_unique hu (z := o.text) rfl hj
  rw [hk] at g2
  have hn : nodAt (lay y (lay x out) ++ [(⟨o.text, 4, ((lay x out).length : Int) - 1, ((lay y (lay x out)).length : Int) - 1⟩ : PNode)]) (lay y (lay x out)).length = ⟨o.text, 4, ((lay x out).length : Int) - 1, ((lay y (lay x out)).length : Int) - 1⟩ := nodAt_new
  have ha : (((lay x out).length : Int) - 1).toNat = (lay x out).length - 1 := by omega
  have hb : (((lay y (lay x out)).length : Int) - 1).toNat = (lay y (lay x out)).length - 1 := by omega
  unfold fitsN
  rw [hn]
  simp only [ha, hb]
  rw [nodAt_old (by omega), nodAt_old (by omega), hl2, lay_old y (lay x out) _ (by omega), hl]
  have hd : ndOp l ⟨o.text, 4, ((lay x out).length : Int) - 1, ((lay y (lay x out)).length : Int) - 1⟩ = o := by simp only [ndOp]; exact g2
  rw [hd, hole_h1 hok (by omega), hole_h2i hok hk]
  simp [isOpN, kidsN]
end Go.Proofs.Ytcnmgfbafcnkhaa.V
/- Contracts: the reference builds a tree: a left operand has no tree. -/
namespace Go.Proofs.Ytcnmgfbafcnkhaa.V
open Go.RowKit
open Go.Proofs.Ytcnmgfbafcnkhaa.Ops (Tr Tk Lv Res Fit)
set_option linter.unusedVariables false
set_option linter.unusedSimpArgs false
set_option linter.constructorNameAsVariable false
/-- a left operand has no tree -/
theorem c_build_left_none (l : List POp) (hl : l.length ≤ 9223372036854775807) (hu : Uniq l) (t : List PTok) (ht : t.length ≤ 1048576) (rs : List Int) (hrs : rs.length = t.length) (a b : Nat) (s : List TkP) (hab : a + s.length = b) (hb : b ≤ t.length) (hs : SegIs l t rs a s) (k : Nat) (o : POp) (er : Ops.root lvO s 0 0 none = some (k, o)) (tk : TkP) (hk : s[k]? = some tk) (htk : tk = .inf o ∨ (tk = .post o ∧ k + 1 = s.length)) (out : List PNode) (ho : out.length ≤ 2000000)
    (ih : VProc Try.prog 41 [.agg [.sl 4 l.length (opCells l)], .sl 3 t.length (tokCells t), .sl 1 rs.length (intCells rs), .lit (.int .i64 a), .lit (.int .i64 (a + k : Nat)), .own 0] [nodRow out] [] (BuildR k out none)) :
    VProc Try.prog 41 [.agg [.sl 4 l.length (opCells l)], .sl 3 t.length (tokCells t), .sl 1 rs.length (intCells rs), .lit (.int .i64 a), .lit (.int .i64 b), .own 0] [nodRow out] [] (BuildR s.length out none) := by
  have cl : ∀ (i : Nat) (c : AV), i < l.length → c ∈ opCells l i → Closed c := fun i c _ h => opClosed l i c h
  have clt : ∀ (i : Nat) (c : AV), i < t.length → c ∈ tokCells t i → Closed c := fun i c _ h => tokClosed t i c h
  have cli : ∀ (i : Nat) (c : AV), i < rs.length → c ∈ intCells rs i → Closed c := fun i c _ h => intClosed rs i c h
  have cr := c_l3Root l hl hu t ht rs hrs a b s hab hb hs
  rw [er] at cr
  have eb : bestI a (some (k, o)) = ((a + k : Nat) : Int) := rfl
  rw [eb] at cr
  have hlt := (List.getElem?_eq_some_iff.1 hk).1
  obtain ⟨_, hr⟩ := seg_at hs hk
  have hp : a + k < t.length := by omega
  obtain ⟨p, hp'⟩ : ∃ p, a + k = p := ⟨_, rfl⟩
  rw [hp'] at cr hr hp ih
  have hp0 : ¬ ((p : Int) < 0) := by omega
  have hp2 : p < rs.length := by omega
  have w4 : IntKind.i64.wrap 4 = 4 := by decide
  have w5 : IntKind.i64.wrap 5 = 5 := by decide
  have wb : IntKind.i64.wrap ((b : Int) - 1) = (b : Int) - 1 := wrap_i64 (by omega)
  refine vproc_start Try.func41 (by kernel_rfl) rfl (by simp [Try.ntmps41]) ?_; simp only [Try.ntmps41, Try.results41]; simp [go_sem]
  refine vcall_pure cr ?_ ?_
  · simp [go_sem]
    exact ⟨argSl_refl (by omega) cl, argSl_refl (by omega) clt, argSl_refl (by omega) cli⟩
  · simp [go_sem, hp0]
    refine vc_drawn [12] (.q 0 <| .q 1 <| .q 2 <| .q 3 <| .q 4 <| .q 5 <| .q 6 <| .q 7 <| .q 8 <| .q 9 <| .q 10 <| .or 11 (.or 12 (.done) (.nil)) (.nil)) (by kernel_rfl) ?_
    rcases htk with rfl | ⟨rfl, hke⟩
    · simp only [roleT] at hr
      simp [go_sem, tokCells_at, intCells_at, hp, hp2, hr, w4, nodRow]
      refine vcall_share [0] ih (by simp) ?_ ?_ trivial ?_
      · simp [go_sem]
        exact ⟨cl, clt, cli⟩
      · simp [go_sem, nodRow]
        exact fun i _ => cellsRn_lits (nodLit _ i)
      · rintro av mem maps ⟨T, hT, hB⟩
        rcases hB with ⟨rfl, rfl, rfl⟩ | ⟨rfl, rfl, rfl⟩
        · simp [go_sem, nodRow]
          refine ⟨rfl, [3], [none, nodRow T], by simp, by simp [go_sem], by simp [go_sem], ?_, by simp [go_sem], ?_⟩
          · simp [go_sem, nodRow]
            exact outAt_same rfl fun j _ => rfl
          · simp [go_sem]
            exact ⟨T, by omega, .inl ⟨rfl, rfl, rfl⟩⟩
        · simp [go_sem, nodRow]
          refine ⟨rfl, [], [nodRow T], by simp, by simp [go_sem], by simp [go_sem], ?_, by simp [go_sem], ?_⟩
          · simp [go_sem, nodRow]
            exact outAt_same rfl fun j _ => rfl
          · simp [go_sem]
            exact ⟨T, by omega, .inr ⟨rfl, rfl, rfl⟩⟩
    · simp only [roleT] at hr
      have hpb : IntKind.i64.wrap ((b : Int) - 1) = (p : Int) := by rw [wb]; omega
      simp [go_sem, tokCells_at, intCells_at, hp, hp2, hr, w5, hpb, nodRow]
      refine vcall_share [0] ih (by simp) ?_ ?_ trivial ?_
      · simp [go_sem]
        exact ⟨cl, clt, cli⟩
      · simp [go_sem, nodRow]
        exact fun i _ => cellsRn_lits (nodLit _ i)
      · rintro av mem maps ⟨T, hT, hB⟩
        rcases hB with ⟨rfl, rfl, rfl⟩ | ⟨rfl, rfl, rfl⟩
        · simp [go_sem, nodRow]
          refine ⟨rfl, [3], [none, nodRow T], by simp, by simp [go_sem], by simp [go_sem], ?_, by simp [go_sem], ?_⟩
          · simp [go_sem, nodRow]
            exact outAt_same rfl fun j _ => rfl
          · simp [go_sem]
            exact ⟨T, by omega, .inl ⟨rfl, rfl, rfl⟩⟩
        · simp [go_sem, nodRow]
          refine ⟨rfl, [], [nodRow T], by simp, by simp [go_sem], by simp [go_sem], ?_, by simp [go_sem], ?_⟩
          · simp [go_sem, nodRow]
            exact outAt_same rfl fun j _ => rfl
          · simp [go_sem]
            exact ⟨T, by omega, .inr ⟨rfl, rfl, rfl⟩⟩
end Go.Proofs.Ytcnmgfbafcnkhaa.V
/- Contracts: the reference builds a tree: a prefix operator with its operand (under way). -/
namespace Go.Proofs.Ytcnmgfbafcnkhaa.V
open Go.RowKit
open Go.Proofs.Ytcnmgfbafcnkhaa.Ops (Tr Tk Lv Res Fit)
set_option linter.unusedVariables false
set_option linter.unusedSimpArgs false
set_option linter.constructorNameAsVariable false
theorem has_last {l : List POp} (hu : Uniq l) (e : PT) (out : List PNode) (h1 : LeavesOk e) (h2 : e.All lvO (InL l)) (h3 : KindsOk e) (h : isOpN (nodAt (lay e out) ((lay e out).length - 1)) = true) : opHas l (nodAt (lay e out) ((lay e out).length - 1)).text ((nodAt (lay e out) ((lay e out).length - 1)).kind - 2) = true := by
  have one : ∀ {o : POp}, InL l o → opHas l o.text (o.kind + 2 - 2) = true := fun {o} hj => by
    rw [show o.kind + 2 - 2 = o.kind by omega]
    exact (op_unique hu rfl hj).1
  cases e with
  | leaf b =>
    simp only [lay, last_node] at h
    have h1' : b.1 = 1 ∨ b.1 = 2 := h1
    simp [isOpN] at h; omega
  | grp e => simp only [lay, last_node] at h; simp [isOpN] at h
  | pre o e => simp only [lay, last_node]; exact one h2.1
  | post o e => simp only [lay, last_node]; exact one h2.1
  | inf o x y => simp only [lay, last_node]; exact one h2.1
theorem argSl_ownE {mem : List (Option Ob)} {k sz n N ty : Nat} {f f' : Nat → List AV} (hk : mem[k]? = some (some ⟨ty, sz, N, f⟩)) (hsz : 0 < sz) (hn : N = n) (h : ∀ i, i < n → f i = f' i) (hc : ∀ (i : Nat) c, i < n → c ∈ f' i → Closed c) : ArgSl mem (.own k) sz n f' :=
  ⟨hsz, f, by simp [contents, hk, hn], fun i hi => ⟨h i hi, fun c hc' => hc i c hi hc'⟩⟩
/-- a prefix operator's operand has a tree -/
theorem c_build_pre_some (l : List POp) (hl : l.length ≤ 9223372036854775807) (hu : Uniq l) (t : List PTok) (ht : t.length ≤ 1048576) (rs : List Int) (hrs : rs.length = t.length) (a b : Nat) (s : List TkP) (hab : a + s.length = b) (hb : b ≤ t.length) (hs : SegIs l t rs a s) (o : POp) (er : Ops.root lvO s 0 0 none = some (0, o)) (hk : s[0]? = some (.pre o)) (hw : opsWf l) (hj : InL l o) (hok : opOk o = true) (hk1 : o.kind = 1) (e : PT) (h1 : LeavesOk e) (h2 : e.All lvO (InL l)) (h3 : KindsOk e) (out : List PNode) (ho : out.length ≤ 2000000) (hle : (lay e out).length ≤ 3000000) (hsz : (lay e out).length ≤ out.length + (s.length - 1))
    (ih : VProc Try.prog 41 [.agg [.sl 4 l.length (opCells l)], .sl 3 t.length (tokCells t), .sl 1 rs.length (intCells rs), .lit (.int .i64 (a + 1 : Nat)), .lit (.int .i64 b), .own 0] [nodRow out] [] (BuildR (s.length - 1) out (some e))) :
    VProc Try.prog 41 [.agg [.sl 4 l.length (opCells l)], .sl 3 t.length (tokCells t), .sl 1 rs.length (intCells rs), .lit (.int .i64 a), .lit (.int .i64 b), .own 0] [nodRow out] [] (BuildR s.length out (if (lvO o).h2 ≤ e.level lvO then some (.pre o e) else none)) := by
  have cl : ∀ (i : Nat) (c : AV), i < l.length → c ∈ opCells l i → Closed c := fun i c _ h => opClosed l i c h
  have clt : ∀ (i : Nat) (c : AV), i < t.length → c ∈ tokCells t i → Closed c := fun i c _ h => tokClosed t i c h
  have cli : ∀ (i : Nat) (c : AV), i < rs.length → c ∈ intCells rs i → Closed c := fun i c _ h => intClosed rs i c h
  have cr := c_l3Root l hl hu t ht rs hrs a b s hab hb hs
  rw [er] at cr
  have eb : bestI a (some (0, o)) = (a : Int) := by simp [bestI]
  rw [eb] at cr
  have hlt := (List.getElem?_eq_some_iff.1 hk).1
  obtain ⟨hTk, hr⟩ := seg_at hs hk
  have htx : o.text = (tokAt t a).text := hTk.2.1
  simp only [Nat.add_zero, roleT] at hr
  have hp : a < t.length := by omega
  have hp0 : ¬ ((a : Int) < 0) := by omega
  have hp2 : a < rs.length := by omega
  have w : IntKind.i64.wrap 3 = 3 := by decide
  have ew1 : IntKind.i64.wrap ((a : Int) + 1) = ((a + 1 : Nat) : Int) := wrap_succ (by omega)
  refine vproc_start Try.func41 (by kernel_rfl) rfl (by simp [Try.ntmps41]) ?_; simp only [Try.ntmps41, Try.results41]; simp [go_sem]
  refine vcall_pure cr ?_ ?_
  · simp [go_sem]
    exact ⟨argSl_refl (by omega) cl, argSl_refl (by omega) clt, argSl_refl (by omega) cli⟩
  · simp [go_sem, hp0]
    refine vc_drawn [12] (.q 0 <| .q 1 <| .q 2 <| .q 3 <| .q 4 <| .q 5 <| .q 6 <| .q 7 <| .q 8 <| .q 9 <| .q 10 <| .or 11 (.or 12 (.done) (.nil)) (.nil)) (by kernel_rfl) ?_
    simp [go_sem, tokCells_at, intCells_at, hp, hp2, hr, w, ew1, nodRow]
    refine vcall_share [0] ih (by simp) ?_ ?_ trivial ?_
    · simp [go_sem]
      exact ⟨cl, clt, cli⟩
    · simp [go_sem, nodRow]
      exact fun i _ => cellsRn_lits (nodLit _ i)
    · rintro av mem maps ⟨rfl, rfl, rfl⟩
      have hg := lay_grows e out
      have ew : IntKind.i64.wrap (((lay e out).length : Int) - 1) = ((lay e out).length : Int) - 1 := wrap_i64 (by omega)
      simp [go_sem, nodRow, ew]
      have ew0 : IntKind.i64.wrap ((lay e out).length : Int) = (lay e out).length := wrap_i64 (by omega)
      obtain ⟨T2, hT2⟩ : ∃ T2, T2 = lay e out ++ [(⟨o.text, 3, ((lay e out).length : Int) - 1, 0⟩ : PNode)] := ⟨_, rfl⟩
      have hl2 : T2.length = (lay e out).length + 1 := by rw [hT2]; simp
      have hn : nodAt T2 (lay e out).length = ⟨o.text, 3, ((lay e out).length : Int) - 1, 0⟩ := by rw [hT2]; exact nodAt_new
      have hf : fitsN l T2 (lay e out).length = decide ((lvO o).h2 ≤ e.level lvO) := by rw [hT2]; exact fits_pre hu hj hok hk1 e out h1 h2 h3
      have cf := c_l3Fits l hl hw T2 (by omega) (lay e out).length (by omega) (fun _ => by
        rw [hn]
        have ha : (((lay e out).length : Int) - 1).toNat = (lay e out).length - 1 := by omega
        simp only [ha]
        rw [show nodAt T2 ((lay e out).length - 1) = nodAt (lay e out) ((lay e out).length - 1) by rw [hT2]; exact nodAt_old (by omega)]
        refine ⟨by have := (op_unique hu (z := o.text) rfl hj).1; rw [hk1] at this; exact this, by omega, has_last hu e out h1 h2 h3, fun hh => absurd rfl hh⟩)
      rw [hf] at cf
      rw [ew0]
      refine ⟨by omega, by omega, by omega, by omega, vcall_pure cf ?_ ?_⟩
      · simp [go_sem]
        exact ⟨argSl_refl (by omega) cl, argSl_ownE (k := 5) rfl (by omega) hl2.symm (fun i hi => by rw [hT2, htx]; exact nod_app (lay e out) ⟨(tokAt t a).text, 3, ((lay e out).length : Int) - 1, 0⟩ i (by omega)) (fun i c _ h => nodClosed T2 i c h)⟩
      · simp [go_sem]
        by_cases hc : (lvO o).h2 ≤ e.level lvO
        · simp only [if_pos hc, hc, decide_true, if_true]
          refine ⟨rfl, [5], [none, nodRow (lay (.pre o e) out)], by simp, by simp [go_sem], by simp [go_sem], ?_, by simp [go_sem], ?_⟩
          · simp [go_sem, nodRow]
            refine outAt_app (o := ⟨(tokAt t a).text, 3, ((lay e out).length : Int) - 1, 0⟩) (by rw [← htx]; simp [lay, hk1]) fun j hj => ?_
            exact nod_app (lay e out) ⟨(tokAt t a).text, 3, ((lay e out).length : Int) - 1, 0⟩ j hj
          · simp [go_sem, BuildR, nodRow]
        · simp only [if_neg hc, hc, decide_false]
          refine ⟨rfl, [5], [none, nodRow T2], by simp, by simp [go_sem], by simp [go_sem], ?_, by simp [go_sem], ?_⟩
          · simp [go_sem, nodRow]
            refine outAt_app (o := ⟨(tokAt t a).text, 3, ((lay e out).length : Int) - 1, 0⟩) (by rw [← htx]; exact hT2) fun j hj => ?_
            exact nod_app (lay e out) ⟨(tokAt t a).text, 3, ((lay e out).length : Int) - 1, 0⟩ j hj
          · simp [go_sem]
            exact ⟨T2, by omega, .inl ⟨rfl, rfl, rfl⟩⟩
end Go.Proofs.Ytcnmgfbafcnkhaa.V
