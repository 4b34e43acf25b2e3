/- The value machine, part R: regions whose order of evaluation is drawn. -/
import Derived.Test.YtnjnkhmcdkjekaaV9
namespace Go.Proofs.Ytnjnkhmcdkjekaa.V
open Go.RowKit
set_option linter.unusedVariables false
set_option linter.unusedSimpArgs false

section
variable {P : Program} {ops : Array Oper} {md : Region.Mode}
def QNo : Exit → Act → World → Prop := fun _ _ _ => False
/-- every order: an operation other than 'fin' leaves what was there alone -/
def wpAnyG (P : Program) (md : Region.Mode) (ops : Array Oper) (fin : Nat) (Q : Act → World → Prop) : Nat → Array Bool → Act → World → Prop
  | 0, listed, a, w => Region.ready md ops listed = [] ∧ Q a w
  | fuel + 1, listed, a, w => (Region.ready md ops listed = [] → Q a w) ∧
    ∀ i ∈ Region.ready md ops listed, wpOp P ops QNo i (fun a' w' => (i ≠ fin → w.grownBy w' none) ∧ wpAnyG P md ops fin Q fuel (listed.setIfInBounds i true) a' w') a w
theorem grown_none_trans {a b c : World} (h : a.grownBy b none) (k : b.grownBy c none) : a.grownBy c none :=
  ⟨k.os.trans h.os, k.tape.trans h.tape, k.output.trans h.output, Nat.le_trans h.size k.size, fun i hi hr => (k.block i (Nat.lt_of_lt_of_le hi h.size) hr).trans (h.block i hi hr)⟩
theorem grown_none_refl (a : World) : a.grownBy a none := ⟨rfl, rfl, rfl, Nat.le_refl _, fun _ _ _ => rfl⟩
def YG (P : Program) (ops : Array Oper) (o : Oper) (v : Value) (a : Act) (w : World) : Prop :=
  (Region.wanted o (yielded ops a.tmps) = true ∧ ∀ w', w.grownBy w' none → (execOp a.eval o).run P w' = .ok (.value v) w') ∨ (Region.wanted o (yielded ops a.tmps) = false ∧ v = undef)
theorem YG.grown {o : Oper} {v : Value} {a : Act} {w w' : World} (h : YG P ops o v a w) (hg : w.grownBy w' none) : YG P ops o v a w' :=
  h.imp (fun ⟨h1, h2⟩ => ⟨h1, fun w'' hg' => h2 w'' (grown_none_trans hg hg')⟩) id
theorem YG.of_same {o : Oper} {v : Value} {a a' : Act} {w : World} (hy : YG P ops o v a w) (he : execOp a'.eval o = execOp a.eval o) (hw : Region.wanted o (yielded ops a'.tmps) = Region.wanted o (yielded ops a.tmps)) : YG P ops o v a' w := by
  unfold YG at *
  rw [he, hw]; exact hy
theorem YG.wpOp {i : Nat} {o : Oper} {v : Value} {a : Act} {w : World} {Q : Exit → Act → World → Prop} (hi : ops[i]? = some o) (hy : YG P ops o v a w) {K : Act → World → Prop} (h : K (a.put o.dst v) w) : wpOp P ops Q i K a w := by
  unfold Go.wpOp
  simp only [hi]
  rcases hy with ⟨hw, hv⟩ | ⟨hw, rfl⟩
  · simp only [hw, if_true, Oper.wp, hv w (grown_none_refl w), Oper.upon]; exact .inl h
  · simp only [hw, Bool.false_eq_true, if_false]; exact h
theorem wpOp_putG {j : Nat} {oi oj : Oper} {v : Value} (hj : ops[j]? = some oj) (hap : oi.apart ops oj = true) (hsi : ∀ cs b, oi.op ≠ .select cs b) (hsj : ∀ cs b, oj.op ≠ .select cs b) {K : Act → World → Prop} {a : Act} {w : World}
    (hy : YG P ops oi v a w) (h : wpOp P ops QNo j K (a.put oi.dst v) w) : wpOp P ops QNo j (fun a' w' => (w.grownBy w' none → YG P ops oi v a' w') ∧ K (a'.put oi.dst v) w') a w := by
  obtain ⟨h1, h2, h3⟩ := Oper.apart_spec hap
  have keep : ∀ (a : Act), YG P ops oi v a w → ∀ u w', w.grownBy w' none → YG P ops oi v (a.put oj.dst u) w' := fun a hy u w' hg =>
    (hy.grown hg).of_same (execOp_put oi hsi a oj.dst u h3) (wanted_put oi a oj.dst u h3)
  have keepD : ∀ d, YG P ops oi v { a with defers := d :: a.defers } w := fun d => hy.of_same rfl rfl
  unfold wpOp at *
  simp only [hj] at *
  rw [wanted_put oj a oi.dst v h1] at h
  split
  · rename_i hw
    simp only [hw, if_true] at h
    rcases h with h | ⟨hasks, hlets⟩
    case inr => exact .inr ⟨by unfold Oper.asks at *; rw [execOp_put oj hsj a oi.dst v h1] at hasks; exact hasks, hlets⟩
    refine .inl ?_
    unfold Oper.wp at *
    rw [execOp_put oj hsj a oi.dst v h1] at h
    generalize (execOp a.eval oj).run P w = r at *
    cases r with
    | ok n w' =>
      cases n <;> simp only [Oper.upon] at h ⊢
      case value u => exact ⟨keep a hy u w', by rw [← Act.put_comm a v u h2]; exact h⟩
      case skip => exact ⟨keep a hy _ w', by rw [← Act.put_comm a v undef h2]; exact h⟩
      case defer d =>
        refine ⟨keep _ (keepD d) _ w', ?_⟩
        rw [← Act.put_comm _ v undef h2, ← Act.put_defers]
        exact h
      case enter f args =>
        refine Calls.mono h fun e w'' he => ?_
        cases e with
        | returned u => exact ⟨keep a hy u w'', by rw [← Act.put_comm a v u h2]; exact he⟩
        | panicked c => exact he
        | outgrown => exact he
      case row row args => exact Rows.mono h fun u w'' he => ⟨keep a hy u w'', by rw [← Act.put_comm a v u h2]; exact he⟩
    | halt x w' =>
      cases x <;> simp only [Oper.upon] at h ⊢
      case panic u => exact h
  · rename_i hw
    simp only [hw] at h
    exact ⟨keep a hy _ w, by rw [← Act.put_comm a v undef h2]; exact h⟩

/-- what is listed is closed under what it waits for -/
def Down (md : Region.Mode) (ops : Array Oper) (listed : Array Bool) : Prop := ∀ j oj, ops[j]? = some oj → listed.getD j false = true → ∀ e ∈ oj.after, Region.binds md e = true → listed.getD e.on false = true
theorem Down.set {listed : Array Bool} {i : Nat} (h : Down md ops listed) (hi : i ∈ Region.ready md ops listed) : Down md ops (listed.setIfInBounds i true) := by
  obtain ⟨_, oi, hoi, hall⟩ := mem_ready.1 hi
  intro j oj hj hl e he hb
  by_cases hij : i = j
  · subst hij
    have : oj = oi := Option.some.inj (hj.symm.trans hoi)
    subst this
    exact getD_set_true (hall e he hb)
  · rw [getD_set_ne false hij] at hl
    exact getD_set_true (h j oj hj hl e he hb)
def waits (md : Region.Mode) (ops : Array Oper) (j i : Nat) : Bool := match ops[j]? with
  | some oj => oj.after.any fun e => Region.binds md e && e.on == i
  | none => false
def reach (md : Region.Mode) (ops : Array Oper) (fin : Nat) : Nat → Nat → Bool
  | 0, _ => false
  | fuel + 1, i => waits md ops fin i || (List.range ops.size).any fun k => waits md ops k i && reach md ops fin fuel k
def finB (md : Region.Mode) (ops : Array Oper) (fin : Nat) : Bool := decide (ops.size ≤ fin) || (List.range ops.size).all fun i => i == fin || reach md ops fin ops.size i || reach md ops i ops.size fin
theorem waits_spec {j i : Nat} (h : waits md ops j i = true) : ∃ oj, ops[j]? = some oj ∧ ∃ e ∈ oj.after, Region.binds md e = true ∧ e.on = i := by
  unfold waits at h
  split at h
  · rename_i oj hj
    obtain ⟨e, he, hb⟩ := Array.any_eq_true'.1 h
    simp only [Bool.and_eq_true, beq_iff_eq] at hb
    exact ⟨oj, hj, e, he, hb.1, hb.2⟩
  · cases h
theorem reach_spec {fin : Nat} {listed : Array Bool} (hd : Down md ops listed) (hf : fin ∈ Region.ready md ops listed) : ∀ (fuel i : Nat), reach md ops fin fuel i = true → listed.getD i false = true
  | 0, i, h => by cases h
  | fuel + 1, i, h => by
    simp only [reach, Bool.or_eq_true, List.any_eq_true, Bool.and_eq_true] at h
    rcases h with h | ⟨k, _, h1, h2⟩
    · obtain ⟨oj, hj, e, he, hb, rfl⟩ := waits_spec h
      obtain ⟨_, o, ho, hall⟩ := mem_ready.1 hf
      have : o = oj := Option.some.inj (ho.symm.trans hj)
      subst this
      exact hall e he hb
    · have := reach_spec hd hf fuel k h2
      obtain ⟨oj, hj, e, he, hb, rfl⟩ := waits_spec h1
      exact hd k oj hj this e he hb
theorem fin_last {fin : Nat} {listed : Array Bool} (hB : finB md ops fin = true) (hd : Down md ops listed) (hf : fin ∈ Region.ready md ops listed) {i : Nat} (hi : i ∈ Region.ready md ops listed) : i = fin := by
  obtain ⟨hunf, of, hof, _⟩ := mem_ready.1 hf
  obtain ⟨hun, oi, hoi, _⟩ := mem_ready.1 hi
  have hfl := (Array.getElem?_eq_some_iff.1 hof).1
  have hil := (Array.getElem?_eq_some_iff.1 hoi).1
  have no : ∀ j, listed.getD j true = false → listed.getD j false = true → False := by
    intro j h1 h2
    rcases Nat.lt_or_ge j listed.size with h' | h'
    · simp [h'] at h1 h2; rw [h1] at h2; cases h2
    · simp [Array.getElem?_eq_none h'] at h1
  simp only [finB, Bool.or_eq_true, decide_eq_true_eq, List.all_eq_true, List.mem_range, beq_iff_eq] at hB
  rcases hB with hB | hB
  · omega
  · rcases hB i hil with (h | h) | h
    · exact h
    · exact (no i hun (reach_spec hd hf _ i h)).elim
    · exact (no fin hunf (reach_spec hd hi _ fin h)).elim
/-- a quiet operation may be taken first -/
theorem wpAnyG_first {Q : Act → World → Prop} {fin i : Nat} {oi : Oper} {v : Value} (hB : finB md ops fin = true) (hi : ops[i]? = some oi) (hsel : ∀ (j : Nat) (o : Oper) cs b, ops[j]? = some o → o.op ≠ .select cs b) (hif : i ≠ fin) :
    ∀ (fuel : Nat) (listed : Array Bool) (a : Act) (w : World), Down md ops listed →
      (∀ j oj, ops[j]? = some oj → j ≠ i → listed.getD j true = false → (∀ e ∈ oj.after, Region.binds md e = true → e.on ≠ i) → oi.apart ops oj = true) →
      i ∈ Region.ready md ops listed → YG P ops oi v a w →
      wpAnyG P md ops fin Q fuel (listed.setIfInBounds i true) (a.put oi.dst v) w → wpAnyG P md ops fin Q (fuel + 1) listed a w := by
  intro fuel
  induction fuel with
  | zero =>
    intro listed a w _ _ hr hy H
    refine ⟨fun h => (by rw [h] at hr; cases hr), fun j hj => ?_⟩
    by_cases hji : j = i
    · subst hji; exact hy.wpOp hi ⟨fun _ => grown_none_refl w, H⟩
    · have := ready_mono hj hji
      rw [H.1] at this
      cases this
  | succ fuel ih =>
    intro listed a w hdn hfree hr hy H
    refine ⟨fun h => (by rw [h] at hr; cases hr), fun j hj => ?_⟩
    by_cases hji : j = i
    · subst hji; exact hy.wpOp hi ⟨fun _ => grown_none_refl w, H⟩
    · have hjf : j ≠ fin := fun e => hif (fin_last hB hdn (e ▸ hj) hr)
      have h1 := H.2 j (ready_mono hj hji)
      obtain ⟨hjun, oj, hoj, hall⟩ := mem_ready.1 hj
      have hnot : ∀ e ∈ oj.after, Region.binds md e = true → e.on ≠ i := fun e he hb heq => by
        have h1 := hall e he hb
        have h0 := (mem_ready.1 hr).1
        rw [heq] at h1
        rcases Nat.lt_or_ge i listed.size with h' | h'
        · simp [h'] at h0 h1; rw [h0] at h1; cases h1
        · simp [Array.getElem?_eq_none h'] at h1
      have h2 := wpOp_putG hoj (hfree j oj hoj hji hjun hnot) (fun cs b => hsel i oi cs b hi) (fun cs b => hsel j oj cs b hoj) hy h1
      have hfree' : ∀ k ok, ops[k]? = some ok → k ≠ i → (listed.setIfInBounds j true).getD k true = false →
          (∀ e ∈ ok.after, Region.binds md e = true → e.on ≠ i) → oi.apart ops ok = true := fun k ok hk hki hun hno => by
        refine hfree k ok hk hki ?_ hno
        by_cases hjk : j = k
        · subst hjk; exact hjun
        · rw [getD_set_ne true hjk] at hun; exact hun
      refine wpOp_mono (fun a' w' h3 => ?_) h2
      obtain ⟨hy', hg, h4⟩ := h3
      refine ⟨hg, ih (listed.setIfInBounds j true) a' w' (hdn.set hj) hfree' (ready_mono hr (Ne.symm hji)) (hy' (hg hjf)) ?_⟩
      rw [Array.setIfInBounds_comm _ _ hji]
      exact h4
theorem wpAny_of_G {Q : Act → World → Prop} {Q' : Exit → Act → World → Prop} {fin : Nat} (hQ : ∀ a w, Q a w → Q' .normal a w) : ∀ (fuel : Nat) (listed : Array Bool) (a : Act) (w : World), wpAnyG P md ops fin Q fuel listed a w → wpAny P md ops Q' fuel listed a w
  | 0, _, a, w, h => ⟨h.1, hQ _ _ h.2⟩
  | fuel + 1, listed, a, w, h => ⟨fun h0 => hQ _ _ (h.1 h0), fun i hi => by
    have h1 := h.2 i hi
    have toQ : ∀ {K K' : Act → World → Prop}, (∀ a w, K a w → K' a w) → wpOp P ops QNo i K a w → wpOp P ops Q' i K' a w := by
      intro K K' hK hh
      unfold wpOp at *
      split
      · exact hK _ _ (by simpa [*] using hh)
      · rename_i o ho
        simp only [ho] at hh
        split
        · rename_i hw
          simp only [hw, if_true] at hh
          rcases hh with hh | ⟨_, a1, w1, hh⟩
          · refine .inl ?_
            unfold Oper.wp at *
            generalize (execOp a.eval o).run P w = r at *
            cases r with
            | ok nx w' =>
              cases nx <;> simp only [Oper.upon] at hh ⊢ <;> first
                | exact hK _ _ hh
                | exact Calls.mono hh (fun e w'' he => by cases e <;> first | exact hK _ _ he | exact False.elim he | (obtain ⟨_, _, he⟩ := he; exact False.elim he))
                | exact Rows.mono hh (fun _ _ he => hK _ _ he)
            | halt x w' => cases x <;> simp only [Oper.upon] at hh ⊢ <;> exact False.elim hh
          · exact False.elim hh
        · rename_i hw; simp only [hw] at hh; exact hK _ _ hh
    exact toQ (fun a' w' h2 => wpAny_of_G hQ fuel _ a' w' h2.2) h1⟩
end

/-- a plan of orders: 'q': a quiet operation is taken first; 'or': each that may come now -/
inductive Plan where
  | done
  | q (i : Nat) (p : Plan)
  | or (i : Nat) (p r : Plan)
  | nil
def planOk (P : Program) (md : Region.Mode) (ops : Array Oper) (fin : Nat) : Plan → Nat → Array Bool → Option (List Nat) → Bool
  | .done, _, listed, none => (Region.ready md ops listed).isEmpty
  | .q i p, fuel + 1, listed, none => (Region.ready md ops listed).contains i && Region.free md ops listed i && (match ops[i]? with | some o => quiet4 P o.op | none => false) && i != fin && planOk P md ops fin p fuel (listed.setIfInBounds i true) none
  | .or i p r, fuel + 1, listed, none => match Region.ready md ops listed with
    | j :: js => i == j && planOk P md ops fin p fuel (listed.setIfInBounds i true) none && planOk P md ops fin r (fuel + 1) listed (some js)
    | [] => false
  | .or i p r, fuel + 1, listed, some (j :: js) => i == j && planOk P md ops fin p fuel (listed.setIfInBounds i true) none && planOk P md ops fin r (fuel + 1) listed (some js)
  | .nil, _, _, some [] => true
  | _, _, _, _ => false
def EndsG (P : Program) (n : Nat) (base : Fr) (w0 w : World) (a : Act) (res : Result Next) (k : AV → VS → Prop) : Prop :=
  ∃ v w', (res = .ok (.value v) w' ∨ (res = .ok .skip w' ∧ v = undef)) ∧ w.grownBy w' none ∧ ∃ hd' s' av, RelH n base w0 hd' s' a w' ∧ Rep w' (okOf s'.mem hd') hd' s'.mem.length av v ∧ k av s'
section
variable {P : Program} {n : Nat} {base : Fr} {w0 w : World} {hd : Nat → Value} {s : VS} {a : Act} {k : AV → VS → Prop}
theorem alloc_sound_g (h : RelH n base w0 hd s a w) {t : TypeId} {o : Oper} (ho : o.op = .alloc t) (hv : valloc P t s k) : EndsG P n base w0 w a ((execOp a.eval o).run P w) k := by
  unfold valloc at hv
  split at hv
  · rename_i z sz by_ hinfo
    obtain ⟨h0, hz, h1, hk⟩ := hv
    obtain ⟨ti, hi1, hi2, hi3, hi4⟩ := tinfo_run hinfo
    have hnew := h.new (T := t) (sz := sz) (cnt := 1) (vals := z.cells.toList) (f := fun _ => z.cells.toList.map .lit) h0 (by simp [hz]) (by omega) (fun i hi => ⟨by simp [hz], fun j av hj => by
      have hi0 : i = 0 := by omega
      subst hi0
      simp only [List.getElem?_map, Option.map_eq_some_iff] at hj
      obtain ⟨u, q1, rfl⟩ := hj
      exact ⟨u, by simpa using q1, List.all_eq_true.1 h1 u (List.mem_of_getElem? q1), .lit u⟩⟩)
    refine ⟨.pointer (some ⟨w.heap.size, 0, none⟩), _, .inl ?_, World.grownBy_alloc w _ none, _, _, _, hnew, ?_, hk⟩
    · unfold execOp; simp only [ho]
      refine run_v ?_
      have hzv : (zeroValue t).run P w = .ok z w := by simp [zeroValue, typeInfo, Sem.run_bind, hi1, hi2]
      unfold Instr.alloc
      rw [Sem.run_bind, hzv]
      rw [show z.cells.toList.toArray = z.cells by simp]
      rfl
    · have := Rep.ptr (w := w.alloc (.cells z.cells.toList.toArray t)) (ok := okOf (s.mem ++ [some ⟨t, sz, 1, fun _ => z.cells.toList.map .lit⟩]) (fun j => if j = s.mem.length then .slice (some ⟨w.heap.size, 0, none⟩) 1 1 else hd j)) (hd := fun j => if j = s.mem.length then .slice (some ⟨w.heap.size, 0, none⟩) 1 1 else hd j) (m := (s.mem ++ [some (⟨t, sz, 1, fun _ => z.cells.toList.map .lit⟩ : Ob)]).length) s.mem.length sz 0 0 w.heap.size 1 1 (by simp) (by simp)
      simpa using this
  · exact hv.elim
theorem litS_sound_g (h : RelH n base w0 hd s a w) {t : TypeId} {len : Nat} {parts : Array (Nat × Operand)} {o : Oper} (ho : o.op = .buildSlice t len parts)
    (hv : vlitS P t len parts.toList s k) : EndsG P n base w0 w a ((execOp a.eval o).run P w) k := by
  unfold vlitS at hv
  split at hv
  · rename_i e ht
    split at hv
    · rename_i z sz by_ css hinfo hps
      obtain ⟨hz, hsz, hlen, hbig, hall, hk⟩ := hv
      obtain ⟨ti, hi1, hi2, hi3, hi4⟩ := tinfo_run hinfo
      obtain ⟨vs, g1, g2, g3, g4⟩ := partsCells_run h hsz parts.toList 0 css hps hall
      have hvl : vs.length = len := by rw [g2, hlen]
      have hmk : ∀ zero : Array Value, ((Array.range (len * sz)).map (zero[· % zero.size]!)).size = len * sz := by intro zero; simp
      obtain ⟨zero, hzero⟩ : ∃ zero : Array Value, zero = if len * sz = 0 then #[] else z.cells := ⟨_, rfl⟩
      obtain ⟨cells, f1, f2⟩ := fill_cells sz vs 0 ((Array.range (len * sz)).map (zero[· % zero.size]!)) g3 (by rw [hmk, hvl, Nat.zero_add]; exact Nat.le_refl _)
      have hcells : cells.toList = vs.flatMap (fun v => v.cells.toList) := by
        rw [f2, hvl, Nat.zero_add]
        have : (((Array.range (len * sz)).map (zero[· % zero.size]!)).toList.drop (len * sz)) = [] := by
          rw [List.drop_eq_nil_iff]; simp
        rw [this]; simp
      have hclen : cells.toList.length = len * sz := by
        rw [f2, hvl, Nat.zero_add]
        simp
        have := congrArg List.length f2
        rw [hvl, Nat.zero_add] at this
        simp at this
        clear this
        have key : ∀ (l : List Value), (∀ v ∈ l, v.cells.size = sz) → (l.map (fun v => v.cells.size)).sum = l.length * sz := by
          intro l
          induction l with
          | nil => intro _; simp
          | cons x l ih =>
            intro hh
            simp only [List.map_cons, List.sum_cons, List.length_cons]
            rw [ih (fun v hv => hh v (by simp [hv])), hh x (by simp), Nat.add_mul]; omega
        rw [← hvl]
        have := key vs g3
        simpa [Function.comp_def] using this
      have hnew := h.new (T := e) (sz := sz) (cnt := len) (vals := cells.toList) (f := fun i => css.getD i []) hsz hclen (by
        have : len ≤ len * sz := Nat.le_mul_of_pos_right _ hsz
        omega) (fun i hi => by
        have hic : i < css.length := by omega
        have hiv : i < vs.length := by omega
        simp only [List.getD_eq_getElem?_getD, List.getElem?_eq_getElem hic, Option.getD_some]
        have hc := hall _ (List.getElem_mem hic)
        refine ⟨hc.1, fun j av hj => ?_⟩
        have hjl : j < sz := by
          have := (List.getElem?_eq_some_iff.1 hj).1
          rw [hc.1] at this; exact this
        obtain ⟨u, r1, r2, r3⟩ := g4 i _ _ (List.getElem?_eq_getElem hic) (List.getElem?_eq_getElem hiv) j av hj
        exact ⟨u, by rw [hcells, flat_get vs g3 i j hjl _ (List.getElem?_eq_getElem hiv)]; exact r1, r2, r3⟩)
      refine ⟨.slice (some ⟨w.heap.size, 0, none⟩) len len, _, .inl ?_, World.grownBy_alloc w _ none, _, _, _, hnew, ?_, hk⟩
      · unfold execOp; simp only [ho]
        refine run_v ?_
        have hp : (parts.map fun x => (x.1, a.eval x.2)).toList = (vs.zipIdx 0).map (fun x => (x.2, x.1)) := by rw [Array.toList_map]; exact g1
        unfold Instr.buildSlice
        simp only [Sem.run_bind, und_run ht, Result.andThen_ok, tsz_run (show tsz P e = some sz by unfold tsz; rw [sizeOf_eq, hi1]; simp [hi3])]
        rw [if_neg (by omega)]
        rw [show cells.toList.toArray = cells by simp]
        by_cases h0 : len * sz = 0
        · rw [if_pos h0] at hzero ⊢
          subst hzero
          simp only [Sem.run_bind, Sem.run_pure, Result.andThen_ok]
          rw [hp, f1]
          rfl
        · rw [if_neg h0] at hzero ⊢
          subst hzero
          have hzv : (zeroValue e).run P w = .ok z w := by simp [zeroValue, typeInfo, Sem.run_bind, hi1, hi2]
          simp only [Sem.run_bind, hzv, Sem.run_pure, Result.andThen_ok]
          rw [hp, f1]
          rfl
      · have := Rep.own (w := w.alloc (.cells cells.toList.toArray e)) (ok := okOf (s.mem ++ [some ⟨e, sz, len, fun i => css.getD i []⟩]) (fun j => if j = s.mem.length then .slice (some ⟨w.heap.size, 0, none⟩) len len else hd j)) (hd := fun j => if j = s.mem.length then .slice (some ⟨w.heap.size, 0, none⟩) len len else hd j) (m := (s.mem ++ [some (⟨e, sz, len, fun i => css.getD i []⟩ : Ob)]).length) s.mem.length (by simp)
        simpa using this
    · exact hv.elim
  · exact hv.elim
end
/-- a step that leaves what was there alone -/
def vstepV (P : Program) (n : Nat) (o : Oper) (s : VS) (k : VS → Prop) : Prop :=
  match callOf o.op with
  | some (f, xs) => ∃ args', ArgsOk s.mem (xs.map (ev s)) args' ∧ VFun P f args' (fun av obs => putO n o.dst (ren (· + s.mem.length) av) { s with mem := s.mem ++ obs.map some } k)
  | none => match o.op with
    | .alloc t => valloc P t s (fun av s' => putO n o.dst av s' k)
    | .buildSlice t len parts => vlitS P t len parts.toList s (fun av s' => putO n o.dst av s' k)
    | op => quiet4 P op = true ∧ vop4 P op s (fun av s' => putO n o.dst av s' k)
def voneV (P : Program) (n : Nat) (all : List Oper) (o : Oper) (s : VS) (k : VS → Prop) : Prop :=
  match o.guard with
  | none => vstepV P n o s k
  | some (g, b) => match slotOf all g with
    | some t => match lk s.tmps t with
      | .lit (.bool c) => (c = b → vstepV P n o { s with tmps := (t, .lit (.bool b)) :: s.tmps } k) ∧ (c = !b → putO n o.dst (.lit undef) { s with tmps := (t, .lit (.bool (!b))) :: s.tmps } k)
      | .lit (.tuple _) => putO n o.dst (.lit undef) s k
      | _ => False
    | none => False
def vplan (P : Program) (n : Nat) (all : List Oper) (fin : Nat) : Plan → VS → (VS → Prop) → Prop
  | .done, s, k => k s
  | .nil, _, _ => True
  | .q i p, s, k => match all[i]? with
    | some o => vops P n all [o] s (fun s' => vplan P n all fin p s' k)
    | none => False
  | .or i p r, s, k => (match all[i]? with
    | some o => if i = fin then vops P n all [o] s (fun s' => vplan P n all fin p s' k) else voneV P n all o s (fun s' => vplan P n all fin p s' k)
    | none => False) ∧ vplan P n all fin r s k
section
variable {P : Program} {n : Nat} {base : Fr} {w0 w : World} {hd : Nat → Value} {s : VS} {a : Act}
theorem quiet_no_call {op : Op} (h : quiet4 P op = true) : callOf op = none := by
  cases op <;> try rfl
  rename_i c
  simp only [quiet4] at h
  unfold callOf
  split at h
  · rename_i h1 _ _
    simp [h1]
  · cases h
theorem vstepV_sound (h : RelH n base w0 hd s a w) (hP : base.P = P) {o : Oper} {k : VS → Prop} (hv : vstepV P n o s k) {K : Act → World → Prop} {Q : Exit → Act → World → Prop} (hK : ∀ hd' s' a' w', w.grownBy w' none → RelH n base w0 hd' s' a' w' → k s' → K a' w') : o.wp P a w K Q := by
  unfold vstepV at hv
  split at hv
  · rename_i f xs hcall
    obtain ⟨args', hargs, hfn, hc⟩ := hv
    have hrun : (execOp a.eval o).run P w = .ok (.enter f (xs.map a.eval).toArray) w := by
      unfold callOf at hcall
      split at hcall
      · rename_i c hop
        split at hcall
        · rename_i f' hcal
          simp only [Option.some.injEq, Prod.mk.injEq] at hcall
          obtain ⟨rfl, rfl⟩ := hcall
          unfold execOp
          simp only [hop]
          have e : c.args.map a.eval = (c.args.toList.map a.eval).toArray := by
            apply Array.ext'; simp
          simp only [resolve, hcal, Act.eval, Deferred.ofValue, Sem.run_bind, Sem.run_pure, Result.andThen_ok, invoke]
          simp only [List.append_toArray, Array.append_empty, Array.empty_append, e, List.nil_append, List.append_nil]
          exact run_call_of hfn _ w
        · simp at hcall
      · simp at hcall
    obtain ⟨hl, hrep⟩ := argsOk_rep h xs args' hargs
    have hcalls := hc w _ hl hrep
    unfold Oper.wp
    rw [hrun]
    simp only [Oper.upon]
    refine hcalls.mono ?_
    rintro e w' ⟨v, rfl, hg, hdc, av, obs, hk, hfl, hlit, hm, hv⟩
    have hR := h.import hg hm hlit
    obtain ⟨s'', h4, h5⟩ := putO_sound hR (hv.ren_ hfl fun q _ hq => ⟨by simp; omega, by rw [if_neg (by omega), Nat.add_sub_cancel]⟩) hk
    exact hK _ s'' _ _ hg h4 h5
  · have fin : ∀ {k' : AV → VS → Prop}, (k' = fun av s' => putO n o.dst av s' k) → EndsG P n base w0 w a ((execOp a.eval o).run P w) k' → o.wp P a w K Q := by
      rintro _ rfl ⟨v, w', hr, hg, hd', s', av, h1, h2, h3⟩
      obtain ⟨s'', h4, h5⟩ := putO_sound h1 h2 h3
      unfold Oper.wp
      rcases hr with hr | ⟨hr, rfl⟩
      · rw [hr]; exact hK _ s'' _ _ hg h4 h5
      · rw [hr]; exact hK _ s'' _ _ hg h4 h5
    split at hv
    · rename_i t hop; exact fin rfl (alloc_sound_g h hop hv)
    · rename_i t len parts hop; exact fin rfl (litS_sound_g h hop hv)
    · obtain ⟨v, av, h1, h2, h3⟩ := vop4q_sound h hP o hv.1 hv.2
      exact fin rfl ⟨v, w, .inl (h1 w (grown_none_refl w)), grown_none_refl w, hd, s, av, h, h2, h3⟩

/-- one operation of a drawn region, not the last -/
theorem voneV_sound (h : RelH n base w0 hd s a w) (hP : base.P = P) {all : List Oper} {i : Nat} {o : Oper} (hi : all.toArray[i]? = some o) {k : VS → Prop} (hv : voneV P n all o s k) {K : Act → World → Prop} (hK : ∀ hd' s' a' w', w.grownBy w' none → RelH n base w0 hd' s' a' w' → k s' → K a' w') :
    wpOp P all.toArray QNo i K a w := by
  unfold wpOp
  simp only [hi]
  unfold voneV at hv
  split at hv
  · rename_i hg
    rw [if_pos (by simp [Region.wanted, hg])]
    exact .inl (vstepV_sound h hP hv hK)
  · rename_i g b hg
    split at hv
    · rename_i t hs
      split at hv
      · rename_i c hl
        have hy := yield_of h hs hl
        by_cases hcb : c = b
        · have hR := h.again (t := t) (av := .lit (.bool b)) (by rw [hl, hcb])
          rw [if_pos (by simp [Region.wanted, hg, hy, hcb])]
          exact .inl (vstepV_sound hR hP (hv.1 hcb) hK)
        · have hcb' : c = !b := by cases c <;> cases b <;> simp_all
          have hR := h.again (t := t) (av := .lit (.bool (!b))) (by rw [hl, hcb'])
          rw [if_neg (by simp [Region.wanted, hg, hy, hcb])]
          obtain ⟨s', h1, h2⟩ := putO_sound hR (.lit undef) (hv.2 hcb')
          exact hK _ _ _ _ (grown_none_refl w) h1 h2
      · rename_i q hl
        have hy := yield_no h hs hl b
        rw [if_neg (by simp [Region.wanted, hg, hy])]
        obtain ⟨s', h1, h2⟩ := putO_sound h (.lit undef) hv
        exact hK _ _ _ _ (grown_none_refl w) h1 h2
      · exact hv.elim
    · exact hv.elim
theorem vone_sound (h : RelH n base w0 hd s a w) (hP : base.P = P) {all : List Oper} {i : Nat} {o : Oper} (hi : all.toArray[i]? = some o) {k : VS → Prop} (hv : vops P n all [o] s k) {K : Act → World → Prop} (hK : ∀ hd' s' a' w', RelH n base w0 hd' s' a' w' → k s' → K a' w') :
    wpOp P all.toArray QNo i K a w := by
  have := vops_sound (Q := fun e a w => match e with | .normal => K a w | _ => False) hP (all := all) [o] h hv (fun hd' s' a' w' h1 h2 => hK hd' s' a' w' h1 h2)
  unfold wpList at this
  unfold wpOp
  simp only [hi]
  split at this
  · rename_i hw
    rw [if_pos hw]
    rcases this with this | ⟨_, a1, w1, this⟩
    · refine .inl ?_
      unfold Oper.wp at *
      generalize (execOp a.eval o).run P w = r at *
      cases r with
      | ok nx w' =>
        cases nx <;> simp only [Oper.upon] at this ⊢ <;> first
          | exact this
          | exact Calls.mono this (fun e w'' he => by cases e <;> first | exact he | exact False.elim he | (obtain ⟨_, _, he⟩ := he; exact False.elim he))
          | exact Rows.mono this (fun _ _ he => he)
      | halt x w' => cases x <;> simp only [Oper.upon] at this ⊢ <;> exact this
    · exact False.elim this
  · rename_i hw
    rw [if_neg hw]; exact this
/-- a quiet operation of a drawn region -/
theorem vq_sound (h : RelH n base w0 hd s a w) (hP : base.P = P) {all : List Oper} {o : Oper} (hq : quiet4 P o.op = true) {k : VS → Prop} (hv : vops P n all [o] s k) : ∃ v, YG P all.toArray o v a w ∧ ∃ s', RelH n base w0 hd s' (a.put o.dst v) w ∧ k s' := by
  have step : ∀ {s : VS}, RelH n base w0 hd s a w → vstep P n o s k → ∃ v, (∀ w', w.grownBy w' none → (execOp a.eval o).run P w' = .ok (.value v) w') ∧ ∃ s', RelH n base w0 hd s' (a.put o.dst v) w ∧ k s' := by
    intro s h hv
    unfold vstep at hv
    rw [quiet_no_call hq] at hv
    obtain ⟨v, av, h1, h2, h3⟩ := vop4q_sound h hP o hq hv
    obtain ⟨s', h4, h5⟩ := putO_sound h h2 h3
    exact ⟨v, h1, s', h4, h5⟩
  simp only [vops] at hv
  split at hv
  · rename_i hg
    obtain ⟨v, h1, h2⟩ := step h hv
    exact ⟨v, .inl ⟨by simp [Region.wanted, hg], h1⟩, h2⟩
  · rename_i g b hg
    split at hv
    · rename_i t hs
      split at hv
      · rename_i c hl
        have hy := yield_of h hs hl
        by_cases hcb : c = b
        · have hR := h.again (t := t) (av := .lit (.bool b)) (by rw [hl, hcb])
          obtain ⟨v, h1, h2⟩ := step hR (hv.1 hcb)
          exact ⟨v, .inl ⟨by simp [Region.wanted, hg, hy, hcb], h1⟩, h2⟩
        · have hcb' : c = !b := by cases c <;> cases b <;> simp_all
          have hR := h.again (t := t) (av := .lit (.bool (!b))) (by rw [hl, hcb'])
          obtain ⟨s', h1, h2⟩ := putO_sound hR (.lit undef) (hv.2 hcb')
          exact ⟨undef, .inr ⟨by simp [Region.wanted, hg, hy, hcb], rfl⟩, s', h1, h2⟩
      · rename_i q hl
        have hy := yield_no h hs hl b
        obtain ⟨s', h1, h2⟩ := putO_sound h (.lit undef) hv
        exact ⟨undef, .inr ⟨by simp [Region.wanted, hg, hy], rfl⟩, s', h1, h2⟩
      · exact hv.elim
    · exact hv.elim

theorem vplan_sound (hP : base.P = P) {all : List Oper} {fin : Nat} {md : Region.Mode} (hB : finB md all.toArray fin = true) (hsel : Region.noSelect all.toArray = true) {k : VS → Prop} {Q : Act → World → Prop} (hQ : ∀ hd' s' a' w', RelH n base w0 hd' s' a' w' → k s' → Q a' w') :
    ∀ (p : Plan) (fuel : Nat) (listed : Array Bool) (m : Option (List Nat)) {hd : Nat → Value} {s : VS} {a : Act} {w : World}, RelH n base w0 hd s a w → Down md all.toArray listed → planOk P md all.toArray fin p fuel listed m = true → vplan P n all fin p s k →
      match m with
      | none => wpAnyG P md all.toArray fin Q fuel listed a w
      | some js => (∀ j, j ∈ js → j ∈ Region.ready md all.toArray listed) → ∀ fuel', fuel = fuel' + 1 → ∀ j, j ∈ js → wpOp P all.toArray QNo j (fun a' w' => (j ≠ fin → w.grownBy w' none) ∧ wpAnyG P md all.toArray fin Q fuel' (listed.setIfInBounds j true) a' w') a w := by
  intro p
  induction p with
  | done =>
    intro fuel listed m hd s a w h hdn hok hv
    cases m with
    | some js => cases js <;> simp [planOk] at hok
    | none =>
      have hr : Region.ready md all.toArray listed = [] := by simpa [planOk] using hok
      cases fuel with
      | zero => exact ⟨hr, hQ _ _ _ _ h hv⟩
      | succ fuel => exact ⟨fun _ => hQ _ _ _ _ h hv, fun i hi => by rw [hr] at hi; cases hi⟩
  | nil =>
    intro fuel listed m hd s a w h hdn hok hv
    cases m with
    | none => simp [planOk] at hok
    | some js => cases js with
      | nil => exact fun _ _ _ j hj => by cases hj
      | cons j js => simp [planOk] at hok
  | q i p ih =>
    intro fuel listed m hd s a w h hdn hok hv
    cases m with
    | some js => cases js <;> cases fuel <;> simp [planOk] at hok
    | none =>
      cases fuel with
      | zero => simp [planOk] at hok
      | succ fuel =>
        simp only [planOk, Bool.and_eq_true, bne_iff_ne, ne_eq] at hok
        obtain ⟨⟨⟨⟨hr, hf⟩, hq⟩, hif⟩, hok⟩ := hok
        have hr' : i ∈ Region.ready md all.toArray listed := by simpa using hr
        obtain ⟨_, o, ho, _⟩ := mem_ready.1 hr'
        rw [ho] at hq
        have ho' : all[i]? = some o := by simpa using ho
        simp only [vplan, ho'] at hv
        obtain ⟨v, hy, s', h1, h2⟩ := vq_sound h hP hq hv
        exact wpAnyG_first hB ho (Region.noSelect_spec hsel) hif fuel listed a w hdn (Region.free_spec ho hf) hr' hy (ih fuel _ none h1 (hdn.set hr') hok h2)
  | or i p r ihp ihr =>
    intro fuel listed m hd s a w h hdn hok hv
    have one : ∀ fuel' (hr : i ∈ Region.ready md all.toArray listed) (hok : planOk P md all.toArray fin p fuel' (listed.setIfInBounds i true) none = true), wpOp P all.toArray QNo i (fun a' w' => (i ≠ fin → w.grownBy w' none) ∧ wpAnyG P md all.toArray fin Q fuel' (listed.setIfInBounds i true) a' w') a w := by
      intro fuel' hr hok
      obtain ⟨_, o, ho, _⟩ := mem_ready.1 hr
      have ho' : all[i]? = some o := by simpa using ho
      have hv1 := hv.1
      simp only [ho'] at hv1
      split at hv1
      · rename_i e
        exact vone_sound h hP ho hv1 fun hd' s' a' w' h1 h2 => ⟨fun hn => absurd e hn, ihp fuel' _ none h1 (hdn.set hr) hok h2⟩
      · exact voneV_sound h hP ho hv1 fun hd' s' a' w' hg h1 h2 => ⟨fun _ => hg, ihp fuel' _ none h1 (hdn.set hr) hok h2⟩
    cases fuel with
    | zero => cases m with
      | none => simp [planOk] at hok
      | some js => cases js <;> simp [planOk] at hok
    | succ fuel =>
      cases m with
      | none =>
        simp only [planOk] at hok
        split at hok
        · rename_i j js hrd
          simp only [Bool.and_eq_true, beq_iff_eq] at hok
          obtain ⟨⟨rfl, hok1⟩, hok2⟩ := hok
          refine ⟨fun e => (by rw [hrd] at e; cases e), fun j hj => ?_⟩
          have hrest := ihr (fuel + 1) listed (some js) h hdn hok2 hv.2 (fun j hj => by rw [hrd]; simp [hj]) fuel rfl
          rw [hrd] at hj
          rcases List.mem_cons.1 hj with rfl | hj
          · exact one fuel (by rw [hrd]; simp) hok1
          · exact hrest j hj
        · cases hok
      | some js =>
        cases js with
        | nil => simp [planOk] at hok
        | cons j js =>
          simp only [planOk, Bool.and_eq_true, beq_iff_eq] at hok
          obtain ⟨⟨rfl, hok1⟩, hok2⟩ := hok
          intro hall fuel' hfu j hj
          cases hfu
          rcases List.mem_cons.1 hj with rfl | hj
          · exact one fuel (hall _ (by simp)) hok1
          · exact ihr (fuel + 1) listed (some js) h hdn hok2 hv.2 (fun j hj => hall j (by simp [hj])) fuel rfl j hj

/-- the facts on a drawn region's operations and its plan that the kernel checks -/
def regionOk (P : Program) (ops : Array Oper) (fin : Nat) (p : Plan) : Bool := P.follows .mixedOrders && finB .any ops fin && Region.noSelect ops && planOk P .any ops fin p ops.size (Array.replicate ops.size false) none
theorem vregion_sound (h : RelH n base w0 hd s a w) (hP : base.P = P) {id : Nat} {all : List Oper} {fin : Nat} {p : Plan} (hok : regionOk P all.toArray fin p = true) {k : VS → Prop} (hv : vplan P n all fin p s k) {Q : Exit → Act → World → Prop} (hQ : ∀ hd' s' a' w', RelH n base w0 hd' s' a' w' → k s' → Q .normal a' w') :
    (Code.region id all.toArray true).wp P Q a w := by
  simp only [regionOk, Bool.and_eq_true] at hok
  obtain ⟨⟨⟨h1, h2⟩, h3⟩, h4⟩ := hok
  refine wp_region_any h1 (wpAny_of_G (Q := fun a w => Q .normal a w) (fun _ _ h => h) _ _ _ _ (vplan_sound (w0 := w0) hP h2 h3 hQ p _ _ none (h.grown ⟨rfl, rfl, rfl, Nat.le_refl _, fun _ _ _ => rfl⟩) (fun j oj hj hl => ?_) h4 hv))
  exfalso
  rcases Nat.lt_or_ge j all.toArray.size with h' | h'
  · simp at hl h'; simp [h'] at hl
  · simp at hl h'; simp [Array.getElem?_eq_none, h'] at hl
end
end Go.Proofs.Ytnjnkhmcdkjekaa.V
