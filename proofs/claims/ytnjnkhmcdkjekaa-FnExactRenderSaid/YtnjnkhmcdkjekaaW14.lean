/- Contracts: the law of TableOk; tables as arguments. -/
import Derived.Test.YtnjnkhmcdkjekaaW13
namespace Go.Proofs.Ytnjnkhmcdkjekaa.V
open Go.RowKit
set_option linter.unusedVariables false
set_option linter.unusedSimpArgs false
set_option linter.constructorNameAsVariable false
def AVIn (a b : AV) : Prop := ∀ (w : World) (ok : Nat → Prop) (hd : Nat → Value) (m : Nat) (v : Value), Rep w ok hd m a v → Rep w ok hd m b v
theorem AVIn.refl (a : AV) : AVIn a a := fun _ _ _ _ _ h => h
theorem avIn_sl {sz n : Nat} {f g : Nat → List AV} (h : ∀ i, i < n → f i = g i) : AVIn (.sl sz n f) (.sl sz n g) := by
  intro w ok hd m v hr
  cases hr with
  | sl _ _ _ A c u hc hm hsz hl ha hr => exact .sl sz n g A c u hc hm hsz (fun i hi => by rw [← h i hi]; exact hl i hi) ha fun i j a hi hj => hr i j a hi (by rw [h i hi]; exact hj)
theorem avIn_agg {a b : AV} (h : AVIn a b) : AVIn (.agg [a]) (.agg [b]) := by
  intro w ok hd m v hr
  cases hr with
  | agg _ vs hl hr => refine .agg _ vs (by simpa using hl) fun j x u hx hu => ?_
                      cases j with
                      | zero => simp at hx; subst hx; exact h _ _ _ _ _ (hr 0 a u rfl hu)
                      | succ j => simp at hx
def ArgsIn : List AV → List AV → Prop
  | [], [] => True
  | a :: r, b :: r' => AVIn a b ∧ ArgsIn r r'
  | _, _ => False
theorem argsIn_get : ∀ {l l' : List AV}, ArgsIn l l' → l.length = l'.length ∧ ∀ (j : Nat) a b, l[j]? = some a → l'[j]? = some b → AVIn a b
  | [], [], _ => ⟨rfl, fun j a b h => by simp at h⟩
  | a :: r, b :: r', h => by
    obtain ⟨h1, h2⟩ := argsIn_get h.2
    refine ⟨by simp [h1], fun j x y hx hy => ?_⟩
    cases j with
    | zero =>
      simp only [List.getElem?_cons_zero, Option.some.injEq] at hx hy
      subst hx; subst hy; exact h.1
    | succ j => exact h2 j x y (by simpa using hx) (by simpa using hy)
  | [], _ :: _, h => h.elim
  | _ :: _, [], h => h.elim
theorem VFun.congr {P : Program} {f : FuncId} {args args' : List AV} {R : AV → List Ob → Prop} (h : VFun P f args' R) (ha : ArgsIn args args') : VFun P f args R := by
  obtain ⟨h1, h2⟩ := argsIn_get ha
  refine ⟨h.1, fun w vs hl hv => h.2 w vs (by omega) fun j b u hb hu => ?_⟩
  have hj : j < args.length := by have := (List.getElem?_eq_some_iff.1 hb).1; omega
  exact h2 j _ b (List.getElem?_eq_getElem hj) hb _ _ _ _ _ (hv j _ u (List.getElem?_eq_getElem hj) hu)
/-- rows that read as operators are a list of operators -/
theorem rows_of {α : Type} [Inhabited α] (cells : α → List AV) (p : α → Prop) {m : Nat} {f : Nat → List AV} (h : ∀ i, i < m → ∃ o, p o ∧ f i = cells o) : ∃ l : List α, l.length = m ∧ (∀ i, i < m → p (l.getD i default)) ∧ ∀ i, i < m → f i = cells (l.getD i default) := by
  induction m with
  | zero => exact ⟨[], rfl, fun i hi => by omega, fun i hi => by omega⟩
  | succ m ih =>
    obtain ⟨l, h1, h2, h3⟩ := ih fun i hi => h i (by omega)
    obtain ⟨o, h4, h5⟩ := h m (by omega)
    have low : ∀ i, i < m → (l ++ [o]).getD i default = l.getD i default := fun i hi => by
      rw [List.getD_eq_getElem?_getD, List.getD_eq_getElem?_getD, List.getElem?_append_left (by omega)]
    have hi : (l ++ [o]).getD m default = o := by
      rw [List.getD_eq_getElem?_getD, List.getElem?_append_right (by omega)]; simp [h1]
    refine ⟨l ++ [o], by simp [h1], fun i hi' => ?_, fun i hi' => ?_⟩
    · rcases Nat.lt_succ_iff_lt_or_eq.mp hi' with hlt | rfl
      · rw [low i hlt]; exact h2 i hlt
      · rw [hi]; exact h4
    · rcases Nat.lt_succ_iff_lt_or_eq.mp hi' with hlt | rfl
      · rw [low i hlt]; exact h3 i hlt
      · rw [hi]; exact h5
set_option maxRecDepth 100000 in
theorem shape_table (n : Nat) (xs : List AV) (h : Shape Try.prog (n + 4) 31 xs) : ∃ l : List POp, l.length ≤ maxLen ∧ opsWf l ∧ ∃ f, xs = [.sl 4 l.length f] ∧ ∀ i, i < l.length → f i = opCells l i := by
  obtain ⟨parts, h0, rfl⟩ := shape_struct Try.underlying31 h
  clear h
  simp only [List.toList_toArray, all2_cons, all2_nil] at h0
  obtain ⟨_, _, rfl, ⟨_, h1⟩, rfl⟩ := h0
  obtain ⟨m, f, rfl, hm, hf⟩ := shape_slice Try.underlying29 h1
  have hc : Try.prog.cellsOf 134 = 4 := by kernel_rfl
  obtain ⟨l, rfl, h2, h3⟩ := rows_of POp.cells POp.wf fun i hi => shape_op n (f i) (hf i hi).2
  exact ⟨l, hm, h2, f, by rw [hc]; rfl, h3⟩
theorem opEq_refl (a : POp) : opEq a a = true := by simp [opEq, ba_beq]
theorem opsEq_refl (a : List POp) : opsEq a a = true := opsEq_true rfl fun i _ => opEq_refl _
theorem c_FnExactTableOk (l : List POp) (hl : l.length ≤ maxLen) (hw : opsWf l) : VFun Try.prog 5 [.agg [.sl 4 l.length (opCells l)]] (fun av _ => av = .lit (.bool true)) := by
  have cl : ∀ (i : Nat) (c : AV), i < l.length → c ∈ opCells l i → Closed c := fun i c _ h => opClosed l i c h
  have hl' : l.length ≤ 9223372036854775807 := by simpa [maxLen] using hl
  refine vfun_start Try.func5 (by kernel_rfl) rfl (by simp [Try.ntmps5]) ?_
  simp only [Try.ntmps5, Try.results5]
  simp [go_sem]
  refine vcall_use (c_szTable l 1048576 hl hw (by decide) (by decide)) ?_ ?_
  · simp [go_sem]
    exact argSl_refl (by omega) cl
  · rintro av obs ⟨rfl, rfl | ⟨h0, rfl⟩⟩
    · simp [go_sem]
    · simp [go_sem]
      refine fun _ => vcall_use (c_toTable l (by omega)) ?_ ?_
      · simp [go_sem]
        exact argSl_refl (by omega) cl
      · rintro av obs ⟨rfl, rfl⟩
        simp [go_sem]
        refine vcall_pure (c_specTableOk l hl' hw) ?_ ?_
        · simp [go_sem]
          exact argSl_own (k := 1) rfl (by omega) cl
        · simp [go_sem]
          refine vcall_use (c_toTable l (by omega)) ?_ ?_
          · simp [go_sem]
            exact argSl_refl (by omega) cl
          · rintro av obs ⟨rfl, rfl⟩
            simp [go_sem]
            refine vcall_pure (c_TableOk l hl' hw) ?_ ?_
            · simp [go_sem]
              exact argSl_own (k := 2) rfl (by omega) cl
            · simp [go_sem]
              refine vc_drawn 5 (.q 0 <| .q 1 <| .or 2 (.or 3 (.q 4 <| .done) (.nil)) (.nil)) (by kernel_rfl) ?_
              simp [go_sem]
              refine vcallV_use (c_toTable l (by omega)) ?_ ?_
              · simp [go_sem]
                exact argSl_refl (by omega) cl
              · rintro av obs ⟨rfl, rfl⟩
                simp [go_sem]
                refine vcallV_pure (c_eqTable l l hl' hl') ?_ ?_
                · simp [go_sem]
                  exact ⟨argSl_own (k := 2) rfl (by omega) cl, argSl_own (k := 4) rfl (by omega) cl⟩
                · simp [go_sem, opsEq_refl]
end Go.Proofs.Ytnjnkhmcdkjekaa.V
