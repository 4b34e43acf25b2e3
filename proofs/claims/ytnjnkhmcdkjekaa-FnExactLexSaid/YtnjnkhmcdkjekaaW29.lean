/- Contracts: the program's index of a table. -/
import Derived.Test.YtnjnkhmcdkjekaaW30
namespace Go.Proofs.Ytnjnkhmcdkjekaa.V
open Go.RowKit
open Go.Maps (Keyed)
set_option linter.unusedVariables false
set_option linter.unusedSimpArgs false
set_option linter.constructorNameAsVariable false
def AtIs (l : List POp) (i : Nat) (es : List (Value × Value)) : Prop := (∀ j, j < i → (mget es (placeV (opAt l j))).isSome = true) ∧ ∀ x v, mget es x = some v → ∃ j, j < i ∧ x = placeV (opAt l j) ∧ v = opV (opAt l j)
def TextIs (l : List POp) (i : Nat) (es : List (Value × Value)) : Prop := (∀ j, j < i → (mget es (.string (opAt l j).text)).isSome = true) ∧ ∀ x v, mget es x = some v → (∃ j, j < i ∧ x = .string (opAt l j).text) ∧ ∃ n, v = .int .i64 n
theorem atIs_step {l : List POp} {i : Nat} {es : List (Value × Value)} (h : AtIs l i es) : AtIs l (i + 1) (mput es (placeV (opAt l i)) (opV (opAt l i))) := by
  refine ⟨fun j hj => ?_, fun x v hv => ?_⟩
  · rw [mget_mput]
    split
    · rfl
    · rename_i hne
      rcases Nat.lt_succ_iff_lt_or_eq.mp hj with hj | rfl
      · exact h.1 j hj
      · exact absurd rfl hne
  · rw [mget_mput] at hv
    split at hv
    · rename_i e
      cases hv
      exact ⟨i, by omega, e.symm, rfl⟩
    · obtain ⟨j, hj, e⟩ := h.2 x v hv
      exact ⟨j, by omega, e⟩
theorem textIs_step {l : List POp} {i : Nat} {es : List (Value × Value)} (h : TextIs l i es) (n : Int) : TextIs l (i + 1) (mput es (.string (opAt l i).text) (.int .i64 n)) := by
  refine ⟨fun j hj => ?_, fun x v hv => ?_⟩
  · rw [mget_mput]
    split
    · rfl
    · rename_i hne
      rcases Nat.lt_succ_iff_lt_or_eq.mp hj with hj | rfl
      · exact h.1 j hj
      · exact absurd rfl hne
  · rw [mget_mput] at hv
    split at hv
    · rename_i e
      cases hv
      exact ⟨⟨i, by omega, e.symm⟩, n, rfl⟩
    · obtain ⟨⟨j, hj, e⟩, m⟩ := h.2 x v hv
      exact ⟨⟨j, by omega, e⟩, m⟩
theorem c_indexOf (l : List POp) (hl : l.length ≤ 9223372036854775807) (hw : opsWf l) : VProc Try.prog 59 [.agg [.sl 4 l.length (opCells l)]] [] [] (fun av mem maps => ∃ b1 b2 e1 e2, av = .agg [.lit (.map (some b1)), .lit (.map (some b2))] ∧ mem = [] ∧ maps = [(b2, ⟨9, e2⟩), (b1, ⟨93, e1⟩)] ∧ b1 ≠ b2 ∧ AtIs l l.length e1 ∧ TextIs l l.length e2) := by
  have cl : ∀ (i : Nat) (c : AV), i < l.length → c ∈ opCells l i → Closed c := fun i c _ h => opClosed l i c h
  refine vproc_start Try.func59 (by kernel_rfl) rfl (by simp [Try.ntmps59]) ?_
  simp only [Try.ntmps59, Try.results59]
  simp [go_sem]
  refine fun b1 b2 hb => ⟨by omega, ?_⟩
  have hb' : ¬ b2 = b1 := fun e => hb e.symm
  refine vc_loop (fun p : Nat × List (Value × Value) × List (Value × Value) => p.1 ≤ l.length ∧ AtIs l p.1 p.2.1 ∧ TextIs l p.1 p.2.2) (fun p => l.length - p.1)
    (fun p => ⟨[(2, .ptr 1 2 0 0), (3, .ptr 2 2 0 0), (10, .sl 4 l.length (opCells l)), (11, .lit (.int .i64 l.length)), (12, .lit (.int .i64 p.1))],
      [none, some ⟨103, 2, 1, fun _ => [.lit (.map none), .lit (.map none)]⟩, some ⟨103, 2, 1, fun _ => [.lit (.map (some b1)), .lit (.map (some b2))]⟩], [(b2, ⟨9, p.2.2⟩), (b1, ⟨93, p.2.1⟩)], 0⟩) ⟨(0, [], []), ⟨by omega, ⟨by simp, by simp [mget]⟩, by simp, by simp [mget]⟩, ?_⟩ (fun p hp => ?_)
  · simp [go_sem]
    exact ⟨fun e => hb e.symm, cl⟩
  · obtain ⟨i, e1, e2⟩ := p
    simp only at hp
    simp [go_sem, opCells_at]
    refine ⟨fun h => ⟨h, vc_drawn 5 (.q 0 <| .q 1 <| .q 2 <| .q 4 <| .or 3 (.or 5 (.done) (.nil)) (.nil)) (by kernel_rfl) ?_⟩, fun h => ?_⟩
    · simp [go_sem]
      refine vcallV_val (c_placeOf (opAt l i)) ?_ ?_ ?_
      · simp [go_sem, POp.cells]
      · simp [go_sem]
      · simp [go_sem, hb, hb']
        refine vmsetK_use keyedPlace (keyPlace (hw i h)) ?_
        simp [go_sem, hb, hb']
        simp only [placeV_fold, opV_fold]
        refine vlookK_use keyedString (keyString (hw i h)) _ zeroInt ?_
        have fin : ∀ n : Int, ∃ j es1 es2, (j ≤ l.length ∧ AtIs l j es1 ∧ TextIs l j es2) ∧ l.length - j < l.length - i ∧ (mput e2 (.string (opAt l i).text) (.int .i64 n) = es2 ∧ mput e1 (placeV (opAt l i)) (opV (opAt l i)) = es1) ∧ ((∀ (i : Nat) (c : AV), i < l.length → c ∈ opCells l i → Closed c) ∧ IntKind.i64.wrap ((i : Int) + 1) = j) := fun n =>
          ⟨i + 1, _, _, ⟨by omega, atIs_step hp.2.1, textIs_step hp.2.2 n⟩, by omega, ⟨rfl, rfl⟩, cl, wrap_succ (by omega)⟩
        cases hm : mget e2 (.string (opAt l i).text) with
        | none =>
          simp [go_sem, hb, hb']
          refine vmsetK_use keyedString (keyString (hw i h)) ?_
          simp [go_sem, hb, hb']
          exact fin _
        | some v =>
          obtain ⟨_, n, rfl⟩ := hp.2.2.2 _ _ hm
          simp [go_sem, hb, hb']
          refine vmsetK_use keyedString (keyString (hw i h)) ?_
          simp [go_sem, hb, hb']
          exact fin _
    · have hi : i = l.length := by omega
      subst hi
      refine ⟨rfl, [], [], by simp, by simp, by simp [go_sem], by simp [go_sem], by simp [go_sem], ?_⟩
      simp [go_sem]
      exact ⟨b1, b2, ⟨rfl, rfl⟩, e1, e2, ⟨⟨rfl, rfl⟩, rfl, rfl⟩, hb, hp.2⟩
/-! what stands in front of a text -/
theorem textIs_has {l : List POp} {es : List (Value × Value)} (h : TextIs l l.length es) (z : ByteArray) : (mget es (.string z)).isSome = textHas l z := by
  cases e : textHas l z with
  | true =>
    simp only [textHas, List.any_eq_true, List.mem_range, decide_eq_true_eq] at e
    obtain ⟨j, hj, rfl⟩ := e
    exact h.1 j hj
  | false =>
    rw [Bool.eq_false_iff]
    intro h1
    obtain ⟨v, hv⟩ := Option.isSome_iff_exists.1 h1
    obtain ⟨⟨j, hj, e2⟩, _⟩ := h.2 _ v hv
    simp only [textHas, List.any_eq_false, List.mem_range, decide_eq_true_eq] at e
    simp only [Value.string.injEq] at e2
    exact e j hj e2.symm
theorem c_front (l : List POp) (b1 b2 : Nat) (es e1 : List (Value × Value)) (h : TextIs l l.length es) (hb : ¬ b1 = b2) (z : ByteArray) (hz : 0 < z.size ∧ z.size ≤ 1048576) : VProc Try.prog 60 [.agg [.lit (.map (some b1)), .lit (.map (some b2))], .lit (.string z)] [] [(b2, ⟨9, es⟩)] (fun av mem maps => av = .tup [.lit (.int .i64 (front l z).1), .lit (.int .i64 (front l z).2)] ∧ mem = [] ∧ maps = [(b2, ⟨9, es⟩)]) := by
  refine vproc_start Try.func60 (by kernel_rfl) rfl (by simp [Try.ntmps60]) ?_
  simp only [Try.ntmps60, Try.results60]
  simp [go_sem]
  have fin : ∀ (t : List (Nat × AV)) (m : List (Option Ob)) (k : Int) (n : Nat), front l z = (k, n) → vendP [(b2, ⟨9, es⟩)] (fun av mem maps => av = .tup [.lit (.int .i64 (front l z).1), .lit (.int .i64 (front l z).2)] ∧ mem = [] ∧ maps = [(b2, ⟨9, es⟩)]) ⟨t, m, [(b2, ⟨9, es⟩)], 0⟩ (.tup [.lit (.int .i64 k), .lit (.int .i64 n)]) := by
    intro t m k n h3
    refine ⟨rfl, [], [], by simp, by simp, by simp [go_sem], by simp [go_sem], by simp [go_sem], ?_⟩
    simp [go_sem, h3]
  refine ⟨hz.1, vcall_pure (c_isDigit (byteAt z 0)) ?_ ?_⟩
  · simp [go_sem]
  · simp [go_sem]
    refine ⟨fun e1 => ?_, fun e1 => vcall_pure (c_isLetter (byteAt z 0)) ?_ ?_⟩
    · refine vc_loop (fun n : Nat => 1 ≤ n ∧ n ≤ z.size ∧ 1 + run isDg z 1 = n + run isDg z n) (fun n => z.size - n) (fun n => ⟨[(1, .lit (.string z)), (6, .lit (.int .i64 n))], [], [(b2, ⟨9, es⟩)], 0⟩) ⟨1, ⟨by omega, by omega, rfl⟩, ?_⟩ (fun n hn => ?_)
      · simp [go_sem]
      · simp [go_sem]
        refine ⟨fun h1 => ⟨h1, vcall_pure (c_isDigit (byteAt z n)) ?_ ?_⟩, fun h1 => ?_⟩
        · simp [go_sem]
        · simp [go_sem]
          refine ⟨fun e => ⟨n + 1, ⟨by omega, by omega, ?_⟩, by omega, wrap_succ (by omega)⟩, fun e => fin _ _ _ _ ?_⟩
          · rw [hn.2.2, run_yes h1 e]; omega
          · simp only [front, e1, if_true, hn.2.2, run_no h1 e]; rfl
        · refine fin _ _ _ _ ?_
          simp only [front, e1, if_true, hn.2.2, run_end (show z.size ≤ n by omega)]; rfl
    · simp [go_sem]
    · simp [go_sem]
      refine ⟨fun e2 => ?_, fun e2 => ⟨fun e3 => fin _ _ _ 1 ?_, fun e3 => ⟨fun e4 => fin _ _ _ 1 ?_, fun e4 => ?_⟩⟩⟩
      · refine vc_loop (fun n : Nat => 1 ≤ n ∧ n ≤ z.size ∧ 1 + run alnum z 1 = n + run alnum z n) (fun n => z.size - n) (fun n => ⟨[(1, .lit (.string z)), (6, .lit (.int .i64 n))], [], [(b2, ⟨9, es⟩)], 0⟩) ⟨1, ⟨by omega, by omega, rfl⟩, ?_⟩ (fun n hn => ?_)
        · simp [go_sem]
        · simp [go_sem]
          have done_ : n < z.size → alnum (byteAt z n) = true → ∃ m : Nat, (1 ≤ m ∧ m ≤ z.size ∧ 1 + run alnum z 1 = m + run alnum z m) ∧ z.size - m < z.size - n ∧ IntKind.i64.wrap ((n : Int) + 1) = m := fun h1 e => ⟨n + 1, ⟨by omega, by omega, by rw [hn.2.2, run_yes h1 e]; omega⟩, by omega, wrap_succ (by omega)⟩
          refine ⟨fun h1 => ⟨h1, vcall_pure (c_isLetter (byteAt z n)) ?_ ?_⟩, fun h1 => ?_⟩
          · simp [go_sem]
          · cases eL : isLt (byteAt z n) with
            | true =>
              simp [go_sem]
              exact done_ h1 (by simp [alnum, eL])
            | false =>
              simp [go_sem]
              refine ⟨h1, vcall_pure (c_isDigit (byteAt z n)) ?_ ?_⟩
              · simp [go_sem]
              · simp [go_sem]
                refine ⟨fun e => done_ h1 (by simp [alnum, e]), fun e => fin _ _ _ _ ?_⟩
                simp only [front, e1, e2, if_true, hn.2.2, run_no h1 (show alnum (byteAt z n) = false by simp [alnum, eL, e])]; rfl
          · refine fin _ _ _ _ ?_
            simp only [front, e1, e2, if_true, hn.2.2, run_end (show z.size ≤ n by omega)]; rfl
      · simp only [front, e1, e2, e3]; rfl
      · simp only [front, e1, e2, e3, e4]; rfl
      · have hf : ∀ k : Nat, opFront l z (if z.size < 16 then z.size else 16) = opFront l z k → front l z = opFront l z k := fun k hk => by
          simp only [front, e1, e2, if_neg e3, if_neg e4, hk]; rfl
        refine vc_loop (fun k : Nat => k ≤ z.size ∧ opFront l z (if z.size < 16 then z.size else 16) = opFront l z k) (fun k => k) (fun k => ⟨[(1, .lit (.string z)), (2, .ptr 0 2 0 0), (8, .lit (.int .i64 k))], [some ⟨103, 2, 1, fun _ => [.lit (.map (some b1)), .lit (.map (some b2))]⟩], [(b2, ⟨9, es⟩)], 0⟩) ⟨_, ⟨?_, rfl⟩, ?_⟩ (fun k hk => ?_)
        · split <;> omega
        · simp [go_sem]
          split <;> split <;> omega
        · simp [go_sem]
          refine ⟨fun h1 => vc_drawn 11 (.q 0 <| .q 1 <| .q 2 <| .q 3 <| .q 4 <| .q 5 <| .q 6 <| .q 7 <| .q 8 <| .q 9 <| .q 10 <| .done) (by kernel_rfl) ?_, fun h1 => ?_⟩
          · simp [go_sem]
            refine ⟨hk.1, ?_⟩
            refine vlookK_use keyedString (keyString (by rw [ByteArray.size_extract]; simp only [maxLen]; omega)) _ zeroInt ?_
            simp [go_sem, textIs_has h]
            obtain ⟨m, rfl⟩ : ∃ m, k = m + 1 := ⟨k - 1, by omega⟩
            cases ht : textHas l (z.extract 0 (m + 1)) with
            | true =>
              simp [go_sem]
              refine fin _ _ 3 (m + 1) ?_
              rw [hf _ hk.2]
              simp only [opFront, ht, if_true]
            | false =>
              simp [go_sem]
              refine ⟨m, ⟨by omega, ?_⟩, by omega, wrap_i64 (by omega)⟩
              rw [hk.2]
              simp only [opFront, ht]
              rfl
          · subst h1
            refine fin _ _ 6 1 ?_
            rw [hf _ hk.2]; rfl
end Go.Proofs.Ytnjnkhmcdkjekaa.V
