/- Contracts: a text cut into tokens, by the specification. -/
import Derived.Test.YtnjnkhmcdkjekaaW27
import Derived.Test.YtnjnkhmcdkjekaaW24
namespace Go.Proofs.Ytnjnkhmcdkjekaa.V
open Go.RowKit
set_option linter.unusedVariables false
set_option linter.unusedSimpArgs false
set_option linter.constructorNameAsVariable false
theorem longF_ge (l : List POp) (z : ByteArray) (i : Nat) : ∀ n, 1 ≤ longF l z i n
  | 0 => by simp [longF]
  | n + 1 => by
    unfold longF
    split
    · omega
    · split
      · omega
      · exact longF_ge l z i n
theorem longF_le (l : List POp) (z : ByteArray) (i : Nat) : ∀ n, longF l z i n ≤ n ∨ longF l z i n = 1
  | 0 => by simp [longF]
  | n + 1 => by
    unfold longF
    split
    · omega
    · split
      · omega
      · rcases longF_le l z i n with h | h <;> omega
theorem longest_ge (l : List POp) (z : ByteArray) (i : Nat) : 1 ≤ longest l z i := longF_ge _ _ _ _
theorem longest_le (l : List POp) (z : ByteArray) (i : Nat) (hi : i < z.size) : i + longest l z i ≤ z.size := by
  have := reachZ_le z i hi
  unfold longest
  rcases longF_le l z i (reachZ z i) with h | h <;> omega
/-- the tokens of a text from a place on -/
def lexFrom (l : List POp) (z : ByteArray) (f : Nat) : List PTok :=
  if h : f + run isBl z f < z.size then
    ⟨kindZ l (z.extract (f + run isBl z f) (f + run isBl z f + longest l z (f + run isBl z f))), z.extract f (f + run isBl z f), z.extract (f + run isBl z f) (f + run isBl z f + longest l z (f + run isBl z f))⟩ ::
      lexFrom l z (f + run isBl z f + longest l z (f + run isBl z f))
  else [⟨7, z.extract f (f + run isBl z f), ⟨#[]⟩⟩]
termination_by z.size - f
decreasing_by
  have := longest_ge l z (f + run isBl z f)
  omega
theorem lexFrom_end {l : List POp} {z : ByteArray} {f i : Nat} (hi : i = f + run isBl z f) (h : ¬ i < z.size) : lexFrom l z f = [⟨7, z.extract f i, ⟨#[]⟩⟩] := by
  subst hi; rw [lexFrom, dif_neg h]
theorem lexFrom_go {l : List POp} {z : ByteArray} {f i : Nat} (hi : i = f + run isBl z f) (h : i < z.size) : lexFrom l z f = ⟨kindZ l (z.extract i (i + longest l z i)), z.extract f i, z.extract i (i + longest l z i)⟩ :: lexFrom l z (i + longest l z i) := by
  subst hi; rw [lexFrom, dif_pos h]
def lexOk (l : List POp) (z : ByteArray) : Bool := decide (tblOk l = 0) && decide (z.size ≤ 20000)
def lexZ (l : List POp) (z : ByteArray) : List PTok := if lexOk l z then lexFrom l z 0 else []
theorem tokAt_app (a b : List PTok) (i : Nat) : tokAt (a ++ b) i = if i < a.length then tokAt a i else tokAt b (i - a.length) := by
  unfold tokAt
  by_cases h : i < a.length
  · rw [if_pos h, List.getD_eq_getElem?_getD, List.getD_eq_getElem?_getD, List.getElem?_append_left h]
  · rw [if_neg h, List.getD_eq_getElem?_getD, List.getD_eq_getElem?_getD, List.getElem?_append_right (by omega)]
theorem tokCells_one (l : List PTok) (o : PTok) (i : Nat) (h : i < l.length + 1) : joinF l.length (tokCells l) (fun _ => o.cells) i = tokCells (l ++ [o]) i := by
  unfold joinF
  simp only [tokCells_at, tokAt_app]
  split
  · rfl
  · have : i - l.length = 0 := by omega
    rw [this]; rfl
theorem tok_app1 (toks : List PTok) (k : Int) (g x : ByteArray) (i : Nat) (hi : i < toks.length + 1) : joinF toks.length (tokCells toks) (fun i => [[AV.lit (.int .i64 k), AV.lit (.string g), AV.lit (.string x)]][i]?.getD []) i = tokCells (toks ++ [⟨k, g, x⟩]) i := by
  rw [← tokCells_one toks ⟨k, g, x⟩ i hi]
  unfold joinF
  split
  · rfl
  · have : i - toks.length = 0 := by omega
    rw [this]; rfl
@[go_sem] theorem tokOne (l : List PTok) (i : Nat) : (tokCells l i).all oneAV = true := rfl
theorem c_specLex (l : List POp) (hl : l.length ≤ 9223372036854775807) (hw : opsWf l) (z : ByteArray) (hz : z.size ≤ 1048576) : VFun Try.prog 24 [.agg [.sl 4 l.length (opCells l)], .lit (.string z)] (fun av obs => av = .tup [.own 0, .lit (.bool (lexOk l z))] ∧ obs = [⟨67, 3, (lexZ l z).length, tokCells (lexZ l z)⟩]) := by
  have cl : ∀ (i : Nat) (c : AV), i < l.length → c ∈ opCells l i → Closed c := fun i c _ h => opClosed l i c h
  refine vfun_start Try.func24 (by kernel_rfl) rfl (by simp [Try.ntmps24]) ?_
  simp only [Try.ntmps24, Try.results24]
  simp [go_sem]
  refine vcall_pure (c_specTableOk l hl hw) ?_ ?_
  · simp [go_sem]
    exact argSl_refl (by omega) cl
  · simp [go_sem]
    have bad : lexOk l z = false → ObsSame [⟨67, 3, 0, fun _ => []⟩] [⟨67, 3, (lexZ l z).length, tokCells (lexZ l z)⟩] ∧ lexOk l z = false := fun h => by
      refine ⟨?_, h⟩
      have e : lexZ l z = [] := by simp [lexZ, h]
      rw [e]
      exact obsSame_one.mpr ⟨⟨67, 3, 0, tokCells []⟩, ⟨rfl, rfl, rfl, fun j hj => by simp at hj⟩, rfl⟩
    refine ⟨fun h0 => ⟨fun h1 => bad (by simp [lexOk]; omega), fun h1 => ?_⟩, fun h0 => bad (by simp [lexOk, h0])⟩
    have hok : lexOk l z = true := by simp [lexOk, h0]; omega
    have hz2 : z.size ≤ 20000 := by omega
    refine vc_loopE (fun p : List PTok × Nat => p.2 ≤ z.size ∧ p.1.length ≤ p.2 ∧ lexFrom l z 0 = p.1 ++ lexFrom l z p.2) (fun p => z.size - p.2) (fun p => .of [(1, .lit (.string z)), (2, .ptr 0 1 0 0), (6, .own 1), (7, .lit (.int .i64 p.2))] [some ⟨35, 1, 1, fun _ => [.sl 4 l.length (opCells l)]⟩, some ⟨67, 3, p.1.length, tokCells p.1⟩]) ⟨([], 0), ⟨by omega, by simp, by simp⟩, ?_⟩ (fun p hp => ?_)
    · refine ent_ks [0, 1] (by simp) (by simp) (by simp) (by simp) trivial ?_ ?_
      · simp [go_sem]
      · simp [go_sem]
        exact cl
    · obtain ⟨toks, f⟩ := p
      obtain ⟨hp1, hp2, hp3⟩ := hp
      simp only at hp1 hp2 hp3
      simp [go_sem]
      refine vc_loop (fun j : Nat => f ≤ j ∧ j ≤ z.size ∧ f + run isBl z f = j + run isBl z j) (fun j => z.size - j) (fun j => .of [(1, .lit (.string z)), (2, .ptr 0 1 0 0), (6, .own 1), (7, .lit (.int .i64 j)), (8, .lit (.int .i64 f))] [some ⟨35, 1, 1, fun _ => [.sl 4 l.length (opCells l)]⟩, some ⟨67, 3, toks.length, tokCells toks⟩]) ⟨f, ⟨by omega, by omega, by omega⟩, ?_⟩ (fun j hj => ?_)
      · simp [go_sem]
        exact ⟨cl, fun i _ c h => .closed _ (tokClosed _ i c h)⟩
      · obtain ⟨hj1, hj2, hj3⟩ := hj
        simp [go_sem]
        refine ⟨fun h => ⟨h, vcall_pure (c_l2Blank (byteAt z j)) ?_ ?_⟩, fun h => ?_⟩
        · simp [go_sem]
        · simp [go_sem]
          refine ⟨fun e => ?_, fun e => ?_⟩
          · exact ⟨j + 1, ⟨by omega, by omega, by rw [hj3, run_yes h e]; omega⟩, by omega, wrap_succ (by omega), cl, fun i _ c h => .closed _ (tokClosed _ i c h)⟩
          · have hj4 : j = f + run isBl z f := by rw [hj3, run_no h e]; rfl
            have hlo := longest_ge l z j
            have hle := longest_le l z j h
            refine ⟨fun e2 => absurd e2 (by omega), fun e2 => vcall_pure (c_l2Longest l hl z hz j h) ?_ ?_⟩
            · simp [go_sem]
              exact argSl_refl (by omega) cl
            · simp [go_sem]
              refine vc_drawn 21 (.q 0 <| .q 1 <| .q 2 <| .q 3 <| .q 4 <| .q 5 <| .q 6 <| .q 7 <| .q 9 <| .q 10 <| .q 11 <| .q 12 <| .q 13 <| .q 14 <| .q 15 <| .q 16 <| .q 17 <| .q 18 <| .or 8 (.q 19 <| .or 20 (.or 21 (.q 22 <| .done) (.nil)) (.nil)) (.nil)) (by kernel_rfl) ?_
              simp [go_sem]
              simp only [wrap_i64 (n := (j : Int) + longest l z j) (by omega), show ((j : Int) + longest l z j).toNat = j + longest l z j by omega]
              refine ⟨by omega, by omega, by omega, by omega, by omega, by omega, vcallV_pure (c_l2Kind l hl (z.extract j (j + longest l z j)) (by rw [ByteArray.size_extract]; omega)) ?_ ?_⟩
              · simp [go_sem]
                exact argSl_refl (by omega) cl
              · simp [go_sem]
                have hn : lexFrom l z f = ⟨kindZ l (z.extract j (j + longest l z j)), z.extract f j, z.extract j (j + longest l z j)⟩ :: lexFrom l z (j + longest l z j) := lexFrom_go hj4 h
                refine ⟨by omega, by omega, toks ++ [⟨kindZ l (z.extract j (j + longest l z j)), z.extract f j, z.extract j (j + longest l z j)⟩], j + longest l z j, ⟨by omega, by simp; omega, by rw [hp3, hn]; simp⟩, by omega, ?_⟩
                refine ent_ks [0, 3] (by simp) (by simp) (by simp) (by simp) trivial ?_ ?_
                · simp [go_sem]
                  rw [wrap_i64 (by omega)]
                · simp [go_sem]
                  exact ⟨cl, .inl fun i hi => ⟨tok_app1 _ _ _ _ _ hi, fun c h => tokClosed _ i c h⟩⟩
        · have hj5 : j = z.size := by omega
          subst hj5
          have hj4 : z.size = f + run isBl z f := by rw [hj3, run_end (by omega)]; rfl
          refine ⟨fun e2 => ⟨hp1, by omega, by omega, by omega, ?_, hok⟩, fun e2 => absurd rfl e2⟩
          have e3 : lexZ l z = toks ++ [⟨7, z.extract f z.size, ⟨#[]⟩⟩] := by
            simp only [lexZ, hok, if_true, hp3]
            rw [lexFrom_end hj4 (by omega)]
          rw [e3]
          refine obsSame_one.mpr ⟨⟨67, 3, toks.length + 1, tokCells (toks ++ [⟨7, z.extract f z.size, ⟨#[]⟩⟩])⟩, ⟨rfl, rfl, rfl, fun i hi => ?_⟩, by simp⟩
          exact ⟨tok_app1 _ _ _ _ _ hi, rfl⟩
end Go.Proofs.Ytnjnkhmcdkjekaa.V
