/- Contracts: a text cut into tokens, by the program. -/
import Derived.Test.YtnjnkhmcdkjekaaW29
namespace Go.Proofs.Ytnjnkhmcdkjekaa.V
open Go.RowKit
set_option linter.unusedVariables false
set_option linter.unusedSimpArgs false
set_option linter.constructorNameAsVariable false
theorem tblOk_ops {l : List POp} (h : tblOk l = 0) : tblOps l = true := by
  unfold tblOk at h
  split at h
  · cases h
  · split at h
    · cases h
    · simp_all
theorem c_Lex (l : List POp) (hl : l.length ≤ 9223372036854775807) (hw : opsWf l) (z : ByteArray) (hz : z.size ≤ 1048576) : VFun Try.prog 25 [.agg [.sl 4 l.length (opCells l)], .lit (.string z)] (fun av obs => (lexOk l z = false ∧ av = .tup [.lit (.slice none 0 0), .lit (.bool false)] ∧ obs = []) ∨ (lexOk l z = true ∧ av = .tup [.own 0, .lit (.bool true)] ∧ obs = [⟨67, 3, (lexZ l z).length, tokCells (lexZ l z)⟩])) := by
  have cl : ∀ (i : Nat) (c : AV), i < l.length → c ∈ opCells l i → Closed c := fun i c _ h => opClosed l i c h
  refine vfun_start Try.func25 (by kernel_rfl) rfl (by simp [Try.ntmps25]) ?_
  simp only [Try.ntmps25, Try.results25]
  simp [go_sem]
  refine vcall_pure (c_TableOk l hl hw) ?_ ?_
  · simp [go_sem]
    exact argSl_refl (by omega) cl
  · simp [go_sem]
    refine ⟨fun h0 => ⟨fun h1 => by simp [lexOk]; omega, fun h1 => ?_⟩, fun h0 => by simp [lexOk, h0]⟩
    have hok : lexOk l z = true := by simp [lexOk, h0]; omega
    have hops := tblOk_ops h0
    have hz2 : z.size ≤ 20000 := by omega
    refine vcall_share [] (c_indexOf l hl hw) (by simp) ?_ ?_ ?_ ?_
    · simp [go_sem]
      exact cl
    · simp [go_sem]
    · simp [go_sem]
    · rintro av mem maps ⟨b1, b2, e1, e2, rfl, rfl, rfl, hb, hat, htx⟩
      have hb' : ¬ b2 = b1 := fun e => hb e.symm
      simp [go_sem]
      refine vc_loopE (fun p : List PTok × Nat => p.2 ≤ z.size ∧ p.1.length ≤ p.2 ∧ lexFrom l z 0 = p.1 ++ lexFrom l z p.2) (fun p => z.size - p.2) (fun p => ⟨[(1, .lit (.string z)), (6, .ptr 0 2 0 0), (7, .own 1), (8, .lit (.int .i64 p.2))], [some ⟨103, 2, 1, fun _ => [.lit (.map (some b1)), .lit (.map (some b2))]⟩, some ⟨67, 3, p.1.length, tokCells p.1⟩], [(b2, ⟨9, e2⟩), (b1, ⟨93, e1⟩)], 0⟩) ⟨([], 0), ⟨by omega, by simp, by simp⟩, ?_⟩ (fun p hp => ?_)
      · refine ent_ks [1, 2] (by simp) (by simp) (by simp) (by simp) (by simp [go_sem, hb']) ?_ ?_
        · simp [go_sem]
        · simp [go_sem]
      · obtain ⟨toks, f⟩ := p
        obtain ⟨hp1, hp2, hp3⟩ := hp
        simp only at hp1 hp2 hp3
        simp [go_sem]
        refine vc_loop (fun j : Nat => f ≤ j ∧ j ≤ z.size ∧ f + run isBl z f = j + run isBl z j) (fun j => z.size - j) (fun j => ⟨[(1, .lit (.string z)), (6, .ptr 0 2 0 0), (7, .own 1), (8, .lit (.int .i64 f)), (9, .lit (.int .i64 j))], [some ⟨103, 2, 1, fun _ => [.lit (.map (some b1)), .lit (.map (some b2))]⟩, some ⟨67, 3, toks.length, tokCells toks⟩], [(b2, ⟨9, e2⟩), (b1, ⟨93, e1⟩)], 0⟩) ⟨f, ⟨by omega, by omega, by omega⟩, ?_⟩ (fun j hj => ?_)
        · simp [go_sem]
          exact ⟨hb', fun i _ c h => .closed _ (tokClosed _ i c h)⟩
        · obtain ⟨hj1, hj2, hj3⟩ := hj
          have tl : ∀ (i : Nat), i < toks.length → ∀ (c : AV), c ∈ tokCells toks i → Bd 2 c := fun i _ c h => .closed _ (tokClosed _ i c h)
          by_cases hlt : j < z.size
          · have again : isBl (byteAt z j) = true → ∃ j_1 : Nat, (f ≤ j_1 ∧ j_1 ≤ z.size ∧ f + run isBl z f = j_1 + run isBl z j_1) ∧ z.size - j_1 < z.size - j ∧ ¬b2 = b1 ∧ IntKind.i64.wrap ((j : Int) + 1) = j_1 ∧ ∀ (i : Nat), i < toks.length → ∀ (c : AV), c ∈ tokCells toks i → Bd 2 c := fun e =>
              ⟨j + 1, ⟨by omega, by omega, by rw [hj3, run_yes hlt e]; omega⟩, by omega, hb', wrap_succ (by omega), tl⟩
            cases hbl : isBl (byteAt z j) with
            | true =>
              have hc : byteAt z j = 32 ∨ byteAt z j = 9 ∨ byteAt z j = 10 := by
                simpa [isBl, or_assoc] using hbl
              rcases hc with e | e | e
              · simp [go_sem, hlt, e]
                exact again hbl
              · simp [go_sem, hlt, e]
                exact again hbl
              · simp [go_sem, hlt, e]
                exact again hbl
            | false =>
              have hc : (byteAt z j == 32) = false ∧ (byteAt z j == 9) = false ∧ (byteAt z j == 10) = false := by
                simp only [isBl, decide_eq_false_iff_not, not_or] at hbl
                simp [hbl]
              have hj4 : j = f + run isBl z f := by rw [hj3, run_no hlt hbl]; rfl
              simp [go_sem, hlt, hc]
              refine vc_drawn 4 (.q 0 <| .q 1 <| .q 2 <| .q 3 <| .or 4 (.q 5 <| .q 6 <| .q 7 <| .q 8 <| .q 9 <| .done) (.nil)) (by kernel_rfl) ?_
              simp [go_sem, hlt, hc]
              have hfr := front_eq l hops z j hlt
              have hle := longest_le l z j hlt
              have hge := longest_ge l z j
              refine ⟨by omega, vcall_share [] (c_front l b1 b2 e2 e1 htx hb (z.extract j z.size) (by rw [ByteArray.size_extract]; omega)) (by simp) ?_ ?_ ?_ ?_⟩
              · simp [go_sem]
              · simp [go_sem]
              · simp [go_sem]
              · rintro av mem maps ⟨rfl, rfl, rfl⟩
                rw [hfr]
                simp [go_sem]
                refine vc_drawn 14 (.q 0 <| .q 1 <| .q 2 <| .q 3 <| .q 4 <| .q 5 <| .q 6 <| .q 7 <| .q 8 <| .q 9 <| .q 10 <| .q 11 <| .q 12 <| .or 13 (.or 14 (.q 15 <| .done) (.nil)) (.nil)) (by kernel_rfl) ?_
                simp [go_sem]
                simp only [wrap_i64 (n := (j : Int) + longest l z j) (by omega), show ((j : Int) + longest l z j).toNat = j + longest l z j by omega]
                have hn : lexFrom l z f = ⟨kindZ l (z.extract j (j + longest l z j)), z.extract f j, z.extract j (j + longest l z j)⟩ :: lexFrom l z (j + longest l z j) := lexFrom_go hj4 hlt
                refine ⟨by omega, by omega, by omega, by omega, by omega, by omega, toks ++ [⟨kindZ l (z.extract j (j + longest l z j)), z.extract f j, z.extract j (j + longest l z j)⟩], j + longest l z j, ⟨by omega, by simp; omega, by rw [hp3, hn]; simp⟩, by omega, ?_⟩
                refine ent_ks [0, 3] (by simp) (by simp) (by simp) (by simp) (by simp [go_sem, hb']) ?_ ?_
                · simp [go_sem]
                · simp [go_sem]
                  exact .inl fun i hi => ⟨tok_app1 _ _ _ _ _ hi, fun c h => tokClosed _ i c h⟩
          · have hj5 : j = z.size := by omega
            subst hj5
            have hj4 : z.size = f + run isBl z f := by rw [hj3, run_end (by omega)]; rfl
            simp [go_sem]
            refine ⟨hp1, by omega, by omega, ?_, hok⟩
            have e3 : lexZ l z = toks ++ [⟨7, z.extract f z.size, ⟨#[]⟩⟩] := by
              simp only [lexZ, hok, if_true, hp3]
              rw [lexFrom_end hj4 (by omega)]
            rw [e3]
            exact obsSame_one.mpr ⟨⟨67, 3, toks.length + 1, tokCells (toks ++ [⟨7, z.extract f z.size, ⟨#[]⟩⟩])⟩, ⟨rfl, rfl, rfl, fun i hi => ⟨tok_app1 _ _ _ _ _ hi, rfl⟩⟩, by simp⟩
end Go.Proofs.Ytnjnkhmcdkjekaa.V
