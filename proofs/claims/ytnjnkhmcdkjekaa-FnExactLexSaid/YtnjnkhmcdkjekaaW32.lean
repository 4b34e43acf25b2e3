/- Contracts: the law of Lex. -/
import Derived.Test.YtnjnkhmcdkjekaaW31
import Derived.Test.YtnjnkhmcdkjekaaW25
namespace Go.Proofs.Ytnjnkhmcdkjekaa.V
open Go.RowKit
set_option linter.unusedVariables false
set_option linter.unusedSimpArgs false
set_option linter.constructorNameAsVariable false
/-- a nil slice as the first of two results: an own row of none -/
theorem VFun.adopt {P : Program} {f : FuncId} {args : List AV} {R R' : AV → List Ob → Prop} (h : VFun P f args R) (ty sz : Nat) (hsz : 0 < sz) (g : Nat → List AV)
    (hr : ∀ av obs, R av obs → R' av obs ∨ ∃ x, av = .tup [.lit (.slice none 0 0), .lit x] ∧ obs = [] ∧ R' (.tup [.own 0, .lit x]) [⟨ty, sz, 0, g⟩]) : VFun P f args R' := by
  refine ⟨h.1, fun w vs hl hv => (h.2 w vs hl hv).mono fun e w' ⟨v, e1, gr, hd, av, obs, r, fl, hlit, hm, hrep⟩ => ?_⟩
  rcases hr av obs r with r' | ⟨x, rfl, rfl, r'⟩
  · exact ⟨v, e1, gr, hd, av, obs, r', fl, hlit, hm, hrep⟩
  · refine ⟨v, e1, gr, fun _ => .slice none 0 0, _, _, r', rfl, fun ob ho i hi => ?_, ⟨fun k ob hk b hb => ?_, fun k ob hk => ?_, fun k hk => ⟨none, 0, 0, rfl⟩, fun k k' o o' hk hk' hne => .inl rfl⟩, ?_⟩
    · simp only [List.mem_singleton] at ho
      subst ho
      simp at hi
    · simp [Value.ownBlock] at hb
    · cases k with
      | zero =>
        simp only [List.map_cons, List.map_nil, List.getElem?_cons_zero, Option.some.injEq] at hk
        subst hk
        exact ⟨hsz, [], ⟨by simp, .inl ⟨rfl, rfl⟩⟩, fun i hi => by simp at hi⟩
      | succ k => simp at hk
    · cases hrep with
      | tup _ us hl2 hr2 =>
        match us, hl2 with
        | [u1, u2], _ =>
          have q1 := hr2 0 _ u1 rfl rfl
          have q2 := hr2 1 _ u2 rfl rfl
          cases q1
          cases q2
          refine .tup _ [.slice none 0 0, x] rfl fun j a u ha hu => ?_
          match j with
          | 0 =>
            simp only [List.getElem?_cons_zero, Option.some.injEq] at ha hu
            subst ha; subst hu
            exact .own (hd := fun _ => .slice none 0 0) 0 (by simp)
          | 1 =>
            simp only [List.getElem?_cons_succ, List.getElem?_cons_zero, Option.some.injEq] at ha hu
            subst ha; subst hu
            exact .lit _
          | j + 2 => simp at ha
theorem c_LexO (l : List POp) (hl : l.length ≤ 9223372036854775807) (hw : opsWf l) (z : ByteArray) (hz : z.size ≤ 1048576) : VFun Try.prog 25 [.agg [.sl 4 l.length (opCells l)], .lit (.string z)] (fun av obs => av = .tup [.own 0, .lit (.bool (lexOk l z))] ∧ obs = [⟨67, 3, (lexZ l z).length, tokCells (lexZ l z)⟩]) := by
  refine (c_Lex l hl hw z hz).adopt 67 3 (by omega) (tokCells []) fun av obs h => ?_
  rcases h with ⟨h1, rfl, rfl⟩ | ⟨h1, rfl, rfl⟩
  · refine .inr ⟨_, rfl, rfl, ?_⟩
    have e : lexZ l z = [] := by simp [lexZ, h1]
    rw [h1, e]
    exact ⟨rfl, rfl⟩
  · exact .inl ⟨by rw [h1], rfl⟩
theorem lexFrom_len (l : List POp) (z : ByteArray) (f : Nat) (h : f ≤ z.size) : (lexFrom l z f).length + f ≤ z.size + 1 := by
  by_cases hi : f + run isBl z f < z.size
  · rw [lexFrom_go rfl hi]
    have h1 := longest_ge l z (f + run isBl z f)
    have h2 := longest_le l z (f + run isBl z f) hi
    have := lexFrom_len l z (f + run isBl z f + longest l z (f + run isBl z f)) h2
    simp only [List.length_cons]
    omega
  · rw [lexFrom_end rfl hi]
    simp
    omega
termination_by z.size - f
theorem lexZ_len (l : List POp) (z : ByteArray) : (lexZ l z).length ≤ z.size + 1 := by
  unfold lexZ
  split
  · have := lexFrom_len l z 0 (by omega)
    omega
  · simp
theorem c_FnExactLex (l : List POp) (hl : l.length ≤ maxLen) (hw : opsWf l) (z : ByteArray) (hz : z.size ≤ maxLen) : VFun Try.prog 6 [.agg [.sl 4 l.length (opCells l)], .lit (.string z)] (fun av _ => av = .lit (.bool true)) := by
  have cl : ∀ (i : Nat) (c : AV), i < l.length → c ∈ opCells l i → Closed c := fun i c _ h => opClosed l i c h
  have hl' : l.length ≤ 9223372036854775807 := by simpa [maxLen] using hl
  have ht := lexZ_len l z
  have clt : ∀ (i : Nat) (c : AV), i < (lexZ l z).length → c ∈ tokCells (lexZ l z) i → Closed c := fun i c _ h => tokClosed _ i c h
  refine vfun_start Try.func6 (by kernel_rfl) rfl (by simp [Try.ntmps6]) ?_
  simp only [Try.ntmps6, Try.results6]
  simp [go_sem]
  refine fun hz2 => vcall_use (c_szTable l 1048576 hl hw (by decide) (by decide)) ?_ ?_
  · simp [go_sem]
    exact argSl_refl (by omega) cl
  · rintro av obs ⟨rfl, rfl | ⟨h0, rfl⟩⟩
    · simp [go_sem]
    · simp [go_sem]
      refine fun h1 => ?_
      have hsa : l.length ≤ 1048576 := by omega
      have hz3 : z.size ≤ 1048576 := by omega
      refine vcall_use (c_toTable l hsa) ?_ ?_
      · simp [go_sem]
        exact argSl_refl (by omega) cl
      · rintro av obs ⟨rfl, rfl⟩
        simp [go_sem]
        refine vcall_use (c_specLex l hl' hw z hz3) ?_ ?_
        · simp [go_sem]
          exact argSl_own (k := 1) rfl (by omega) cl
        · rintro av obs ⟨rfl, rfl⟩
          simp [go_sem]
          refine vcall_use (c_toTable l hsa) ?_ ?_
          · simp [go_sem]
            exact argSl_refl (by omega) cl
          · rintro av obs ⟨rfl, rfl⟩
            simp [go_sem]
            refine vcall_use (c_LexO l hl' hw z hz3) ?_ ?_
            · simp [go_sem]
              exact argSl_own (k := 3) rfl (by omega) cl
            · rintro av obs ⟨rfl, rfl⟩
              simp [go_sem]
              refine vcall_pure (c_eqTokenS (lexZ l z) (lexZ l z) (by omega) (by omega)) ?_ ?_
              · simp [go_sem]
                exact ⟨argSl_own (k := 5) rfl (by omega) clt, argSl_own (k := 2) rfl (by omega) clt⟩
              · simp [go_sem, toksEq_refl]
                refine vc_drawn 5 (.q 0 <| .q 1 <| .or 2 (.or 3 (.q 4 <| .done) (.nil)) (.nil)) (by kernel_rfl) ?_
                simp [go_sem]
                refine vcallV_use (c_toTable l hsa) ?_ ?_
                · simp [go_sem]
                  exact argSl_refl (by omega) cl
                · rintro av obs ⟨rfl, rfl⟩
                  simp [go_sem]
                  refine vcallV_pure (c_eqTable l l (by omega) (by omega)) ?_ ?_
                  · simp [go_sem]
                    exact ⟨argSl_own (k := 3) rfl (by omega) cl, argSl_own (k := 6) rfl (by omega) cl⟩
                  · simp [go_sem, opsEq_refl]
                    refine vcall_share [3] (c_markTable l 1 hsa (by omega)) (by simp) ?_ ?_ trivial ?_
                    · simp [go_sem]
                    · simp [go_sem]
                      exact fun i _ => cellsRn_lits rfl
                    · rintro av mem maps ⟨rfl, rfl, rfl⟩
                      simp [go_sem]
                      refine ⟨fun _ => ?_, by omega⟩
                      refine vcall_pure (c_eqTokenS (lexZ l z) (lexZ l z) (by omega) (by omega)) ?_ ?_
                      · simp [go_sem]
                        exact ⟨argSl_own (k := 5) rfl (by omega) clt, argSl_own (k := 2) rfl (by omega) clt⟩
                      · simp [go_sem, toksEq_refl]
                        refine vcall_share [5] (c_markTokenS (lexZ l z) 1 (by omega) (by omega)) (by simp) ?_ ?_ trivial ?_
                        · simp [go_sem]
                        · simp [go_sem]
                          exact fun i _ => cellsRn_lits rfl
                        · rintro av mem maps ⟨rfl, rfl, rfl⟩
                          simp [go_sem]
                          refine vcall_pure (c_heldTokenS (lexZ l z).length 1 (by omega) (by omega)) ?_ ?_
                          · simp [go_sem]
                            exact argSl_own (k := 5) rfl (by omega) fun i c _ hc => markTClosed 1 i c hc
                          · simp [go_sem]
                            refine ⟨by omega, fun _ => vcall_use (c_toTable l hsa) ?_ ?_⟩
                            · simp [go_sem]
                              exact argSl_refl (by omega) cl
                            · rintro av obs ⟨rfl, rfl⟩
                              simp [go_sem]
                              refine vcall_use (c_LexO l hl' hw z hz3) ?_ ?_
                              · simp [go_sem]
                                exact argSl_own (k := 7) rfl (by omega) cl
                              · rintro av obs ⟨rfl, rfl⟩
                                simp [go_sem]
                                refine vcall_pure (c_eqTokenS (lexZ l z) (lexZ l z) (by omega) (by omega)) ?_ ?_
                                · simp [go_sem]
                                  exact ⟨argSl_own (k := 8) rfl (by omega) clt, argSl_own (k := 2) rfl (by omega) clt⟩
                                · simp [go_sem, toksEq_refl]
                                  refine vcall_pure (c_heldTokenS (lexZ l z).length 1 (by omega) (by omega)) ?_ ?_
                                  · simp [go_sem]
                                    exact argSl_own (k := 5) rfl (by omega) fun i c _ hc => markTClosed 1 i c hc
                                  · simp [go_sem]
                                    omega
end Go.Proofs.Ytnjnkhmcdkjekaa.V
