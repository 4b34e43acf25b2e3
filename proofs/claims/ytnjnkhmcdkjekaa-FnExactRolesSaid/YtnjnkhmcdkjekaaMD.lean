import Derived.Test.YtnjnkhmcdkjekaaMC
import Derived.Shelf.Strings.Builder1
/- Contracts: the law of Lex. -/
namespace Go.Proofs.Ytnjnkhmcdkjekaa.V
open Go.RowKit
set_option linter.unusedVariables false
set_option linter.unusedSimpArgs false
set_option linter.constructorNameAsVariable false
/-- a nil slice as the first of two results: an own row of none -/
theorem VFun.adopt {P : Program} {f : FuncId} {args : List AV} {R R' : AV → List Ob → Prop} (h : VFun P f args R) (ty sz : Nat) (hsz : 0 < sz) (g : Nat → List AV)
    (hr : ∀ av obs, R av obs → R' av obs ∨ ∃ x, av = .tup [.lit (.slice none 0 0), .lit x] ∧ obs = [] ∧ R' (.tup [.own 0, .lit x]) [⟨ty, sz, 0, g⟩]) : VFun P f args R' := by
  refine ⟨h.1, fun w vs hl hv => (h.2 w vs hl hv).mono fun e w' ⟨v, e1, gr, hd, av, obs, r, fl, hlit, hm, hrep⟩ => ?_⟩
  rcases hr av obs r with r' | ⟨x, rfl, rfl, r'⟩
  · exact ⟨v, e1, gr, hd, av, obs, r', fl, hlit, hm, hrep⟩
  · refine ⟨v, e1, gr, fun _ => .slice none 0 0, _, _, r', rfl, fun ob ho i hi => ?_, ⟨fun k ob hk b hb => ?_, fun k ob hk => ?_, fun k hk => ⟨none, 0, 0, rfl⟩, fun k k' o o' hk hk' hne => .inl rfl⟩, ?_⟩
    · simp only [List.mem_singleton] at ho
      subst ho
      simp at hi
    · simp [Value.ownBlock] at hb
    · cases k with
      | zero =>
        simp only [List.map_cons, List.map_nil, List.getElem?_cons_zero, Option.some.injEq] at hk
        subst hk
        exact ⟨hsz, [], ⟨by simp, .inl ⟨rfl, rfl⟩⟩, fun i hi => by simp at hi⟩
      | succ k => simp at hk
    · cases hrep with
      | tup _ us hl2 hr2 =>
        match us, hl2 with
        | [u1, u2], _ =>
          have q1 := hr2 0 _ u1 rfl rfl
          have q2 := hr2 1 _ u2 rfl rfl
          cases q1
          cases q2
          refine .tup _ [.slice none 0 0, x] rfl fun j a u ha hu => ?_
          match j with
          | 0 =>
            simp only [List.getElem?_cons_zero, Option.some.injEq] at ha hu
            subst ha; subst hu
            exact .own (hd := fun _ => .slice none 0 0) 0 (by simp)
          | 1 =>
            simp only [List.getElem?_cons_succ, List.getElem?_cons_zero, Option.some.injEq] at ha hu
            subst ha; subst hu
            exact .lit _
          | j + 2 => simp at ha
theorem c_LexO (l : List POp) (hl : l.length ≤ 9223372036854775807) (hw : opsWf l) (z : ByteArray) (hz : z.size ≤ 1048576) : VFun Try.prog 25 [.agg [.sl 4 l.length (opCells l)], .lit (.string z)] (fun av obs => av = .tup [.own 0, .lit (.bool (lexOk l z))] ∧ obs = [⟨67, 3, (lexZ l z).length, tokCells (lexZ l z)⟩]) := by
  refine (c_Lex l hl hw z hz).adopt 67 3 (by omega) (tokCells []) fun av obs h => ?_
  rcases h with ⟨h1, rfl, rfl⟩ | ⟨h1, rfl, rfl⟩
  · refine .inr ⟨_, rfl, rfl, ?_⟩
    have e : lexZ l z = [] := by simp [lexZ, h1]
    rw [h1, e]
    exact ⟨rfl, rfl⟩
  · exact .inl ⟨by rw [h1], rfl⟩
theorem lexFrom_len (l : List POp) (z : ByteArray) (f : Nat) (h : f ≤ z.size) : (lexFrom l z f).length + f ≤ z.size + 1 := by
  by_cases hi : f + run isBl z f < z.size
  · rw [lexFrom_go rfl hi]
    have h1 := longest_ge l z (f + run isBl z f)
    have h2 := longest_le l z (f + run isBl z f) hi
    have := lexFrom_len l z (f + run isBl z f + longest l z (f + run isBl z f)) h2
    simp only [List.length_cons]
    omega
  · rw [lexFrom_end rfl hi]
    simp
    omega
termination_by z.size - f
theorem lexZ_len (l : List POp) (z : ByteArray) : (lexZ l z).length ≤ z.size + 1 := by
  unfold lexZ
  split
  · have := lexFrom_len l z 0 (by omega)
    omega
  · simp
theorem c_FnExactLex (l : List POp) (hl : l.length ≤ maxLen) (hw : opsWf l) (z : ByteArray) (hz : z.size ≤ maxLen) : VFun Try.prog 6 [.agg [.sl 4 l.length (opCells l)], .lit (.string z)] (fun av _ => av = .lit (.bool true)) := by
  have cl : ∀ (i : Nat) (c : AV), i < l.length → c ∈ opCells l i → Closed c := fun i c _ h => opClosed l i c h
  have hl' : l.length ≤ 9223372036854775807 := by simpa [maxLen] using hl
  have ht := lexZ_len l z
  have clt : ∀ (i : Nat) (c : AV), i < (lexZ l z).length → c ∈ tokCells (lexZ l z) i → Closed c := fun i c _ h => tokClosed _ i c h
  refine vfun_start Try.func6 (by kernel_rfl) rfl (by simp [Try.ntmps6]) ?_
  simp only [Try.ntmps6, Try.results6]
  simp [go_sem]
  refine fun hz2 => vcall_use (c_szTable l 1048576 hl hw (by decide) (by decide)) ?_ ?_
  · simp [go_sem]
    exact argSl_refl (by omega) cl
  · rintro av obs ⟨rfl, rfl | ⟨h0, rfl⟩⟩
    · simp [go_sem]
    · simp [go_sem]
      refine fun h1 => ?_
      have hsa : l.length ≤ 1048576 := by omega
      have hz3 : z.size ≤ 1048576 := by omega
      refine vcall_use (c_toTable l hsa) ?_ ?_
      · simp [go_sem]
        exact argSl_refl (by omega) cl
      · rintro av obs ⟨rfl, rfl⟩
        simp [go_sem]
        refine vcall_use (c_specLex l hl' hw z hz3) ?_ ?_
        · simp [go_sem]
          exact argSl_own (k := 1) rfl (by omega) cl
        · rintro av obs ⟨rfl, rfl⟩
          simp [go_sem]
          refine vcall_use (c_toTable l hsa) ?_ ?_
          · simp [go_sem]
            exact argSl_refl (by omega) cl
          · rintro av obs ⟨rfl, rfl⟩
            simp [go_sem]
            refine vcall_use (c_LexO l hl' hw z hz3) ?_ ?_
            · simp [go_sem]
              exact argSl_own (k := 3) rfl (by omega) cl
            · rintro av obs ⟨rfl, rfl⟩
              simp [go_sem]
              refine vcall_pure (c_eqTokenS (lexZ l z) (lexZ l z) (by omega) (by omega)) ?_ ?_
              · simp [go_sem]
                exact ⟨argSl_own (k := 5) rfl (by omega) clt, argSl_own (k := 2) rfl (by omega) clt⟩
              · simp [go_sem, toksEq_refl]
                refine vc_drawn 5 (.q 0 <| .q 1 <| .or 2 (.or 3 (.q 4 <| .done) (.nil)) (.nil)) (by kernel_rfl) ?_
                simp [go_sem]
                refine vcallV_use (c_toTable l hsa) ?_ ?_
                · simp [go_sem]
                  exact argSl_refl (by omega) cl
                · rintro av obs ⟨rfl, rfl⟩
                  simp [go_sem]
                  refine vcallV_pure (c_eqTable l l (by omega) (by omega)) ?_ ?_
                  · simp [go_sem]
                    exact ⟨argSl_own (k := 3) rfl (by omega) cl, argSl_own (k := 6) rfl (by omega) cl⟩
                  · simp [go_sem, opsEq_refl]
                    refine vcall_share [3] (c_markTable l 1 hsa (by omega)) (by simp) ?_ ?_ trivial ?_
                    · simp [go_sem]
                    · simp [go_sem]
                      exact fun i _ => cellsRn_lits rfl
                    · rintro av mem maps ⟨rfl, rfl, rfl⟩
                      simp [go_sem]
                      refine ⟨fun _ => ?_, by omega⟩
                      refine vcall_pure (c_eqTokenS (lexZ l z) (lexZ l z) (by omega) (by omega)) ?_ ?_
                      · simp [go_sem]
                        exact ⟨argSl_own (k := 5) rfl (by omega) clt, argSl_own (k := 2) rfl (by omega) clt⟩
                      · simp [go_sem, toksEq_refl]
                        refine vcall_share [5] (c_markTokenS (lexZ l z) 1 (by omega) (by omega)) (by simp) ?_ ?_ trivial ?_
                        · simp [go_sem]
                        · simp [go_sem]
                          exact fun i _ => cellsRn_lits rfl
                        · rintro av mem maps ⟨rfl, rfl, rfl⟩
                          simp [go_sem]
                          refine vcall_pure (c_heldTokenS (lexZ l z).length 1 (by omega) (by omega)) ?_ ?_
                          · simp [go_sem]
                            exact argSl_own (k := 5) rfl (by omega) fun i c _ hc => markTClosed 1 i c hc
                          · simp [go_sem]
                            refine ⟨by omega, fun _ => vcall_use (c_toTable l hsa) ?_ ?_⟩
                            · simp [go_sem]
                              exact argSl_refl (by omega) cl
                            · rintro av obs ⟨rfl, rfl⟩
                              simp [go_sem]
                              refine vcall_use (c_LexO l hl' hw z hz3) ?_ ?_
                              · simp [go_sem]
                                exact argSl_own (k := 7) rfl (by omega) cl
                              · rintro av obs ⟨rfl, rfl⟩
                                simp [go_sem]
                                refine vcall_pure (c_eqTokenS (lexZ l z) (lexZ l z) (by omega) (by omega)) ?_ ?_
                                · simp [go_sem]
                                  exact ⟨argSl_own (k := 8) rfl (by omega) clt, argSl_own (k := 2) rfl (by omega) clt⟩
                                · simp [go_sem, toksEq_refl]
                                  refine vcall_pure (c_heldTokenS (lexZ l z).length 1 (by omega) (by omega)) ?_ ?_
                                  · simp [go_sem]
                                    exact argSl_own (k := 5) rfl (by omega) fun i c _ hc => markTClosed 1 i c hc
                                  · simp [go_sem]
                                    omega
end Go.Proofs.Ytnjnkhmcdkjekaa.V
/- Contracts: what tokens do, by the program. -/
namespace Go.Proofs.Ytnjnkhmcdkjekaa.V
open Go.RowKit
set_option linter.unusedVariables false
set_option linter.unusedSimpArgs false
set_option linter.constructorNameAsVariable false
set_option maxRecDepth 10000 in
theorem c_Roles (l : List POp) (hl : l.length ≤ 9223372036854775807) (hw : opsWf l) (t : List PTok) (ht : t.length ≤ 1048576) (hz : ∀ i, i < t.length → (tokAt t i).text.size ≤ maxLen) : VFun Try.prog 29 [.agg [.sl 4 l.length (opCells l)], .sl 3 t.length (tokCells t)] (fun av obs => (∃ x, rolesZ l t = ([], x) ∧ av = .tup [.lit (.slice none 0 0), .lit (.int .i64 x)] ∧ obs = []) ∨ (av = .tup [.own 0, .lit (.int .i64 (rolesZ l t).2)] ∧ obs = [⟨3, 1, (rolesZ l t).1.length, intCells (rolesZ l t).1⟩])) := by
  have cl : ∀ (i : Nat) (c : AV), i < l.length → c ∈ opCells l i → Closed c := fun i c _ h => opClosed l i c h
  have clt : ∀ (i : Nat) (c : AV), i < t.length → c ∈ tokCells t i → Closed c := fun i c _ h => tokClosed t i c h
  refine vfun_start Try.func29 (by kernel_rfl) rfl (by simp [Try.ntmps29]) ?_
  simp only [Try.ntmps29, Try.results29]
  simp [go_sem]
  refine vcall_pure (c_TableOk l hl hw) ?_ ?_
  · simp [go_sem]
    exact argSl_refl (by omega) cl
  · simp [go_sem]
    refine ⟨fun h0 => by simp [rolesZ, h0], fun h0 => ?_⟩
    have hu := uniq_of_ok h0
    have nil_ : ∀ x, rolesZ l t = ([], x) → rolesZ l t = ([], x) ∨ False := fun x h => .inl h
    refine vcall_share [] (c_indexOf l hl hw) (by simp) ?_ ?_ ?_ ?_
    · simp [go_sem]
      exact cl
    · simp [go_sem]
    · simp [go_sem]
    · rintro av mem maps ⟨b1, b2, e1, e2, rfl, rfl, rfl, hb, hat, htx⟩
      have hb' : ¬ b2 = b1 := fun e => hb e.symm
      simp [go_sem]
      refine ⟨by omega, by omega, by omega, by omega, ?_⟩
      refine vc_loopE (fun i : Nat => i ≤ t.length ∧ (∀ j, j < i → 0 ≤ roleAt l t j (stAt l t j)) ∧ (∀ j, j < i → (tokAt t j).kind ≠ 7) ∧ 0 ≤ openAt t i) (fun i => t.length - i) (fun i => ⟨[(1, .sl 3 t.length (tokCells t)), (6, .ptr 0 2 0 0), (7, .own 1), (8, .lit (.bool !(stAt l t i))), (9, .lit (.int .i64 (openAt t i))), (27, .sl 3 t.length (tokCells t)), (28, .lit (.int .i64 t.length)), (29, .lit (.int .i64 i))], [some ⟨103, 2, 1, fun _ => [.lit (.map (some b1)), .lit (.map (some b2))]⟩, some ⟨3, 1, (rolesUp l t i).length, intCells (rolesUp l t i)⟩], [(b2, ⟨9, e2⟩), (b1, ⟨93, e1⟩)], 0⟩) ⟨0, ⟨by omega, by simp, by simp, by simp [openAt]⟩, ?_⟩ (fun i hi => ?_)
      · refine ent_ks [1, 2] (by simp) (by simp) (by simp) (by simp) (by simp [go_sem, hb']) ?_ ?_
        · simp [go_sem, stAt, openAt]
          exact clt
        · simp [go_sem, rolesUp]
      · obtain ⟨h1, h2, h3, h4⟩ := hi
        have hop := openAt_le t i
        have hlen := rolesUp_len l t i
        have hsucc := rolesUp_succ l t i
        by_cases h : i < t.length
        · have bad : roleAt l t i (stAt l t i) < 0 → rolesZ l t = ([], (i : Int)) := fun e => by
            have := firstBad_some h h2 e
            simp [rolesZ, h0, this]
          have next : 0 ≤ roleAt l t i (stAt l t i) → (tokAt t i).kind ≠ 7 → 0 ≤ openAt t (i + 1) → i + 1 ≤ t.length ∧ (∀ j, j < i + 1 → 0 ≤ roleAt l t j (stAt l t j)) ∧ (∀ j, j < i + 1 → (tokAt t j).kind ≠ 7) ∧ 0 ≤ openAt t (i + 1) := fun a1 a2 a3 => by
            refine ⟨by omega, fun j hj => ?_, fun j hj => ?_, a3⟩
            · rcases Nat.lt_succ_iff_lt_or_eq.mp hj with hj | rfl
              · exact h2 j hj
              · exact a1
            · rcases Nat.lt_succ_iff_lt_or_eq.mp hj with hj | rfl
              · exact h3 j hj
              · exact a2
          have app : ∀ (r : Int), roleAt l t i (stAt l t i) = r → ∀ j, j < i + 1 → joinF i (intCells (rolesUp l t i)) (fun q => [[AV.lit (.int .i64 r)]][q]?.getD []) j = intCells (rolesUp l t i ++ [roleAt l t i (stAt l t i)]) j := fun r e j hj => by
            have := int_app1 (rolesUp l t i) (roleAt l t i (stAt l t i)) j (by rw [hlen]; exact hj)
            rw [hlen, e] at this
            rw [e]; exact this
          cases hst : stAt l t i with
          | false =>
            rw [hst] at bad app
            by_cases k1 : (tokAt t i).kind = 1
            · have hst' : stAt l t (i + 1) = true := by simp [stAt, hst, k1]
              have ho' : openAt t (i + 1) = openAt t i := by simp [openAt, k1]
              simp [go_sem, tokCells_at, h, hst, k1, hlen]
              refine ⟨by omega, by omega, i + 1, next (by rw [hst]; simp [roleAt, k1]) (by omega) (by rw [ho']; omega), by omega, ?_⟩
              refine ent_ks [0, 4] (by simp) (by simp) (by simp) (by simp) (by simp [go_sem, hb', hb]) ?_ ?_
              · simp [go_sem, hst', ho']
                exact ⟨clt, wrap_succ (by omega)⟩
              · simp [go_sem, hsucc, hlen, hst]
                exact .inl fun j hj => ⟨app 0 (by simp [roleAt, k1]) j hj, intClosed _ _⟩
            · by_cases k2 : (tokAt t i).kind = 2
              · have hst' : stAt l t (i + 1) = true := by simp [stAt, hst, k2]
                have ho' : openAt t (i + 1) = openAt t i := by simp [openAt, k2]
                simp [go_sem, tokCells_at, h, hst, k2, hlen]
                refine ⟨by omega, by omega, i + 1, next (by rw [hst]; simp [roleAt, k2]) (by omega) (by rw [ho']; omega), by omega, ?_⟩
                refine ent_ks [0, 4] (by simp) (by simp) (by simp) (by simp) (by simp [go_sem, hb', hb]) ?_ ?_
                · simp [go_sem, hst', ho']
                  exact ⟨clt, wrap_succ (by omega)⟩
                · simp [go_sem, hsucc, hlen, hst]
                  exact .inl fun j hj => ⟨app 0 (by simp [roleAt, k2]) j hj, intClosed _ _⟩
              · by_cases k4 : (tokAt t i).kind = 4
                · have hst' : stAt l t (i + 1) = false := by simp [stAt, hst, k4]
                  have ho' : openAt t (i + 1) = openAt t i + 1 := by simp [openAt, k4]
                  simp [go_sem, tokCells_at, h, hst, k4, hlen]
                  refine ⟨by omega, by omega, i + 1, next (by rw [hst]; simp [roleAt, k4]) (by omega) (by rw [ho']; omega), by omega, ?_⟩
                  refine ent_ks [0, 4] (by simp) (by simp) (by simp) (by simp) (by simp [go_sem, hb', hb]) ?_ ?_
                  · simp [go_sem, hst', ho']
                    exact ⟨clt, wrap_i64 (by omega), clt, wrap_succ (by omega)⟩
                  · simp [go_sem, hsucc, hlen, hst]
                    exact .inl fun j hj => ⟨app 0 (by simp [roleAt, k4]) j hj, intClosed _ _⟩
                · by_cases k3 : (tokAt t i).kind = 3
                  · simp [go_sem, tokCells_at, h, hst, k3, hlen]
                    refine vcall_share [] (c_of l hu b1 b2 e1 hat (tokAt t i).text (hz i h) 1) (by simp) ?_ ?_ ?_ ?_
                    · simp [go_sem]
                    · simp [go_sem]
                    · simp [go_sem, hb']
                    · rintro av mem maps ⟨⟨o1, rfl, ho1⟩, rfl, rfl⟩
                      cases hp : opHas l (tokAt t i).text 1 with
                      | false =>
                        simp [go_sem, hp, POp.cells]
                        exact bad (by simp [roleAt, k3, hp])
                      | true =>
                        have hst' : stAt l t (i + 1) = false := by simp [stAt, hst, k3]
                        have ho' : openAt t (i + 1) = openAt t i := by simp [openAt, k3]
                        simp [go_sem, hp, hlen, POp.cells]
                        refine ⟨by omega, by omega, i + 1, next (by rw [hst]; simp [roleAt, k3, hp]) (by omega) (by rw [ho']; omega), by omega, ?_⟩
                        refine ent_ks [0, 5] (by simp) (by simp) (by simp) (by simp) (by simp [go_sem, hb', hb]) ?_ ?_
                        · simp [go_sem, hst', ho']
                          exact ⟨clt, wrap_succ (by omega)⟩
                        · simp [go_sem, hsucc, hlen, hst]
                          exact .inl fun j hj => ⟨app 1 (by simp [roleAt, k3, hp]) j hj, intClosed _ _⟩
                  · have q1 : ((tokAt t i).kind == 1) = false := by simpa using k1
                    have q2 : ((tokAt t i).kind == 2) = false := by simpa using k2
                    have q3 : ((tokAt t i).kind == 3) = false := by simpa using k3
                    have q4 : ((tokAt t i).kind == 4) = false := by simpa using k4
                    simp [go_sem, tokCells_at, h, hst, q1, q2, q3, q4, hlen]
                    exact bad (by simp [roleAt, k1, k2, k3, k4])
          | true =>
            rw [hst] at bad app
            by_cases k3 : (tokAt t i).kind = 3
            · simp [go_sem, tokCells_at, h, hst, k3, hlen]
              refine vcall_share [] (c_of l hu b1 b2 e1 hat (tokAt t i).text (hz i h) 2) (by simp) ?_ ?_ ?_ ?_
              · simp [go_sem]
              · simp [go_sem]
              · simp [go_sem, hb']
              · rintro av mem maps ⟨⟨o2, rfl, ho2⟩, rfl, rfl⟩
                cases hp : opHas l (tokAt t i).text 2 with
                | true =>
                  have hno : opHas l (tokAt t i).text 3 = false := by
                    rw [Bool.eq_false_iff]
                    intro e
                    obtain ⟨j, hj, e3, e4⟩ := (opHas_iff _ _ _).1 e
                    obtain ⟨j', hj', e5, e6⟩ := (opHas_iff _ _ _).1 hp
                    have := hu j j' hj hj' (by rw [e3, e5]) (by rw [e4, e6]; rfl)
                    rw [this, e6] at e4
                    cases e4
                  have hst' : stAt l t (i + 1) = false := by simp [stAt, hst, k3, hno]
                  have ho' : openAt t (i + 1) = openAt t i := by simp [openAt, k3]
                  simp [go_sem, hp, hlen, POp.cells]
                  refine ⟨by omega, by omega, i + 1, next (by rw [hst]; simp [roleAt, k3, hp]) (by omega) (by rw [ho']; omega), by omega, ?_⟩
                  refine ent_ks [0, 5] (by simp) (by simp) (by simp) (by simp) (by simp [go_sem, hb', hb]) ?_ ?_
                  · simp [go_sem, hst', ho']
                    exact ⟨clt, wrap_succ (by omega)⟩
                  · simp [go_sem, hsucc, hlen, hst]
                    exact .inl fun j hj => ⟨app 2 (by simp [roleAt, k3, hp]) j hj, intClosed _ _⟩
                | false =>
                  simp [go_sem, hp, POp.cells]
                  refine vcall_share [] (c_of l hu b1 b2 e1 hat (tokAt t i).text (hz i h) 3) (by simp) ?_ ?_ ?_ ?_
                  · simp [go_sem]
                  · simp [go_sem]
                  · simp [go_sem, hb']
                  · rintro av mem maps ⟨⟨o3, rfl, ho3⟩, rfl, rfl⟩
                    cases hq : opHas l (tokAt t i).text 3 with
                    | true =>
                      have hst' : stAt l t (i + 1) = true := by simp [stAt, hst, k3, hq]
                      have ho' : openAt t (i + 1) = openAt t i := by simp [openAt, k3]
                      simp [go_sem, hq, hlen, POp.cells]
                      refine ⟨by omega, by omega, i + 1, next (by rw [hst]; simp [roleAt, k3, hp, hq]) (by omega) (by rw [ho']; omega), by omega, ?_⟩
                      refine ent_ks [0, 6] (by simp) (by simp) (by simp) (by simp) (by simp [go_sem, hb', hb]) ?_ ?_
                      · simp [go_sem, hst', ho']
                        exact ⟨clt, wrap_succ (by omega)⟩
                      · simp [go_sem, hsucc, hlen, hst]
                        exact .inl fun j hj => ⟨app 3 (by simp [roleAt, k3, hp, hq]) j hj, intClosed _ _⟩
                    | false =>
                      simp [go_sem, hq, POp.cells]
                      exact bad (by simp [roleAt, k3, hp, hq])
            · have q3 : ((tokAt t i).kind == 3) = false := by simpa using k3
              by_cases k5 : (tokAt t i).kind = 5
              · by_cases hpos : 0 < openAt t i
                · have hst' : stAt l t (i + 1) = true := by simp [stAt, k5]
                  have ho' : openAt t (i + 1) = openAt t i - 1 := by simp [openAt, k5]
                  simp [go_sem, tokCells_at, h, hst, k5, hpos, hlen]
                  refine ⟨by omega, by omega, i + 1, next (by rw [hst]; simp [roleAt, k5, hpos]) (by omega) (by rw [ho']; omega), by omega, ?_⟩
                  refine ent_ks [0, 4] (by simp) (by simp) (by simp) (by simp) (by simp [go_sem, hb', hb]) ?_ ?_
                  · simp [go_sem, hst', ho']
                    exact ⟨clt, wrap_i64 (by omega), clt, wrap_succ (by omega)⟩
                  · simp [go_sem, hsucc, hlen, hst]
                    exact .inl fun j hj => ⟨app 0 (by simp [roleAt, k5, hpos]) j hj, intClosed _ _⟩
                · have e0 : openAt t i = 0 := by omega
                  simp [go_sem, tokCells_at, h, hst, k5, e0, hlen]
                  exact bad (by simp [roleAt, k5, e0])
              · have q5 : ((tokAt t i).kind == 5) = false := by simpa using k5
                by_cases k7 : (tokAt t i).kind = 7
                · by_cases e0 : openAt t i = 0
                  · by_cases elast : i + 1 = t.length
                    · have ew : IntKind.i64.wrap ((t.length : Int) - 1) = i := by rw [wrap_i64 (by omega)]; omega
                      simp [go_sem, tokCells_at, h, hst, k7, e0, hlen, ew]
                      have hr0 : roleAt l t i true = 0 := by simp [roleAt, k7, e0, elast]
                      have hn := firstBad_none (l := l) (t := t) fun j hj => by
                        rcases Nat.lt_succ_iff_lt_or_eq.mp (show j < i + 1 by omega) with hj | rfl
                        · exact h2 j hj
                        · rw [hst, hr0]; omega
                      have hlast : t.length - 1 = i := by omega
                      have hzz : rolesZ l t = (rolesUp l t (i + 1), -1) := by
                        have hne : endsOk t = true := by
                          simp only [endsOk, hlast, k7, Bool.and_eq_true, decide_eq_true_eq]
                          exact ⟨by omega, trivial⟩
                        simp [rolesZ, h0, hn, hne, elast]
                      rw [hzz]
                      refine ⟨by omega, by omega, by omega, ?_, rfl⟩
                      refine obsSame_one.mpr ⟨⟨3, 1, i + 1, intCells (rolesUp l t (i + 1))⟩, ⟨rfl, rfl, rfl, fun j hj => ⟨?_, rfl⟩⟩, by rw [rolesUp_len]⟩
                      have := app 0 hr0 j hj
                      rw [hsucc, hst]
                      exact this
                    · have ew : ((i : Int) == IntKind.i64.wrap ((t.length : Int) - 1)) = false := by rw [wrap_i64 (by omega)]; simp; omega
                      simp [go_sem, tokCells_at, h, hst, k7, e0, hlen, ew]
                      exact ⟨by omega, bad (by simp [roleAt, k7, e0, elast])⟩
                  · have q0 : (openAt t i == 0) = false := by simpa using e0
                    simp [go_sem, tokCells_at, h, hst, k7, q0, hlen]
                    exact bad (by simp [roleAt, k7, e0])
                · have q7 : ((tokAt t i).kind == 7) = false := by simpa using k7
                  simp [go_sem, tokCells_at, h, hst, q3, q5, q7, hlen]
                  exact bad (by simp [roleAt, k3, k5, k7])
        · have e : i = t.length := by omega
          simp [go_sem, h]
          refine ⟨by omega, ?_⟩
          have hn := firstBad_none (l := l) (t := t) fun j hj => h2 j (by omega)
          have hne : endsOk t = false := by
            rw [Bool.eq_false_iff]
            intro e2
            simp only [endsOk, Bool.and_eq_true, decide_eq_true_eq] at e2
            exact h3 (t.length - 1) (by omega) e2.2
          simp [rolesZ, h0, hn, hne]
end Go.Proofs.Ytnjnkhmcdkjekaa.V
/- Contracts: package strings' Builder: String. -/
namespace Go.Proofs.Ytnjnkhmcdkjekaa.V
open Go.RowKit
set_option linter.unusedVariables false
set_option linter.unusedSimpArgs false
set_option linter.constructorNameAsVariable false
theorem grown_drew (w : World) (row : Option Nat) : w.grownBy w.drew row := ⟨rfl, rfl, rfl, Nat.le_refl _, fun _ _ _ => rfl⟩
theorem grown_freeze (w : World) (p : Addr) (n : Nat) : w.grownBy (w.freeze p n) (some p.block) := by
  unfold World.freeze
  split
  · exact ⟨rfl, rfl, rfl, Nat.le_refl _, fun _ _ _ => rfl⟩
  · exact ⟨rfl, rfl, rfl, by simp, fun k _ hk => by
      simp only [Array.getElem?_modify]
      rw [if_neg (fun e => hk (by rw [e]))]⟩
theorem cellsByte : Try.prog.cellsOf 5 = 1 := by kernel_rfl
set_option maxHeartbeats 2000000 in
set_option maxRecDepth 100000 in
theorem str_row (b g cap : Nat) (cur : Array Value) (l : List UInt8) (w : World) (h0 : l ≠ []) (c1 : w.drew.cell? ⟨b, 1, none⟩ = some (.slice (some ⟨g, 0, none⟩) l.length cap)) (hg : w.drew.heap[g]? = some (.cells cur 5 (0, 0)))
    (hnc : l.length ≤ cap) (hcm : cap ≤ maxLen) (hcs : cur.size = cap) (hcell : ∀ j x, l[j]? = some x → w.drew.cell? ((⟨g, 0, none⟩ : Addr).add j) = some (.int .u8 x.toNat)) :
    Calls Try.prog 42 #[.pointer (some ⟨b, 0, none⟩)] w fun e w' => e = .returned (.string ⟨l.toArray⟩) ∧ w.grownBy w' (some g) := by
  have hl0 : l.length ≠ 0 := by simpa using h0
  have hSD : (Builtin.unsafeSliceData_ #[53] 132 #[.slice (some ⟨g, 0, none⟩) l.length cap]).run Try.prog w.drew = .ok (.pointer (some ⟨g, 0, none⟩)) w.drew :=
    Lib.run_unsafeSliceData_row _ _ _ _ _ _ (by omega)
  have hUS : (Builtin.unsafeString_ #[132, 3] 9 #[.pointer (some ⟨g, 0, none⟩), .int .i64 l.length]).run Try.prog w.drew = .ok (.string ⟨l.toArray⟩) (w.drew.freeze ⟨g, 0, none⟩ l.length) :=
    Lib.run_unsafeString_row w.drew 132 3 9 5 Try.underlying132 cellsByte g cur.size (by simp [World.shape?, hg]) l h0 (by omega) (by unfold maxLen at hcm; omega) hcell
  have hgr : w.grownBy (w.drew.freeze ⟨g, 0, none⟩ l.length) (some g) := by
    have h1 := grown_freeze w.drew ⟨g, 0, none⟩ l.length
    exact ⟨h1.os, h1.tape, h1.output, h1.size, h1.block⟩
  clear hcell hnc hcm hcs hg
  go_enter Try.func42, Try.ntmps42
  go_wp2
  go_region
  all_goals (go_wp2; go_ret; exact ⟨rfl, hgr⟩)
theorem str_none (W : World) (q : Option Addr) : (Builtin.unsafeString_ #[132, 3] 9 #[.pointer q, .int .i64 0]).run Try.prog W = .ok (.string .empty) W := Lib.run_unsafeString_none W _ _ _ q
set_option maxHeartbeats 2000000 in
set_option maxRecDepth 100000 in
theorem str_nil (b : Nat) (w : World) (row : Option Nat) (c1 : w.drew.cell? ⟨b, 1, none⟩ = some (.slice none 0 0)) :
    Calls Try.prog 42 #[.pointer (some ⟨b, 0, none⟩)] w fun e w' => e = .returned (.string ⟨#[]⟩) ∧ w.grownBy w' row := by
  have hUS := str_none
  have hSD : (Builtin.unsafeSliceData_ #[53] 132 #[.slice none 0 0]).run Try.prog w.drew = .ok (.pointer none) w.drew := rfl
  have hgr := grown_drew w row
  go_enter Try.func42, Try.ntmps42
  go_wp2
  go_region
  all_goals (go_wp2; go_ret; exact ⟨rfl, hgr⟩)
set_option maxHeartbeats 2000000 in
set_option maxRecDepth 100000 in
theorem str_noroom (b g : Nat) (w : World) (row : Option Nat) (cur : Array Value) (hlt : b < w.heap.size) (c1 : w.drew.cell? ⟨b, 1, none⟩ = some (.slice (some ⟨g, 0, none⟩) 0 0)) (hg : w.drew.heap[g]? = some (.cells cur 5 (0, 0))) :
    Calls Try.prog 42 #[.pointer (some ⟨b, 0, none⟩)] w fun e w' => e = .returned (.string ⟨#[]⟩) ∧ w.grownBy w' row := by
  have hUS := str_none
  have hSD : (Builtin.unsafeSliceData_ #[53] 132 #[.slice (some ⟨g, 0, none⟩) 0 0]).run Try.prog w.drew = .ok (.pointer (some ⟨w.drew.heap.size, 0, none⟩)) (w.drew.alloc (.view ⟨g, 0, none⟩ 5)) :=
    Lib.run_unsafeSliceData_zero w.drew _ _ 5 Try.underlying132 ⟨g, 0, none⟩ 0 (5, cur.size) (by simp [World.shape?, hg])
  have c2 : (w.drew.alloc (.view ⟨g, 0, none⟩ 5)).cell? ⟨b, 1, none⟩ = some (.slice (some ⟨g, 0, none⟩) 0 0) := by
    have e : (w.drew.alloc (.view ⟨g, 0, none⟩ 5)).heap[b]? = w.drew.heap[b]? := Lib.alloc_old w.drew _ b hlt
    unfold World.cell? at c1 ⊢
    simp only at c1 ⊢
    rw [e]; exact c1
  have c3 : (w.alloc (.view ⟨g, 0, none⟩ 5)).drew.cell? ⟨b, 1, none⟩ = some (.slice (some ⟨g, 0, none⟩) 0 0) := c2
  have c0 : w.cell? ⟨b, 1, none⟩ = some (.slice (some ⟨g, 0, none⟩) 0 0) := c1
  have hgr : w.grownBy (w.drew.alloc (.view ⟨g, 0, none⟩ 5)) row := by
    have h1 := World.grownBy_alloc w.drew (.view ⟨g, 0, none⟩ 5) row
    exact ⟨h1.os, h1.tape, h1.output, h1.size, h1.block⟩
  clear hg hlt
  go_enter Try.func42, Try.ntmps42
  go_wp2
  go_region
  all_goals (go_wp2; go_ret; exact ⟨rfl, hgr⟩)
set_option maxHeartbeats 2000000 in
set_option maxRecDepth 100000 in
theorem str_room (b g cap : Nat) (w : World) (row : Option Nat) (hc0 : cap ≠ 0) (c1 : w.drew.cell? ⟨b, 1, none⟩ = some (.slice (some ⟨g, 0, none⟩) 0 cap)) :
    Calls Try.prog 42 #[.pointer (some ⟨b, 0, none⟩)] w fun e w' => e = .returned (.string ⟨#[]⟩) ∧ w.grownBy w' row := by
  have hUS := str_none
  have hSD : (Builtin.unsafeSliceData_ #[53] 132 #[.slice (some ⟨g, 0, none⟩) 0 cap]).run Try.prog w.drew = .ok (.pointer (some ⟨g, 0, none⟩)) w.drew :=
    Lib.run_unsafeSliceData_row _ _ _ _ _ _ hc0
  have hgr := grown_drew w row
  clear hc0
  go_enter Try.func42, Try.ntmps42
  go_wp2
  go_region
  all_goals (go_wp2; go_ret; exact ⟨rfl, hgr⟩)
/-- String, of a builder whose bytes are those of a text: the text; its bytes are given up -/
theorem c_String (p : AV) (z : ByteArray) : VProc Try.prog 42 [.ptr 0 2 0 0] [some ⟨71, 2, 1, fun _ => [p, .own 1]⟩, some ⟨5, 1, z.size, byteCells z⟩] [] (fun av mem maps => av = .lit (.string z) ∧ mem = [none, none] ∧ maps = []) := by
  refine ⟨⟨_, Try.func42, rfl, rfl⟩, fun w vs hd0 hl hv hm hmp => ?_⟩
  match vs, hl with
  | [v], _ =>
    have h0 := hv 0 _ v rfl rfl
    cases h0 with
    | ptr _ _ _ _ b n' c' hk hb =>
      obtain ⟨_, vals0, hown0, hr0⟩ := hm.obs 0 _ rfl
      obtain ⟨_, vals1, hown1, hr1⟩ := hm.obs 1 _ rfl
      obtain ⟨u, hu1, hu2, hu3⟩ := (hr0 0 (by simp)).2 1 _ rfl
      cases hu3
      simp only [Nat.zero_mul, Nat.zero_add] at hu1
      have c1 : w.cell? ⟨b, 1, none⟩ = some (hd0 1) := by
        have := hown0.cells (g := b) (by rw [hb]; rfl) 1 _ hu1
        simpa [Addr.add] using this
      have hlt : b < w.heap.size := World.block_lt_of_cell? w ⟨b, 1, none⟩ c1
      have hbytes : ∀ i, i < z.size → vals1[i]? = some (.int .u8 (byteAt z i)) := by
        intro i hi
        obtain ⟨u, g1, g2, g3⟩ := (hr1 i hi).2 0 _ rfl
        cases g3
        simpa using g1
      have fin : ∀ w', w.grownBy w' (hd0 1).ownBlock → Bel (Sh w hd0 [some ⟨71, 2, 1, fun _ => [p, .own 1]⟩, some ⟨5, 1, z.size, byteCells z⟩] []) w w' ∧ ∃ hd av mem maps, (av = .lit (.string z) ∧ mem = [none, none] ∧ maps = []) ∧ PostOk [some ⟨71, 2, 1, fun _ => [p, .own 1]⟩, some ⟨5, 1, z.size, byteCells z⟩] [] av mem maps ∧ (∀ k, k < 2 → hd k = hd0 k) ∧ MemRel (Sh w hd0 [some ⟨71, 2, 1, fun _ => [p, .own 1]⟩, some ⟨5, 1, z.size, byteCells z⟩] []) w' hd mem ∧ MapRel Try.prog (Sh w hd0 [some ⟨71, 2, 1, fun _ => [p, .own 1]⟩, some ⟨5, 1, z.size, byteCells z⟩] []) w' maps ∧ Rep w' (okOf mem hd) hd mem.length av (.string z) := by
        intro w' hg
        have nn : ∀ (k : Nat) (ob : Ob), ([none, none] : List (Option Ob))[k]? = some (some ob) → False := fun k ob h => by
          match k, h with
          | 0, h => simp at h
          | 1, h => simp at h
          | k + 2, h => simp at h
        refine ⟨(Bel.refl _ w).grown hg fun k hk => .inr (.inl ⟨1, _, rfl, hk⟩), hd0, _, _, _, ⟨rfl, rfl, rfl⟩, ⟨by simp, rfl, fun k ob h => (nn k ob h).elim, fun b h => h⟩, fun _ _ => rfl, ⟨fun k ob h => (nn k ob h).elim, fun k ob h => (nn k ob h).elim, fun k hk => hm.hds k (by simpa using hk), fun k k' ob ob' h => (nn k ob h).elim⟩, fun b mp h => by simp [lkm] at h, .lit _⟩
      have done_ : ∀ (l : List UInt8), z = ⟨l.toArray⟩ → (Calls Try.prog 42 #[.pointer (some ⟨b, 0, none⟩)] w fun e w' => e = .returned (.string ⟨l.toArray⟩) ∧ w.grownBy w' (hd0 1).ownBlock) → Calls Try.prog 42 [Value.pointer (some ⟨b, 0 * 2 + 0, none⟩)].toArray w (fun e w' => ∃ v, e = .returned v ∧ Bel (Sh w hd0 [some ⟨71, 2, 1, fun _ => [p, .own 1]⟩, some ⟨5, 1, z.size, byteCells z⟩] []) w w' ∧ ∃ hd av mem maps, (av = .lit (.string z) ∧ mem = [none, none] ∧ maps = []) ∧ PostOk [some ⟨71, 2, 1, fun _ => [p, .own 1]⟩, some ⟨5, 1, z.size, byteCells z⟩] [] av mem maps ∧ (∀ k, k < 2 → hd k = hd0 k) ∧ MemRel (Sh w hd0 [some ⟨71, 2, 1, fun _ => [p, .own 1]⟩, some ⟨5, 1, z.size, byteCells z⟩] []) w' hd mem ∧ MapRel Try.prog (Sh w hd0 [some ⟨71, 2, 1, fun _ => [p, .own 1]⟩, some ⟨5, 1, z.size, byteCells z⟩] []) w' maps ∧ Rep w' (okOf mem hd) hd mem.length av v) := by
        intro l hz hc
        refine hc.mono ?_
        rintro e w' ⟨rfl, hg⟩
        rw [← hz]
        exact ⟨_, rfl, fin w' hg⟩
      rcases hown1.2 with ⟨hn, hz0⟩ | ⟨g, cap, cur, hg1, _, hg2, hnc, hcm, hcs, htake⟩
      · refine done_ [] ?_ (str_nil b w _ ?_)
        · obtain ⟨⟨l⟩⟩ := z
          match l, hz0 with
          | [], _ => rfl
        · rw [hn] at c1; exact c1
      · rw [hg1] at c1
        rw [hg1] at done_
        rcases Nat.eq_zero_or_pos z.size with h0 | h0
        · have hz : z = ⟨#[]⟩ := by
            obtain ⟨⟨l⟩⟩ := z
            match l, h0 with
            | [], _ => rfl
          simp only at c1
          rw [h0] at c1
          by_cases hc0 : cap = 0
          · subst hc0
            exact done_ [] hz (str_noroom b g w _ cur hlt c1 hg2)
          · exact done_ [] hz (str_room b g cap w _ hc0 c1)
        · have hls : z.data.toList.length = z.size := by simp
          refine done_ z.data.toList (by simp) ?_
          refine (str_row b g cap cur z.data.toList w (by intro e; rw [e] at hls; simp at hls; omega) ?_ hg2 (by rw [hls]; exact hnc) hcm (by simpa using hcs) fun j x hx => ?_).mono fun e w' h => h
          · rw [hls]; exact c1
          · have hj : j < z.size := by rw [← hls]; exact (List.getElem?_eq_some_iff.1 hx).1
            have h1 := hown1.cells (g := g) (by rw [hg1]; rfl) j _ (hbytes j hj)
            have e : byteAt z j = (x.toNat : Int) := by
              unfold byteAt
              rw [dif_pos hj]
              have : z[j] = x := by
                rw [List.getElem?_eq_getElem (by rw [hls]; exact hj)] at hx
                exact Option.some.inj hx
              rw [this]
            rw [e] at h1
            exact h1
end Go.Proofs.Ytnjnkhmcdkjekaa.V
/- Contracts: package strings' Builder: WriteString; rendering by the program. -/
namespace Go.Proofs.Ytnjnkhmcdkjekaa.V
open Go.RowKit
set_option linter.unusedVariables false
set_option linter.unusedSimpArgs false
set_option linter.constructorNameAsVariable false
def bp (u : Bool) : AV := if u then .ptr 0 2 0 0 else .lit (.pointer none)
theorem coBuilder : Try.prog.cellsOf 71 = 2 := by kernel_rfl
@[go_sem] theorem byteCells_ren {g : Nat → Nat} {z : ByteArray} {i : Nat} : (byteCells z i).map (ren1 g) = byteCells z i := map_lits rfl
theorem same_NoEscape : sameX Try.prog 107 := ⟨_, Try.func107, by kernel_rfl, by kernel_rfl, by kernel_rfl, by kernel_rfl⟩
theorem c_copyCheck (u : Bool) (z : ByteArray) : VProc Try.prog 80 [.ptr 0 2 0 0] [some ⟨71, 2, 1, fun _ => [bp u, .own 1]⟩, some ⟨5, 1, z.size, byteCells z⟩] [] (fun av mem maps => av = .tup [] ∧ mem = [some ⟨71, 2, 1, fun _ => [.ptr 0 2 0 0, .own 1]⟩, some ⟨5, 1, z.size, byteCells z⟩] ∧ maps = []) := by
  refine vproc_start Try.func80 (by kernel_rfl) rfl (by simp [Try.ntmps80]) ?_
  simp only [Try.ntmps80, Try.results80]
  simp [go_sem]
  have fin : ∀ t, vendP [] (fun av mem maps => av = .tup [] ∧ mem = [some ⟨71, 2, 1, fun _ => [.ptr 0 2 0 0, .own 1]⟩, some ⟨5, 1, z.size, byteCells z⟩] ∧ maps = []) ⟨t, [some ⟨71, 2, 1, fun _ => [.ptr 0 2 0 0, .own 1]⟩, some ⟨5, 1, z.size, byteCells z⟩], [], 2⟩ (.tup []) := by
    intro t
    refine ⟨rfl, [], [some ⟨71, 2, 1, fun _ => [.ptr 0 2 0 0, .own 1]⟩, some ⟨5, 1, z.size, byteCells z⟩], by simp, by simp, by simp [go_sem], ?_, by simp [go_sem], ?_⟩
    · simp [go_sem]
      exact ⟨⟨rfl, rfl, rfl, fun i hi => ⟨rfl, rfl, fun c hc q hq => by simp at hc; rcases hc with rfl | rfl <;> simp [owns1] at hq <;> simp [hq]⟩⟩, outAt_lits (fun i _ => rfl) (fun i _ => rfl)⟩
    · simp [go_sem]
  cases u with
  | true =>
    simp [go_sem, bp]
    exact fin _
  | false =>
    simp [go_sem, bp]
    refine ⟨⟨_, _, ⟨rfl, rfl⟩, by decide⟩, vcall_same same_NoEscape ?_⟩
    simp [go_sem, coBuilder]
    exact fin _
theorem c_WriteString (u : Bool) (z t : ByteArray) (h : z.size + t.size ≤ 140737488355328) : VProc Try.prog 41 [.ptr 0 2 0 0, .lit (.string t)] [some ⟨71, 2, 1, fun _ => [bp u, .own 1]⟩, some ⟨5, 1, z.size, byteCells z⟩] [] (fun av mem maps => av = .tup [.lit (.int .i64 t.size), .lit .nilIface] ∧ mem = [some ⟨71, 2, 1, fun _ => [.ptr 0 2 0 0, .own 2]⟩, none, some ⟨5, 1, z.size + t.size, byteCells (z ++ t)⟩] ∧ maps = []) := by
  refine vproc_start Try.func41 (by kernel_rfl) rfl (by simp [Try.ntmps41]) ?_
  simp only [Try.ntmps41, Try.results41]
  simp [go_sem]
  refine vcall_share [0, 1] (c_copyCheck u z) (by simp) ?_ ?_ trivial ?_
  · simp [go_sem]
  · simp [go_sem]
    refine ⟨?_, fun i _ => cellsRn_lits rfl⟩
    cases u
    · exact .closed _ (.lit _)
    · exact .ptr 0 2 0 0 (by omega)
  · rintro av mem maps ⟨rfl, rfl, rfl⟩
    simp [go_sem]
    refine ⟨h, rfl, [2], [some ⟨71, 2, 1, fun _ => [.ptr 0 2 0 0, .own 2]⟩, none, some ⟨5, 1, z.size + t.size, byteCells (z ++ t)⟩], by simp, by simp, by simp [go_sem], ?_, by simp [go_sem], ?_⟩
    · simp [go_sem]
      exact ⟨⟨rfl, rfl, rfl, fun i hi => ⟨rfl, rfl, fun c hc q hq => by simp at hc; rcases hc with rfl | rfl <;> simp [owns1] at hq <;> simp [hq]⟩⟩, outAt_lits (fun i hi => join_bytes z t i hi) (fun i _ => rfl)⟩
    · simp [go_sem]
theorem c_Render (l : List PTok) (hl : l.length + tokSum l ≤ 1048576) : VFun Try.prog 13 [.sl 3 l.length (tokCells l)] (fun av obs => obs = [] ∧ av = .lit (.string (rend l))) := by
  have cl : ∀ (i : Nat) (c : AV), i < l.length → c ∈ tokCells l i → Closed c := fun i c _ h => tokClosed l i c h
  refine vfun_start Try.func13 (by kernel_rfl) rfl (by simp [Try.ntmps13]) ?_
  simp only [Try.ntmps13, Try.results13]
  simp [go_sem]
  refine ⟨by omega, ?_⟩
  refine vc_loopE (fun p : Nat × Bool => p.1 ≤ l.length) (fun p => l.length - p.1) (fun p => .of [(3, .ptr 0 2 0 0), (6, .sl 3 l.length (tokCells l)), (7, .lit (.int .i64 l.length)), (8, .lit (.int .i64 p.1))] [some ⟨71, 2, 1, fun _ => [bp p.2, .own 1]⟩, some ⟨5, 1, (rend (l.take p.1)).size, byteCells (rend (l.take p.1))⟩]) ⟨(0, false), by omega, ?_⟩ (fun p hp => ?_)
  · refine (Ent.adopt (j := 0) (c := 1) rfl rfl rfl 5 1 (by omega) (fun _ => [])).trans ?_
    refine ent_ks [0, 1] (by simp) (by simp) (by simp) (by simp) trivial ?_ ?_
    · simp [go_sem]
      exact cl
    · simp [go_sem, rend, bp]
  · obtain ⟨i, u⟩ := p
    simp only at hp
    have bpr : ∀ g : Nat → Nat, g 0 = 0 → ren1 g (bp u) = bp u := fun g h => by cases u <;> simp [bp, ren1, h]
    have bpc : ∀ f : Nat → Nat, ∀ m, 0 < m → f 0 = 0 → Rn f m (bp u) (bp u) := fun f m h1 h2 => by
      cases u
      · exact .closed _ (.lit _)
      · have := Rn.ptr (f := f) (m := m) 0 2 0 0 h1
        rw [h2] at this
        exact this
    simp [go_sem]
    refine ⟨fun h => ?_, fun h => ?_⟩
    · have hs := tokSum_take l i h
      rcases ho : l.getD i default with ⟨k, g, z⟩
      rw [ho] at hs
      have e : tokCells l i = [.lit (.int .i64 k), .lit (.string g), .lit (.string z)] := by unfold tokCells; rw [ho]; rfl
      have hr := rend_take l i h
      have hz := rend_size (l.take i)
      have hz2 := tokSum_take_le l (i + 1)
      rw [ho] at hr
      simp only at hr
      simp only [tokSize] at hs
      simp [go_sem, e]
      refine ⟨h, ?_⟩
      refine vcall_share [0, 1] (c_WriteString u (rend (l.take i)) g (by omega)) (by simp) ?_ ?_ trivial ?_
      · simp [go_sem]
      · simp [go_sem]
        exact ⟨bpc _ _ (by omega) rfl, fun i _ => cellsRn_lits rfl⟩
      · rintro av mem maps ⟨rfl, rfl, rfl⟩
        simp [go_sem]
        refine vcall_share [0, 3] (c_WriteString true (rend (l.take i) ++ g) z (by rw [ByteArray.size_append]; omega)) (by simp) ?_ ?_ trivial ?_
        · simp [go_sem]
        · simp [go_sem, bp]
          exact fun i _ => cellsRn_lits rfl
        · rintro av mem maps ⟨rfl, rfl, rfl⟩
          simp [go_sem]
          refine ⟨i + 1, by omega, by omega, .inr ?_⟩
          refine ent_ks [0, 4] (by simp) (by simp) (by simp) (by simp) trivial ?_ ?_
          · simp [go_sem]
            exact ⟨cl, wrap_succ (by omega)⟩
          · simp [go_sem, hr, bp]
            exact .inl fun j hj => byteClosed _ _
    · have e2 : l.take i = l := List.take_of_length_le h
      rw [e2]
      refine vcall_share [0, 1] (c_String (bp u) (rend l)) (by simp) ?_ ?_ trivial ?_
      · simp [go_sem]
      · simp [go_sem]
        exact ⟨bpc _ _ (by omega) rfl, fun i _ => cellsRn_lits rfl⟩
      · rintro av mem maps ⟨rfl, rfl, rfl⟩
        simp [go_sem]
end Go.Proofs.Ytnjnkhmcdkjekaa.V
/- Contracts: the law of Render. -/
namespace Go.Proofs.Ytnjnkhmcdkjekaa.V
open Go.RowKit
set_option linter.unusedVariables false
set_option linter.unusedSimpArgs false
set_option linter.constructorNameAsVariable false
theorem c_FnExactRender (l : List PTok) (hl : l.length ≤ maxLen) (hw : ∀ i, i < l.length → (l.getD i default).wf) : VFun Try.prog 3 [.sl 3 l.length (tokCells l)] (fun av _ => av = .lit (.bool true)) := by
  have cl : ∀ (i : Nat) (c : AV), i < l.length → c ∈ tokCells l i → Closed c := fun i c _ h => tokClosed l i c h
  refine vfun_start Try.func3 (by kernel_rfl) rfl (by simp [Try.ntmps3]) ?_
  simp only [Try.ntmps3, Try.results3]
  simp [go_sem]
  refine vcall_use (c_szTokenS l 1048576 hl hw (by decide) (by decide)) ?_ ?_
  · simp [go_sem]
    exact argSl_refl (by omega) cl
  · rintro av obs ⟨rfl, rfl | ⟨h0, rfl⟩⟩
    · simp [go_sem]
    · simp [go_sem]
      refine fun h1 => ?_
      have hsa : l.length + tokSum l ≤ 1048576 := by omega
      refine vcall_use (c_toTokenS l (by omega)) ?_ ?_
      · simp [go_sem]
        exact argSl_refl (by omega) cl
      · rintro av obs ⟨rfl, rfl⟩
        simp [go_sem]
        refine vcall_pure (c_specRender l hsa) ?_ ?_
        · simp [go_sem]
          exact argSl_own (k := 0) rfl (by omega) cl
        · simp [go_sem]
          refine vcall_use (c_toTokenS l (by omega)) ?_ ?_
          · simp [go_sem]
            exact argSl_refl (by omega) cl
          · rintro av obs ⟨rfl, rfl⟩
            simp [go_sem]
            refine vcall_pure (c_Render l hsa) ?_ ?_
            · simp [go_sem]
              exact argSl_own (k := 1) rfl (by omega) cl
            · simp [go_sem]
              refine vcall_use (c_toTokenS l (by omega)) ?_ ?_
              · simp [go_sem]
                exact argSl_refl (by omega) cl
              · rintro av obs ⟨rfl, rfl⟩
                simp [go_sem]
                refine vcall_pure (c_eqTokenS l l (by omega) (by omega)) ?_ ?_
                · simp [go_sem]
                  exact ⟨argSl_own (k := 1) rfl (by omega) cl, argSl_own (k := 2) rfl (by omega) cl⟩
                · simp [go_sem, toksEq_refl]
set_option maxRecDepth 100000 in
theorem shape_tok (n : Nat) (xs : List AV) (h : Shape Try.prog (n + 2) 66 xs) : ∃ o : PTok, o.wf ∧ xs = o.cells := by
  obtain ⟨parts, h0, rfl⟩ := shape_struct Try.underlying66 h
  clear h
  simp only [List.toList_toArray, all2_cons, all2_nil] at h0
  obtain ⟨_, _, rfl, ⟨_, h1⟩, _, _, rfl, ⟨_, h2⟩, _, _, rfl, ⟨_, h3⟩, rfl⟩ := h0
  obtain ⟨k, rfl, hk⟩ := shape_int Try.underlying3 h1
  obtain ⟨g, rfl, hg⟩ := shape_string Try.underlying9 h2
  obtain ⟨z, rfl, hz⟩ := shape_string Try.underlying9 h3
  exact ⟨⟨k, g, z⟩, ⟨hg, hz⟩, rfl⟩
set_option maxRecDepth 100000 in
theorem shape_toks (n : Nat) (xs : List AV) (h : Shape Try.prog (n + 3) 22 xs) : ∃ l : List PTok, l.length ≤ maxLen ∧ (∀ i, i < l.length → (l.getD i default).wf) ∧ ∃ f, xs = [.sl 3 l.length f] ∧ ∀ i, i < l.length → f i = tokCells l i := by
  obtain ⟨m, f, rfl, hm, hf⟩ := shape_slice Try.underlying22 h
  have hc : Try.prog.cellsOf 66 = 3 := by kernel_rfl
  obtain ⟨l, rfl, h2, h3⟩ := rows_of PTok.cells PTok.wf fun i hi => shape_tok n (f i) (hf i hi).2
  exact ⟨l, hm, h2, f, by rw [hc], h3⟩
end Go.Proofs.Ytnjnkhmcdkjekaa.V
/- Contracts: the law of Roles. -/
namespace Go.Proofs.Ytnjnkhmcdkjekaa.V
open Go.RowKit
set_option linter.unusedVariables false
set_option linter.unusedSimpArgs false
set_option linter.constructorNameAsVariable false
theorem c_RolesO (l : List POp) (hl : l.length ≤ 9223372036854775807) (hw : opsWf l) (t : List PTok) (ht : t.length ≤ 1048576) (hz : ∀ i, i < t.length → (tokAt t i).text.size ≤ maxLen) : VFun Try.prog 29 [.agg [.sl 4 l.length (opCells l)], .sl 3 t.length (tokCells t)] (fun av obs => av = .tup [.own 0, .lit (.int .i64 (rolesZ l t).2)] ∧ obs = [⟨3, 1, (rolesZ l t).1.length, intCells (rolesZ l t).1⟩]) := by
  refine (c_Roles l hl hw t ht hz).adopt 3 1 (by omega) (intCells []) fun av obs h => ?_
  rcases h with ⟨x, h1, rfl, rfl⟩ | h1
  · refine .inr ⟨_, rfl, rfl, ?_⟩
    rw [h1]
    exact ⟨rfl, rfl⟩
  · exact .inl h1
theorem rolesZ_len (l : List POp) (t : List PTok) : (rolesZ l t).1.length ≤ t.length := by
  unfold rolesZ
  split
  · simp
  · split
    · simp
    · split
      · simp [rolesUp_len]
      · simp
theorem c_FnExactRoles (l : List POp) (hl : l.length ≤ maxLen) (hw : opsWf l) (t : List PTok) (htl : t.length ≤ maxLen) (htw : ∀ i, i < t.length → (t.getD i default).wf) : VFun Try.prog 7 [.agg [.sl 4 l.length (opCells l)], .sl 3 t.length (tokCells t)] (fun av _ => av = .lit (.bool true)) := by
  have cl : ∀ (i : Nat) (c : AV), i < l.length → c ∈ opCells l i → Closed c := fun i c _ h => opClosed l i c h
  have clt : ∀ (i : Nat) (c : AV), i < t.length → c ∈ tokCells t i → Closed c := fun i c _ h => tokClosed t i c h
  have hl' : l.length ≤ 9223372036854775807 := by simpa [maxLen] using hl
  have hr := rolesZ_len l t
  have hz : ∀ i, i < t.length → (tokAt t i).text.size ≤ maxLen := fun i hi => (htw i hi).2
  have clr : ∀ (i : Nat) (c : AV), i < (rolesZ l t).1.length → c ∈ intCells (rolesZ l t).1 i → Closed c := fun i c _ h => intClosed _ i c h
  refine vfun_start Try.func7 (by kernel_rfl) rfl (by simp [Try.ntmps7]) ?_
  simp only [Try.ntmps7, Try.results7]
  simp [go_sem]
  refine vcall_use (c_szTable l 1048576 hl hw (by decide) (by decide)) ?_ ?_
  · simp [go_sem]
    exact argSl_refl (by omega) cl
  · rintro av obs ⟨rfl, rfl | ⟨h0, rfl⟩⟩
    · simp [go_sem]
    · simp [go_sem]
      refine fun h1 => vcall_use (c_szTokenS t _ htl htw h0 (by omega)) ?_ ?_
      · simp [go_sem]
        exact argSl_refl (by omega) clt
      · rintro av obs ⟨rfl, rfl | ⟨h2, rfl⟩⟩
        · simp [go_sem]
        · simp [go_sem]
          refine fun h3 => ?_
          have hsa : l.length ≤ 1048576 := by omega
          have hst : t.length ≤ 1048576 := by omega
          refine vcall_use (c_toTable l hsa) ?_ ?_
          · simp [go_sem]
            exact argSl_refl (by omega) cl
          · rintro av obs ⟨rfl, rfl⟩
            simp [go_sem]
            refine vcall_use (c_toTokenS t hst) ?_ ?_
            · simp [go_sem]
              exact argSl_refl (by omega) clt
            · rintro av obs ⟨rfl, rfl⟩
              simp [go_sem]
              refine vcall_use (c_specRoles l hl' hw t hst) ?_ ?_
              · simp [go_sem]
                exact ⟨argSl_own (k := 1) rfl (by omega) cl, argSl_own (k := 2) rfl (by omega) clt⟩
              · rintro av obs ⟨rfl, rfl⟩
                simp [go_sem]
                refine vcall_use (c_toTable l hsa) ?_ ?_
                · simp [go_sem]
                  exact argSl_refl (by omega) cl
                · rintro av obs ⟨rfl, rfl⟩
                  simp [go_sem]
                  refine vcall_use (c_toTokenS t hst) ?_ ?_
                  · simp [go_sem]
                    exact argSl_refl (by omega) clt
                  · rintro av obs ⟨rfl, rfl⟩
                    simp [go_sem]
                    refine vcall_use (c_RolesO l hl' hw t hst hz) ?_ ?_
                    · simp [go_sem]
                      exact ⟨argSl_own (k := 4) rfl (by omega) cl, argSl_own (k := 6) rfl (by omega) clt⟩
                    · rintro av obs ⟨rfl, rfl⟩
                      simp [go_sem]
                      refine vcall_pure (c_eqIntS (rolesZ l t).1 (rolesZ l t).1 (by omega) (by omega)) ?_ ?_
                      · simp [go_sem]
                        exact ⟨argSl_own (k := 7) rfl (by omega) clr, argSl_own (k := 3) rfl (by omega) clr⟩
                      · simp [go_sem, intsEq_refl]
                        refine vc_drawn 5 (.q 0 <| .q 1 <| .or 2 (.or 3 (.q 4 <| .done) (.nil)) (.nil)) (by kernel_rfl) ?_
                        simp [go_sem]
                        refine vcallV_use (c_toTable l hsa) ?_ ?_
                        · simp [go_sem]
                          exact argSl_refl (by omega) cl
                        · rintro av obs ⟨rfl, rfl⟩
                          simp [go_sem]
                          refine vcallV_pure (c_eqTable l l (by omega) (by omega)) ?_ ?_
                          · simp [go_sem]
                            exact ⟨argSl_own (k := 4) rfl (by omega) cl, argSl_own (k := 8) rfl (by omega) cl⟩
                          · simp [go_sem, opsEq_refl]
                            refine vcall_use (c_toTokenS t hst) ?_ ?_
                            · simp [go_sem]
                              exact argSl_refl (by omega) clt
                            · rintro av obs ⟨rfl, rfl⟩
                              simp [go_sem]
                              refine vcall_pure (c_eqTokenS t t (by omega) (by omega)) ?_ ?_
                              · simp [go_sem]
                                exact ⟨argSl_own (k := 6) rfl (by omega) clt, argSl_own (k := 9) rfl (by omega) clt⟩
                              · simp [go_sem, toksEq_refl]
                                refine vcall_share [4] (c_markTable l 1 hsa (by omega)) (by simp) ?_ ?_ trivial ?_
                                · simp [go_sem]
                                · simp [go_sem]
                                  exact fun i _ => cellsRn_lits rfl
                                · rintro av mem maps ⟨rfl, rfl, rfl⟩
                                  simp [go_sem]
                                  refine vcall_share [6] (c_markTokenS t (1 + 4 * l.length) (by omega) (by omega)) (by simp) ?_ ?_ trivial ?_
                                  · simp [go_sem]
                                  · simp [go_sem]
                                    exact fun i _ => cellsRn_lits rfl
                                  · rintro av mem maps ⟨rfl, rfl, rfl⟩
                                    simp [go_sem]
                                    refine ⟨fun _ => ?_, by omega⟩
                                    refine vcall_pure (c_eqIntS (rolesZ l t).1 (rolesZ l t).1 (by omega) (by omega)) ?_ ?_
                                    · simp [go_sem]
                                      exact ⟨argSl_own (k := 7) rfl (by omega) clr, argSl_own (k := 3) rfl (by omega) clr⟩
                                    · simp [go_sem, intsEq_refl]
                                      refine vcall_share [7] (c_markIntS (rolesZ l t).1 1 (by omega) (by omega)) (by simp) ?_ ?_ trivial ?_
                                      · simp [go_sem]
                                      · simp [go_sem]
                                        exact fun i _ => cellsRn_lits rfl
                                      · rintro av mem maps ⟨rfl, rfl, rfl⟩
                                        simp [go_sem]
                                        refine vcall_pure (c_heldIntS (rolesZ l t).1.length 1 (by omega) (by omega)) ?_ ?_
                                        · simp [go_sem]
                                          exact argSl_own (k := 7) rfl (by omega) fun i c _ hc => markIClosed 1 i c hc
                                        · simp [go_sem]
                                          refine ⟨by omega, fun _ => vcall_use (c_toTable l hsa) ?_ ?_⟩
                                          · simp [go_sem]
                                            exact argSl_refl (by omega) cl
                                          · rintro av obs ⟨rfl, rfl⟩
                                            simp [go_sem]
                                            refine vcall_use (c_toTokenS t hst) ?_ ?_
                                            · simp [go_sem]
                                              exact argSl_refl (by omega) clt
                                            · rintro av obs ⟨rfl, rfl⟩
                                              simp [go_sem]
                                              refine vcall_use (c_RolesO l hl' hw t hst hz) ?_ ?_
                                              · simp [go_sem]
                                                exact ⟨argSl_own (k := 10) rfl (by omega) cl, argSl_own (k := 11) rfl (by omega) clt⟩
                                              · rintro av obs ⟨rfl, rfl⟩
                                                simp [go_sem]
                                                refine vcall_pure (c_eqIntS (rolesZ l t).1 (rolesZ l t).1 (by omega) (by omega)) ?_ ?_
                                                · simp [go_sem]
                                                  exact ⟨argSl_own (k := 12) rfl (by omega) clr, argSl_own (k := 3) rfl (by omega) clr⟩
                                                · simp [go_sem, intsEq_refl]
                                                  refine vcall_pure (c_heldIntS (rolesZ l t).1.length 1 (by omega) (by omega)) ?_ ?_
                                                  · simp [go_sem]
                                                    exact argSl_own (k := 7) rfl (by omega) fun i c _ hc => markIClosed 1 i c hc
                                                  · simp [go_sem]
                                                    omega
end Go.Proofs.Ytnjnkhmcdkjekaa.V
