import Derived.Test.YtjdmmhcogmepaaaGreatDoorME
import Derived.Test.YtjdmmhcogmepaaaGreatDoorMD
import Derived.Test.YtjdmmhcogmepaaaGreatDoorMB
import Derived.Test.YtjdmmhcogmepaaaGreatDoorMC
set_option linter.unusedVariables false
set_option linter.unusedSimpArgs false
set_option linter.constructorNameAsVariable false
namespace Go.Proofs.YtjdmmhcogmepaaaGreatDoor.V
open Go.RowKit
open Go.Proofs.YtjdmmhcogmepaaaGreatDoor.Ops (Tr Tk Lv Res Fit OF)
def offFill (t : List PTok) (i j : Nat) : List AV := [.lit (.int .i64 (if j < i then offZ t j else 0))]
theorem offFill_at (t : List PTok) (i j : Nat) : offFill t i j = [.lit (.int .i64 (if j < i then offZ t j else 0))] := rfl
theorem offClosed (t : List PTok) (i j : Nat) (c : AV) (h : c ∈ offFill t i j) : Closed c := by
 simp only [offFill, List.mem_singleton] at h
 subst h; exact .lit _
set_option maxRecDepth 100000 in
theorem c_Parse1 (l : List POp) (hl : l.length ≤ 9223372036854775807) (hw : opsWf l) (z : ByteArray) (hz : z.size ≤ 1048576) : VFun Tryz.prog 19 [.agg [.sl 4 l.length (opCells l)], .lit (.string z)] (paR l z) := by
 have cl : ∀ (i : Nat) (c : AV), i < l.length → c ∈ opCells l i → Closed c := fun i c _ h => opClosed l i c h
 refine vfun_start Tryz.func19 (by kernel_rfl) rfl (by simp [Tryz.ntmps19]) ?_; simp only [Tryz.ntmps19, Tryz.results19]; simp [go_sem]
 refine vcall_pure (c_TableOk l hl hw) ?_ ?_
 ·simp [go_sem]
  exact argSl_refl (by omega) cl
 ·simp [go_sem]
  refine ⟨fun h0 => paR_nil (by simp [parZ, h0]), fun h0 => ?_⟩
  have hu := uniq_of_ok h0
  refine ⟨fun h1 => paR_nil ?_, fun h1 => ?_⟩
  ·have : ¬ z.size ≤ 20000 := by omega
   simp [parZ, h0, this]
  have hz2 : z.size ≤ 20000 := by omega
  have h1 : lexOk l z = true := by simp [lexOk, h0, hz2]
  refine vcall_use (c_Lex l hl hw z hz) ?_ ?_
  ·simp [go_sem]
   exact argSl_refl (by omega) cl
  ·rintro av obs (⟨h2, _⟩ | ⟨_, rfl, rfl⟩)
   ·rw [h1] at h2; cases h2
   simp [go_sem]
   have hends := lexZ_ends h1
   obtain ⟨hq1, hq2⟩ := lexZ_texts (l := l) (z := z) (by omega)
   obtain ⟨t, ht⟩ : ∃ t, t = lexZ l z := ⟨_, rfl⟩
   have hpar : parZ l z = parK l t := by rw [parZ, if_neg (by omega), if_neg (by omega), ← ht]
   rw [← ht] at hends hq1 hq2 ⊢
   have clt : ∀ (i : Nat) (c : AV), i < t.length → c ∈ tokCells t i → Closed c := fun i c _ h => tokClosed t i c h
   have hto : t.length + tokSum t ≤ 1048576 := by omega
   refine ⟨by omega, by omega, by omega, by omega, ?_⟩
   refine vc_loop (fun i : Nat => i ≤ t.length) (fun i => t.length - i) (fun i => .of [(2, .ptr 0 1 0 0), (4, .ptr 1 1 0 0), (5, .lit (.int .i64 0)), (6, .lit (.int .i64 0)), (7, .own 2), (9, .own 3), (10, .lit (.int .i64 (tokSum (t.take i)))), (36, .own 2), (37, .lit (.int .i64 t.length)), (38, .lit (.int .i64 i))] [some ⟨30, 1, 1, fun _ => [.sl 4 l.length (opCells l)]⟩, some ⟨37, 1, 1, fun _ => [.lit (.slice none 0 0)]⟩, some ⟨88, 3, t.length, tokCells t⟩, some ⟨3, 1, t.length, offFill t i⟩]) ⟨0, by omega, ?_⟩ (fun i hi => ?_)
   ·simp [go_sem, offFill, tokSum]
    exact ⟨cl, fun i hi c hc => .closed _ (clt i c hi hc)⟩
   ·by_cases h : i < t.length
    ·have hup : ∀ x : AV, updF t.length (offFill t i) i 0 [x] i = [x] := fun x => by
      rw [updF_at h h, if_pos rfl]; rfl
     have htk := tokSum_take t i h
     have htl := tokSum_take_le t (i + 1)
     have hsz : tokSize (t.getD i default) = (tokAt t i).gap.size + (tokAt t i).text.size := rfl
     have ew : IntKind.i64.wrap (((tokSum (t.take i) : Nat) : Int) + (tokAt t i).gap.size) = offZ t i := by rw [wrap_i64 (by omega)]; simp [offZ]
     have ew2 : IntKind.i64.wrap (offZ t i + (tokAt t i).text.size) = ((tokSum (t.take (i + 1)) : Nat) : Int) := by unfold offZ; rw [wrap_i64 (by omega), htk, hsz]; omega
     simp [go_sem, tokCells_at, h, ew]
     refine vc_drawn [] (.q 0 <| .q 1 <| .q 2 <| .q 3 <| .q 4 <| .q 5 <| .q 6 <| .q 7 <| .q 8 <| .done) (by kernel_rfl) ?_
     simp [go_sem, tokCells_at, h, hup, ew2]
     refine ⟨i + 1, by omega, by omega, ⟨rfl, wrap_succ (by omega)⟩, cl, fun j hj => ⟨?_, fun c hc => .closed _ (offClosed _ _ _ c hc)⟩⟩
     rw [updF_at h hj]
     by_cases hji : j = i
     ·subst hji
      simp [offFill, splice]
     ·rw [if_neg hji]
      simp only [offFill]
      by_cases h2 : j < i
      ·rw [if_pos h2, if_pos (by omega)]
      ·rw [if_neg h2, if_neg (by omega)]
    ·obtain rfl : i = t.length := by omega
     simp [go_sem]
     refine ⟨by omega, ?_⟩
     refine vc_loopE (fun i : Nat => i ≤ t.length ∧ ∀ j, j < i → (tokAt t j).kind ≠ 6) (fun i => t.length - i) (fun i => .of [(2, .ptr 0 1 0 0), (4, .ptr 1 1 0 0), (5, .lit (.int .i64 0)), (6, .lit (.int .i64 0)), (7, .sl 3 t.length (tokCells t)), (9, .own 3), (60, .sl 3 t.length (tokCells t)), (61, .lit (.int .i64 t.length)), (62, .lit (.int .i64 i))] [some ⟨30, 1, 1, fun _ => [.sl 4 l.length (opCells l)]⟩, some ⟨37, 1, 1, fun _ => [.lit (.slice none 0 0)]⟩, none, some ⟨3, 1, t.length, offFill t t.length⟩]) ⟨0, ⟨by omega, by simp⟩, ?_⟩ (fun i hi => ?_)
     ·refine (Ent.give [7, 60] 2 rfl (fun i hi c hc => clt i c hi hc) (by simp [lk])).trans (Ent.of_le ?_)
      simp [go_sem]
      exact ⟨clt, cl, fun i hi c hc => .closed _ (offClosed _ _ _ c hc)⟩
     ·by_cases h : i < t.length
      ·by_cases hk : (tokAt t i).kind = 6
       ·simp [go_sem, tokCells_at, h, hk]
        refine vc_drawn [5] (.q 0 <| .or 1 (.or 2 (.or 3 (.or 4 (.or 5 (.q 6 <| .q 7 <| .done) (.nil)) (.or 5 (.q 4 <| .q 6 <| .q 7 <| .done) (.nil))) (.or 5 (.q 3 <| .q 4 <| .q 6 <| .q 7 <| .done) (.nil))) (.or 5 (.q 2 <| .q 3 <| .q 4 <| .q 6 <| .q 7 <| .done) (.nil))) (.or 2 (.or 1 (.or 3 (.or 4 (.or 5 (.q 6 <| .q 7 <| .done) (.nil)) (.or 5 (.q 4 <| .q 6 <| .q 7 <| .done) (.nil))) (.or 5 (.q 3 <| .q 4 <| .q 6 <| .q 7 <| .done) (.nil))) (.or 5 (.q 1 <| .q 3 <| .q 4 <| .q 6 <| .q 7 <| .done) (.nil))) (.or 5 (.q 1 <| .q 2 <| .q 3 <| .q 4 <| .q 6 <| .q 7 <| .done) (.nil)))) (by kernel_rfl) ?_
        simp [go_sem, offFill_at, h]
        exact paR_nil (by rw [hpar, parK_bad (badAt_some h hi.2 hk)])
       ·simp [go_sem, tokCells_at, h, hk]
        refine ⟨i + 1, ⟨by omega, fun j hj => ?_⟩, by omega, Ent.of_le ?_⟩
        ·rcases Nat.lt_succ_iff_lt_or_eq.mp hj with hj | rfl
         ·exact hi.2 j hj
         ·exact hk
        ·simp [go_sem]
         exact ⟨⟨clt, wrap_succ (by omega)⟩, cl, fun i hi c hc => .closed _ (offClosed _ _ _ c hc)⟩
      ·obtain rfl : i = t.length := by omega
       have hnb := badAt_none hi.2
       simp [go_sem]
       refine vcall_use (c_RolesO l hl hw t (by omega) (fun i hi => by have := tok_le hi; unfold tokSize at this; simp only [maxLen]; omega)) ?_ ?_
       ·simp [go_sem]
        exact ⟨argSl_refl (by omega) cl, argSl_refl (by omega) clt⟩
       ·rintro av obs ⟨rfl, rfl⟩
        simp [go_sem]
        rcases roles_two h0 hends with ⟨hr, hR⟩ | ⟨hr, hlt⟩
        ·rw [hr, hR]
         simp [go_sem]
         have F := fits_of h0 hr
         refine vcall_share [] (c_indexOf l hl hw) (by simp) ?_ ?_ trivial ?_
         ·simp [go_sem]
          exact cl
         ·simp [go_sem]
         ·rintro av mem maps ⟨b1, b2, esA, esT, rfl, rfl, rfl, hb, hat, _⟩
          simp [go_sem]
          refine vcall_told [] 109 (c_newParser l t b1 b2 esA hu (ok_of_ok h0) hw hat) (by simp) ?_ ?_ ?_ ?_
          ·simp [go_sem]
           exact clt
          ·simp [go_sem]
          ·simp [go_sem]
           exact fun e => hb e.symm
          ·rintro av mem' maps' N vs as1 ⟨lo, bp, bo, b3, b4, esN, esL, ⟨n13, n14, n34⟩, rfl, rfl, rfl, rfl, rfl, rfl, hP⟩
           simp [go_sem]
           obtain ⟨E, hE⟩ : ∃ E : PEnv, E = ⟨l, lo, t, bp, bo, b1, b2, b3, b4, esA, esN, esL, hP, by omega, fun i hi => by have := tok_le hi; unfold tokSize at this; simp only [maxLen]; omega, n13, n14, n34⟩ := ⟨_, rfl⟩
           obtain ⟨r, hrun, hcase⟩ := run_of h0 F
           have ho := c_operand E _ 0 0 0 (toksZ l t) r (by rw [hE]; exact F.toks) F.fit hrun
           have hfam : ∀ i, i < lo.length + 1 → Rn (fun j => [5].getD j 0) 1 (renB (backN [] 5) (asP lo i)) (asP lo i) := fun i _ => by
            cases i with
            | zero =>
             refine .bptr _ _ (by simp) fun j a b h1 h2 => ?_
             match j with
             | 0 =>
              simp [backN, ren1] at h1 h2
              subst h1; subst h2
              exact .ptr (f := fun j => [5].getD j 0) 0 6 0 0 (by omega)
             | j + 1 => simp at h1
            | succ j => 
             have e : renB (backN [] 5) (asP lo (j + 1)) = asP lo (j + 1) := by simp [asP, renB, POp.cells, ren1]
             rw [e]
             exact .closed _ (.bptr _ fun c hc => by
              simp [POp.cells] at hc
              rcases hc with rfl | rfl | rfl | rfl <;> exact .lit _)
           have hob : Option.map (renOb (backN [] 5)) (pOb b1 b2 b3 b4 t 0) = pOb b1 b2 b3 b4 t 0 := by simp [pOb, renOb, ren1]
           rw [hob]
           have hml := E.mpsLe [(b2, ⟨9, esT⟩), (b1, ⟨151, esA⟩)]
           rw [hE] at hml
           cases r with
           | none =>
            simp only at hcase
            have cw := c_whole_none E 0 ho
            rw [hE] at cw
            refine vcall_tell [5] 109 cw (by simp) rfl hfam ?_ ?_ ?_ ?_
            ·simp [go_sem]
            ·simp [go_sem, PEnv.ob, pOb]
             exact clt
            ·exact hml
            ·rintro av mem maps ⟨⟨rfl, rfl⟩, rfl⟩
             simp [go_sem]
             exact paR_nil (by rw [hpar, parK_none hnb hr hcase])
           | some x =>
            obtain ⟨e, rest⟩ := x
            simp only at hcase
            obtain ⟨hat7, hcase⟩ := hcase
            have ea : E.at_ rest = t.length - 1 - rest.length := by rw [hE]; rfl
            have eT : E.t = t := by rw [hE]
            have cw := c_whole_some E 0 e rest (by rw [ea, eT]; exact hat7) ho
            rw [ea, eT] at cw
            rcases hcase with ⟨hp, hk7⟩ | ⟨hp, hk7⟩
            ·rw [hk7, hE] at cw
             obtain ⟨e1, e2, e3, e4, e5⟩ := partT_ok F hp
             obtain ⟨T, u, hT, _, fh, hmh, ch⟩ := partIs e
             obtain ⟨T', u', hT', fn, hmn, cn⟩ := nodesAre e [] e5 (by have := lay_yield e []; have := F.len; rw [e2] at *; simp only [List.length_nil] at *; omega)
             rw [hT] at cw hT'
             simp only [Value.iface.injEq] at hT'
             obtain ⟨rfl, rfl⟩ := hT'
             refine vcall_tell [5] 109 cw (by simp) rfl hfam ?_ ?_ ?_ ?_
             ·simp [go_sem]
             ·simp [go_sem, PEnv.ob, pOb]
              exact clt
             ·exact hml
             ·rintro av mem maps ⟨⟨rfl, rfl⟩, hM⟩
              simp [go_sem, hmh]
              refine vcall_pure ch ?_ ?_
              ·simp [go_sem]
              ·simp [go_sem, hmn]
               refine ⟨fun h6 => paR_nil (by rw [hpar, parK_high hnb hr hp (by omega)]), fun h6 => ?_⟩
               refine vcall_share [] (VProc.adoptNil (by omega) cn) (by simp) ?_ ?_ trivial ?_
               ·simp [go_sem]
               ·simp [go_sem]
               ·rintro av mem maps ⟨rfl, rfl, rfl⟩
                simp [go_sem, nodRow]
                refine ⟨_, obsSame_one.mpr ⟨⟨77, 4, (lay e []).length, nodCells (lay e [])⟩, ⟨rfl, rfl, rfl, fun j hj => ⟨rfl, nodLit _ j⟩⟩, rfl⟩, .inl ?_⟩
                rw [hpar, parK_ok hnb hr hp h6]
                exact ⟨rfl, rfl⟩
            ·have hk7' : decide ((tokAt t (t.length - 1 - rest.length)).kind = 7) = false := decide_eq_false hk7
             rw [hk7', hE] at cw
             refine vcall_tell [5] 109 cw (by simp) rfl hfam ?_ ?_ ?_ ?_
             ·simp [go_sem]
             ·simp [go_sem, PEnv.ob, pOb]
              exact clt
             ·exact hml
             ·rintro av mem maps ⟨⟨rfl, rfl⟩, hM⟩
              simp [go_sem]
              exact paR_nil (by rw [hpar, parK_none hnb hr hp])
        ·obtain ⟨q, hq⟩ : ∃ q : Nat, (rolesZ l t).2 = q := ⟨(rolesZ l t).2.toNat, by omega⟩
         have hk := parK_roles hnb hr
         rw [hq] at hr hlt hk ⊢
         simp only [Int.toNat_natCast] at hk
         have hq' : q < t.length := by omega
         refine ⟨fun _ => vc_drawn [5] (.q 0 <| .or 1 (.or 2 (.or 3 (.or 4 (.or 5 (.q 6 <| .q 7 <| .done) (.nil)) (.or 5 (.q 4 <| .q 6 <| .q 7 <| .done) (.nil))) (.or 5 (.q 3 <| .q 4 <| .q 6 <| .q 7 <| .done) (.nil))) (.or 5 (.q 2 <| .q 3 <| .q 4 <| .q 6 <| .q 7 <| .done) (.nil))) (.or 2 (.or 1 (.or 3 (.or 4 (.or 5 (.q 6 <| .q 7 <| .done) (.nil)) (.or 5 (.q 4 <| .q 6 <| .q 7 <| .done) (.nil))) (.or 5 (.q 3 <| .q 4 <| .q 6 <| .q 7 <| .done) (.nil))) (.or 5 (.q 1 <| .q 3 <| .q 4 <| .q 6 <| .q 7 <| .done) (.nil))) (.or 5 (.q 1 <| .q 2 <| .q 3 <| .q 4 <| .q 6 <| .q 7 <| .done) (.nil)))) (by kernel_rfl) ?_, fun h => by omega⟩
         simp [go_sem, offFill_at, hq']
         exact paR_nil (by rw [hpar, hk])
theorem c_Parse (l : List POp) (hl : l.length ≤ 9223372036854775807) (hw : opsWf l) (z : ByteArray) (hz : z.size ≤ 1048576) : VFun Tryz.prog 19 [.agg [.sl 4 l.length (opCells l)], .lit (.string z)] (fun av obs => av = .tup [.agg [.own 0], .lit (.int .i64 (parZ l z).2.1), .lit (.int .i64 (parZ l z).2.2)] ∧ obs = [⟨77, 4, (parZ l z).1.length, nodCells (parZ l z).1⟩]) :=
 (c_Parse1 l hl hw z hz).adoptA 77 4 (by omega) (nodCells []) fun av obs h => paR_own h
theorem seg_txt {l : List POp} {t : List PTok} {rs : List Int} {B : Nat} (hB : ∀ j, (tokAt t j).text.size ≤ B) : ∀ (e : PT) (i : Nat) (out : List PNode), SegIs l t rs i e.yield → NodTx B out → NodTx B (lay e out)
 | .leaf b, i, out, h, ho => by
  simp only [Tr.yield, SegIs, TokIs] at h
  refine nodTx_app ho ?_
  have := h.1.2
  simp only [this]
  exact hB i
 | .grp e, i, out, h, ho => by
  simp only [Tr.yield, SegIs] at h
  exact nodTx_app (seg_txt hB e _ out (seg_append.1 h.2.2).1 ho) (Nat.zero_le _)
 | .pre o e, i, out, h, ho => by
  simp only [Tr.yield, SegIs, TokIs] at h
  obtain ⟨⟨_, ht, _⟩, _, h2⟩ := h
  exact nodTx_app (seg_txt hB e _ out h2 ho) (by simp only [ht]; exact hB i)
 | .post o e, i, out, h, ho => by
  simp only [Tr.yield] at h
  obtain ⟨h1, h3⟩ := seg_append.1 h
  simp only [SegIs, TokIs] at h3
  obtain ⟨⟨_, ht, _⟩, _⟩ := h3
  exact nodTx_app (seg_txt hB e _ out h1 ho) (by simp only [ht]; exact hB _)
 | .inf o x y, i, out, h, ho => by
  simp only [Tr.yield] at h
  obtain ⟨h1, h3⟩ := seg_append.1 h
  simp only [SegIs, TokIs] at h3
  obtain ⟨⟨_, ht, _⟩, _, h4⟩ := h3
  exact nodTx_app (seg_txt hB y _ _ h4 (seg_txt hB x _ out h1 ho)) (by simp only [ht]; exact hB _)
end Go.Proofs.YtjdmmhcogmepaaaGreatDoor.V
namespace Go.Proofs.YtjdmmhcogmepaaaGreatDoor.V
open Go.RowKit
theorem byteAt_ext {z : ByteArray} {p q i : Nat} (h : p + i < q) (hq : q ≤ z.size) : byteAt (z.extract p q) i = byteAt z (p + i) := by
 have h1 : i < (z.extract p q).size := by rw [ByteArray.size_extract]; omega
 have h2 : p + i < z.size := by omega
 unfold byteAt
 rw [dif_pos h1, dif_pos h2, ByteArray.getElem_extract]
theorem byteAt_app1 {a b : ByteArray} {i : Nat} (h : i < a.size) : byteAt (a ++ b) i = byteAt a i := by
 have h1 : i < (a ++ b).size := by rw [ByteArray.size_append]; omega
 unfold byteAt
 rw [dif_pos h1, dif_pos h, ByteArray.getElem_append_left h]
theorem byteAt_app2 {a b : ByteArray} {i : Nat} (h : i < b.size) : byteAt (a ++ b) (a.size + i) = byteAt b i := by
 have h1 : a.size + i < (a ++ b).size := by rw [ByteArray.size_append]; omega
 unfold byteAt
 rw [dif_pos h1, dif_pos h, ByteArray.getElem_append_right (by omega)]
 simp
theorem ext_mid (a b c : ByteArray) : (a ++ b ++ c).extract a.size (a.size + b.size) = b := by
 apply ByteArray.ext
 simp only [ByteArray.data_extract, ByteArray.data_append]
 apply Array.toList_inj.1
 simp [← ByteArray.size_data]
theorem sg_not {c : Int} (h : isSg c = true) : isDg c = false ∧ isLt c = false ∧ isBl c = false ∧ c ≠ 40 ∧ c ≠ 41 := by
 simp only [isSg, List.any_eq_true, List.mem_range, decide_eq_true_eq] at h
 obtain ⟨i, hi, rfl⟩ := h
 rcases (by omega : i = 0 ∨ i = 1 ∨ i = 2 ∨ i = 3 ∨ i = 4 ∨ i = 5 ∨ i = 6 ∨ i = 7 ∨ i = 8 ∨ i = 9 ∨ i = 10 ∨ i = 11 ∨ i = 12 ∨ i = 13 ∨ i = 14 ∨ i = 15 ∨ i = 16 ∨ i = 17) with h | h | h | h | h | h | h | h | h | h | h | h | h | h | h | h | h | h <;> subst h <;> decide
theorem al_not {c : Int} (h : alnum c = true) : isSg c = false ∧ isBl c = false ∧ c ≠ 40 ∧ c ≠ 41 := by
 refine ⟨?_, ?_⟩
 ·cases e : isSg c with
  | false => rfl
  | true =>
   obtain ⟨h1, h2, _⟩ := sg_not e
   simp [alnum, h1, h2] at h
 ·simp only [alnum, isDg, isLt, Bool.or_eq_true, Bool.and_eq_true, decide_eq_true_eq] at h
  simp only [isBl, decide_eq_false_iff_not]
  omega
def Signs (w : ByteArray) : Prop := ∀ i, i < w.size → isSg (byteAt w i) = true
def Alnum (w : ByteArray) : Prop := ∀ i, i < w.size → alnum (byteAt w i) = true
theorem num_al {w : ByteArray} (h : numZ w = true) : Alnum w ∧ 0 < w.size := by
 simp only [numZ, Bool.and_eq_true, List.all_eq_true, List.mem_range, decide_eq_true_eq] at h
 exact ⟨fun i hi => by simp [alnum, h.1 i hi], h.2⟩
theorem nam_al {w : ByteArray} (h : namZ w = true) : Alnum w ∧ 0 < w.size := by
 simp only [namZ, Bool.and_eq_true, List.all_eq_true, List.mem_range, decide_eq_true_eq, namAt, Bool.or_eq_true] at h
 refine ⟨fun i hi => ?_, h.2⟩
 rcases h.1 i hi with e | ⟨_, e⟩ <;> simp [alnum, e]
theorem sg_signs {w : ByteArray} (h : sgOk w = true) : Signs w ∧ 0 < w.size ∧ w.size ≤ 16 := by
 simp only [sgOk, sgAll, Bool.and_eq_true, List.all_eq_true, List.mem_range, decide_eq_true_eq] at h
 exact ⟨h.1.1, h.1.2, h.2⟩
theorem opOk_signs {o : POp} (h : opOk o = true) : sgOk o.text = true := by
 simp only [opOk, Bool.and_eq_true] at h
 exact h.1
theorem isOp_signs {l : List POp} (hok : ∀ j, j < l.length → opOk (opAt l j) = true) {w : ByteArray} (h : isOpZ l w = true) : sgOk w = true := by
 simp only [isOpZ, Bool.or_eq_true, opHas_iff] at h
 rcases h with (⟨j, hj, e, _⟩ | ⟨j, hj, e, _⟩) | ⟨j, hj, e, _⟩ <;> (rw [← e]; exact opOk_signs (hok j hj))
inductive WordOk (l : List POp) (w : ByteArray) : Prop where
 |op (h : Signs w) (h0 : 0 < w.size) (h1 : w.size ≤ 16) (k : kindZ l w = 3)
 |al (h : Alnum w) (h0 : 0 < w.size) (k : kindZ l w = 1 ∨ kindZ l w = 2)
 |opn (h : w = ⟨#[40]⟩) (k : kindZ l w = 4)
 |cls (h : w = ⟨#[41]⟩) (k : kindZ l w = 5)
theorem word_ok {l : List POp} (hok : ∀ j, j < l.length → opOk (opAt l j) = true) {w : ByteArray} (h : kindZ l w ≠ 6) : WordOk l w := by
 by_cases h1 : numZ w = true
 ·exact .al (num_al h1).1 (num_al h1).2 (by simp [kindZ, h1])
 ·by_cases h2 : namZ w = true
  ·exact .al (nam_al h2).1 (nam_al h2).2 (by simp [kindZ, h1, h2])
  ·by_cases h3 : w = ⟨#[40]⟩
   ·refine .opn h3 ?_
    simp only [kindZ, h1, h2]
    simp [h3]
   ·by_cases h4 : w = ⟨#[41]⟩
    ·refine .cls h4 ?_
     simp only [kindZ, h1, h2, h3]
     simp [h4]
    ·by_cases h5 : isOpZ l w = true
     ·obtain ⟨g1, g2, g3⟩ := sg_signs (isOp_signs hok h5)
      exact .op g1 g2 g3 (by simp [kindZ, h1, h2, h3, h4, h5])
     ·exact absurd (by simp [kindZ, h1, h2, h3, h4, h5]) h
theorem kind_mixed {l : List POp} (hok : ∀ j, j < l.length → opOk (opAt l j) = true) {w : ByteArray} (h0 : 0 < w.size) (hs : isSg (byteAt w 0) = true) {j : Nat} (hj : j < w.size) (hn : isSg (byteAt w j) = false) : kindZ l w = 6 := by
 refine Decidable.byContradiction fun hk => ?_
 obtain ⟨s1, s2, s3, s4, s5⟩ := sg_not hs
 cases word_ok hok hk with
 | op h => rw [h j hj] at hn; cases hn
 | al h => have := h 0 h0; simp [alnum, s1, s2] at this
 | opn h => subst h; exact s4 rfl
 | cls h => subst h; exact s5 rfl
theorem longF_stop {l : List POp} {z : ByteArray} {i : Nat} {m : Nat} (hm : 1 ≤ m) (hk : m = 1 ∨ kindZ l (z.extract i (i + m)) ≠ 6) : ∀ n, m ≤ n → (∀ k, m < k → k ≤ n → kindZ l (z.extract i (i + k)) = 6) → longF l z i n = m
 | 0, h, _ => by omega
 | n + 1, h, h6 => by
  unfold longF
  by_cases e : m = n + 1
  ·by_cases e0 : n = 0
   ·rw [if_pos e0]; omega
   ·rw [if_neg e0]
    rcases hk with hk | hk
    ·omega
    ·rw [← e, if_pos hk]
  ·rw [if_neg (by omega), if_neg (by rw [h6 (n + 1) (by omega) (by omega)]; simp)]
   exact longF_stop hm hk n (by omega) fun k h1 h2 => h6 k h1 (by omega)
theorem run_eq {p : Int → Bool} {z : ByteArray} : ∀ (n f : Nat), f + n ≤ z.size → (∀ j, j < n → p (byteAt z (f + j)) = true) → (f + n = z.size ∨ p (byteAt z (f + n)) = false) → run p z f = n
 | 0, f, h, _, hs => by
  rcases hs with hs | hs
  ·exact run_end (by omega)
  ·by_cases e : f < z.size
   ·exact run_no e (by simpa using hs)
   ·exact run_end (by omega)
 | n + 1, f, h, ha, hs => by
  have h0 := ha 0 (by omega)
  rw [run_yes (by omega) (by simpa using h0), run_eq n (f + 1) (by omega) (fun j hj => by have := ha (j + 1) (by omega); rwa [show f + (j + 1) = f + 1 + j by omega] at this) (by rwa [show f + 1 + n = f + (n + 1) by omega])]
  omega
def Apart (w : ByteArray) (c : Int) : Prop := (isSg (byteAt w 0) = true → isSg c = false) ∧ (alnum (byteAt w 0) = true → alnum c = false)
theorem longest_eq {l : List POp} (hok : ∀ j, j < l.length → opOk (opAt l j) = true) {z : ByteArray} {p q : Nat} (hpq : p < q) (hq : q ≤ z.size) (hw : WordOk l (z.extract p q)) (hs : q = z.size ∨ Apart (z.extract p q) (byteAt z q)) : longest l z p = q - p := by
 have hsz : (z.extract p q).size = q - p := by rw [ByteArray.size_extract]; omega
 have hb0 : byteAt (z.extract p q) 0 = byteAt z p := by rw [byteAt_ext (by omega) hq]; rfl
 have hext : p + (q - p) = q := by omega
 unfold longest
 have hr := reachZ_le z p (by omega)
 cases hw with
 | op h h0 h1 k =>
  have hf : isSg (byteAt z p) = true := by rw [← hb0]; exact h 0 h0
  rw [hsz] at h1
  refine longF_stop (by omega) (.inr (by rw [hext, k]; decide)) _ (by unfold reachZ; rw [if_pos hf]; split <;> omega) fun n hn1 hn2 => ?_
  rcases hs with hs | hs
  ·omega
  ·have hx : (z.extract p (p + n)).size = n := by rw [ByteArray.size_extract]; omega
   refine kind_mixed hok (by omega) (by rw [byteAt_ext (by omega) (by omega)]; exact hf) (j := q - p) (by omega) ?_
   rw [byteAt_ext (by omega) (by omega), hext]
   exact hs.1 (by rw [hb0]; exact hf)
 | al h h0 k =>
  have hf : alnum (byteAt z p) = true := by rw [← hb0]; exact h 0 h0
  have hrn : 1 + run alnum z (p + 1) = q - p := by
   rw [run_eq (p := alnum) (q - p - 1) (p + 1) (by omega) (fun j hj => by
    have := h (j + 1) (by omega)
    rw [byteAt_ext (by omega) hq] at this
    rwa [show p + 1 + j = p + (j + 1) by omega]) ?_]
   ·omega
   ·rw [show p + 1 + (q - p - 1) = q by omega]
    rcases hs with hs | hs
    ·exact .inl hs
    ·exact .inr (hs.2 (by rw [hb0]; exact hf))
  have hre : reachZ z p = q - p := by
   unfold reachZ
   rw [if_neg (by rw [(al_not hf).1]; simp), if_pos hf, hrn]
  rw [hre]
  refine longF_stop (by omega) (.inr ?_) _ (Nat.le_refl _) fun n hn1 hn2 => by omega
  rw [hext]; omega
 | opn h k =>
  have e1 : q - p = 1 := by rw [← hsz, h]; rfl
  have hf : byteAt z p = 40 := by rw [← hb0, h]; rfl
  have hre : reachZ z p = 1 := by
   unfold reachZ
   rw [hf, if_neg (by decide), if_neg (by decide)]
  rw [hre, e1]
  exact longF_stop (by omega) (.inl rfl) 1 (by omega) fun n hn1 hn2 => by omega
 | cls h k =>
  have e1 : q - p = 1 := by rw [← hsz, h]; rfl
  have hf : byteAt z p = 41 := by rw [← hb0, h]; rfl
  have hre : reachZ z p = 1 := by
   unfold reachZ
   rw [hf, if_neg (by decide), if_neg (by decide)]
  rw [hre, e1]
  exact longF_stop (by omega) (.inl rfl) 1 (by omega) fun n hn1 hn2 => by omega
theorem word_begin {l : List POp} {w : ByteArray} (h : WordOk l w) : 0 < w.size ∧ isBl (byteAt w 0) = false := by
 cases h with
 | op h h0 h1 k => exact ⟨h0, (sg_not (h 0 h0)).2.2.1⟩
 | al h h0 k => exact ⟨h0, (al_not (h 0 h0)).2.1⟩
 | opn h k => subst h; exact ⟨by decide, by decide⟩
 | cls h k => subst h; exact ⟨by decide, by decide⟩
theorem lex_word {l : List POp} (hok : ∀ j, j < l.length → opOk (opAt l j) = true) {z : ByteArray} {f p q : Nat} (hfp : f ≤ p) (hpq : p < q) (hq : q ≤ z.size) (hg : ∀ j, f ≤ j → j < p → isBl (byteAt z j) = true) (hw : WordOk l (z.extract p q)) (hs : q = z.size ∨ Apart (z.extract p q) (byteAt z q)) :
  lexFrom l z f = ⟨kindZ l (z.extract p q), z.extract f p, z.extract p q⟩ :: lexFrom l z q := by
 have hr : run isBl z f = p - f := by
  refine run_eq (p - f) f (by omega) (fun j hj => hg _ (by omega) (by omega)) (.inr ?_)
  have := (word_begin hw).2
  rw [byteAt_ext (by omega) hq] at this
  rw [show f + (p - f) = p by omega]; exact this
 have hl := longest_eq hok hpq hq hw hs
 rw [lexFrom_go (i := p) (by omega) (by omega), hl, show p + (q - p) = q by omega]
theorem lex_end {l : List POp} {z : ByteArray} {f : Nat} (hf : f ≤ z.size) (hg : ∀ j, f ≤ j → j < z.size → isBl (byteAt z j) = true) : lexFrom l z f = [⟨7, z.extract f z.size, ⟨#[]⟩⟩] := by
 have hr : run isBl z f = z.size - f := run_eq (z.size - f) f (by omega) (fun j hj => hg _ (by omega) (by omega)) (.inl (by omega))
 rw [lexFrom_end (i := z.size) (by omega) (by omega)]
def Blanks (g : ByteArray) : Prop := ∀ i, i < g.size → isBl (byteAt g i) = true
def joinW : List (ByteArray × ByteArray) → ByteArray → ByteArray
 | [], g => g
 | x :: r, g => x.1 ++ x.2 ++ joinW r g
def JoinOk (l : List POp) : List (ByteArray × ByteArray) → ByteArray → Prop
 | [], g => Blanks g
 | x :: r, g => Blanks x.1 ∧ WordOk l x.2 ∧ (match r with | [] => True | y :: _ => 0 < y.1.size ∨ Apart x.2 (byteAt y.2 0)) ∧ JoinOk l r g
theorem join_begin {l : List POp} : ∀ (r : List (ByteArray × ByteArray)) (g : ByteArray), JoinOk l r g → (joinW r g).size = 0 ∨ (0 < (joinW r g).size ∧ ((isBl (byteAt (joinW r g) 0) = true) ∨ ∃ y s, r = y :: s ∧ y.1.size = 0 ∧ byteAt (joinW r g) 0 = byteAt y.2 0))
 | [], g, h => by
  by_cases e : g.size = 0
  ·exact .inl e
  ·exact .inr ⟨by simp only [joinW]; omega, .inl (h 0 (by omega))⟩
 | y :: s, g, h => by
  have hw := word_begin h.2.1
  refine .inr ⟨by simp only [joinW, ByteArray.size_append]; omega, ?_⟩
  by_cases e : y.1.size = 0
  ·refine .inr ⟨y, s, rfl, e, ?_⟩
   simp only [joinW]
   rw [byteAt_app1 (by rw [ByteArray.size_append]; omega)]
   have := byteAt_app2 (a := y.1) (b := y.2) (i := 0) hw.1
   rwa [e] at this
  ·refine .inl ?_
   simp only [joinW]
   rw [byteAt_app1 (by rw [ByteArray.size_append]; omega), byteAt_app1 (by omega)]
   exact h.1 0 (by omega)
theorem apart_blank {w : ByteArray} {c : Int} (h : isBl c = true) : Apart w c := by
 refine ⟨fun _ => ?_, fun _ => ?_⟩
 ·cases e : isSg c with
  | false => rfl
  | true => rw [(sg_not e).2.2.1] at h; cases h
 ·cases e : alnum c with
  | false => rfl
  | true => rw [(al_not e).2.1] at h; cases h
theorem lex_join {l : List POp} (hok : ∀ j, j < l.length → opOk (opAt l j) = true) : ∀ (r : List (ByteArray × ByteArray)) (g pre : ByteArray), JoinOk l r g → lexFrom l (pre ++ joinW r g) pre.size = r.map (fun x => ⟨kindZ l x.2, x.1, x.2⟩) ++ [⟨7, g, ⟨#[]⟩⟩]
 | [], g, pre, h => by
  simp only [joinW, List.map_nil, List.nil_append]
  rw [lex_end (by rw [ByteArray.size_append]; omega) fun j h1 h2 => ?_]
  ·have := ext_mid pre g ByteArray.empty
   rw [ByteArray.append_empty] at this
   rw [ByteArray.size_append, this]
  ·rw [ByteArray.size_append] at h2
   rw [show j = pre.size + (j - pre.size) by omega, byteAt_app2 (by omega)]
   exact h _ (by omega)
 | x :: r, g, pre, h => by
  obtain ⟨hb, hw, hn, hr⟩ := h
  obtain ⟨z, hz⟩ : ∃ z, z = pre ++ joinW (x :: r) g := ⟨_, rfl⟩
  have hzs : z.size = pre.size + x.1.size + x.2.size + (joinW r g).size := by rw [hz]; simp only [joinW, ByteArray.size_append]; omega
  have e1 : z = pre ++ x.1 ++ (x.2 ++ joinW r g) := by rw [hz]; simp [joinW, ByteArray.append_assoc]
  have e2 : z = (pre ++ x.1) ++ x.2 ++ joinW r g := by rw [hz]; simp [joinW, ByteArray.append_assoc]
  have x1 : z.extract pre.size (pre.size + x.1.size) = x.1 := by rw [e1]; exact ext_mid _ _ _
  have x2 : z.extract (pre.size + x.1.size) (pre.size + x.1.size + x.2.size) = x.2 := by
   have := ext_mid (pre ++ x.1) x.2 (joinW r g)
   rw [ByteArray.size_append] at this
   rw [e2]; exact this
  have hpos := (word_begin hw).1
  rw [← hz]
  have hword := lex_word hok (z := z) (f := pre.size) (p := pre.size + x.1.size) (q := pre.size + x.1.size + x.2.size) (by omega) (by omega) (by omega) (fun j h1 h2 => by
   rw [e1, byteAt_app1 (by rw [ByteArray.size_append]; omega), show j = pre.size + (j - pre.size) by omega, byteAt_app2 (by omega)]
   exact hb _ (by omega)) (by rw [x2]; exact hw) (by
   rw [x2]
   rcases join_begin r g hr with e | ⟨e, e3⟩
   ·exact .inl (by omega)
   ·refine .inr ?_
    have hc : byteAt z (pre.size + x.1.size + x.2.size) = byteAt (joinW r g) 0 := by
     have := byteAt_app2 (a := (pre ++ x.1) ++ x.2) (b := joinW r g) (i := 0) e
     rw [← e2] at this
     simp only [ByteArray.size_append, Nat.add_zero] at this
     exact this
    rw [hc]
    rcases e3 with e3 | ⟨y, s, rfl, e4, e5⟩
    ·exact apart_blank e3
    ·rcases hn with hn | hn
     ·omega
     ·rw [e5]; exact hn)
  rw [hword, x1, x2]
  have ih := lex_join hok r g ((pre ++ x.1) ++ x.2) hr
  rw [← e2] at ih
  simp only [ByteArray.size_append] at ih
  rw [ih]
  rfl
open Go.Proofs.YtjdmmhcogmepaaaGreatDoor.Ops (Tr Tk Lv Res Fit OF)
def tkW : TkP → ByteArray
 | .leaf b => b.2
 | .opn => ⟨#[40]⟩
 | .cls => ⟨#[41]⟩
 | .pre o => o.text
 | .inf o => o.text
 | .post o => o.text
def TkOk (l : List POp) : TkP → Prop
 | .leaf b => (b.1 = 1 ∧ numZ b.2 = true) ∨ (b.1 = 2 ∧ namZ b.2 = true)
 | .pre o => o.kind = 1 ∧ InL l o
 | .inf o => o.kind = 2 ∧ InL l o
 | .post o => o.kind = 3 ∧ InL l o
 | _ => True
theorem nam_not {w : ByteArray} (h : namZ w = true) : numZ w = false := by
 cases e : numZ w with
 | false => rfl
 | true =>
  simp only [numZ, namZ, namAt, Bool.and_eq_true, List.all_eq_true, List.mem_range, decide_eq_true_eq, Bool.or_eq_true] at h e
  have h1 := h.1 0 h.2
  have h2 := e.1 0 h.2
  simp at h1
  simp only [isDg, isLt, Bool.and_eq_true, decide_eq_true_eq] at h1 h2
  omega
theorem kind_op {l : List POp} (hok : ∀ j, j < l.length → opOk (opAt l j) = true) {o : POp} (h : InL l o) (hk : 1 ≤ o.kind ∧ o.kind ≤ 3) : kindZ l o.text = 3 := by
 obtain ⟨j, hj, rfl⟩ := h
 have hs := opOk_signs (hok j hj)
 obtain ⟨s1, s2, s3⟩ := sg_signs hs
 obtain ⟨n1, n2, n3, n4, n5⟩ := sg_not (s1 0 s2)
 have e1 : numZ (opAt l j).text = false := by
  cases e : numZ (opAt l j).text with
  | false => rfl
  | true =>
   simp only [numZ, Bool.and_eq_true, List.all_eq_true, List.mem_range, decide_eq_true_eq] at e
   rw [e.1 0 s2] at n1; cases n1
 have e2 : namZ (opAt l j).text = false := by
  cases e : namZ (opAt l j).text with
  | false => rfl
  | true =>
   have := (nam_al e).1 0 s2
   simp [alnum, n1, n2] at this
 have e3 : ¬ (opAt l j).text = ⟨#[40]⟩ := fun e => n4 (by rw [e]; rfl)
 have e4 : ¬ (opAt l j).text = ⟨#[41]⟩ := fun e => n5 (by rw [e]; rfl)
 have e5 : isOpZ l (opAt l j).text = true := by
  have hh : opHas l (opAt l j).text (opAt l j).kind = true := (opHas_iff l _ _).2 ⟨j, hj, rfl, rfl⟩
  rcases (by omega : (opAt l j).kind = 1 ∨ (opAt l j).kind = 2 ∨ (opAt l j).kind = 3) with e | e | e <;> rw [e] at hh <;> simp [isOpZ, hh]
 simp [kindZ, e1, e2, e3, e4, e5]
theorem tk_is {l : List POp} (hok : ∀ j, j < l.length → opOk (opAt l j) = true) {tk : TkP} (h : TkOk l tk) (g : ByteArray) : TokIs l ⟨kindZ l (tkW tk), g, tkW tk⟩ tk ∧ WordOk l (tkW tk) := by
 cases tk with
 | leaf b =>
  obtain ⟨k, w⟩ := b
  rcases h with ⟨h1, h2⟩ | ⟨h1, h2⟩
  ·simp only at h1 h2
   subst h1
   have e : kindZ l w = 1 := by simp [kindZ, h2]
   exact ⟨⟨.inl e, by simp only [tkW]; rw [e]⟩, .al (num_al h2).1 (num_al h2).2 (.inl e)⟩
  ·simp only at h1 h2
   subst h1
   have e : kindZ l w = 2 := by simp [kindZ, h2, nam_not h2]
   exact ⟨⟨.inr e, by simp only [tkW]; rw [e]⟩, .al (nam_al h2).1 (nam_al h2).2 (.inr e)⟩
 | opn =>
  have e : kindZ l ⟨#[40]⟩ = 4 := by
   have e1 : numZ ⟨#[40]⟩ = false := by decide
   have e2 : namZ ⟨#[40]⟩ = false := by decide
   simp [kindZ, e1, e2]
  exact ⟨e, .opn rfl e⟩
 | cls =>
  have e : kindZ l ⟨#[41]⟩ = 5 := by
   have e1 : numZ ⟨#[41]⟩ = false := by decide
   have e2 : namZ ⟨#[41]⟩ = false := by decide
   simp [kindZ, e1, e2]
  exact ⟨e, .cls rfl e⟩
 | pre o =>
  have e := kind_op hok h.2 (by have := h.1; omega)
  obtain ⟨j, hj, rfl⟩ := h.2
  have hs := sg_signs (opOk_signs (hok j hj))
  exact ⟨⟨e, rfl, h.1, j, hj, rfl⟩, .op hs.1 hs.2.1 hs.2.2 e⟩
 | inf o =>
  have e := kind_op hok h.2 (by have := h.1; omega)
  obtain ⟨j, hj, rfl⟩ := h.2
  have hs := sg_signs (opOk_signs (hok j hj))
  exact ⟨⟨e, rfl, h.1, j, hj, rfl⟩, .op hs.1 hs.2.1 hs.2.2 e⟩
 | post o =>
  have e := kind_op hok h.2 (by have := h.1; omega)
  obtain ⟨j, hj, rfl⟩ := h.2
  have hs := sg_signs (opOk_signs (hok j hj))
  exact ⟨⟨e, rfl, h.1, j, hj, rfl⟩, .op hs.1 hs.2.1 hs.2.2 e⟩
def tokL (l : List POp) (ps : List (ByteArray × TkP)) (g : ByteArray) : List PTok := ps.map (fun x => ⟨kindZ l (tkW x.2), x.1, tkW x.2⟩) ++ [⟨7, g, ⟨#[]⟩⟩]
theorem toks_tokL {l : List POp} (hok : ∀ j, j < l.length → opOk (opAt l j) = true) (g : ByteArray) : ∀ (ps : List (ByteArray × TkP)) (pre : List PTok), (∀ x, x ∈ ps → TkOk l x.2) → ToksAre l (pre ++ tokL l ps g) pre.length (ps.map (·.2))
 | [], pre, _ => by
  simp only [tokL, List.map_nil, List.nil_append, ToksAre, List.length_append, List.length_singleton, true_and]
  rw [tokAt_app, if_neg (by omega), Nat.sub_self]; rfl
 | x :: r, pre, h => by
  simp only [List.map_cons, ToksAre]
  have e : pre ++ tokL l (x :: r) g = (pre ++ [⟨kindZ l (tkW x.2), x.1, tkW x.2⟩]) ++ tokL l r g := by simp [tokL]
  refine ⟨?_, ?_⟩
  ·have e2 : tokAt (pre ++ tokL l (x :: r) g) pre.length = ⟨kindZ l (tkW x.2), x.1, tkW x.2⟩ := by
    rw [tokAt_app, if_neg (by omega), Nat.sub_self]; rfl
   rw [e2]
   exact (tk_is hok (h x (by simp)) x.1).1
  ·have := toks_tokL hok g r (pre ++ [⟨kindZ l (tkW x.2), x.1, tkW x.2⟩]) fun y hy => h y (by simp [hy])
   rw [← e] at this
   simpa using this
theorem lexZ_join {l : List POp} (h0 : tblOk l = 0) {ps : List (ByteArray × TkP)} {g : ByteArray} (hj : JoinOk l (ps.map fun x => (x.1, tkW x.2)) g) (hz : (joinW (ps.map fun x => (x.1, tkW x.2)) g).size ≤ 20000) : lexZ l (joinW (ps.map fun x => (x.1, tkW x.2)) g) = tokL l ps g := by
 have h1 : lexOk l (joinW (ps.map fun x => (x.1, tkW x.2)) g) = true := by simp [lexOk, h0, hz]
 have := lex_join (ok_of_ok h0) _ g ByteArray.empty hj
 rw [ByteArray.empty_append] at this
 rw [lexZ, if_pos h1]
 refine this.trans ?_
 simp [tokL]
theorem yield_fit : ∀ (e : PT) (d : Nat) (rest : List TkP), Fit false d rest → Fit true d (e.yield ++ rest)
 | .leaf b, d, rest, h => by simpa [Tr.yield, Fit] using h
 | .grp e, d, rest, h => by
  have := yield_fit e (d + 1) (.cls :: rest) (by simpa [Fit] using h)
  simpa [Tr.yield, Fit] using this
 | .pre o e, d, rest, h => by
  have := yield_fit e d rest h
  simpa [Tr.yield, Fit] using this
 | .post o e, d, rest, h => by
  have := yield_fit e d (.post o :: rest) (by simpa [Fit] using h)
  simpa [Tr.yield] using this
 | .inf o x y, d, rest, h => by
  have := yield_fit x d (.inf o :: (y.yield ++ rest)) (by simpa [Fit] using yield_fit y d rest h)
  simpa [Tr.yield] using this
theorem role_ge (tk : TkP) : 0 ≤ roleT tk := by cases tk <;> simp [roleT]
theorem fit_state {l : List POp} {t : List PTok} (hu : Uniq l) : ∀ (ts : List TkP) (i d : Nat), ToksAre l t i ts → Fit (!stAt l t i) d ts → (d : Int) = openAt t i → stAt l t (i + ts.length) = true ∧ openAt t (i + ts.length) = 0
 | [], i, d, _, hf, hd => by
  cases hs : stAt l t i with
  | false => rw [hs] at hf; simp [Fit] at hf
  | true => rw [hs] at hf; simp [Fit] at hf; simp [hs]; omega
 | tk :: r, i, d, ht, hf, hd => by
  obtain ⟨h1, h2⟩ := ht
  have nxt : ∀ (st : Bool) (d' : Nat), stAt l t (i + 1) = st → (d' : Int) = openAt t (i + 1) → Fit (!st) d' r → stAt l t (i + (tk :: r).length) = true ∧ openAt t (i + (tk :: r).length) = 0 := fun st d' e1 e2 e3 => by
   have := fit_state hu r (i + 1) d' h2 (by rw [e1]; exact e3) e2
   simp only [List.length_cons]
   rw [show i + (r.length + 1) = i + 1 + r.length by omega]; exact this
  have has : ∀ {o : POp}, o.text = (tokAt t i).text → (∃ j, j < l.length ∧ opAt l j = o) → opHas l (tokAt t i).text o.kind = true := fun {o} e ⟨j, hj, e2⟩ => (opHas_iff l _ _).2 ⟨j, hj, by rw [e2]; exact e, by rw [e2]⟩
  have hasno : ∀ {o : POp} {k : Int}, o.text = (tokAt t i).text → (∃ j, j < l.length ∧ opAt l j = o) → o.kind ≠ 1 → k ≠ 1 → o.kind ≠ k → opHas l (tokAt t i).text k = false := fun {o k} e ⟨j, hj, e2⟩ n1 n2 n3 => by
   cases hh : opHas l (tokAt t i).text k with
   | false => rfl
   | true =>
    obtain ⟨j', hj', g1, g2⟩ := (opHas_iff l _ _).1 hh
    have := hu j j' hj hj' (by rw [e2, e, g1]) (by
     rw [e2, g2]
     have a1 : (o.kind == 1) = false := by simpa using n1
     have a2 : (k == 1) = false := by simpa using n2
     rw [a1, a2])
    rw [e2] at this
    rw [← this] at g2
    exact absurd g2 n3
  cases hs : stAt l t i with
  | false =>
   rw [hs] at hf
   cases tk with
   | leaf b =>
    refine nxt true d ?_ ?_ (by simpa [Fit] using hf)
    ·rcases h1.1 with e | e <;> simp [stAt, e]
    ·rcases h1.1 with e | e <;> simp [openAt, e, hd]
   | opn =>
    have k4 : (tokAt t i).kind = 4 := h1
    exact nxt false (d + 1) (by simp [stAt, k4]) (by simp [openAt, k4]; omega) (by simpa [Fit] using hf)
   | pre o => exact nxt false d (by simp [stAt, h1.1, hs]) (by simp [openAt, h1.1, hd]) (by simpa [Fit] using hf)
   | cls => simp [Fit] at hf
   | inf o => simp [Fit] at hf
   | post o => simp [Fit] at hf
  | true =>
   rw [hs] at hf
   cases tk with
   | leaf b => simp [Fit] at hf
   | opn => simp [Fit] at hf
   | pre o => simp [Fit] at hf
   | inf o =>
    have no := hasno (k := 3) h1.2.1 h1.2.2.2 (by rw [h1.2.2.1]; omega) (by omega) (by rw [h1.2.2.1]; omega)
    exact nxt false d (by simp [stAt, h1.1, hs, no]) (by simp [openAt, h1.1, hd]) (by simpa [Fit] using hf)
   | post o =>
    have hh := has h1.2.1 h1.2.2.2
    rw [h1.2.2.1] at hh
    exact nxt true d (by simp [stAt, h1.1, hs, hh]) (by simp [openAt, h1.1, hd]) (by simpa [Fit] using hf)
   | cls =>
    have k5 : (tokAt t i).kind = 5 := h1
    cases d with
    | zero => simp [Fit] at hf
    | succ d => exact nxt true d (by simp [stAt, k5]) (by simp [openAt, k5]; omega) (by simpa [Fit] using hf)
theorem roles_fit {l : List POp} {t : List PTok} (h0 : tblOk l = 0) {ts : List TkP} (ht : ToksAre l t 0 ts) (hf : Fit true 0 ts) : (rolesZ l t).2 = -1 := by
 have hu := uniq_of_ok h0
 have hlen := toksAre_len ht
 have hs := seg_of hu ts 0 0 ht hf rfl
 obtain ⟨s1, s2⟩ := fit_state hu ts 0 0 ht hf rfl
 have hend := toksAre_drop (u := ts) (ts := []) (i := 0) (by simpa using ht)
 simp only [ToksAre, Nat.zero_add] at hend s1 s2
 have hall : ∀ j, j < t.length → 0 ≤ roleAt l t j (stAt l t j) := fun j hj => by
  by_cases e : j < ts.length
  ·obtain ⟨tk, htk⟩ : ∃ tk, ts[j]? = some tk := ⟨_, List.getElem?_eq_getElem e⟩
   have := (seg_at hs htk).2
   rw [Nat.zero_add, roles_at hj] at this
   rw [this]; exact role_ge tk
  ·obtain rfl : j = ts.length := by omega
   rw [s1]
   simp [roleAt, hend.2, s2, hend.1]
 have hb := firstBad_none hall
 have he : endsOk t = true := by
  have e1 : t.length - 1 = ts.length := by omega
  simp only [endsOk, e1, hend.2, Bool.and_eq_true, decide_eq_true_eq, and_true]
  omega
 unfold rolesZ
 rw [if_neg (by omega), hb]
 simp only
 rw [if_pos he]
theorem seg_unique {l : List POp} {t : List PTok} {rs : List Int} (hu : Uniq l) : ∀ (ts ts' : List TkP) (i : Nat), SegIs l t rs i ts → SegIs l t rs i ts' → ts.length = ts'.length → ts = ts'
 | [], [], _, _, _, _ => rfl
 | tk :: r, tk' :: r', i, h, h', hl => by
  have e := seg_unique hu r r' (i + 1) h.2.2 h'.2.2 (by simpa using hl)
  have e2 : tk = tk' := by
   have q := h.1
   have q' := h'.1
   have hr : roleT tk = roleT tk' := h.2.1.symm.trans h'.2.1
   have opq : ∀ {o o' : POp} {k : Int}, o.text = (tokAt t i).text → o'.text = (tokAt t i).text → o.kind = k → o'.kind = k → (∃ j, j < l.length ∧ opAt l j = o) → (∃ j, j < l.length ∧ opAt l j = o') → o = o' := fun {o o' k} a1 a2 a3 a4 a5 a6 => by
    have p1 := (op_unique hu a1 a5).2
    have p2 := (op_unique hu a2 a6).2
    rw [a3] at p1
    rw [a4] at p2
    rw [← p1, p2]
   cases tk <;> cases tk' <;> simp only [roleT] at hr <;> simp only [TokIs] at q q' <;> first | omega | rfl | skip
   ·rw [q.2, q'.2]
   ·rw [opq q.2.1 q'.2.1 q.2.2.1 q'.2.2.1 q.2.2.2 q'.2.2.2]
   ·rw [opq q.2.1 q'.2.1 q.2.2.1 q'.2.2.1 q.2.2.2 q'.2.2.2]
   ·rw [opq q.2.1 q'.2.1 q.2.2.1 q'.2.2.1 q.2.2.2 q'.2.2.2]
  rw [e, e2]
 | [], _ :: _, _, _, _, hl => by simp at hl
 | _ :: _, [], _, _, _, hl => by simp at hl
theorem toksZ_eq {l : List POp} {t : List PTok} (h0 : tblOk l = 0) {ts : List TkP} (ht : ToksAre l t 0 ts) (hf : Fit true 0 ts) : toksZ l t = ts := by
 have hu := uniq_of_ok h0
 obtain ⟨h1, h2⟩ := toksZ_ok ⟨ts, ht, hf⟩
 have l1 := toksAre_len h1
 have l2 := toksAre_len ht
 exact seg_unique hu _ _ 0 (seg_of hu _ 0 0 h1 h2 rfl) (seg_of hu _ 0 0 ht hf rfl) (by omega)
theorem tokIs_kind {l : List POp} {k : PTok} {tk : TkP} (h : TokIs l k tk) : k.kind ≠ 6 := by
 cases tk with
 | leaf b => have := h.1; omega
 | opn => have h : _ = _ := h; omega
 | cls => have h : _ = _ := h; omega
 | pre o => have := h.1; omega
 | inf o => have := h.1; omega
 | post o => have := h.1; omega
theorem toks_bad {l : List POp} {t : List PTok} : ∀ (ts : List TkP) (i : Nat), ToksAre l t i ts → ∀ j, i ≤ j → j < t.length → (tokAt t j).kind ≠ 6
 | [], i, h, j, h1, h2 => by
  have h3 := h.1
  have h4 := h.2
  obtain rfl : j = i := by omega
  omega
 | tk :: r, i, h, j, h1, h2 => by
  by_cases e : j = i
  ·subst e; exact tokIs_kind h.1
  ·exact toks_bad r (i + 1) h.2 j (by omega) h2
structure Reads (l : List POp) (e : PT) (z : ByteArray) : Prop where
 bad : badAt (lexZ l z) = none
 roles : (rolesZ l (lexZ l z)).2 = -1
 toks : toksZ l (lexZ l z) = e.yield
 len : z.size ≤ 20000
theorem reads_join {l : List POp} (h0 : tblOk l = 0) {e : PT} {ps : List (ByteArray × TkP)} {g : ByteArray} (hp : ps.map (·.2) = e.yield) (hk : ∀ tk, tk ∈ e.yield → TkOk l tk) (hj : JoinOk l (ps.map fun x => (x.1, tkW x.2)) g) (hz : (joinW (ps.map fun x => (x.1, tkW x.2)) g).size ≤ 20000) : Reads l e (joinW (ps.map fun x => (x.1, tkW x.2)) g) := by
 have hl := lexZ_join h0 hj hz
 have ht := toks_tokL (ok_of_ok h0) g ps [] fun x hx => hk x.2 (by rw [← hp]; exact List.mem_map.2 ⟨x, hx, rfl⟩)
 simp only [List.nil_append, List.length_nil] at ht
 rw [hp] at ht
 have hf : Fit true 0 e.yield := by
  have := yield_fit e 0 [] (by simp [Fit])
  simpa using this
 refine ⟨?_, ?_, ?_, hz⟩
 ·rw [hl]; exact badAt_none fun j hj => toks_bad _ 0 ht j (by omega) hj
 ·rw [hl]; exact roles_fit h0 ht hf
 ·rw [hl]; exact toksZ_eq h0 ht hf
theorem Reads.adm {l : List POp} {e : PT} {z : ByteArray} (h : Reads l e z) (h0 : tblOk l = 0) (ha : e.Adm lvO) (hh : highT e ≤ 1000) : parZ l z = (lay e [], 0, 0) := by
 have F := fits_of h0 h.roles
 have hp : partT l (lexZ l z) = some e := by
  unfold partT
  rw [h.toks]
  exact Ops.build_complete lvO (good_of_ok h0) e _ (Nat.le_refl _) (F.all e h.toks.symm) ha
 rw [parZ, if_neg (by omega), if_neg (by have := h.len; omega), parK_ok h.bad h.roles hp hh]
end Go.Proofs.YtjdmmhcogmepaaaGreatDoor.V
namespace Go.Proofs.YtjdmmhcogmepaaaGreatDoor.V
open Go.RowKit
open Go.Proofs.YtjdmmhcogmepaaaGreatDoor.Ops (Tr)
set_option maxRecDepth 100000 in
theorem yield_pre (g : List PNode) (hg : g.length ≤ 1048576) {o : POp} {e : ET} (hk : o.kind = 1) (ih : YOk g e) : YOk g (.pre o e) := by
 have clg : ∀ (i : Nat) (c : AV), i < g.length → c ∈ nodCells g i → Closed c := fun i c _ h => nodClosed g i c h
 obtain ⟨z, k, lv, sd⟩ := o
 simp only at hk
 subst hk
 intro pre hn hl ws hw
 simp only [lay] at hn hl ⊢
 obtain ⟨hsub, hn''⟩ := layPre hn
 have hle1 := lay_len e pre
 have hp := sizeE_pos e
 have hyl := yieldW_len e
 simp only [List.length_append, List.length_singleton, Nat.add_sub_cancel] at hl ⊢
 simp only [sizeE] at hw
 have ih1 := ih pre hsub (by omega) (ws ++ [⟨z, false, true⟩]) (by simp; omega)
 have hn' : nodAt g (lay e pre).length = ⟨z, 3, ((lay e pre).length : Int) - 1, 0⟩ := by rw [hn'']; rfl
 generalize hq : (lay e pre).length = q at *
 have ea : (q : Int) - 1 = ((q - 1 : Nat) : Int) := by omega
 have c1 := c_l3IsOp (nodAt g q)
 have c2 := c_l3Kids 3
 have e1 : isOpN (nodAt g q) = true := by simp [isOpN, hn']
 have kk : kidsN 3 = 1 := by simp [kidsN]
 rw [hn'] at e1
 simp only [PNode.cells, hn', yieldW, ysRow] at c1 ⊢
 refine vproc_start Tryz.func47 (by kernel_rfl) rfl (by simp [Tryz.ntmps47]) ?_; simp only [Tryz.ntmps47, Tryz.results47]; simp [go_sem]
 simp [nodCells_at, hn']
 refine ⟨by omega, ?_⟩
 refine vc_drawnE (⟨[(0, .sl 4 g.length (nodCells g)), (2, .own 0), (7, .ptr 1 4 0 0), (8, .ptr 2 3 0 0)], [ysRow ws, some ⟨77, 4, 1, fun _ => [.lit (.int .i64 3), .lit (.string z), .lit (.int .i64 ((q : Int) - 1)), .lit (.int .i64 (0))]⟩, some ⟨83, 3, 1, fun _ => [.lit (.string z), .lit (.bool true), .lit (.bool false)]⟩], [], 1⟩) [9] (.q 0 <| .q 1 <| .q 2 <| .q 4 <| .q 5 <| .q 6 <| .or 3 (.q 7 <| .or 8 (.or 9 (.done) (.nil)) (.nil)) (.or 8 (.or 3 (.q 7 <| .or 9 (.done) (.nil)) (.nil)) (.nil))) (by kernel_rfl) ?_ ?_
 ·simp [go_sem]
  refine ⟨vcallV_pure c1 ?_ ?_, vcallV_pure c1 ?_ ?_⟩
  ·simp [go_sem]
  ·simp [go_sem, e1]
   refine ent_ks [0, 1, 2] (by simp) (by simp) (by simp) (by simp) (by simp [go_sem]) ?_ ?_
   ·simp [go_sem]
    exact clg
   ·simp [go_sem, ysRow]
    exact .inr sh0Y
  ·simp [go_sem]
  ·simp [go_sem, e1]
   refine ent_ks [0, 1, 2] (by simp) (by simp) (by simp) (by simp) (by simp [go_sem]) ?_ ?_
   ·simp [go_sem]
    exact clg
   ·simp [go_sem, ysRow]
    exact .inr sh0Y
 ·simp [go_sem, ysRow]
  refine vcall_pure c2 ?_ ?_
  ·simp [go_sem]
  ·simp [go_sem, kk]
   refine vc_drawnE (⟨[(6, .own 1)], [none, ysRow (ws ++ [⟨z, false, true⟩] ++ yieldW e)], [], 1⟩) [6,7] (.q 3 <| .q 4 <| .or 0 (.or 1 (.or 2 (.or 5 (.or 6 (.or 7 (.q 8 <| .done) (.nil)) (.nil)) (.nil)) (.or 5 (.or 2 (.or 6 (.or 7 (.q 8 <| .done) (.nil)) (.nil)) (.or 6 (.q 2 <| .or 7 (.q 8 <| .done) (.nil)) (.nil))) (.nil))) (.or 5 (.or 1 (.or 2 (.or 6 (.or 7 (.q 8 <| .done) (.nil)) (.nil)) (.or 6 (.q 2 <| .or 7 (.q 8 <| .done) (.nil)) (.nil))) (.or 6 (.q 1 <| .q 2 <| .or 7 (.q 8 <| .done) (.nil)) (.nil))) (.nil))) (.or 1 (.or 0 (.or 2 (.or 5 (.or 6 (.or 7 (.q 8 <| .done) (.nil)) (.nil)) (.nil)) (.or 5 (.or 2 (.or 6 (.or 7 (.q 8 <| .done) (.nil)) (.nil)) (.or 6 (.q 2 <| .or 7 (.q 8 <| .done) (.nil)) (.nil))) (.nil))) (.or 2 (.or 0 (.or 5 (.or 6 (.or 7 (.q 8 <| .done) (.nil)) (.nil)) (.nil)) (.or 5 (.or 0 (.or 6 (.or 7 (.q 8 <| .done) (.nil)) (.nil)) (.or 6 (.q 0 <| .or 7 (.q 8 <| .done) (.nil)) (.nil))) (.nil))) (.or 5 (.or 0 (.or 2 (.or 6 (.or 7 (.q 8 <| .done) (.nil)) (.nil)) (.or 6 (.q 2 <| .or 7 (.q 8 <| .done) (.nil)) (.nil))) (.or 2 (.or 0 (.or 6 (.or 7 (.q 8 <| .done) (.nil)) (.nil)) (.or 6 (.q 0 <| .or 7 (.q 8 <| .done) (.nil)) (.nil))) (.or 6 (.q 0 <| .q 2 <| .or 7 (.q 8 <| .done) (.nil)) (.nil)))) (.nil)))) (.or 5 (.or 0 (.or 1 (.or 2 (.or 6 (.or 7 (.q 8 <| .done) (.nil)) (.nil)) (.or 6 (.q 2 <| .or 7 (.q 8 <| .done) (.nil)) (.nil))) (.or 6 (.q 1 <| .q 2 <| .or 7 (.q 8 <| .done) (.nil)) (.nil))) (.or 1 (.or 0 (.or 2 (.or 6 (.or 7 (.q 8 <| .done) (.nil)) (.nil)) (.or 6 (.q 2 <| .or 7 (.q 8 <| .done) (.nil)) (.nil))) (.or 2 (.or 0 (.or 6 (.or 7 (.q 8 <| .done) (.nil)) (.nil)) (.or 6 (.q 0 <| .or 7 (.q 8 <| .done) (.nil)) (.nil))) (.or 6 (.q 0 <| .q 2 <| .or 7 (.q 8 <| .done) (.nil)) (.nil)))) (.or 6 (.q 0 <| .q 1 <| .q 2 <| .or 7 (.q 8 <| .done) (.nil)) (.nil)))) (.nil)))) (by kernel_rfl) ?_ ?_
   ·simp [go_sem]
    repeat' apply And.intro
    all_goals first | omega | skip
    all_goals
     refine vcall_share [4] ih1 (by simp) ?_ ?_ trivial ?_
     ·simp [go_sem, ea]
      exact clg
     ·simp [go_sem, ysRow]
      exact sh1Y ⟨z, false, true⟩ (by simp) rfl rfl (by simp)
     ·rintro av mem maps ⟨rfl, rfl, rfl⟩
      simp [go_sem, ysRow]
      refine ent_ks [0, 5] (by simp) (by simp) (by simp) (by simp) (by simp [go_sem]) ?_ ?_
      ·simp [go_sem]
      ·simp [go_sem, ysRow]
       exact .inr sh0Y
   ·simp [go_sem, ysRow]
    refine ⟨rfl, [1], [none, ysRow (ws ++ opWord ⟨z, 1, lv, sd⟩ :: yieldW e)], by simp, by simp, by simp [go_sem], ?_, by simp [go_sem], ?_⟩
    ·simp [go_sem, ysRow, opWord]
     exact out0Y
    ·simp [go_sem, ysRow]
set_option maxRecDepth 100000 in
theorem yield_post (g : List PNode) (hg : g.length ≤ 1048576) {o : POp} {e : ET} (hk : o.kind = 3) (ih : YOk g e) : YOk g (.post o e) := by
 have clg : ∀ (i : Nat) (c : AV), i < g.length → c ∈ nodCells g i → Closed c := fun i c _ h => nodClosed g i c h
 obtain ⟨z, k, lv, sd⟩ := o
 simp only at hk
 subst hk
 intro pre hn hl ws hw
 simp only [lay] at hn hl ⊢
 obtain ⟨hsub, hn''⟩ := layPre hn
 have hle1 := lay_len e pre
 have hp := sizeE_pos e
 have hyl := yieldW_len e
 simp only [List.length_append, List.length_singleton, Nat.add_sub_cancel] at hl ⊢
 simp only [sizeE] at hw
 have ih1 := ih pre hsub (by omega) (ws) (by omega)
 have hn' : nodAt g (lay e pre).length = ⟨z, 5, ((lay e pre).length : Int) - 1, 0⟩ := by rw [hn'']; rfl
 generalize hq : (lay e pre).length = q at *
 have ea : (q : Int) - 1 = ((q - 1 : Nat) : Int) := by omega
 have c1 := c_l3IsOp (nodAt g q)
 have c2 := c_l3Kids 5
 have e1 : isOpN (nodAt g q) = true := by simp [isOpN, hn']
 have kk : kidsN 5 = 1 := by simp [kidsN]
 rw [hn'] at e1
 simp only [PNode.cells, hn', yieldW, ysRow] at c1 ⊢
 refine vproc_start Tryz.func47 (by kernel_rfl) rfl (by simp [Tryz.ntmps47]) ?_; simp only [Tryz.ntmps47, Tryz.results47]; simp [go_sem]
 simp [nodCells_at, hn']
 refine ⟨by omega, ?_⟩
 refine vc_drawnE (⟨[(0, .sl 4 g.length (nodCells g)), (2, .own 0), (7, .ptr 1 4 0 0), (8, .ptr 2 3 0 0)], [ysRow ws, some ⟨77, 4, 1, fun _ => [.lit (.int .i64 5), .lit (.string z), .lit (.int .i64 ((q : Int) - 1)), .lit (.int .i64 (0))]⟩, some ⟨83, 3, 1, fun _ => [.lit (.string z), .lit (.bool true), .lit (.bool false)]⟩], [], 1⟩) [9] (.q 0 <| .q 1 <| .q 2 <| .q 4 <| .q 5 <| .q 6 <| .or 3 (.q 7 <| .or 8 (.or 9 (.done) (.nil)) (.nil)) (.or 8 (.or 3 (.q 7 <| .or 9 (.done) (.nil)) (.nil)) (.nil))) (by kernel_rfl) ?_ ?_
 ·simp [go_sem]
  refine ⟨vcallV_pure c1 ?_ ?_, vcallV_pure c1 ?_ ?_⟩
  ·simp [go_sem]
  ·simp [go_sem, e1]
   refine ent_ks [0, 1, 2] (by simp) (by simp) (by simp) (by simp) (by simp [go_sem]) ?_ ?_
   ·simp [go_sem]
    exact clg
   ·simp [go_sem, ysRow]
    exact .inr sh0Y
  ·simp [go_sem]
  ·simp [go_sem, e1]
   refine ent_ks [0, 1, 2] (by simp) (by simp) (by simp) (by simp) (by simp [go_sem]) ?_ ?_
   ·simp [go_sem]
    exact clg
   ·simp [go_sem, ysRow]
    exact .inr sh0Y
 ·simp [go_sem, ysRow]
  refine vcall_pure c2 ?_ ?_
  ·simp [go_sem]
  ·simp [go_sem, kk]
   refine vc_drawnE (⟨[(0, .sl 4 g.length (nodCells g)), (2, .own 2), (7, .ptr 1 4 0 0)], [none, some ⟨77, 4, 1, fun _ => [.lit (.int .i64 5), .lit (.string z), .lit (.int .i64 ((q : Int) - 1)), .lit (.int .i64 (0))]⟩, ysRow (ws ++ yieldW e ++ [⟨z, false, true⟩])], [], 1⟩) [7,4] (.q 0 <| .q 1 <| .q 2 <| .q 3 <| .or 4 (.q 5 <| .or 6 (.or 7 (.q 8 <| .done) (.nil)) (.nil)) (.or 5 (.or 4 (.or 6 (.or 7 (.q 8 <| .done) (.nil)) (.nil)) (.or 6 (.or 4 (.or 7 (.q 8 <| .done) (.nil)) (.nil)) (.nil))) (.nil))) (by kernel_rfl) ?_ ?_
   ·simp [go_sem]
    repeat' apply And.intro
    all_goals first | omega | skip
    all_goals
     refine vcall_share [0] ih1 (by simp) ?_ ?_ trivial ?_
     ·simp [go_sem, ea]
      exact clg
     ·simp [go_sem, ysRow]
      exact sh0Y
     ·rintro av mem maps ⟨rfl, rfl, rfl⟩
      simp [go_sem, ysRow]
      refine ⟨by omega, by omega, ?_⟩
      refine ent_ks [0, 1, 5] (by simp) (by simp) (by simp) (by simp) (by simp [go_sem]) ?_ ?_
      ·simp [go_sem]
       exact clg
      ·simp [go_sem, ysRow]
       exact .inr ⟨by omega, sh1Y ⟨z, false, true⟩ (by simp) rfl (by simp) (by simp)⟩
   ·simp [go_sem, ysRow]
    refine ⟨rfl, [2], [none, ysRow (ws ++ (yieldW e ++ [opWord ⟨z, 3, lv, sd⟩]))], by simp, by simp, by simp [go_sem], ?_, by simp [go_sem], ?_⟩
    ·simp [go_sem, ysRow, opWord]
     exact out0Y
    ·simp [go_sem, ysRow]
set_option maxRecDepth 100000 in
theorem yield_inf (g : List PNode) (hg : g.length ≤ 1048576) {o : POp} {e y : ET} (hk : o.kind = 2) (ih : YOk g e) (ihy : YOk g y) : YOk g (.inf o e y) := by
 have clg : ∀ (i : Nat) (c : AV), i < g.length → c ∈ nodCells g i → Closed c := fun i c _ h => nodClosed g i c h
 obtain ⟨z, k, lv, sd⟩ := o
 simp only at hk
 subst hk
 intro pre hn hl ws hw
 simp only [lay] at hn hl ⊢
 obtain ⟨hsuby, hn''⟩ := layPre hn
 have hle := lay_len y (lay e pre)
 have hp2 := sizeE_pos y
 have hsub : ∀ j, j < (lay e pre).length → nodAt g j = nodAt (lay e pre) j := fun j hj => by rw [hsuby j (by omega), lay_pre y _ j hj]
 have hle1 := lay_len e pre
 have hp := sizeE_pos e
 have hyl := yieldW_len e
 simp only [List.length_append, List.length_singleton, Nat.add_sub_cancel] at hl ⊢
 simp only [sizeE] at hw
 have ih1 := ih pre hsub (by omega) (ws) (by omega)
 have ih2 := ihy (lay e pre) hsuby (by omega) (ws ++ yieldW e ++ [⟨z, true, true⟩]) (by simp; omega)
 have hn' : nodAt g (lay y (lay e pre)).length = ⟨z, 4, ((lay e pre).length : Int) - 1, ((lay y (lay e pre)).length : Int) - 1⟩ := by rw [hn'']; rfl
 generalize hq : (lay y (lay e pre)).length = q at *
 generalize hr : (lay e pre).length = r at *
 have ea : (r : Int) - 1 = ((r - 1 : Nat) : Int) := by omega
 have eb : (q : Int) - 1 = ((q - 1 : Nat) : Int) := by omega
 have c1 := c_l3IsOp (nodAt g q)
 have c2 := c_l3Kids 4
 have e1 : isOpN (nodAt g q) = true := by simp [isOpN, hn']
 have kk : kidsN 4 = 2 := by simp [kidsN]
 rw [hn'] at e1
 simp only [PNode.cells, hn', yieldW, ysRow] at c1 ⊢
 refine vproc_start Tryz.func47 (by kernel_rfl) rfl (by simp [Tryz.ntmps47]) ?_; simp only [Tryz.ntmps47, Tryz.results47]; simp [go_sem]
 simp [nodCells_at, hn']
 refine ⟨by omega, ?_⟩
 refine vc_drawnE (⟨[(0, .sl 4 g.length (nodCells g)), (2, .own 0), (7, .ptr 1 4 0 0), (8, .ptr 2 3 0 0)], [ysRow ws, some ⟨77, 4, 1, fun _ => [.lit (.int .i64 4), .lit (.string z), .lit (.int .i64 ((r : Int) - 1)), .lit (.int .i64 ((q : Int) - 1))]⟩, some ⟨83, 3, 1, fun _ => [.lit (.string z), .lit (.bool true), .lit (.bool true)]⟩], [], 1⟩) [9] (.q 0 <| .q 1 <| .q 2 <| .q 4 <| .q 5 <| .q 6 <| .or 3 (.q 7 <| .or 8 (.or 9 (.done) (.nil)) (.nil)) (.or 8 (.or 3 (.q 7 <| .or 9 (.done) (.nil)) (.nil)) (.nil))) (by kernel_rfl) ?_ ?_
 ·simp [go_sem]
  refine ⟨vcallV_pure c1 ?_ ?_, vcallV_pure c1 ?_ ?_⟩
  ·simp [go_sem]
  ·simp [go_sem, e1]
   refine ent_ks [0, 1, 2] (by simp) (by simp) (by simp) (by simp) (by simp [go_sem]) ?_ ?_
   ·simp [go_sem]
    exact clg
   ·simp [go_sem, ysRow]
    exact .inr sh0Y
  ·simp [go_sem]
  ·simp [go_sem, e1]
   refine ent_ks [0, 1, 2] (by simp) (by simp) (by simp) (by simp) (by simp [go_sem]) ?_ ?_
   ·simp [go_sem]
    exact clg
   ·simp [go_sem, ysRow]
    exact .inr sh0Y
 ·simp [go_sem, ysRow]
  refine vcall_pure c2 ?_ ?_
  ·simp [go_sem]
  ·simp [go_sem, kk]
   refine vc_drawnE (⟨[(0, .sl 4 g.length (nodCells g)), (2, .own 2), (7, .ptr 1 4 0 0)], [none, some ⟨77, 4, 1, fun _ => [.lit (.int .i64 4), .lit (.string z), .lit (.int .i64 ((r : Int) - 1)), .lit (.int .i64 ((q : Int) - 1))]⟩, ysRow (ws ++ yieldW e ++ [⟨z, true, true⟩])], [], 1⟩) [7,4] (.q 0 <| .q 1 <| .q 2 <| .q 3 <| .or 4 (.q 5 <| .or 6 (.or 7 (.q 8 <| .done) (.nil)) (.nil)) (.or 5 (.or 4 (.or 6 (.or 7 (.q 8 <| .done) (.nil)) (.nil)) (.or 6 (.or 4 (.or 7 (.q 8 <| .done) (.nil)) (.nil)) (.nil))) (.nil))) (by kernel_rfl) ?_ ?_
   ·simp [go_sem]
    repeat' apply And.intro
    all_goals first | omega | skip
    all_goals
     refine vcall_share [0] ih1 (by simp) ?_ ?_ trivial ?_
     ·simp [go_sem, ea]
      exact clg
     ·simp [go_sem, ysRow]
      exact sh0Y
     ·rintro av mem maps ⟨rfl, rfl, rfl⟩
      simp [go_sem, ysRow]
      refine ⟨by omega, by omega, ?_⟩
      refine ent_ks [0, 1, 5] (by simp) (by simp) (by simp) (by simp) (by simp [go_sem]) ?_ ?_
      ·simp [go_sem]
       exact clg
      ·simp [go_sem, ysRow]
       exact .inr ⟨by omega, sh1Y ⟨z, true, true⟩ (by simp) rfl (by simp) (by simp)⟩
   ·simp [go_sem, ysRow]
    refine vcall_share [2] ih2 (by simp) ?_ ?_ trivial ?_
    ·simp [go_sem, eb]
     exact clg
    ·simp [go_sem, ysRow]
     exact sh0Y
    ·rintro av mem maps ⟨rfl, rfl, rfl⟩
     simp [go_sem, ysRow]
     refine ⟨rfl, [3], [none, ysRow (ws ++ (yieldW e ++ opWord ⟨z, 2, lv, sd⟩ :: yieldW y))], by simp, by simp, by simp [go_sem], ?_, by simp [go_sem], ?_⟩
     ·simp [go_sem, ysRow, opWord]
      exact out0Y
     ·simp [go_sem, ysRow]
set_option maxRecDepth 100000 in
theorem yield_grp (g : List PNode) (hg : g.length ≤ 1048576) {e : ET} (ih : YOk g e) : YOk g (.grp e) := by
 have clg : ∀ (i : Nat) (c : AV), i < g.length → c ∈ nodCells g i → Closed c := fun i c _ h => nodClosed g i c h
 intro pre hn hl ws hw
 simp only [lay] at hn hl ⊢
 obtain ⟨hsub, hn''⟩ := layPre hn
 have hle1 := lay_len e pre
 have hp := sizeE_pos e
 have hyl := yieldW_len e
 simp only [List.length_append, List.length_singleton, Nat.add_sub_cancel] at hl ⊢
 simp only [sizeE] at hw
 have ih1 := ih pre hsub (by omega) (ws ++ [lpar]) (by simp; omega)
 have hn' : nodAt g (lay e pre).length = ⟨⟨#[]⟩, 6, ((lay e pre).length : Int) - 1, 0⟩ := by rw [hn'']
 generalize hq : (lay e pre).length = q at *
 have ea : (q : Int) - 1 = ((q - 1 : Nat) : Int) := by omega
 have c1 := c_l3IsOp (nodAt g q)
 have c2 := c_l3Kids 6
 have e1 : isOpN (nodAt g q) = false := by simp [isOpN, hn']
 have kk : kidsN 6 = 1 := by simp [kidsN]
 rw [hn'] at e1
 simp only [PNode.cells, hn', yieldW, ysRow] at c1 ⊢
 refine vproc_start Tryz.func47 (by kernel_rfl) rfl (by simp [Tryz.ntmps47]) ?_; simp only [Tryz.ntmps47, Tryz.results47]; simp [go_sem]
 simp [nodCells_at, hn']
 refine ⟨by omega, ?_⟩
 refine vc_drawnE (⟨[(0, .sl 4 g.length (nodCells g)), (2, .own 0), (7, .ptr 1 4 0 0), (8, .ptr 2 3 0 0)], [ysRow ws, some ⟨77, 4, 1, fun _ => [.lit (.int .i64 6), .lit (.string ⟨#[]⟩), .lit (.int .i64 ((q : Int) - 1)), .lit (.int .i64 (0))]⟩, some ⟨83, 3, 1, fun _ => [.lit (.string ⟨#[]⟩), .lit (.bool false), .lit (.bool false)]⟩], [], 1⟩) [9] (.q 0 <| .q 1 <| .q 2 <| .q 4 <| .q 5 <| .q 6 <| .or 3 (.q 7 <| .or 8 (.or 9 (.done) (.nil)) (.nil)) (.or 8 (.or 3 (.q 7 <| .or 9 (.done) (.nil)) (.nil)) (.nil))) (by kernel_rfl) ?_ ?_
 ·simp [go_sem]
  refine ⟨vcallV_pure c1 ?_ ?_, vcallV_pure c1 ?_ ?_⟩
  ·simp [go_sem]
  ·simp [go_sem, e1]
   refine ent_ks [0, 1, 2] (by simp) (by simp) (by simp) (by simp) (by simp [go_sem]) ?_ ?_
   ·simp [go_sem]
    exact clg
   ·simp [go_sem, ysRow]
    exact .inr sh0Y
  ·simp [go_sem]
  ·simp [go_sem, e1]
   refine ent_ks [0, 1, 2] (by simp) (by simp) (by simp) (by simp) (by simp [go_sem]) ?_ ?_
   ·simp [go_sem]
    exact clg
   ·simp [go_sem, ysRow]
    exact .inr sh0Y
 ·simp [go_sem, ysRow]
  refine vcall_pure c2 ?_ ?_
  ·simp [go_sem]
  ·simp [go_sem, kk]
   refine vc_drawnE (⟨[(2, .own 1)], [none, ysRow (ws ++ [lpar] ++ yieldW e)], [], 1⟩) [6,7] (.q 3 <| .q 4 <| .or 0 (.or 1 (.or 2 (.or 5 (.or 6 (.or 7 (.q 8 <| .done) (.nil)) (.nil)) (.nil)) (.or 5 (.or 2 (.or 6 (.or 7 (.q 8 <| .done) (.nil)) (.nil)) (.or 6 (.q 2 <| .or 7 (.q 8 <| .done) (.nil)) (.nil))) (.nil))) (.or 5 (.or 1 (.or 2 (.or 6 (.or 7 (.q 8 <| .done) (.nil)) (.nil)) (.or 6 (.q 2 <| .or 7 (.q 8 <| .done) (.nil)) (.nil))) (.or 6 (.q 1 <| .q 2 <| .or 7 (.q 8 <| .done) (.nil)) (.nil))) (.nil))) (.or 1 (.or 0 (.or 2 (.or 5 (.or 6 (.or 7 (.q 8 <| .done) (.nil)) (.nil)) (.nil)) (.or 5 (.or 2 (.or 6 (.or 7 (.q 8 <| .done) (.nil)) (.nil)) (.or 6 (.q 2 <| .or 7 (.q 8 <| .done) (.nil)) (.nil))) (.nil))) (.or 2 (.or 0 (.or 5 (.or 6 (.or 7 (.q 8 <| .done) (.nil)) (.nil)) (.nil)) (.or 5 (.or 0 (.or 6 (.or 7 (.q 8 <| .done) (.nil)) (.nil)) (.or 6 (.q 0 <| .or 7 (.q 8 <| .done) (.nil)) (.nil))) (.nil))) (.or 5 (.or 0 (.or 2 (.or 6 (.or 7 (.q 8 <| .done) (.nil)) (.nil)) (.or 6 (.q 2 <| .or 7 (.q 8 <| .done) (.nil)) (.nil))) (.or 2 (.or 0 (.or 6 (.or 7 (.q 8 <| .done) (.nil)) (.nil)) (.or 6 (.q 0 <| .or 7 (.q 8 <| .done) (.nil)) (.nil))) (.or 6 (.q 0 <| .q 2 <| .or 7 (.q 8 <| .done) (.nil)) (.nil)))) (.nil)))) (.or 5 (.or 0 (.or 1 (.or 2 (.or 6 (.or 7 (.q 8 <| .done) (.nil)) (.nil)) (.or 6 (.q 2 <| .or 7 (.q 8 <| .done) (.nil)) (.nil))) (.or 6 (.q 1 <| .q 2 <| .or 7 (.q 8 <| .done) (.nil)) (.nil))) (.or 1 (.or 0 (.or 2 (.or 6 (.or 7 (.q 8 <| .done) (.nil)) (.nil)) (.or 6 (.q 2 <| .or 7 (.q 8 <| .done) (.nil)) (.nil))) (.or 2 (.or 0 (.or 6 (.or 7 (.q 8 <| .done) (.nil)) (.nil)) (.or 6 (.q 0 <| .or 7 (.q 8 <| .done) (.nil)) (.nil))) (.or 6 (.q 0 <| .q 2 <| .or 7 (.q 8 <| .done) (.nil)) (.nil)))) (.or 6 (.q 0 <| .q 1 <| .q 2 <| .or 7 (.q 8 <| .done) (.nil)) (.nil)))) (.nil)))) (by kernel_rfl) ?_ ?_
   ·simp [go_sem]
    repeat' apply And.intro
    all_goals first | omega | skip
    all_goals
     refine vcall_share [4] ih1 (by simp) ?_ ?_ trivial ?_
     ·simp [go_sem, ea]
      exact clg
     ·simp [go_sem, ysRow]
      exact sh1Y lpar (by simp) rfl rfl (by simp)
     ·rintro av mem maps ⟨rfl, rfl, rfl⟩
      simp [go_sem, ysRow]
      refine ent_ks [0, 5] (by simp) (by simp) (by simp) (by simp) (by simp [go_sem]) ?_ ?_
      ·simp [go_sem]
      ·simp [go_sem, ysRow]
       exact .inr sh0Y
   ·simp [go_sem, ysRow]
    refine ⟨by omega, by omega, ?_⟩
    refine ⟨rfl, [3], [none, ysRow (ws ++ lpar :: (yieldW e ++ [rpar]))], by simp, by simp, by simp [go_sem], ?_, by simp [go_sem], ?_⟩
    ·simp [go_sem, ysRow]
     exact out1Y rpar (by simp) rfl (by simp) (by simp)
    ·simp [go_sem, ysRow]
theorem c_l4Yield {l : List POp} (g : List PNode) (hg : g.length ≤ 1048576) : ∀ e : ET, InTab l e → YOk g e
 | .leaf b, h => yield_leaf g hg b h
 | .grp e, h => yield_grp g hg (c_l4Yield g hg e h)
 | .pre o e, ⟨h1, _, _, h4⟩ => yield_pre g hg h1 (c_l4Yield g hg e h4)
 | .post o e, ⟨h1, _, _, h4⟩ => yield_post g hg h1 (c_l4Yield g hg e h4)
 | .inf o x y, ⟨h1, _, _, h4, h5⟩ => yield_inf g hg h1 (c_l4Yield g hg x h4) (c_l4Yield g hg y h5)
theorem lay_mem : ∀ (e : ET) (out : List PNode) (n : PNode), n ∈ out → n ∈ lay e out
 | .leaf b, out, n, h => by simp only [lay, List.mem_append]; exact .inl h
 | .grp e, out, n, h => by simp only [lay, List.mem_append]; exact .inl (lay_mem e out n h)
 | .pre o e, out, n, h => by simp only [lay, List.mem_append]; exact .inl (lay_mem e out n h)
 | .post o e, out, n, h => by simp only [lay, List.mem_append]; exact .inl (lay_mem e out n h)
 | .inf o x y, out, n, h => by simp only [lay, List.mem_append]; exact .inl (lay_mem y _ n (lay_mem x out n h))
end Go.Proofs.YtjdmmhcogmepaaaGreatDoor.V
namespace Go.Proofs.YtjdmmhcogmepaaaGreatDoor.V
open Go.RowKit
set_option maxRecDepth 100000 in
theorem c_lwSameTree (a b : List PNode) (ha : a.length ≤ 9223372036854775807) (hb : b.length ≤ 9223372036854775807) : VFun Tryz.prog 20 [.agg [.sl 4 a.length (nodCells a)], .agg [.sl 4 b.length (nodCells b)]] (fun av obs => obs = [] ∧ av = .lit (.bool (nodsEq a b))) := by
 have cla : ∀ (i : Nat) (c : AV), i < a.length → c ∈ nodCells a i → Closed c := fun i c _ h => nodClosed a i c h
 have clb : ∀ (i : Nat) (c : AV), i < b.length → c ∈ nodCells b i → Closed c := fun i c _ h => nodClosed b i c h
 refine vfun_start Tryz.func20 (by kernel_rfl) rfl (by simp [Tryz.ntmps20]) ?_; simp only [Tryz.ntmps20, Tryz.results20]; simp [go_sem]
 refine ⟨by omega, by omega, fun h => by simp [nodsEq]; omega, fun h => ?_⟩
 refine vc_loop (fun i : Nat => i ≤ a.length ∧ ∀ j, j < i → nodEq (nodAt a j) (nodAt b j) = true) (fun i => a.length - i) (fun i => .of [(2, .ptr 0 1 0 0), (3, .ptr 1 1 0 0), (5, .lit (.int .i64 i))] [some ⟨37, 1, 1, fun _ => [.sl 4 a.length (nodCells a)]⟩, some ⟨37, 1, 1, fun _ => [.sl 4 b.length (nodCells b)]⟩]) ⟨0, ⟨by omega, by simp⟩, ?_⟩ (fun i hi => ?_)
 ·simp [go_sem]
  exact ⟨cla, clb⟩
 ·by_cases hlt : i < a.length
  ·simp [go_sem, hlt]
   refine ⟨by omega, vc_drawn [] (.q 0 <| .q 1 <| .q 2 <| .q 3 <| .q 4 <| .q 5 <| .q 6 <| .q 7 <| .q 8 <| .q 9 <| .q 10 <| .done) (by kernel_rfl) ?_⟩
   simp [go_sem, nodCells_at, hlt]
   refine ⟨by omega, .bool (!nodEq (nodAt a i) (nodAt b i)), fun w => ?_, ?_⟩
   ·simp only [nodEq, ba_toList]
    by_cases h1 : (nodAt a i).kind = (nodAt b i).kind <;> by_cases h2 : (nodAt a i).text = (nodAt b i).text <;> by_cases h3 : (nodAt a i).a = (nodAt b i).a <;> by_cases h4 : (nodAt a i).b = (nodAt b i).b <;> simp [h1, h2, h3, h4, ba_beq]
   ·cases hq : nodEq (nodAt a i) (nodAt b i) with
    | false =>
     simp [go_sem]
     exact nodsEq_false hlt hq
    | true =>
     simp [go_sem]
     refine ⟨i + 1, ⟨by omega, fun j hj => ?_⟩, by omega, wrap_succ (by omega), cla, clb⟩
     rcases Nat.lt_succ_iff_lt_or_eq.mp hj with hj | rfl
     ·exact hi.2 j hj
     ·exact hq
  ·simp [go_sem, hlt]
   exact ⟨by omega, nodsEq_true (by omega) fun j hj => hi.2 j (by omega)⟩
open Go.Proofs.YtjdmmhcogmepaaaGreatDoor.Ops (Tr Tk Lv Res Fit OF)
def TksOk (l : List POp) : PT → Prop
 | .leaf b => TkOk l (.leaf b)
 | .grp e => TksOk l e
 | .pre o e => TkOk l (.pre o) ∧ TksOk l e
 | .post o e => TkOk l (.post o) ∧ TksOk l e
 | .inf o x y => TkOk l (.inf o) ∧ TksOk l x ∧ TksOk l y
theorem tksOk_all {l : List POp} : ∀ {e : PT}, TksOk l e → ∀ tk, tk ∈ e.yield → TkOk l tk
 | .leaf b, h, tk, hm => by simp only [Tr.yield, List.mem_singleton] at hm; subst hm; exact h
 | .grp e, h, tk, hm => by
  simp only [Tr.yield, List.mem_cons, List.mem_append, List.mem_nil_iff, or_false] at hm
  rcases hm with rfl | hm | rfl
  ·trivial
  ·exact tksOk_all (e := e) h tk hm
  ·trivial
 | .pre o e, h, tk, hm => by
  simp only [Tr.yield, List.mem_cons] at hm
  rcases hm with rfl | hm
  ·exact h.1
  ·exact tksOk_all h.2 tk hm
 | .post o e, h, tk, hm => by
  simp only [Tr.yield, List.mem_append, List.mem_singleton] at hm
  rcases hm with hm | rfl
  ·exact tksOk_all h.2 tk hm
  ·exact h.1
 | .inf o x y, h, tk, hm => by
  simp only [Tr.yield, List.mem_cons, List.mem_append] at hm
  rcases hm with hm | rfl | hm
  ·exact tksOk_all h.2.1 tk hm
  ·exact h.1
  ·exact tksOk_all h.2.2 tk hm
theorem inL_of {l : List POp} {o : POp} {k : Int} (h1 : opHas l o.text k = true) (h2 : opOf l o.text k = o) : InL l o := by
 obtain ⟨i, hi, e, _⟩ := opHas_has h1
 exact ⟨i, hi, by rw [← e, h2]⟩
theorem inTab_facts {l : List POp} : ∀ {e : PT}, InTab l e → LeavesOk e ∧ KindsOk e ∧ ((∀ j, j < l.length → opOk (opAt l j) = true) → e.All lvO (InL l))
 | .leaf b, h => ⟨h, trivial, fun _ => trivial⟩
 | .grp e, h => inTab_facts (e := e) h
 | .pre o e, h => by
  obtain ⟨g1, g2, g3⟩ := inTab_facts h.2.2.2
  exact ⟨g1, ⟨h.1, g2⟩, fun hok => ⟨inL_of h.2.1 h.2.2.1, by simp [lvO, sortN, h.1], g3 hok⟩⟩
 | .post o e, h => by
  obtain ⟨g1, g2, g3⟩ := inTab_facts h.2.2.2
  exact ⟨g1, ⟨h.1, g2⟩, fun hok => ⟨inL_of h.2.1 h.2.2.1, by simp [lvO, sortN, h.1], g3 hok⟩⟩
 | .inf o x y, h => by
  obtain ⟨g1, g2, g3⟩ := inTab_facts h.2.2.2.1
  obtain ⟨q1, q2, q3⟩ := inTab_facts h.2.2.2.2
  exact ⟨⟨g1, q1⟩, ⟨h.1, g2, q2⟩, fun hok => ⟨inL_of h.2.1 h.2.2.1, g3 hok, q3 hok⟩⟩
theorem inTab_of {l : List POp} (hu : Uniq l) : ∀ {e : PT}, LeavesOk e → KindsOk e → e.All lvO (InL l) → InTab l e
 | .leaf b, h1, _, _ => h1
 | .grp e, h1, h2, h3 => inTab_of hu (e := e) h1 h2 h3
 | .pre o e, h1, h2, h3 => by
  obtain ⟨p1, p2⟩ := op_unique hu (z := o.text) rfl h3.1
  rw [h2.1] at p1 p2
  exact ⟨h2.1, p1, p2, inTab_of hu h1 h2.2 h3.2.2⟩
 | .post o e, h1, h2, h3 => by
  obtain ⟨p1, p2⟩ := op_unique hu (z := o.text) rfl h3.1
  rw [h2.1] at p1 p2
  exact ⟨h2.1, p1, p2, inTab_of hu h1 h2.2 h3.2.2⟩
 | .inf o x y, h1, h2, h3 => by
  obtain ⟨p1, p2⟩ := op_unique hu (z := o.text) rfl h3.1
  rw [h2.1] at p1 p2
  exact ⟨h2.1, p1, p2, inTab_of hu h1.1 h2.2.1 h3.2.1, inTab_of hu h1.2 h2.2.2 h3.2.2⟩
theorem tks_of {l : List POp} : ∀ (e : PT) (out : List PNode), InTab l e → (∀ n, n ∈ lay e out → txtOk n = true) → TksOk l e
 | .leaf b, out, h, ht => by
  have := ht ⟨b.2, b.1, 0, 0⟩ (by simp [lay])
  simp only [txtOk, Bool.and_eq_true] at this
  have h2 := this.2
  rcases h with h | h
  ·rw [if_pos h] at h2; exact .inl ⟨h, h2⟩
  ·rw [if_neg (by omega), if_pos h] at h2; exact .inr ⟨h, h2⟩
 | .grp e, out, h, ht => tks_of e out h fun n hn => ht n (by simp [lay, hn])
 | .pre o e, out, h, ht => ⟨⟨h.1, inL_of h.2.1 h.2.2.1⟩, tks_of e out h.2.2.2 fun n hn => ht n (by simp [lay, hn])⟩
 | .post o e, out, h, ht => ⟨⟨h.1, inL_of h.2.1 h.2.2.1⟩, tks_of e out h.2.2.2 fun n hn => ht n (by simp [lay, hn])⟩
 | .inf o x y, out, h, ht => by
  have hy : ∀ n, n ∈ lay y (lay x out) → txtOk n = true := fun n hn => ht n (by simp [lay, hn])
  exact ⟨⟨h.1, inL_of h.2.1 h.2.2.1⟩, tks_of x out h.2.2.2.1 fun n hn => hy n (lay_mem y _ n hn), tks_of y _ h.2.2.2.2 hy⟩
theorem fitsN_congr {l : List POp} {T U : List PNode} {i : Nat} (h : nodAt T i = nodAt U i) (ha : kidsN (nodAt U i).kind ≠ 0 → nodAt T (nodAt U i).a.toNat = nodAt U (nodAt U i).a.toNat) (hb : kidsN (nodAt U i).kind = 2 → nodAt T (nodAt U i).b.toNat = nodAt U (nodAt U i).b.toNat) : fitsN l T i = fitsN l U i := by
 unfold fitsN
 rw [h]
 by_cases ho : isOpN (nodAt U i) = true
 ·have ho' := ho
  simp only [isOpN, decide_eq_true_eq] at ho'
  have hk : kidsN (nodAt U i).kind ≠ 0 := by
   unfold kidsN
   split
   ·omega
   ·rw [if_pos (by omega)]; omega
  rw [ha hk]
  by_cases h2 : kidsN (nodAt U i).kind = 2
  ·rw [hb h2]
  ·have h1 : kidsN (nodAt U i).kind = 1 := by rcases kids_012 (nodAt U i).kind with e | e | e <;> omega
   simp [h1]
 ·simp [ho]
theorem fits_adm {l : List POp} (hu : Uniq l) (hok : ∀ j, j < l.length → opOk (opAt l j) = true) : ∀ (e : PT) (out T : List PNode), InTab l e → (∀ j, j < (lay e out).length → nodAt T j = nodAt (lay e out) j) → ((∀ i, out.length ≤ i → i < (lay e out).length → fitsN l T i = true) ↔ e.Adm lvO) := by
 have okL : ∀ {o}, InL l o → opOk o = true := fun ⟨j, hj, e⟩ => e ▸ hok j hj
 have drop : ∀ {A : List PNode} {n : PNode} {T : List PNode}, (∀ j, j < (A ++ [n]).length → nodAt T j = nodAt (A ++ [n]) j) → ∀ j, j < A.length → nodAt T j = nodAt A j := fun {A n T} h j hj => by
  rw [h j (by simp; omega), nodAt_old hj]
 have last : ∀ {A : List PNode} {n : PNode} {T : List PNode}, (∀ j, j < (A ++ [n]).length → nodAt T j = nodAt (A ++ [n]) j) → (kidsN n.kind ≠ 0 → 0 ≤ n.a ∧ n.a < A.length) → (kidsN n.kind = 2 → 0 ≤ n.b ∧ n.b < A.length) → fitsN l T A.length = fitsN l (A ++ [n]) A.length := fun {A n T} h ha hb => by
  have hn : nodAt (A ++ [n]) A.length = n := nodAt_new
  refine fitsN_congr (h _ (by simp)) (fun hk => ?_) (fun hk => ?_)
  ·rw [hn] at hk ⊢
   have := ha hk
   exact h _ (by simp; omega)
  ·rw [hn] at hk ⊢
   have := hb hk
   exact h _ (by simp; omega)
 have split_ : ∀ {A out : List PNode} {n : PNode} {T : List PNode}, out.length ≤ A.length → ((∀ i, out.length ≤ i → i < (A ++ [n]).length → fitsN l T i = true) ↔ (∀ i, out.length ≤ i → i < A.length → fitsN l T i = true) ∧ fitsN l T A.length = true) := fun {A out n T} ho => by
  simp only [List.length_append, List.length_singleton]
  refine ⟨fun h => ⟨fun i h1 h2 => h i h1 (by omega), h _ ho (by omega)⟩, fun h i h1 h2 => ?_⟩
  by_cases e : i < A.length
  ·exact h.1 i h1 e
  ·obtain rfl : i = A.length := by omega
   exact h.2
 intro e
 induction e with
 | leaf b =>
  intro out T h hT
  simp only [lay] at hT ⊢
  refine ⟨fun _ => trivial, fun _ i h1 h2 => ?_⟩
  simp only [List.length_append, List.length_singleton] at h2
  obtain rfl : i = out.length := by omega
  have hn := hT out.length (by simp)
  rw [nodAt_new] at hn
  have h' : b.1 = 1 ∨ b.1 = 2 := h
  simp only [fitsN, hn, isOpN]
  have : decide (3 ≤ b.1 ∧ b.1 ≤ 5) = false := by simp; omega
  simp [this]
 | grp e ih =>
  intro out T h hT
  have hg := lay_grows e out
  simp only [lay] at hT ⊢
  rw [split_ (by omega), ih out T h (drop hT)]
  have hn := hT (lay e out).length (by simp)
  rw [nodAt_new] at hn
  have : fitsN l T (lay e out).length = true := by simp [fitsN, hn, isOpN]
  simp only [this, and_true, Tr.Adm]
 | pre o e ih =>
  intro out T h hT
  have hg := lay_grows e out
  obtain ⟨f1, f2, f3⟩ := inTab_facts h.2.2.2
  have hj := inL_of h.2.1 h.2.2.1
  have hk3 : kidsN (o.kind + 2) = 1 := by rw [h.1]; rfl
  simp only [lay] at hT ⊢
  rw [split_ (by omega), ih out T h.2.2.2 (drop hT), last hT (fun _ => by simp only; omega) (fun hk => by simp only at hk; omega)]
  have := fits_pre hu hj (okL hj) h.1 e out f1 (f3 hok) f2
  rw [h.1] at *
  rw [show (1 : Int) + 2 = 3 from rfl, this, decide_eq_true_eq]
  simp only [Tr.Adm]
  exact And.comm
 | post o e ih =>
  intro out T h hT
  have hg := lay_grows e out
  obtain ⟨f1, f2, f3⟩ := inTab_facts h.2.2.2
  have hj := inL_of h.2.1 h.2.2.1
  have hk3 : kidsN (o.kind + 2) = 1 := by rw [h.1]; rfl
  simp only [lay] at hT ⊢
  rw [split_ (by omega), ih out T h.2.2.2 (drop hT), last hT (fun _ => by simp only; omega) (fun hk => by simp only at hk; omega)]
  have := fits_post hu hj (okL hj) h.1 e out f1 (f3 hok) f2
  rw [h.1] at *
  rw [show (3 : Int) + 2 = 5 from rfl, this, decide_eq_true_eq]
  simp only [Tr.Adm]
  exact And.comm
 | inf o x y ihx ihy =>
  intro out T h hT
  have hg := lay_grows x out
  have hg2 := lay_grows y (lay x out)
  obtain ⟨f1, f2, f3⟩ := inTab_facts h.2.2.2.1
  obtain ⟨q1, q2, q3⟩ := inTab_facts h.2.2.2.2
  have hj := inL_of h.2.1 h.2.2.1
  have hk3 : kidsN (o.kind + 2) = 2 := by rw [h.1]; rfl
  simp only [lay] at hT ⊢
  have hTy := drop hT
  have hTx : ∀ j, j < (lay x out).length → nodAt T j = nodAt (lay x out) j := fun j hj => by rw [hTy j (by omega), lay_old y _ j hj]
  have two : (∀ i, out.length ≤ i → i < (lay y (lay x out)).length → fitsN l T i = true) ↔ x.Adm lvO ∧ y.Adm lvO := by
   rw [← ihx out T h.2.2.2.1 hTx, ← ihy (lay x out) T h.2.2.2.2 hTy]
   refine ⟨fun h => ⟨fun i h1 h2 => h i h1 (by omega), fun i h1 h2 => h i (by omega) h2⟩, fun ⟨ha, hb⟩ i h1 h2 => ?_⟩
   by_cases e : i < (lay x out).length
   ·exact ha i h1 e
   ·exact hb i (by omega) h2
  rw [split_ (by omega), two, last hT (fun _ => by simp only; omega) (fun _ => by simp only; omega)]
  have := fits_inf hu hj (okL hj) h.1 x y out f1 (f3 hok) f2 q1 (q3 hok) q2
  rw [h.1] at *
  rw [show (2 : Int) + 2 = 4 from rfl, this, decide_eq_true_eq]
  simp only [Tr.Adm]
  exact ⟨fun h => ⟨h.2.1, h.2.2, h.1.1, h.1.2⟩, fun h => ⟨⟨h.2.2.1, h.2.2.2⟩, h.1, h.2.1⟩⟩
theorem yield_words : ∀ e : PT, (yieldW e).map (·.text) = e.yield.map tkW
 | .leaf b => rfl
 | .grp e => by simp [yieldW, Tr.yield, yield_words e, tkW, lpar, rpar]
 | .pre o e => by simp [yieldW, Tr.yield, yield_words e, tkW, opWord]
 | .post o e => by simp [yieldW, Tr.yield, yield_words e, tkW, opWord]
 | .inf o x y => by simp [yieldW, Tr.yield, yield_words x, yield_words y, tkW, opWord]
theorem yieldW_length (e : PT) : (yieldW e).length = e.yield.length := by
 have := congrArg List.length (yield_words e)
 simpa using this
theorem joinW_snoc : ∀ (r : List (ByteArray × ByteArray)) (x : ByteArray × ByteArray) (g : ByteArray), joinW (r ++ [x]) g = joinW r ByteArray.empty ++ x.1 ++ x.2 ++ g
 | [], x, g => by simp [joinW]
 | y :: r, x, g => by
  simp only [List.cons_append, joinW, joinW_snoc r x g, ByteArray.append_assoc]
theorem joinW_nil_snoc (r : List (ByteArray × ByteArray)) (x : ByteArray × ByteArray) : joinW (r ++ [x]) ByteArray.empty = joinW r ByteArray.empty ++ x.1 ++ x.2 := by
 rw [joinW_snoc, ByteArray.append_empty]
def gapPs (gp : Nat → ByteArray) : Nat → List TkP → List (ByteArray × TkP)
 | _, [] => []
 | i, tk :: r => (gp i, tk) :: gapPs gp (i + 1) r
theorem gapPs_snd (gp : Nat → ByteArray) : ∀ (i : Nat) (ts : List TkP), (gapPs gp i ts).map (·.2) = ts
 | _, [] => rfl
 | i, tk :: r => by simp [gapPs, gapPs_snd gp (i + 1) r]
theorem gapPs_snoc (gp : Nat → ByteArray) : ∀ (i : Nat) (ts : List TkP) (tk : TkP), gapPs gp i (ts ++ [tk]) = gapPs gp i ts ++ [(gp (i + ts.length), tk)]
 | i, [], tk => by simp [gapPs]
 | i, x :: r, tk => by
  simp only [List.cons_append, gapPs, gapPs_snoc gp (i + 1) r tk, List.length_cons]
  rw [show i + 1 + r.length = i + (r.length + 1) by omega]
def txtPs (ps : List (ByteArray × TkP)) : List (ByteArray × ByteArray) := ps.map fun x => (x.1, tkW x.2)
def MeetOk (a b : TkP) : Prop := Apart (tkW a) (byteAt (tkW b) 0)
theorem join_gaps {l : List POp} (hok : ∀ j, j < l.length → opOk (opAt l j) = true) {gp : Nat → ByteArray} (hb : ∀ i, Blanks (gp i)) {g : ByteArray} (hg : Blanks g) : ∀ (ts : List TkP) (i : Nat), (∀ tk, tk ∈ ts → TkOk l tk) → (∀ k a b, ts[k]? = some a → ts[k + 1]? = some b → 0 < (gp (i + k + 1)).size ∨ MeetOk a b) → JoinOk l (txtPs (gapPs gp i ts)) g
 | [], i, _, _ => hg
 | tk :: r, i, hk, hm => by
  have ht := (tk_is hok (hk tk (by simp)) ByteArray.empty).2
  refine ⟨hb i, ht, ?_, join_gaps hok hb hg r (i + 1) (fun t h => hk t (by simp [h])) (fun k a b h1 h2 => by
   have := hm (k + 1) a b (by simpa using h1) (by simpa using h2)
   rwa [show i + (k + 1) + 1 = i + 1 + k + 1 by omega] at this)⟩
  cases r with
  | nil => trivial
  | cons y s => exact hm 0 tk y rfl rfl
theorem blanks_of {g : ByteArray} (h : g = ⟨#[]⟩ ∨ g = ⟨#[32]⟩ ∨ g = ⟨#[10, 9]⟩ ∨ g = ⟨#[32, 32]⟩) : Blanks g := by
 intro i hi
 rcases h with rfl | rfl | rfl | rfl
 ·have : (⟨#[]⟩ : ByteArray).size = 0 := rfl
  omega
 ·obtain rfl : i = 0 := by have : (⟨#[32]⟩ : ByteArray).size = 1 := rfl; omega
  decide
 ·have : (⟨#[10, 9]⟩ : ByteArray).size = 2 := rfl
  rcases (by omega : i = 0 ∨ i = 1) with rfl | rfl <;> decide
 ·have : (⟨#[32, 32]⟩ : ByteArray).size = 2 := rfl
  rcases (by omega : i = 0 ∨ i = 1) with rfl | rfl <;> decide
structure WfTree (l : List POp) (T : List PNode) (e : PT) : Prop where
 tbl : tblOk l = 0
 lay : T = lay e []
 inT : InTab l e
 tks : TksOk l e
 len : 1 ≤ T.length ∧ T.length ≤ 20000
theorem wf_tree {l : List POp} {T : List PNode} (h : wellF l T = true) : WfTree l T (rootE l T) := by
 obtain ⟨g1, g2, g3, g4, _⟩ := bare_facts h
 refine ⟨(wellF_ord h).2, g4, g3, tks_of _ [] g3 fun n hn => ?_, g1, g2⟩
 rw [← g4] at hn
 obtain ⟨i, hi, rfl⟩ := List.getElem_of_mem hn
 have := (nodesOk_of h).txt i hi
 unfold nodAt at this
 rwa [List.getD_eq_getElem?_getD, List.getElem?_eq_getElem hi] at this
theorem WfTree.adm {l : List POp} {T : List PNode} {e : PT} (h : WfTree l T e) : ((List.range T.length).all (fun i => fitsN l T i) = true) ↔ e.Adm lvO := by
 rw [← fits_adm (uniq_of_ok h.tbl) (ok_of_ok h.tbl) e [] T h.inT (fun j _ => by rw [← h.lay]), List.all_eq_true]
 rw [← h.lay]
 simp
theorem treeOk_cases (l : List POp) (T : List PNode) : treeOk l T = 1 ∨ treeOk l T = 2 ∨ (wellF l T = true ∧ ((treeOk l T = 0 ∧ (rootE l T).Adm lvO) ∨ (treeOk l T = 3 ∧ ¬ (rootE l T).Adm lvO))) := by
 by_cases h0 : tblOk l = 0
 ·cases hw : wellF l T with
  | false => exact .inr (.inl (by simp [treeOk, h0, hw]))
  | true =>
   have ha := (wf_tree hw).adm
   refine .inr (.inr ⟨rfl, ?_⟩)
   cases hf : (List.range T.length).all (fun i => fitsN l T i) with
   | true => exact .inl ⟨by unfold treeOk; rw [if_neg (by omega), if_neg (by rw [hw]; simp), if_pos hf], ha.1 hf⟩
   | false => exact .inr ⟨by unfold treeOk; rw [if_neg (by omega), if_neg (by rw [hw]; simp), if_neg (by rw [hf]; simp)], fun h => by rw [ha.2 h] at hf; cases hf⟩
 ·exact .inl (by simp [treeOk, h0])
theorem lay_wf {l : List POp} {e : PT} (h0 : tblOk l = 0) (hi : InTab l e) (ht : TksOk l e) (hx : ETx 20000 e) (hs : sizeE e ≤ 20000) : wellF l (lay e []) = true := by
 have hl := lay_len e []
 have hp := sizeE_pos e
 simp only [List.length_nil, Nat.zero_add] at hl
 have htx := lay_txN e [] hx (nodTx_nil _)
 have key : ∀ n, n ∈ lay e [] → n.text.size ≤ 20000 → txtOk n = true ∧ (isOpN n = true → opHas l n.text (n.kind - 2) = true) := by
  have okL : ∀ {o}, InL l o → sgOk o.text = true := fun ⟨j, hj, e⟩ => opOk_signs (e ▸ ok_of_ok h0 j hj)
  have gen : ∀ (e : PT) (out : List PNode), InTab l e → TksOk l e → (∀ n, n ∈ out → n.text.size ≤ 20000 → txtOk n = true ∧ (isOpN n = true → opHas l n.text (n.kind - 2) = true)) → ∀ n, n ∈ lay e out → n.text.size ≤ 20000 → txtOk n = true ∧ (isOpN n = true → opHas l n.text (n.kind - 2) = true) := by
   intro e
   induction e with
   | leaf b =>
    intro out hi ht ho n hn hz
    simp only [lay, List.mem_append, List.mem_singleton] at hn
    rcases hn with hn | rfl
    ·exact ho n hn hz
    ·rcases ht with ⟨k, hk⟩ | ⟨k, hk⟩
     ·simp only at hz; simp [txtOk, isOpN, k, hk, hz]
     ·simp only at hz; simp [txtOk, isOpN, k, hk, hz]
   | grp e ih =>
    intro out hi ht ho n hn hz
    simp only [lay, List.mem_append, List.mem_singleton] at hn
    rcases hn with hn | rfl
    ·exact ih out hi ht ho n hn hz
    ·simp only at hz; simp [txtOk, isOpN, hz]
   | pre o e ih =>
    intro out hi ht ho n hn hz
    simp only [lay, List.mem_append, List.mem_singleton] at hn
    rcases hn with hn | rfl
    ·exact ih out hi.2.2.2 ht.2 ho n hn hz
    ·have := okL ht.1.2
     simp only at hz; simp [txtOk, isOpN, hi.1, this, hz, hi.2.1]
   | post o e ih =>
    intro out hi ht ho n hn hz
    simp only [lay, List.mem_append, List.mem_singleton] at hn
    rcases hn with hn | rfl
    ·exact ih out hi.2.2.2 ht.2 ho n hn hz
    ·have := okL ht.1.2
     simp only at hz; simp [txtOk, isOpN, hi.1, this, hz, hi.2.1]
   | inf o x y ih1 ih2 =>
    intro out hi ht ho n hn hz
    simp only [lay, List.mem_append, List.mem_singleton] at hn
    rcases hn with hn | rfl
    ·exact ih2 (lay x out) hi.2.2.2.2 ht.2.2 (ih1 out hi.2.2.2.1 ht.2.1 ho) n hn hz
    ·have := okL ht.1.2
     simp only at hz; simp [txtOk, isOpN, hi.1, this, hz, hi.2.1]
  exact gen e [] hi ht (by simp)
 have hk : ∀ i, i < (lay e []).length → txtOk (nodAt (lay e []) i) = true ∧ (isOpN (nodAt (lay e []) i) = true → opHas l (nodAt (lay e []) i).text ((nodAt (lay e []) i).kind - 2) = true) := fun i hi => by
  refine key _ ?_ (htx i hi)
  unfold nodAt
  rw [List.getD_eq_getElem?_getD, List.getElem?_eq_getElem hi]
  exact List.getElem_mem hi
 obtain ⟨f1, _⟩ := lay_tree (l := l) (t := lay e []) e [] hi (fun _ _ => rfl)
 simp only [wellF, inOrd, opdAll, Bool.and_eq_true, decide_eq_true_eq, List.all_eq_true, List.mem_range]
 refine ⟨⟨h0, ⟨by omega, ?_⟩, fun i hi => (hk i hi).1⟩, fun i hi => ?_⟩
 ·have : ((lay e []).length : Int) - 1 = (((lay e []).length - 1 : Nat) : Int) := by omega
  rw [this]; simpa using f1
 ·have := (hk i hi).2
  cases ho : isOpN (nodAt (lay e []) i) with
  | false => rfl
  | true => simp [this ho]
theorem lay_root {l : List POp} {e : PT} (hi : InTab l e) : rootE l (lay e []) = e := (lay_tree (l := l) (t := lay e []) e [] hi (fun _ _ => rfl)).2
theorem lay_treeOk {l : List POp} {e : PT} (h0 : tblOk l = 0) (hi : InTab l e) (ht : TksOk l e) (hx : ETx 20000 e) (hs : sizeE e ≤ 20000) (ha : e.Adm lvO) : treeOk l (lay e []) = 0 := by
 have hw := lay_wf h0 hi ht hx hs
 rcases treeOk_cases l (lay e []) with h | h | ⟨_, h | h⟩
 ·simp only [treeOk] at h
  rw [if_neg (by omega), hw] at h
  simp at h
  split at h <;> omega
 ·simp only [treeOk] at h
  rw [if_neg (by omega), hw] at h
  simp at h
  split at h <;> omega
 ·exact h.1
 ·rw [lay_root hi] at h
  exact absurd ha h.2
theorem word_pos {l : List POp} (hok : ∀ j, j < l.length → opOk (opAt l j) = true) {tk : TkP} (h : TkOk l tk) : 0 < (tkW tk).size := (word_begin (tk_is hok h ByteArray.empty).2).1
theorem lexFrom_kind {l : List POp} {z : ByteArray} (f : Nat) (hf : f ≤ z.size) : ∀ k, k ∈ lexFrom l z f → k.kind = 7 ∨ k.kind = kindZ l k.text := by
 generalize hn : z.size - f = n
 induction n using Nat.strongRecOn generalizing f with
 | ind n ih =>
  have hr := run_le isBl z f hf
  intro k hk
  by_cases h : f + run isBl z f < z.size
  ·have hg := longest_ge l z (f + run isBl z f)
   have hl := longest_le l z (f + run isBl z f) h
   rw [lexFrom_go rfl h, List.mem_cons] at hk
   rcases hk with rfl | hk
   ·exact .inr rfl
   ·exact ih (z.size - (f + run isBl z f + longest l z (f + run isBl z f))) (by omega) _ hl rfl k hk
  ·rw [lexFrom_end rfl h, List.mem_singleton] at hk
   subst hk; exact .inl rfl
theorem toks_ok {l : List POp} {t : List PTok} (hk : ∀ k, k ∈ t → k.kind = 7 ∨ k.kind = kindZ l k.text) : ∀ (ts : List TkP) (i : Nat), ToksAre l t i ts → ∀ tk, tk ∈ ts → TkOk l tk
 | [], i, h, tk, hm => by simp at hm
 | x :: r, i, h, tk, hm => by
  rw [List.mem_cons] at hm
  rcases hm with rfl | hm
  ·have hlen := toksAre_len h
   have hi : i < t.length := by simp at hlen; omega
   have hmem : tokAt t i ∈ t := by
    unfold tokAt
    rw [List.getD_eq_getElem?_getD, List.getElem?_eq_getElem hi]
    exact List.getElem_mem hi
   have h1 := hk _ hmem
   have h2 := h.1
   cases tk with
   | leaf b =>
    obtain ⟨h3, rfl⟩ := h2
    have h4 : (tokAt t i).kind = kindZ l (tokAt t i).text := h1.resolve_left (by omega)
    unfold kindZ at h4
    rcases h3 with h3 | h3
    ·refine .inl ⟨h3, ?_⟩
     rw [h3] at h4
     cases hn : numZ (tokAt t i).text with
     | true => rfl
     | false =>
      exfalso; rw [hn] at h4
      simp only [Bool.false_eq_true, if_false] at h4
      repeat' split at h4
      all_goals omega
    ·refine .inr ⟨h3, ?_⟩
     rw [h3] at h4
     cases hn : namZ (tokAt t i).text with
     | true => rfl
     | false =>
      exfalso; rw [hn] at h4
      simp only [Bool.false_eq_true, if_false] at h4
      repeat' split at h4
      all_goals omega
   | opn => trivial
   | cls => trivial
   | pre o => exact ⟨h2.2.2.1, h2.2.2.2⟩
   | inf o => exact ⟨h2.2.2.1, h2.2.2.2⟩
   | post o => exact ⟨h2.2.2.1, h2.2.2.2⟩
  ·exact toks_ok hk r (i + 1) h.2 tk hm
theorem tks_all {l : List POp} : ∀ {e : PT}, (∀ tk, tk ∈ e.yield → TkOk l tk) → TksOk l e
 | .leaf b, h => h _ (by simp [Tr.yield])
 | .grp e, h => tks_all (e := e) fun tk hm => h tk (by simp [Tr.yield, hm])
 | .pre o e, h => ⟨h _ (by simp [Tr.yield]), tks_all fun tk hm => h tk (by simp [Tr.yield, hm])⟩
 | .post o e, h => ⟨h _ (by simp [Tr.yield]), tks_all fun tk hm => h tk (by simp [Tr.yield, hm])⟩
 | .inf o x y, h => ⟨h _ (by simp [Tr.yield]), tks_all fun tk hm => h tk (by simp [Tr.yield, hm]), tks_all fun tk hm => h tk (by simp [Tr.yield, hm])⟩
theorem parsed_facts {l : List POp} {z : ByteArray} (hc : (parZ l z).2.1 = 0) : ∃ e : PT, tblOk l = 0 ∧ e.Adm lvO ∧ InTab l e ∧ TksOk l e ∧ ETx 20000 e ∧ highT e ≤ 1000 ∧ sizeE e ≤ 20000 ∧ e.yield.length ≤ 20000 ∧ parZ l z = (lay e [], 0, 0) := by
 unfold parZ at hc ⊢
 split at hc
 ·simp at hc
 ·rename_i h0
  rw [if_neg h0]
  have h0 : tblOk l = 0 := Decidable.byContradiction h0
  split at hc
  ·simp at hc
  ·rename_i h1
   rw [if_neg h1]
   have h1 : z.size ≤ 20000 := Decidable.byContradiction h1
   have hok : lexOk l z = true := by simp [lexOk, h0, h1]
   have hlz : lexZ l z = lexFrom l z 0 := by rw [lexZ, if_pos hok]
   have hlen := lexFrom_len l z 0 (by omega)
   have hsum : tokSum (lexZ l z) ≤ 20000 := by
    rw [hlz, ← rend_size, rend_lexFrom l z 0 (by omega), ByteArray.size_extract]
    omega
   rw [← hlz] at hlen
   cases hb : badAt (lexZ l z) with
   | some i => rw [parK_bad hb] at hc; simp at hc
   | none =>
    rcases roles_two h0 (lexZ_ends hok) with ⟨hr, _⟩ | ⟨hr, _⟩
    ·have F := fits_of h0 hr
     cases hp : partT l (lexZ l z) with
     | none => rw [parK_none hb hr hp] at hc; simp at hc
     | some e =>
      obtain ⟨e1, e2, e3, e4, e5⟩ := partT_ok F hp
      by_cases he : highT e ≤ 1000
      ·have hF := F.len
       have hly := lay_yield e []
       have hll := lay_len e []
       have htk := toks_ok (l := l) (t := lexZ l z) (by rw [hlz]; exact lexFrom_kind 0 (by omega)) _ 0 F.toks
       rw [← e2] at htk hF
       simp only [List.length_nil] at hly hll
       have hs := F.seg
       rw [← e2] at hs
       refine ⟨e, h0, e1, inTab_of (uniq_of_ok h0) e3 e5 e4, tks_all htk, ?_, he, by omega, by omega, parK_ok hb hr hp he⟩
       refine (tx_layN e [] (seg_txt (fun j => ?_) e 0 [] hs (nodTx_nil _))).1
       by_cases hj : j < (lexZ l z).length
       ·have := tok_le hj
        unfold tokSize at this
        omega
       ·have : tokAt (lexZ l z) j = default := by unfold tokAt; rw [List.getD_eq_getElem?_getD, List.getElem?_eq_none (by omega)]; rfl
        rw [this]; decide
      ·rw [parK_high hb hr hp he] at hc; simp at hc
    ·rw [parK_roles hb hr] at hc; simp at hc
theorem parZ_none {l : List POp} {z : ByteArray} (hc : (parZ l z).2.1 ≠ 0) : (parZ l z).1 = [] := by
 unfold parZ at hc ⊢
 split
 ·rfl
 ·rename_i h0
  rw [if_neg h0] at hc
  split
  ·rfl
  ·rename_i h1
   rw [if_neg h1] at hc
   revert hc
   unfold parK
   cases badAt (lexZ l z) with
   | some i => exact fun _ => rfl
   | none =>
    simp only
    split
    ·exact fun _ => rfl
    ·cases partT l (lexZ l z) with
     | none => exact fun _ => rfl
     | some e =>
      simp only
      split
      ·exact fun h => absurd rfl h
      ·exact fun _ => rfl
end Go.Proofs.YtjdmmhcogmepaaaGreatDoor.V
namespace Go.Proofs.YtjdmmhcogmepaaaGreatDoor.V
open Go.RowKit
theorem tx_app1 (a : List ByteArray) (x : ByteArray) (i : Nat) (hi : i < a.length + 1) : joinF a.length (txCells a) (fun q => [[AV.lit (.string x)]][q]?.getD []) i = txCells (a ++ [x]) i := by
 unfold joinF txCells txAt
 by_cases h : i < a.length
 ·rw [if_pos h, List.getD_eq_getElem?_getD, List.getD_eq_getElem?_getD, List.getElem?_append_left h]
 ·have : i = a.length := by omega
  subst this
  rw [if_neg (by omega), List.getD_eq_getElem?_getD, List.getElem?_append_right (by omega)]
  simp
def txW (W : List PWord) (i : Nat) : List ByteArray := (W.map (·.text)).take i
theorem txW_len {W : List PWord} {i : Nat} (h : i ≤ W.length) : (txW W i).length = i := by simp [txW]; omega
theorem txW_succ {W : List PWord} {i : Nat} (h : i < W.length) : txW W (i + 1) = txW W i ++ [(wdAt W i).text] := by
 unfold txW wdAt
 rw [List.take_add_one, List.getElem?_eq_getElem (by simpa using h), List.getD_eq_getElem?_getD, List.getElem?_eq_getElem h]
 simp
theorem tx_size {W : List PWord} {B : Nat} (hz : ∀ i, (wdAt W i).text.size ≤ B) (i : Nat) : (txAt (W.map (·.text)) i).size ≤ B := by
 have := hz i
 unfold txAt
 unfold wdAt at this
 rw [List.getD_eq_getElem?_getD] at this ⊢
 rw [List.getElem?_map]
 cases h : W[i]? with
 | none => exact Nat.zero_le _
 | some w => rw [h] at this; simpa using this
set_option maxRecDepth 100000 in
theorem c_OtherGaps {l : List POp} (e : ET) (hT : InTab l e) (h1 : (lay e []).length ≤ 30000) (hz : ∀ i, (wdAt (yieldW e) i).text.size ≤ 30000) (M : Nat) (q : Nat → Nat) (hM : M ≤ 9223372036854775807) (hq : ∀ i, q i < 256) : VFun Tryz.prog 32 [.agg [.sl 4 (lay e []).length (nodCells (lay e []))], .sl 1 M (rdCells q)] (fun av obs => obs = [] ∧ av = .lit (.string (spread ((yieldW e).map (·.text)) (rdOf M q)))) := by
 have clf : ∀ (i : Nat) (c : AV), i < M → c ∈ rdCells q i → Closed c := fun i c _ h => rdClosed q i c h
 have hp := sizeE_pos e
 have hO := lay_len e []
 simp only [List.length_nil, Nat.zero_add] at hO
 have cy := c_l4Yield (l := l) (lay e []) (by omega) e hT [] (fun _ _ => rfl) (Nat.le_refl _) [] (by simp; omega)
 rw [hO] at cy
 rw [hO]
 have clg : ∀ (i : Nat) (c : AV), i < sizeE e → c ∈ nodCells (lay e []) i → Closed c := fun i c _ h => nodClosed _ i c h
 have ew : IntKind.i64.wrap ((sizeE e : Int) - 1) = ((sizeE e - 1 : Nat) : Int) := by rw [wrap_i64 (by omega)]; omega
 have hyl := yieldW_len e
 simp only [List.nil_append] at cy
 have c1 := c_l1Open M q hM
 have hr := rdOf_ok M q hq
 have cs := c_l3Spread ((yieldW e).map (·.text)) (by simp; omega) (fun i => by have := tx_size hz i; omega) (rdOf M q) hr.w
 generalize yieldW e = W at *
 generalize rdOf M q = r at *
 simp only [rdOb, txRow, List.length_map] at c1 cs
 refine vfun_start Tryz.func32 (by kernel_rfl) rfl (by simp [Tryz.ntmps32]) ?_; simp only [Tryz.ntmps32, Tryz.results32]; simp [go_sem]
 simp [go_sem, ew]
 refine ⟨by omega, ?_⟩
 refine vcall_share [1] cy (by simp) ?_ ?_ trivial ?_
 ·simp [go_sem]
  exact clg
 ·simp [go_sem, ysRow]
 rintro av mem maps ⟨rfl, rfl, rfl⟩
 simp [go_sem, ysRow]
 refine vc_loopE (fun i : Nat => i ≤ W.length) (fun i => W.length - i) (fun i => .of [(1, .sl 1 M (rdCells q)), (5, .own 0), (6, .own 1), (7, .lit (.int .i64 i))] [ysRow W, some ⟨9, 1, (txW W i).length, txCells (txW W i)⟩]) ⟨0, by omega, ?_⟩ (fun i hi => ?_)
 ·refine ent_ks [2, 3] (by simp) (by simp) (by simp) (by simp) (by simp [go_sem]) ?_ ?_
  ·simp [go_sem]
   exact clf
  ·simp [go_sem, ysRow, txW]
   exact .inr sh0Y
 ·have hl := txW_len hi
  simp [go_sem, ysRow, ysCells_at, hl]
  refine ⟨by omega, fun hlt => ⟨hlt, by omega, by omega, i + 1, by omega, by omega, ?_⟩, fun hge => ?_⟩
  ·refine ent_ks [0, 3] (by simp) (by simp) (by simp) (by simp) (by simp [go_sem]) ?_ ?_
   ·simp [go_sem]
    exact ⟨clf, wrap_succ (by omega)⟩
   ·have hl2 := txW_len (W := W) (i := i + 1) (by omega)
    have hrow : ∀ j, j < i + 1 → joinF i (txCells (txW W i)) (fun q => [[AV.lit (.string (wdAt W i).text)]][q]?.getD []) j = txCells (txW W (i + 1)) j := fun j hj => by
     have := tx_app1 (txW W i) (wdAt W i).text j (by omega)
     rw [hl, ← txW_succ hlt] at this
     exact this
    simp [go_sem, ysRow, hl2]
    exact ⟨.inr sh0Y, .inl fun j hj => ⟨hrow j hj, fun c hc => txClosed _ _ c hc⟩⟩
  ·obtain rfl : i = W.length := by omega
   have hall : txW W W.length = W.map (·.text) := by unfold txW; rw [List.take_of_length_le (by simp)]
   rw [hall]
   refine vcall_share [] c1 (by simp) ?_ ?_ trivial ?_
   ·simp [go_sem]
    exact clf
   ·simp [go_sem]
   rintro av mem maps ⟨rfl, rfl, rfl⟩
   simp [go_sem]
   refine vcall_share [2, 1] cs (by simp) ?_ ?_ trivial ?_
   ·simp [go_sem]
   ·simp [go_sem]
    exact ⟨fun i c h1 h2 => rdClosed _ _ c h2, fun i _ => cellsRn_lits (txLit _ i)⟩
   rintro av mem maps ⟨rfl, rfl, rfl⟩
   simp [go_sem]
open Go.Proofs.YtjdmmhcogmepaaaGreatDoor.Ops (Tr Tk Lv Res Fit OF)
theorem txAt_yield (e : PT) {i : Nat} {tk : TkP} (h : e.yield[i]? = some tk) : txAt ((yieldW e).map (·.text)) i = tkW tk := by
 unfold txAt
 rw [yield_words, List.getD_eq_getElem?_getD, List.getElem?_map, h]
 rfl
theorem blanks_app {a b : ByteArray} (ha : Blanks a) (hb : Blanks b) : Blanks (a ++ b) := fun i hi => by
 rw [ByteArray.size_append] at hi
 by_cases h : i < a.size
 ·rw [byteAt_app1 h]; exact ha i h
 ·have := byteAt_app2 (a := a) (b := b) (i := i - a.size) (by omega)
  rw [show a.size + (i - a.size) = i by omega] at this
  rw [this]; exact hb _ (by omega)
theorem gapT_blanks (k : Nat) : Blanks (gapT k) := by
 apply blanks_of
 unfold gapT
 split
 ·exact .inr (.inl rfl)
 ·exact .inl rfl
 ·exact .inr (.inr (.inl rfl))
 ·exact .inr (.inr (.inr rfl))
 ·exact .inl rfl
theorem gapS_blanks (ws : List ByteArray) (q : Rd) (i : Nat) : Blanks (gapS ws q i) := by
 unfold gapS
 split
 ·exact blanks_of (.inr (.inl rfl))
 ·exact gapT_blanks _
def gpS (ws : List ByteArray) (r : Rd) (i : Nat) : ByteArray := if i = 0 then gapT r.v ++ gapS ws (sprR ws r 0).2 0 else gapS ws (sprR ws r i).2 i
theorem spr_join (e : PT) (r : Rd) : ∀ i, i < e.yield.length → (sprR ((yieldW e).map (·.text)) r (i + 1)).1 = joinW (txtPs (gapPs (gpS ((yieldW e).map (·.text)) r) 0 (e.yield.take (i + 1)))) ByteArray.empty
 | 0, h => by
  rw [List.take_add_one, List.getElem?_eq_getElem h]
  simp only [List.take_zero, List.nil_append, Option.toList_some, gapPs, txtPs, List.map_cons, List.map_nil, joinW, sprR, gpS]
  rw [txAt_yield e (List.getElem?_eq_getElem h), if_pos trivial]
  rw [ByteArray.append_empty]
 | i + 1, h => by
  rw [List.take_add_one, List.getElem?_eq_getElem h]
  simp only [Option.toList_some]
  rw [gapPs_snoc]
  simp only [txtPs, List.map_append, List.map_cons, List.map_nil]
  rw [joinW_nil_snoc, sprR, spr_join e r i (by omega), txAt_yield e (List.getElem?_eq_getElem h)]
  simp only [List.length_take, Nat.zero_add, txtPs]
  rw [Nat.min_eq_left (by omega)]
  simp only [gpS]
  rw [if_neg (by omega)]
theorem joinW_last : ∀ (ps : List (ByteArray × ByteArray)) (g : ByteArray), joinW ps g = joinW ps ByteArray.empty ++ g
 | [], g => by simp [joinW]
 | x :: r, g => by simp only [joinW]; rw [joinW_last r g]; simp only [ByteArray.append_assoc]
theorem meet_false {l : List POp} (hok : ∀ j, j < l.length → opOk (opAt l j) = true) {a b : TkP} (ha : TkOk l a) (hb : TkOk l b) (h : meetB (tkW a) (tkW b) = false) : MeetOk a b := by
 have pa := word_pos hok ha
 have pb := word_pos hok hb
 have ne : ∀ {z : ByteArray}, 0 < z.size → z ≠ ⟨#[]⟩ := fun hz e => by rw [e] at hz; exact absurd hz (by decide)
 unfold meetB at h
 rw [if_neg (fun q => q.elim (ne pa) (ne pb))] at h
 have al : ∀ {c : Int}, isSg c = true → alnum c = false := fun hc => by
  obtain ⟨g1, g2, _⟩ := sg_not hc
  simp [alnum, g1, g2]
 by_cases hs : isSg (byteAt (tkW a) 0) = true ∨ isSg (byteAt (tkW b) 0) = true
 ·rw [if_pos hs] at h
  refine ⟨fun h1 => ?_, fun h1 => ?_⟩
  ·rw [h1] at h; simpa using h
  ·rcases hs with h2 | h2
   ·rw [al h2] at h1; cases h1
   ·exact al h2
 ·rw [if_neg hs] at h
  have e40 : byteAt (⟨#[40]⟩ : ByteArray) 0 = 40 := rfl
  have e41 : byteAt (⟨#[41]⟩ : ByteArray) 0 = 41 := rfl
  have a40 : alnum 40 = false := by decide
  have a41 : alnum 41 = false := by decide
  refine ⟨fun h1 => absurd (.inl h1) hs, fun h1 => ?_⟩
  by_cases h2 : tkW a = ⟨#[40]⟩
  ·rw [h2, e40, a40] at h1; cases h1
  ·by_cases h3 : tkW a = ⟨#[41]⟩
   ·rw [h3, e41, a41] at h1; cases h1
   ·by_cases h4 : tkW b = ⟨#[40]⟩
    ·rw [h4, e40, a40]
    ·by_cases h5 : tkW b = ⟨#[41]⟩
     ·rw [h5, e41, a41]
     ·simp [h2, h3, h4, h5] at h
theorem spread_reads {l : List POp} {e : PT} (h0 : tblOk l = 0) (hk : TksOk l e) (r : Rd) (hz : (spread ((yieldW e).map (·.text)) r).size ≤ 20000) : Reads l e (spread ((yieldW e).map (·.text)) r) := by
 have hl : 0 < e.yield.length := Ops.yield_pos e
 have hlen : ((yieldW e).map (·.text)).length = e.yield.length := by rw [List.length_map, yieldW_length]
 have e1 := spr_join e r (e.yield.length - 1) (by omega)
 rw [show e.yield.length - 1 + 1 = e.yield.length by omega, List.take_length] at e1
 have e2 : spread ((yieldW e).map (·.text)) r = joinW (txtPs (gapPs (gpS ((yieldW e).map (·.text)) r) 0 e.yield)) (gapT (sprR ((yieldW e).map (·.text)) r e.yield.length).2.v) := by
  unfold spread
  rw [hlen, e1, ← joinW_last]
 rw [e2] at hz ⊢
 refine reads_join h0 (gapPs_snd _ _ _) (tksOk_all hk) ?_ hz
 refine join_gaps (ok_of_ok h0) (fun i => ?_) (gapT_blanks _) _ 0 (tksOk_all hk) fun k a b h1 h2 => ?_
 ·unfold gpS; split
  ·exact blanks_app (gapT_blanks _) (gapS_blanks _ _ _)
  ·exact gapS_blanks _ _ _
 ·by_cases hg : 0 < (gpS ((yieldW e).map (·.text)) r (0 + k + 1)).size
  ·exact .inl hg
  ·refine .inr (meet_false (ok_of_ok h0) (tksOk_all hk a (List.mem_of_getElem? h1)) (tksOk_all hk b (List.mem_of_getElem? h2)) ?_)
   unfold gpS at hg
   rw [if_neg (by omega)] at hg
   unfold gapS at hg
   rw [show 0 + k + 1 - 1 = k by omega, show 0 + k + 1 = k + 1 by omega, txAt_yield e h1, txAt_yield e h2] at hg
   cases hm : meetB (tkW a) (tkW b) with
   | false => rfl
   | true =>
    exfalso
    rw [hm] at hg
    split at hg
    ·exact hg (by decide)
    ·rename_i hc
     have : ¬ gapT (sprR ((yieldW e).map (·.text)) r (k + 1)).2.v = ⟨#[]⟩ := fun h => hc ⟨⟨by omega, h⟩, rfl⟩
     apply hg
     unfold gapT at this ⊢
     split <;> simp_all <;> decide
end Go.Proofs.YtjdmmhcogmepaaaGreatDoor.V
namespace Go.Proofs.YtjdmmhcogmepaaaGreatDoor.V
open Go.RowKit
theorem yield_tx {B : Nat} (hB : 1 ≤ B) {e : ET} (h : ETx B e) (i : Nat) : (wdAt (yieldW e) i).text.size ≤ B := by
 have := txAt_le (words_tx hB h) i
 unfold txAt wordsE at this
 unfold wdAt
 rw [List.getD_eq_getElem?_getD] at this ⊢
 rw [List.getElem?_map] at this
 cases hc : (yieldW e)[i]? with
 | none => exact Nat.zero_le _
 | some w => rw [hc] at this; exact this
set_option maxHeartbeats 4000000 in
set_option maxRecDepth 100000 in
theorem c_FnParsed (N : Nat) (f : Nat → Nat) (hN : N ≤ maxLen) (hf : ∀ i, f i < 256) (M : Nat) (q : Nat → Nat) (hM : M ≤ maxLen) (hq : ∀ i, q i < 256) : VFun Tryz.prog 7 [.sl 1 N (rdCells f), .sl 1 M (rdCells q)] (fun av _ => av = .lit (.bool true)) := by
 have clf : ∀ (f : Nat → Nat) (N i : Nat) (c : AV), i < N → c ∈ rdCells f i → Closed c := fun f N i c _ h => rdClosed f i c h
 have hN' : N ≤ 9223372036854775807 := by simpa [maxLen] using hN
 have hM' : M ≤ 9223372036854775807 := by simpa [maxLen] using hM
 have hP := drawPar_ok (N := N) hf
 have cd := c_DrawParse N f hN' hf
 generalize drawPar N f = D at *
 obtain ⟨L, z⟩ := D
 simp only at *
 have clL : ∀ (i : Nat) (c : AV), i < L.length → c ∈ opCells L i → Closed c := fun i c _ h => opClosed L i c h
 have clT : ∀ (T : List PNode) (i : Nat) (c : AV), i < T.length → c ∈ nodCells T i → Closed c := fun T i c _ h => nodClosed T i c h
 have c1 := c_specParse L (by omega) hP.2.1 z (by omega)
 have c2 := c_Parse L (by omega) hP.2.1 z (by omega)
 by_cases hc : (parZ L z).2.1 = 0
 ·obtain ⟨e, h0, ha, hi, hk, hx, hh, hs, hy, he⟩ := parsed_facts hc
  have ht := lay_treeOk h0 hi hk hx hs ha
  have hll := lay_len e []
  have hyw := yieldW_len e
  simp only [List.length_nil, Nat.zero_add] at hll
  have hwn : nodsWf (lay e []) := fun i hi => Nat.le_trans (lay_txN e [] hx (nodTx_nil _) i hi) (by simp [maxLen])
  have ct := c_TreeOk L (by omega) hP.2.1 (lay e []) (by omega) hwn
  have cg := c_OtherGaps e hi (by omega) (fun i => by have := yield_tx (by omega) hx i; omega) M q hM' hq
  have hsp := spread_reads h0 hk (rdOf M q)
  have hsz := spread_size (ws := (yieldW e).map (·.text)) (B := 20000) (fun i => tx_size (fun i => yield_tx (by omega) hx i) i) (rdOf M q)
  rw [List.length_map] at hsz
  generalize spread ((yieldW e).map (·.text)) (rdOf M q) = o at *
  rw [he] at c1 c2
  rw [ht] at ct
  have cq := c_lwSameTree (lay e []) (lay e []) (by omega) (by omega)
  rw [nodsEq_refl] at cq
  have hpo : o.size ≤ 20000 → parZ L o = (lay e [], 0, 0) := fun h => (hsp h).adm h0 ha hh
  generalize lay e [] = T at *
  refine vfun_start Tryz.func7 (by kernel_rfl) rfl (by simp [Tryz.ntmps7]) ?_; simp only [Tryz.ntmps7, Tryz.results7]; simp [go_sem]
  refine ⟨by omega, fun hbig => ⟨by omega, fun hbig2 => ?_⟩⟩
  refine vcall_use cd (by simp [go_sem]; exact argSl_refl (by omega) (clf f N)) ?_
  rintro av obs ⟨rfl, rfl⟩
  simp [go_sem]
  refine vcall_use c1 (by simp [go_sem]; exact argSl_own rfl (by omega) clL) ?_
  rintro av obs ⟨rfl, rfl⟩
  simp [go_sem]
  refine vcall_use cd (by simp [go_sem]; exact argSl_refl (by omega) (clf f N)) ?_
  rintro av obs ⟨rfl, rfl⟩
  simp [go_sem]
  refine vcall_use c2 (by simp [go_sem]; exact argSl_own rfl (by omega) clL) ?_
  rintro av obs ⟨rfl, rfl⟩
  simp [go_sem]
  refine vcall_pure ct ?_ ?_
  ·simp [go_sem]
   exact ⟨argSl_own rfl (by omega) clL, argSl_own rfl (by omega) (clT T)⟩
  simp [go_sem]
  refine vcall_pure cg ?_ ?_
  ·simp [go_sem]
   exact ⟨argSl_own rfl (by omega) (clT T), argSl_refl (by omega) (clf q M)⟩
  by_cases ho : o.size ≤ 20000
  ·have c3 := c_Parse L (by omega) hP.2.1 o (by omega)
   rw [hpo ho] at c3
   have ho' : ¬ 20000 < o.size := by omega
   have ho2 : ¬ (20000 : Int) < o.size := by omega
   simp [go_sem, ho', ho2]
   refine vcall_use c3 (by simp [go_sem]; exact argSl_own rfl (by omega) clL) ?_
   rintro av obs ⟨rfl, rfl⟩
   simp [go_sem]
   refine vcall_pure cq ?_ ?_
   ·simp [go_sem]
    exact ⟨argSl_own rfl (by omega) (clT T), argSl_own rfl (by omega) (clT T)⟩
   simp [go_sem]
  ·have ho' : 20000 < o.size := by omega
   have ho2 : (20000 : Int) < o.size := by omega
   have ho3 : o.size ≤ 9223372036854775807 := by
    have : (yieldW e).length * (20000 + 2) ≤ 40000 * 20002 := Nat.mul_le_mul (by omega) (by omega)
    omega
   simp [go_sem, ho', ho2, ho3]
 ·have hn := parZ_none hc
  rw [hn] at c1 c2
  generalize (parZ L z).2.1 = k at *
  generalize (parZ L z).2.2 = p at *
  refine vfun_start Tryz.func7 (by kernel_rfl) rfl (by simp [Tryz.ntmps7]) ?_; simp only [Tryz.ntmps7, Tryz.results7]; simp [go_sem]
  refine ⟨by omega, fun hbig => ⟨by omega, fun hbig2 => ?_⟩⟩
  refine vcall_use cd (by simp [go_sem]; exact argSl_refl (by omega) (clf f N)) ?_
  rintro av obs ⟨rfl, rfl⟩
  simp [go_sem]
  refine vcall_use c1 (by simp [go_sem]; exact argSl_own rfl (by omega) clL) ?_
  rintro av obs ⟨rfl, rfl⟩
  simp [go_sem]
  refine vcall_use cd (by simp [go_sem]; exact argSl_refl (by omega) (clf f N)) ?_
  rintro av obs ⟨rfl, rfl⟩
  simp [go_sem]
  refine vcall_use c2 (by simp [go_sem]; exact argSl_own rfl (by omega) clL) ?_
  rintro av obs ⟨rfl, rfl⟩
  simp [go_sem, hc]
set_option maxRecDepth 100000 in
theorem shape_bytes (n : Nat) (xs : List AV) (h : Shape Tryz.prog (n + 2) 34 xs) : ∃ (m : Nat) (g : Nat → Nat), m ≤ maxLen ∧ (∀ i, g i < 256) ∧ ∃ f, xs = [.sl 1 m f] ∧ ∀ i, i < m → f i = rdCells g i := by
 obtain ⟨m, f, rfl, hm, hf⟩ := shape_slice Tryz.underlying34 h
 have each : ∀ i, i < m → ∃ b : Nat, b < 256 ∧ f i = [.lit (.int .u8 b)] := by
  intro i hi
  obtain ⟨b, e, hb⟩ := shape_int Tryz.underlying5 (hf i hi).2
  have h8 : IntKind.u8.bits = 8 := rfl
  simp [Lit.wf, IntKind.min, IntKind.max, IntKind.signed, h8] at hb
  refine ⟨b.toNat, by omega, ?_⟩
  rw [e, Int.toNat_of_nonneg (by omega)]
 refine ⟨m, fun i => if h : i < m then (each i h).choose else 0, hm, fun i => ?_, f, rfl, fun i hi => ?_⟩
 ·by_cases h : i < m
  ·simp only [dif_pos h]; exact (each i h).choose_spec.1
  ·simp only [dif_neg h]; omega
 ·simp only [rdCells, dif_pos hi]
  exact (each i hi).choose_spec.2
end Go.Proofs.YtjdmmhcogmepaaaGreatDoor.V
