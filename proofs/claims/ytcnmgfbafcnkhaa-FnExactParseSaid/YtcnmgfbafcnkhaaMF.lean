import Derived.Test.YtcnmgfbafcnkhaaME
import Derived.Test.YtcnmgfbafcnkhaaMD
import Derived.Test.YtcnmgfbafcnkhaaMB
import Derived.Test.YtcnmgfbafcnkhaaMC
import Derived.Recover
/- Contracts: the reference builds a tree: a postfix operator with its operand. -/
namespace Go.Proofs.Ytcnmgfbafcnkhaa.V
open Go.RowKit
open Go.Proofs.Ytcnmgfbafcnkhaa.Ops (Tr Tk Lv Res Fit)
set_option linter.unusedVariables false
set_option linter.unusedSimpArgs false
set_option linter.constructorNameAsVariable false
/-- a postfix operator's operand has a tree -/
theorem c_build_post_some (l : List POp) (hl : l.length ≤ 9223372036854775807) (hu : Uniq l) (t : List PTok) (ht : t.length ≤ 1048576) (rs : List Int) (hrs : rs.length = t.length) (a b : Nat) (s : List TkP) (hab : a + s.length = b) (hb : b ≤ t.length) (hs : SegIs l t rs a s) (k : Nat) (o : POp) (er : Ops.root lvO s 0 0 none = some (k, o)) (hk : s[k]? = some (.post o)) (hke : k + 1 = s.length) (hw : opsWf l) (hj : InL l o) (hok : opOk o = true) (hk1 : o.kind = 3) (e : PT) (h1 : LeavesOk e) (h2 : e.All lvO (InL l)) (h3 : KindsOk e) (out : List PNode) (ho : out.length ≤ 2000000) (hle : (lay e out).length ≤ 3000000) (hsz : (lay e out).length ≤ out.length + (s.length - 1))
    (ih : VProc Try.prog 41 [.agg [.sl 4 l.length (opCells l)], .sl 3 t.length (tokCells t), .sl 1 rs.length (intCells rs), .lit (.int .i64 a), .lit (.int .i64 (a + k : Nat)), .own 0] [nodRow out] [] (BuildR k out (some e))) :
    VProc Try.prog 41 [.agg [.sl 4 l.length (opCells l)], .sl 3 t.length (tokCells t), .sl 1 rs.length (intCells rs), .lit (.int .i64 a), .lit (.int .i64 b), .own 0] [nodRow out] [] (BuildR s.length out (if (lvO o).h1 ≤ e.level lvO then some (.post o e) else none)) := by
  have cl : ∀ (i : Nat) (c : AV), i < l.length → c ∈ opCells l i → Closed c := fun i c _ h => opClosed l i c h
  have clt : ∀ (i : Nat) (c : AV), i < t.length → c ∈ tokCells t i → Closed c := fun i c _ h => tokClosed t i c h
  have cli : ∀ (i : Nat) (c : AV), i < rs.length → c ∈ intCells rs i → Closed c := fun i c _ h => intClosed rs i c h
  have cr := c_l3Root l hl hu t ht rs hrs a b s hab hb hs
  rw [er] at cr
  have eb : bestI a (some (k, o)) = ((a + k : Nat) : Int) := rfl
  rw [eb] at cr
  have hlt := (List.getElem?_eq_some_iff.1 hk).1
  obtain ⟨hTk, hr⟩ := seg_at hs hk
  simp only [roleT] at hr
  have hp : a + k < t.length := by omega
  obtain ⟨p, hp'⟩ : ∃ p, a + k = p := ⟨_, rfl⟩
  rw [hp'] at cr hr hp ih hTk
  have htx : o.text = (tokAt t p).text := hTk.2.1
  have hp0 : ¬ ((p : Int) < 0) := by omega
  have hp2 : p < rs.length := by omega
  have w5 : IntKind.i64.wrap 5 = 5 := by decide
  have hpb : IntKind.i64.wrap ((b : Int) - 1) = (p : Int) := by rw [wrap_i64 (by omega)]; omega
  refine vproc_start Try.func41 (by kernel_rfl) rfl (by simp [Try.ntmps41]) ?_; simp only [Try.ntmps41, Try.results41]; simp [go_sem]
  refine vcall_pure cr ?_ ?_
  · simp [go_sem]
    exact ⟨argSl_refl (by omega) cl, argSl_refl (by omega) clt, argSl_refl (by omega) cli⟩
  · simp [go_sem, hp0]
    refine vc_drawn [12] (.q 0 <| .q 1 <| .q 2 <| .q 3 <| .q 4 <| .q 5 <| .q 6 <| .q 7 <| .q 8 <| .q 9 <| .q 10 <| .or 11 (.or 12 (.done) (.nil)) (.nil)) (by kernel_rfl) ?_
    simp [go_sem, tokCells_at, intCells_at, hp, hp2, hr, w5, hpb, nodRow]
    refine vcall_share [0] ih (by simp) ?_ ?_ trivial ?_
    · simp [go_sem]
      exact ⟨cl, clt, cli⟩
    · simp [go_sem, nodRow]
      exact fun i _ => cellsRn_lits (nodLit _ i)
    · rintro av mem maps ⟨rfl, rfl, rfl⟩
      have hg := lay_grows e out
      have ew : IntKind.i64.wrap (((lay e out).length : Int) - 1) = ((lay e out).length : Int) - 1 := wrap_i64 (by omega)
      simp [go_sem, nodRow, ew]
      have ew0 : IntKind.i64.wrap ((lay e out).length : Int) = (lay e out).length := wrap_i64 (by omega)
      obtain ⟨T2, hT2⟩ : ∃ T2, T2 = lay e out ++ [(⟨o.text, 5, ((lay e out).length : Int) - 1, 0⟩ : PNode)] := ⟨_, rfl⟩
      have hl2 : T2.length = (lay e out).length + 1 := by rw [hT2]; simp
      have hn : nodAt T2 (lay e out).length = ⟨o.text, 5, ((lay e out).length : Int) - 1, 0⟩ := by rw [hT2]; exact nodAt_new
      have hf : fitsN l T2 (lay e out).length = decide ((lvO o).h1 ≤ e.level lvO) := by rw [hT2]; exact fits_post hu hj hok hk1 e out h1 h2 h3
      have cf := c_l3Fits l hl hw T2 (by omega) (lay e out).length (by omega) (fun _ => by
        rw [hn]
        have ha : (((lay e out).length : Int) - 1).toNat = (lay e out).length - 1 := by omega
        simp only [ha]
        rw [show nodAt T2 ((lay e out).length - 1) = nodAt (lay e out) ((lay e out).length - 1) by rw [hT2]; exact nodAt_old (by omega)]
        refine ⟨by have := (op_unique hu (z := o.text) rfl hj).1; rw [hk1] at this; exact this, by omega, has_last hu e out h1 h2 h3, fun hh => absurd rfl hh⟩)
      rw [hf] at cf
      rw [ew0]
      refine ⟨by omega, by omega, by omega, by omega, vcall_pure cf ?_ ?_⟩
      · simp [go_sem]
        exact ⟨argSl_refl (by omega) cl, argSl_ownE (k := 5) rfl (by omega) hl2.symm (fun i hi => by rw [hT2, htx]; exact nod_app (lay e out) ⟨(tokAt t p).text, 5, ((lay e out).length : Int) - 1, 0⟩ i (by omega)) (fun i c _ h => nodClosed T2 i c h)⟩
      · simp [go_sem]
        by_cases hc : (lvO o).h1 ≤ e.level lvO
        · simp only [if_pos hc, hc, decide_true, if_true]
          refine ⟨rfl, [5], [none, nodRow (lay (.post o e) out)], by simp, by simp [go_sem], by simp [go_sem], ?_, by simp [go_sem], ?_⟩
          · simp [go_sem, nodRow]
            refine outAt_app (o := ⟨(tokAt t p).text, 5, ((lay e out).length : Int) - 1, 0⟩) (by rw [← htx]; simp [lay, hk1]) fun j hj => ?_
            exact nod_app (lay e out) ⟨(tokAt t p).text, 5, ((lay e out).length : Int) - 1, 0⟩ j hj
          · simp [go_sem, BuildR, nodRow]
        · simp only [if_neg hc, hc, decide_false]
          refine ⟨rfl, [5], [none, nodRow T2], by simp, by simp [go_sem], by simp [go_sem], ?_, by simp [go_sem], ?_⟩
          · simp [go_sem, nodRow]
            refine outAt_app (o := ⟨(tokAt t p).text, 5, ((lay e out).length : Int) - 1, 0⟩) (by rw [← htx]; exact hT2) fun j hj => ?_
            exact nod_app (lay e out) ⟨(tokAt t p).text, 5, ((lay e out).length : Int) - 1, 0⟩ j hj
          · simp [go_sem]
            exact ⟨T2, by omega, .inl ⟨rfl, rfl, rfl⟩⟩
end Go.Proofs.Ytcnmgfbafcnkhaa.V
/- Contracts: the reference builds a tree: an infix operator. -/
namespace Go.Proofs.Ytcnmgfbafcnkhaa.V
open Go.RowKit
open Go.Proofs.Ytcnmgfbafcnkhaa.Ops (Tr Tk Lv Res Fit)
set_option linter.unusedVariables false
set_option linter.unusedSimpArgs false
set_option linter.constructorNameAsVariable false
/-- an infix operator's right operand has no tree -/
theorem c_build_inf_none (l : List POp) (hl : l.length ≤ 9223372036854775807) (hu : Uniq l) (t : List PTok) (ht : t.length ≤ 1048576) (rs : List Int) (hrs : rs.length = t.length) (a b : Nat) (s : List TkP) (hab : a + s.length = b) (hb : b ≤ t.length) (hs : SegIs l t rs a s) (k : Nat) (o : POp) (er : Ops.root lvO s 0 0 none = some (k, o)) (hk : s[k]? = some (.inf o)) (hw : opsWf l) (hj : InL l o) (e : PT) (out : List PNode) (ho : out.length ≤ 2000000) (hle : (lay e out).length ≤ 3000000) (hsz : (lay e out).length ≤ out.length + k)
    (ih : VProc Try.prog 41 [.agg [.sl 4 l.length (opCells l)], .sl 3 t.length (tokCells t), .sl 1 rs.length (intCells rs), .lit (.int .i64 a), .lit (.int .i64 (a + k : Nat)), .own 0] [nodRow out] [] (BuildR k out (some e)))
    (ih2 : VProc Try.prog 41 [.agg [.sl 4 l.length (opCells l)], .sl 3 t.length (tokCells t), .sl 1 rs.length (intCells rs), .lit (.int .i64 (a + k + 1 : Nat)), .lit (.int .i64 b), .own 0] [nodRow (lay e out)] [] (BuildR (s.length - k - 1) (lay e out) none)) :
    VProc Try.prog 41 [.agg [.sl 4 l.length (opCells l)], .sl 3 t.length (tokCells t), .sl 1 rs.length (intCells rs), .lit (.int .i64 a), .lit (.int .i64 b), .own 0] [nodRow out] [] (BuildR s.length out none) := by
  have cl : ∀ (i : Nat) (c : AV), i < l.length → c ∈ opCells l i → Closed c := fun i c _ h => opClosed l i c h
  have clt : ∀ (i : Nat) (c : AV), i < t.length → c ∈ tokCells t i → Closed c := fun i c _ h => tokClosed t i c h
  have cli : ∀ (i : Nat) (c : AV), i < rs.length → c ∈ intCells rs i → Closed c := fun i c _ h => intClosed rs i c h
  have cr := c_l3Root l hl hu t ht rs hrs a b s hab hb hs
  rw [er] at cr
  have eb : bestI a (some (k, o)) = ((a + k : Nat) : Int) := rfl
  rw [eb] at cr
  have hlt := (List.getElem?_eq_some_iff.1 hk).1
  obtain ⟨hTk, hr⟩ := seg_at hs hk
  simp only [roleT] at hr
  have hp : a + k < t.length := by omega
  obtain ⟨p, hp'⟩ : ∃ p, a + k = p := ⟨_, rfl⟩
  rw [hp'] at cr hr hp ih ih2 hTk
  have htx : o.text = (tokAt t p).text := hTk.2.1
  have hp0 : ¬ ((p : Int) < 0) := by omega
  have hp2 : p < rs.length := by omega
  have w4 : IntKind.i64.wrap 4 = 4 := by decide
  have ew1 : IntKind.i64.wrap ((p : Int) + 1) = ((p + 1 : Nat) : Int) := wrap_succ (by omega)
  refine vproc_start Try.func41 (by kernel_rfl) rfl (by simp [Try.ntmps41]) ?_; simp only [Try.ntmps41, Try.results41]; simp [go_sem]
  refine vcall_pure cr ?_ ?_
  · simp [go_sem]
    exact ⟨argSl_refl (by omega) cl, argSl_refl (by omega) clt, argSl_refl (by omega) cli⟩
  · simp [go_sem, hp0]
    refine vc_drawn [12] (.q 0 <| .q 1 <| .q 2 <| .q 3 <| .q 4 <| .q 5 <| .q 6 <| .q 7 <| .q 8 <| .q 9 <| .q 10 <| .or 11 (.or 12 (.done) (.nil)) (.nil)) (by kernel_rfl) ?_
    simp [go_sem, tokCells_at, intCells_at, hp, hp2, hr, w4, nodRow]
    refine vcall_share [0] ih (by simp) ?_ ?_ trivial ?_
    · simp [go_sem]
      exact ⟨cl, clt, cli⟩
    · simp [go_sem, nodRow]
      exact fun i _ => cellsRn_lits (nodLit _ i)
    · rintro av mem maps ⟨rfl, rfl, rfl⟩
      have hg := lay_grows e out
      have ew : IntKind.i64.wrap (((lay e out).length : Int) - 1) = ((lay e out).length : Int) - 1 := wrap_i64 (by omega)
      simp [go_sem, nodRow, ew, ew1]
      refine ⟨by omega, ?_⟩
      refine vcall_share [3] ih2 (by simp) ?_ ?_ trivial ?_
      · simp [go_sem]
        exact ⟨cl, clt, cli⟩
      · simp [go_sem, nodRow]
        exact fun i _ => cellsRn_lits (nodLit _ i)
      · rintro av mem maps ⟨T, hT, hB⟩
        rcases hB with ⟨rfl, rfl, rfl⟩ | ⟨rfl, rfl, rfl⟩
        · simp [go_sem, nodRow]
          refine ⟨rfl, [4], [none, nodRow T], by simp, by simp [go_sem], by simp [go_sem], ?_, by simp [go_sem], ?_⟩
          · simp [go_sem, nodRow]
            exact outAt_same rfl fun j _ => rfl
          · simp [go_sem]
            exact ⟨T, by omega, .inl ⟨rfl, rfl, rfl⟩⟩
        · simp [go_sem, nodRow]
          refine ⟨rfl, [3], [none, nodRow T], by simp, by simp [go_sem], by simp [go_sem], ?_, by simp [go_sem], ?_⟩
          · simp [go_sem, nodRow]
            exact outAt_same rfl fun j _ => rfl
          · simp [go_sem]
            exact ⟨T, by omega, .inl ⟨rfl, rfl, rfl⟩⟩
end Go.Proofs.Ytcnmgfbafcnkhaa.V
/- Contracts: the reference builds a tree: an infix operator with both its operands. -/
namespace Go.Proofs.Ytcnmgfbafcnkhaa.V
open Go.RowKit
open Go.Proofs.Ytcnmgfbafcnkhaa.Ops (Tr Tk Lv Res Fit)
set_option linter.unusedVariables false
set_option linter.unusedSimpArgs false
set_option linter.constructorNameAsVariable false
/-- an infix operator with both its operands -/
theorem c_build_inf_some (l : List POp) (hl : l.length ≤ 9223372036854775807) (hu : Uniq l) (t : List PTok) (ht : t.length ≤ 1048576) (rs : List Int) (hrs : rs.length = t.length) (a b : Nat) (s : List TkP) (hab : a + s.length = b) (hb : b ≤ t.length) (hs : SegIs l t rs a s) (k : Nat) (o : POp) (er : Ops.root lvO s 0 0 none = some (k, o)) (hk : s[k]? = some (.inf o)) (hw : opsWf l) (hj : InL l o) (hok : opOk o = true) (hk1 : o.kind = 2) (e e' : PT) (h1 : LeavesOk e) (h2 : e.All lvO (InL l)) (h3 : KindsOk e) (q1 : LeavesOk e') (q2 : e'.All lvO (InL l)) (q3 : KindsOk e') (out : List PNode) (ho : out.length ≤ 2000000) (hle : (lay e out).length ≤ 3000000) (hle2 : (lay e' (lay e out)).length ≤ 3000000) (hsz : (lay e out).length ≤ out.length + k) (hsz2 : (lay e' (lay e out)).length ≤ (lay e out).length + (s.length - k - 1))
    (ih : VProc Try.prog 41 [.agg [.sl 4 l.length (opCells l)], .sl 3 t.length (tokCells t), .sl 1 rs.length (intCells rs), .lit (.int .i64 a), .lit (.int .i64 (a + k : Nat)), .own 0] [nodRow out] [] (BuildR k out (some e)))
    (ih2 : VProc Try.prog 41 [.agg [.sl 4 l.length (opCells l)], .sl 3 t.length (tokCells t), .sl 1 rs.length (intCells rs), .lit (.int .i64 (a + k + 1 : Nat)), .lit (.int .i64 b), .own 0] [nodRow (lay e out)] [] (BuildR (s.length - k - 1) (lay e out) (some e'))) :
    VProc Try.prog 41 [.agg [.sl 4 l.length (opCells l)], .sl 3 t.length (tokCells t), .sl 1 rs.length (intCells rs), .lit (.int .i64 a), .lit (.int .i64 b), .own 0] [nodRow out] [] (BuildR s.length out (if (lvO o).h1 ≤ e.level lvO ∧ (lvO o).h2 ≤ e'.level lvO then some (.inf o e e') else none)) := by
  have cl : ∀ (i : Nat) (c : AV), i < l.length → c ∈ opCells l i → Closed c := fun i c _ h => opClosed l i c h
  have clt : ∀ (i : Nat) (c : AV), i < t.length → c ∈ tokCells t i → Closed c := fun i c _ h => tokClosed t i c h
  have cli : ∀ (i : Nat) (c : AV), i < rs.length → c ∈ intCells rs i → Closed c := fun i c _ h => intClosed rs i c h
  have cr := c_l3Root l hl hu t ht rs hrs a b s hab hb hs
  rw [er] at cr
  have eb : bestI a (some (k, o)) = ((a + k : Nat) : Int) := rfl
  rw [eb] at cr
  have hlt := (List.getElem?_eq_some_iff.1 hk).1
  obtain ⟨hTk, hr⟩ := seg_at hs hk
  simp only [roleT] at hr
  have hp : a + k < t.length := by omega
  obtain ⟨p, hp'⟩ : ∃ p, a + k = p := ⟨_, rfl⟩
  rw [hp'] at cr hr hp ih ih2 hTk
  have htx : o.text = (tokAt t p).text := hTk.2.1
  have hp0 : ¬ ((p : Int) < 0) := by omega
  have hp2 : p < rs.length := by omega
  have w4 : IntKind.i64.wrap 4 = 4 := by decide
  have ew1 : IntKind.i64.wrap ((p : Int) + 1) = ((p + 1 : Nat) : Int) := wrap_succ (by omega)
  refine vproc_start Try.func41 (by kernel_rfl) rfl (by simp [Try.ntmps41]) ?_; simp only [Try.ntmps41, Try.results41]; simp [go_sem]
  refine vcall_pure cr ?_ ?_
  · simp [go_sem]
    exact ⟨argSl_refl (by omega) cl, argSl_refl (by omega) clt, argSl_refl (by omega) cli⟩
  · simp [go_sem, hp0]
    refine vc_drawn [12] (.q 0 <| .q 1 <| .q 2 <| .q 3 <| .q 4 <| .q 5 <| .q 6 <| .q 7 <| .q 8 <| .q 9 <| .q 10 <| .or 11 (.or 12 (.done) (.nil)) (.nil)) (by kernel_rfl) ?_
    simp [go_sem, tokCells_at, intCells_at, hp, hp2, hr, w4, nodRow]
    refine vcall_share [0] ih (by simp) ?_ ?_ trivial ?_
    · simp [go_sem]
      exact ⟨cl, clt, cli⟩
    · simp [go_sem, nodRow]
      exact fun i _ => cellsRn_lits (nodLit _ i)
    · rintro av mem maps ⟨rfl, rfl, rfl⟩
      have hg := lay_grows e out
      have ew : IntKind.i64.wrap (((lay e out).length : Int) - 1) = ((lay e out).length : Int) - 1 := wrap_i64 (by omega)
      simp [go_sem, nodRow, ew, ew1]
      refine ⟨by omega, ?_⟩
      refine vcall_share [3] ih2 (by simp) ?_ ?_ trivial ?_
      · simp [go_sem]
        exact ⟨cl, clt, cli⟩
      · simp [go_sem, nodRow]
        exact fun i _ => cellsRn_lits (nodLit _ i)
      · rintro av mem maps ⟨rfl, rfl, rfl⟩
        have hg2 := lay_grows e' (lay e out)
        have ew' : IntKind.i64.wrap (((lay e' (lay e out)).length : Int) - 1) = ((lay e' (lay e out)).length : Int) - 1 := wrap_i64 (by omega)
        simp [go_sem, nodRow, ew']
        have ew0 : IntKind.i64.wrap ((lay e' (lay e out)).length : Int) = (lay e' (lay e out)).length := wrap_i64 (by omega)
        obtain ⟨nd, hnd⟩ : ∃ nd, nd = (⟨o.text, 4, ((lay e out).length : Int) - 1, ((lay e' (lay e out)).length : Int) - 1⟩ : PNode) := ⟨_, rfl⟩
        obtain ⟨T2, hT2⟩ : ∃ T2, T2 = lay e' (lay e out) ++ [nd] := ⟨_, rfl⟩
        have hl2 : T2.length = (lay e' (lay e out)).length + 1 := by rw [hT2]; simp
        have hn : nodAt T2 (lay e' (lay e out)).length = nd := by rw [hT2]; exact nodAt_new
        have hf : fitsN l T2 (lay e' (lay e out)).length = decide ((lvO o).h1 ≤ e.level lvO ∧ (lvO o).h2 ≤ e'.level lvO) := by rw [hT2, hnd]; exact fits_inf hu hj hok hk1 e e' out h1 h2 h3 q1 q2 q3
        have cf := c_l3Fits l hl hw T2 (by omega) (lay e' (lay e out)).length (by omega) (fun _ => by
          rw [hn, hnd]
          have ha : (((lay e out).length : Int) - 1).toNat = (lay e out).length - 1 := by omega
          have hb' : (((lay e' (lay e out)).length : Int) - 1).toNat = (lay e' (lay e out)).length - 1 := by omega
          simp only [ha, hb']
          rw [show nodAt T2 ((lay e out).length - 1) = nodAt (lay e out) ((lay e out).length - 1) by rw [hT2, nodAt_old (by omega)]; exact lay_old e' (lay e out) _ (by omega)]
          rw [show nodAt T2 ((lay e' (lay e out)).length - 1) = nodAt (lay e' (lay e out)) ((lay e' (lay e out)).length - 1) by rw [hT2]; exact nodAt_old (by omega)]
          refine ⟨by have := (op_unique hu (z := o.text) rfl hj).1; rw [hk1] at this; exact this, by omega, has_last hu e out h1 h2 h3, fun hh => ⟨by omega, has_last hu e' (lay e out) q1 q2 q3⟩⟩)
        rw [hf] at cf
        rw [ew0]
        rw [htx] at hnd
        refine ⟨by omega, by omega, by omega, by omega, vcall_pure cf ?_ ?_⟩
        · simp [go_sem]
          exact ⟨argSl_refl (by omega) cl, argSl_ownE (k := 6) rfl (by omega) hl2.symm (fun i hi => by rw [hT2, hnd]; exact nod_app (lay e' (lay e out)) ⟨(tokAt t p).text, 4, ((lay e out).length : Int) - 1, ((lay e' (lay e out)).length : Int) - 1⟩ i (by omega)) (fun i c _ h => nodClosed T2 i c h)⟩
        · simp [go_sem]
          by_cases hc : (lvO o).h1 ≤ e.level lvO ∧ (lvO o).h2 ≤ e'.level lvO
          · simp only [if_pos hc, hc, decide_true, if_true, and_self]
            refine ⟨rfl, [6], [none, nodRow (lay (.inf o e e') out)], by simp, by simp [go_sem], by simp [go_sem], ?_, by simp [go_sem], ?_⟩
            · simp [go_sem, nodRow]
              refine outAt_app (o := ⟨(tokAt t p).text, 4, ((lay e out).length : Int) - 1, ((lay e' (lay e out)).length : Int) - 1⟩) (by rw [← htx]; simp [lay, hk1]) fun j hj => ?_
              exact nod_app (lay e' (lay e out)) ⟨(tokAt t p).text, 4, ((lay e out).length : Int) - 1, ((lay e' (lay e out)).length : Int) - 1⟩ j hj
            · simp [go_sem, BuildR, nodRow]
          · have hdc : decide ((lvO o).h1 ≤ e.level lvO ∧ (lvO o).h2 ≤ e'.level lvO) = false := decide_eq_false hc
            simp only [if_neg hc]
            refine ⟨rfl, [6], [none, nodRow T2], by simp, by simp [go_sem], by simp [go_sem], ?_, by simp [go_sem], ?_⟩
            · simp [go_sem, nodRow]
              refine outAt_app (o := ⟨(tokAt t p).text, 4, ((lay e out).length : Int) - 1, ((lay e' (lay e out)).length : Int) - 1⟩) (by rw [← hnd]; exact hT2) fun j hj => ?_
              exact nod_app (lay e' (lay e out)) ⟨(tokAt t p).text, 4, ((lay e out).length : Int) - 1, ((lay e' (lay e out)).length : Int) - 1⟩ j hj
            · simp [go_sem]
              exact ⟨T2, by omega, .inl ⟨by simpa using hc, rfl, rfl⟩⟩
end Go.Proofs.Ytcnmgfbafcnkhaa.V
/- Stretches of tokens and the trees that yield them. Plain Lean. -/
namespace Go.Proofs.Ytcnmgfbafcnkhaa.V
open Go.RowKit
open Go.Proofs.Ytcnmgfbafcnkhaa.Ops (Tr Tk Lv Res Fit OF)
set_option linter.unusedVariables false
set_option linter.unusedSimpArgs false
theorem seg_append {l : List POp} {t : List PTok} {rs : List Int} : ∀ {u w : List TkP} {i : Nat}, SegIs l t rs i (u ++ w) ↔ SegIs l t rs i u ∧ SegIs l t rs (i + u.length) w
  | [], w, i => by simp [SegIs]
  | x :: u, w, i => by
    simp only [List.cons_append, SegIs, List.length_cons, seg_append (u := u), and_assoc]
    rw [show i + (u.length + 1) = i + 1 + u.length by omega]
theorem seg_ok {l : List POp} {t : List PTok} {rs : List Int} : ∀ (e : PT) (i : Nat), SegIs l t rs i e.yield → LeavesOk e ∧ e.All lvO (InL l) ∧ KindsOk e
  | .leaf b, i, h => by
    simp only [Tr.yield, SegIs, TokIs] at h
    refine ⟨?_, trivial, trivial⟩
    have := h.1
    simp only [LeavesOk]
    rw [this.2]; exact this.1
  | .grp e, i, h => by
    simp only [Tr.yield, SegIs] at h
    exact seg_ok e _ (seg_append.1 h.2.2).1
  | .pre o e, i, h => by
    simp only [Tr.yield, SegIs, TokIs] at h
    obtain ⟨⟨_, _, hk, hj⟩, _, h2⟩ := h
    obtain ⟨g0, g1, g2⟩ := seg_ok e _ h2
    exact ⟨g0, ⟨hj, by simp [lvO, sortN, hk], g1⟩, hk, g2⟩
  | .post o e, i, h => by
    simp only [Tr.yield] at h
    obtain ⟨h1, h3⟩ := seg_append.1 h
    obtain ⟨g0, g1, g2⟩ := seg_ok e _ h1
    simp only [SegIs, TokIs] at h3
    obtain ⟨⟨_, _, hk, hj⟩, _⟩ := h3
    exact ⟨g0, ⟨hj, by simp [lvO, sortN, hk], g1⟩, hk, g2⟩
  | .inf o x y, i, h => by
    simp only [Tr.yield] at h
    obtain ⟨h1, h3⟩ := seg_append.1 h
    obtain ⟨g0, g1, g2⟩ := seg_ok x _ h1
    simp only [SegIs, TokIs] at h3
    obtain ⟨⟨_, _, hk, hj⟩, _, h4⟩ := h3
    obtain ⟨q0, q1, q2⟩ := seg_ok y _ h4
    exact ⟨⟨g0, q0⟩, ⟨hj, g1, q1⟩, hk, g2, q2⟩
theorem lay_yield : ∀ (e : PT) (out : List PNode), (lay e out).length ≤ out.length + e.yield.length
  | .leaf _, out => by simp [lay, Tr.yield]
  | .grp e, out => by have := lay_yield e out; simp [lay, Tr.yield]; omega
  | .pre _ e, out => by have := lay_yield e out; simp [lay, Tr.yield]; omega
  | .post _ e, out => by have := lay_yield e out; simp [lay, Tr.yield]; omega
  | .inf _ x y, out => by have := lay_yield x out; have := lay_yield y (lay x out); simp [lay, Tr.yield]; omega
end Go.Proofs.Ytcnmgfbafcnkhaa.V
/- Contracts: the reference builds the theory's tree. -/
namespace Go.Proofs.Ytcnmgfbafcnkhaa.V
open Go.RowKit
open Go.Proofs.Ytcnmgfbafcnkhaa.Ops (Tr Tk Lv Res Fit OF)
set_option linter.unusedVariables false
set_option linter.unusedSimpArgs false
set_option linter.constructorNameAsVariable false
theorem buildR_mono {m m' : Nat} {out : List PNode} {r : Option PT} {av : AV} {mem : List (Option Ob)} {maps : List (Nat × Mp)} (hm : m ≤ m') (h : BuildR m out r av mem maps) : BuildR m' out r av mem maps := by
  cases r with
  | some e => exact h
  | none => obtain ⟨T, hT, h⟩ := h; exact ⟨T, by omega, h⟩
theorem c_build (l : List POp) (hl : l.length ≤ 9223372036854775807) (hu : Uniq l) (hw : opsWf l) (hok : ∀ j, j < l.length → opOk (opAt l j) = true) (t : List PTok) (ht : t.length ≤ 1048576) (rs : List Int) (hrs : rs.length = t.length) : ∀ (n : Nat) (s : List TkP) (a b : Nat) (out : List PNode), s.length ≤ n → OF s → a + s.length = b → b ≤ t.length → SegIs l t rs a s → out.length + s.length ≤ 2000000 →
    VProc Try.prog 41 [.agg [.sl 4 l.length (opCells l)], .sl 3 t.length (tokCells t), .sl 1 rs.length (intCells rs), .lit (.int .i64 a), .lit (.int .i64 b), .own 0] [nodRow out] [] (BuildR s.length out (Ops.build lvO n s)) := by
  have okL : ∀ {o}, InL l o → opOk o = true := fun ⟨j, hj, e⟩ => e ▸ hok j hj
  intro n
  induction n with
  | zero =>
    intro s a b out hn ⟨t0, h0⟩
    have := Ops.yield_pos t0
    rw [h0] at this; omega
  | succ n ih =>
    intro s a b out hn hof hab hb hs ho
    have good : ∀ {s' : List TkP} {e : PT} {a' : Nat}, SegIs l t rs a' s' → OF s' → Ops.build lvO n s' = some e → LeavesOk e ∧ e.All lvO (InL l) ∧ KindsOk e ∧ ∀ out, (lay e out).length ≤ out.length + s'.length := fun h1 h2 h3 => by
      obtain ⟨_, hy⟩ := Ops.build_sound lvO n _ _ h2 h3
      rw [← hy] at h1 ⊢
      obtain ⟨g0, g1, g2⟩ := seg_ok _ _ h1
      exact ⟨g0, g1, g2, lay_yield _⟩
    rw [Ops.build]
    unfold Ops.buildF
    cases hr : Ops.root lvO s 0 0 none with
    | none =>
      obtain ⟨t0, h0⟩ := id hof
      rw [← h0] at hr
      rcases Ops.root_none lvO t0 hr with ⟨bb, rfl⟩ | ⟨t1, rfl⟩
      · simp only [Tr.yield] at h0
        subst h0
        simp only [List.length_singleton] at hab
        subst hab
        exact c_build_leaf l hl hu t ht rs hrs a hb bb hs out (by omega)
      · simp only [Tr.yield] at h0 hr
        rw [h0] at hr
        have hlen : s.length = t1.yield.length + 2 := by rw [← h0]; simp
        have hs1 : SegIs l t rs (a + 1) t1.yield := by
          rw [← h0] at hs
          exact (seg_append.1 hs.2.2).1
        have h1 := ih t1.yield (a + 1) (b - 1) out (by omega) ⟨t1, rfl⟩ (by omega) (by omega) hs1 (by omega)
        have := c_build_grp l hl hu t ht rs hrs a b s hab hb hs t1.yield h0.symm hr out (by omega) (Ops.build lvO n t1.yield) (fun e he => by
          have := (good hs1 ⟨t1, rfl⟩ he).2.2.2 out; omega) h1
        subst h0
        simpa using this
    | some x =>
      obtain ⟨k, o⟩ := x
      rcases Ops.root_at lvO s 0 0 none k o hr with h | ⟨u, tk, w, hsu, hop, hd, hk⟩
      · cases h
      · simp only [Int.zero_add, Nat.zero_add] at hd hk
        have hsk : s[k]? = some tk := by rw [hsu, hk]; simp
        have hlen : s.length = u.length + w.length + 1 := by rw [hsu]; simp; omega
        have hseg := hs
        rw [hsu] at hseg
        obtain ⟨hsl, hsr⟩ := seg_append.1 hseg
        have hTk := hsr.1
        have hsq := hsr.2.2
        simp only [hsk]
        cases tk with
        | leaf bb => simp [Tk.op?] at hop
        | opn => simp [Tk.op?] at hop
        | cls => simp [Tk.op?] at hop
        | pre o' =>
          simp only [Tk.op?, Option.some.injEq] at hop
          subst hop
          simp only
          by_cases hk0 : k = 0
          · obtain rfl : u = [] := List.eq_nil_of_length_eq_zero (by omega)
            subst hk0
            simp only [List.nil_append] at hsu
            rw [if_neg (by simp)]
            have hdr : s.drop 1 = w := by rw [hsu]; rfl
            rw [hdr]
            have hofw : OF w := Ops.of_pre (o := o') (by rw [← hsu]; exact hof)
            have hsw : SegIs l t rs (a + 1) w := by simpa using hsq
            have h1 := ih w (a + 1) b out (by omega) hofw (by simp at hlen; omega) hb hsw (by omega)
            have hl1 : w.length = s.length - 1 := by omega
            rw [hl1] at h1
            cases he : Ops.build lvO n w with
            | none =>
              rw [he] at h1
              exact c_build_pre_none l hl hu t ht rs hrs a b s hab hb hs o' hr hsk out (by omega) h1
            | some e =>
              rw [he] at h1
              obtain ⟨g0, g1, g2, g3⟩ := good hsw hofw he
              have g3 := g3 out
              exact c_build_pre_some l hl hu t ht rs hrs a b s hab hb hs o' hr hsk hw hTk.2.2.2 (okL hTk.2.2.2) hTk.2.2.1 e g0 g1 g2 out (by omega) (by omega) (by omega) h1
          · rw [if_pos hk0]
            exact c_build_bad l hl hu t ht rs hrs a b s hab hb hs k o' hr _ hsk (.inl ⟨rfl, hk0⟩) out (by omega)
        | post o' =>
          simp only [Tk.op?, Option.some.injEq] at hop
          subst hop
          simp only
          by_cases hk0 : k + 1 = s.length
          · obtain rfl : w = [] := List.eq_nil_of_length_eq_zero (by omega)
            rw [if_neg (by omega)]
            have hdr : s.take k = u := by rw [hsu, hk]; simp
            rw [hdr]
            have hofw : OF u := Ops.of_post (o := o') (by rw [← hsu]; exact hof)
            have h1 := ih u a (a + k) out (by omega) hofw (by omega) (by omega) hsl (by omega)
            rw [← hk] at h1
            cases he : Ops.build lvO n u with
            | none =>
              rw [he] at h1
              exact c_build_left_none l hl hu t ht rs hrs a b s hab hb hs k o' hr _ hsk (.inr ⟨rfl, hk0⟩) out (by omega) h1
            | some e =>
              rw [he] at h1
              obtain ⟨g0, g1, g2, g3⟩ := good hsl hofw he
              have g3 := g3 out
              exact c_build_post_some l hl hu t ht rs hrs a b s hab hb hs k o' hr hsk hk0 hw hTk.2.2.2 (okL hTk.2.2.2) hTk.2.2.1 e g0 g1 g2 out (by omega) (by omega) (by omega) h1
          · rw [if_pos hk0]
            exact c_build_bad l hl hu t ht rs hrs a b s hab hb hs k o' hr _ hsk (.inr ⟨rfl, hk0⟩) out (by omega)
        | inf o' =>
          simp only [Tk.op?, Option.some.injEq] at hop
          subst hop
          simp only
          have hdr : s.take k = u := by rw [hsu, hk]; simp
          have hdr2 : s.drop (k + 1) = w := by rw [hsu, hk]; simp
          rw [hdr, hdr2]
          obtain ⟨hofu, hofw⟩ := Ops.of_inf (o := o') (by rw [← hsu]; exact hof) hd
          have h1 := ih u a (a + k) out (by omega) hofu (by omega) (by omega) hsl (by omega)
          rw [← hk] at h1
          cases he : Ops.build lvO n u with
          | none =>
            rw [he] at h1
            exact c_build_left_none l hl hu t ht rs hrs a b s hab hb hs k o' hr _ hsk (.inl rfl) out (by omega) h1
          | some e =>
            rw [he] at h1
            obtain ⟨g0, g1, g2, g3⟩ := good hsl hofu he
            have g3 := g3 out
            have hsw : SegIs l t rs (a + k + 1) w := by rw [hk]; exact hsq
            have h2 := ih w (a + k + 1) b (lay e out) (by omega) hofw (by omega) hb hsw (by omega)
            have hl1 : w.length = s.length - k - 1 := by omega
            rw [hl1] at h2
            simp only
            cases he2 : Ops.build lvO n w with
            | none =>
              rw [he2] at h2
              exact c_build_inf_none l hl hu t ht rs hrs a b s hab hb hs k o' hr hsk hw hTk.2.2.2 e out (by omega) (by omega) (by omega) h1 h2
            | some e2 =>
              rw [he2] at h2
              obtain ⟨q0, q1, q2, q3⟩ := good hsw hofw he2
              have q3 := q3 (lay e out)
              exact c_build_inf_some l hl hu t ht rs hrs a b s hab hb hs k o' hr hsk hw hTk.2.2.2 (okL hTk.2.2.2) hTk.2.2.1 e e2 g0 g1 g2 q0 q1 q2 out (by omega) (by omega) (by omega) (by omega) (by omega) h1 h2
end Go.Proofs.Ytcnmgfbafcnkhaa.V
/- The heights of the nodes of a tree. Plain Lean. -/
namespace Go.Proofs.Ytcnmgfbafcnkhaa.V
open Go.RowKit
open Go.Proofs.Ytcnmgfbafcnkhaa.Ops (Tr Tk Lv Res Fit OF)
set_option linter.unusedVariables false
set_option linter.unusedSimpArgs false
/-- the height below node i -/
def below (T : List PNode) (H : List Int) (i : Nat) : Int :=
  if kidsN (nodAt T i).kind = 0 then 0 else if kidsN (nodAt T i).kind = 1 then intAt H (nodAt T i).a.toNat else max (intAt H (nodAt T i).a.toNat) (intAt H (nodAt T i).b.toNat)
structure HStep (T : List PNode) (H : List Int) (i : Nat) : Prop where
  a : kidsN (nodAt T i).kind ≠ 0 → 0 ≤ (nodAt T i).a ∧ (nodAt T i).a < i
  b : kidsN (nodAt T i).kind = 2 → 0 ≤ (nodAt T i).b ∧ (nodAt T i).b < i
  h : intAt H i = below T H i + 1
  lo : 1 ≤ intAt H i ∧ intAt H i ≤ i + 1
def HOk (T : List PNode) (H : List Int) : Prop := H.length = T.length ∧ ∀ i, i < T.length → HStep T H i
theorem intAt_old {H : List Int} {h : Int} {i : Nat} (hi : i < H.length) : intAt (H ++ [h]) i = intAt H i := by
  simp [intAt, List.getD_eq_getElem?_getD, List.getElem?_append_left hi]
theorem intAt_new {H : List Int} {h : Int} {i : Nat} (hi : i = H.length) : intAt (H ++ [h]) i = h := by
  subst hi; simp [intAt, List.getD_eq_getElem?_getD]
theorem one0 : ((1 : Int) = 0) = False := by simp
theorem two0 : ((2 : Int) = 0) = False := by simp
theorem two1 : ((2 : Int) = 1) = False := by simp
theorem kids_012 (k : Int) : kidsN k = 0 ∨ kidsN k = 1 ∨ kidsN k = 2 := kidsN_cases k
theorem below_old {T : List PNode} {H : List Int} {n : PNode} {h : Int} {i : Nat} (hl : H.length = T.length) (hi : i < T.length) (s : HStep T H i) : below (T ++ [n]) (H ++ [h]) i = below T H i := by
  unfold below
  rw [nodAt_old hi]
  rcases kids_012 (nodAt T i).kind with e | e | e
  · rw [if_pos e, if_pos e]
  · have := s.a (by omega)
    simp only [e, one0, if_false, if_true]
    rw [intAt_old (by omega)]
  · have := s.a (by omega)
    have := s.b e
    simp only [e, two0, two1, if_false]
    rw [intAt_old (by omega), intAt_old (by omega)]
theorem hOk_app {T : List PNode} {H : List Int} {n : PNode} {h : Int} (ok : HOk T H) (ha : kidsN n.kind ≠ 0 → 0 ≤ n.a ∧ n.a < T.length) (hb : kidsN n.kind = 2 → 0 ≤ n.b ∧ n.b < T.length)
    (hh : h = (if kidsN n.kind = 0 then 0 else if kidsN n.kind = 1 then intAt H n.a.toNat else max (intAt H n.a.toNat) (intAt H n.b.toNat)) + 1) : HOk (T ++ [n]) (H ++ [h]) := by
  obtain ⟨hl, hs⟩ := ok
  refine ⟨by simp [hl], fun i hi => ?_⟩
  simp only [List.length_append, List.length_singleton] at hi
  by_cases e : i < T.length
  · have s := hs i e
    refine ⟨?_, ?_, ?_, ?_⟩
    · rw [nodAt_old e]; exact s.a
    · rw [nodAt_old e]; exact s.b
    · rw [below_old hl e s, intAt_old (by omega)]; exact s.h
    · rw [intAt_old (by omega)]; exact s.lo
  · obtain rfl : i = T.length := by omega
    have hn : nodAt (T ++ [n]) T.length = n := nodAt_new
    have hb' : below (T ++ [n]) (H ++ [h]) T.length + 1 = h := by
      unfold below
      rw [hn, hh]
      rcases kids_012 n.kind with e | e | e
      · rw [if_pos e, if_pos e]
      · have := ha (by omega)
        simp only [e, one0, if_false, if_true]
        rw [intAt_old (by omega)]
      · have := ha (by omega)
        have := hb e
        simp only [e, two0, two1, if_false]
        rw [intAt_old (by omega), intAt_old (by omega)]
    refine ⟨?_, ?_, ?_, ?_⟩
    · rw [hn]; exact ha
    · rw [hn]; exact hb
    · rw [hb', intAt_new hl.symm]
    · rw [intAt_new hl.symm, hh]
      rcases kids_012 n.kind with e | e | e
      · rw [if_pos e]; omega
      · have := ha (by omega)
        have := (hs n.a.toNat (by omega)).lo
        rw [if_neg (by omega), if_pos e]; omega
      · have := ha (by omega)
        have := hb e
        have := (hs n.a.toNat (by omega)).lo
        have := (hs n.b.toNat (by omega)).lo
        rw [if_neg (by omega), if_neg (by omega)]; omega
/-- the heights of a tree's nodes, behind those that are there -/
def his : PT → List Int → List Int
  | .leaf _, hs => hs ++ [1]
  | .grp e, hs => his e hs ++ [1 + highT e]
  | .pre _ e, hs => his e hs ++ [1 + highT e]
  | .post _ e, hs => his e hs ++ [1 + highT e]
  | .inf _ x y, hs => his y (his x hs) ++ [1 + max (highT x) (highT y)]
theorem his_last (e : PT) (hs : List Int) : intAt (his e hs) ((his e hs).length - 1) = highT e := by
  cases e <;> simp only [his, highT] <;> rw [intAt_new (by simp)]
theorem his_pos (e : PT) (hs : List Int) : hs.length < (his e hs).length := by
  induction e generalizing hs with
  | leaf _ => simp [his]
  | grp e ih => have := ih hs; simp [his]; omega
  | pre _ e ih => have := ih hs; simp [his]; omega
  | post _ e ih => have := ih hs; simp [his]; omega
  | inf _ x y ihx ihy => have := ihx hs; have := ihy (his x hs); simp [his]; omega
theorem his_old (e : PT) : ∀ (hs : List Int) (i : Nat), i < hs.length → intAt (his e hs) i = intAt hs i := by
  induction e with
  | leaf _ => intro hs i h; simp only [his]; exact intAt_old h
  | grp e ih => intro hs i h; have := his_pos e hs; simp only [his]; rw [intAt_old (by omega), ih hs i h]
  | pre _ e ih => intro hs i h; have := his_pos e hs; simp only [his]; rw [intAt_old (by omega), ih hs i h]
  | post _ e ih => intro hs i h; have := his_pos e hs; simp only [his]; rw [intAt_old (by omega), ih hs i h]
  | inf _ x y ihx ihy => intro hs i h; have := his_pos x hs; have := his_pos y (his x hs); simp only [his]; rw [intAt_old (by omega), ihy _ i (by omega), ihx hs i h]
theorem hOk_lay : ∀ (e : PT) (out : List PNode) (hs : List Int), LeavesOk e → KindsOk e → HOk out hs → HOk (lay e out) (his e hs)
  | .leaf b, out, hs, h1, h2, ok => by
    have k0 : kidsN b.1 = 0 := by have h : b.1 = 1 ∨ b.1 = 2 := h1; rcases h with e | e <;> simp [kidsN, e]
    simp only [lay, his]
    exact hOk_app ok (fun h => absurd k0 h) (fun h => by simp only at h; omega) (by simp [k0])
  | .grp e, out, hs, h1, h2, ok => by
    have := hOk_lay e out hs h1 h2 ok
    have hl := this.1
    have hp := his_pos e hs
    have hlast := his_last e hs
    have k1 : kidsN 6 = 1 := rfl
    simp only [lay, his]
    refine hOk_app this (fun _ => by simp only; omega) (fun h => by simp only at h; omega) ?_
    simp only [k1, one0, if_false, if_true]
    rw [show (((lay e out).length : Int) - 1).toNat = (his e hs).length - 1 by omega, hlast]
    omega
  | .pre o e, out, hs, h1, h2, ok => by
    have := hOk_lay e out hs h1 h2.2 ok
    have hl := this.1
    have hp := his_pos e hs
    have hlast := his_last e hs
    have k1 : kidsN (o.kind + 2) = 1 := by rw [h2.1]; rfl
    simp only [lay, his]
    refine hOk_app this (fun _ => by simp only; omega) (fun h => by simp only at h; omega) ?_
    simp only [k1, one0, if_false, if_true]
    rw [show (((lay e out).length : Int) - 1).toNat = (his e hs).length - 1 by omega, hlast]
    omega
  | .post o e, out, hs, h1, h2, ok => by
    have := hOk_lay e out hs h1 h2.2 ok
    have hl := this.1
    have hp := his_pos e hs
    have hlast := his_last e hs
    have k1 : kidsN (o.kind + 2) = 1 := by rw [h2.1]; rfl
    simp only [lay, his]
    refine hOk_app this (fun _ => by simp only; omega) (fun h => by simp only at h; omega) ?_
    simp only [k1, one0, if_false, if_true]
    rw [show (((lay e out).length : Int) - 1).toNat = (his e hs).length - 1 by omega, hlast]
    omega
  | .inf o x y, out, hs, h1, h2, ok => by
    have okx := hOk_lay x out hs h1.1 h2.2.1 ok
    have := hOk_lay y _ _ h1.2 h2.2.2 okx
    have hl := this.1
    have hlx := okx.1
    have hp := his_pos y (his x hs)
    have hpx := his_pos x hs
    have hlast := his_last y (his x hs)
    have hlastx := his_last x hs
    have k2 : kidsN (o.kind + 2) = 2 := by rw [h2.1]; rfl
    simp only [lay, his]
    refine hOk_app this (fun _ => by simp only; omega) (fun h => by simp only; omega) ?_
    simp only [k2, two0, two1, if_false]
    rw [show (((lay y (lay x out)).length : Int) - 1).toNat = (his y (his x hs)).length - 1 by omega, hlast, show (((lay x out).length : Int) - 1).toNat = (his x hs).length - 1 by omega, his_old y _ _ (by omega), hlastx]
    omega
end Go.Proofs.Ytcnmgfbafcnkhaa.V
/- Contracts: the height of a tree, the offset of a token, by the reference. -/
namespace Go.Proofs.Ytcnmgfbafcnkhaa.V
open Go.RowKit
set_option linter.unusedVariables false
set_option linter.unusedSimpArgs false
set_option linter.constructorNameAsVariable false
theorem take_succI {H : List Int} {i : Nat} (h : i < H.length) : H.take (i + 1) = H.take i ++ [intAt H i] := by
  rw [List.take_add_one]
  simp [intAt, List.getD_eq_getElem?_getD, h]
theorem intAt_take {H : List Int} {i j : Nat} (h : j < i) : intAt (H.take i) j = intAt H j := by
  simp [intAt, List.getD_eq_getElem?_getD, h]
set_option maxRecDepth 100000 in
theorem c_l3Height (T : List PNode) (H : List Int) (hT : 0 < T.length ∧ T.length ≤ 3000000) (ok : HOk T H) : VFun Try.prog 42 [.agg [.sl 4 T.length (nodCells T)]] (fun av obs => obs = [] ∧ av = .lit (.int .i64 (intAt H (T.length - 1)))) := by
  have clt : ∀ (i : Nat) (c : AV), i < T.length → c ∈ nodCells T i → Closed c := fun i c _ h => nodClosed T i c h
  obtain ⟨hl, hs⟩ := ok
  refine vfun_start Try.func42 (by kernel_rfl) rfl (by simp [Try.ntmps42]) ?_; simp only [Try.ntmps42, Try.results42]; simp [go_sem]
  refine vc_loopE (fun i : Nat => i ≤ T.length) (fun i => T.length - i) (fun i => .of [(1, .ptr 0 1 0 0), (3, .own 1), (4, .lit (.int .i64 i))] [some ⟨42, 1, 1, fun _ => [.sl 4 T.length (nodCells T)]⟩, some ⟨3, 1, i, intCells (H.take i)⟩]) ⟨0, by omega, ?_⟩ (fun i hi => ?_)
  · refine ent_ks [0, 1] (by simp) (by simp) (by simp) (by simp) trivial ?_ ?_
    · simp [go_sem]
    · simp [go_sem]
      exact clt
  · have hlen : (H.take i).length = i := by simp; omega
    simp [go_sem, nodCells_at]
    refine ⟨by omega, fun h => ⟨h, vcall_pure (c_l3Kids (nodAt T i).kind) ?_ ?_⟩, fun h => ?_⟩
    · simp [go_sem]
    · obtain ⟨sa, sb, sh, slo⟩ := hs i h
      have next : ∀ (mm : Int) (f : Nat → List AV), mm = below T H i → (f 0 = [.lit (.int .i64 (IntKind.i64.wrap (mm + 1)))]) → ∀ j, j < i + 1 → joinF i (intCells (H.take i)) f j = intCells (H.take (i + 1)) j := fun mm f h1 h2 j hj => by
        rw [take_succI (by omega), ← int_app1 (H.take i) (intAt H i) j (by omega), hlen]
        unfold joinF
        split
        · rfl
        · have : j - i = 0 := by omega
          rw [this, h2, h1, sh]
          rw [wrap_i64 (by omega)]
          rfl
      rcases kids_012 (nodAt T i).kind with e | e | e
      · simp [go_sem, e]
        refine vcall_pure (c_l3Kids (nodAt T i).kind) ?_ ?_
        · simp [go_sem]
        · simp [go_sem, e]
          refine ⟨by omega, by omega, i + 1, by omega, by omega, ?_⟩
          · refine ent_ks [0, 4] (by simp) (by simp) (by simp) (by simp) trivial ?_ ?_
            · simp [go_sem]
              exact wrap_succ (by omega)
            · simp [go_sem]
              exact ⟨clt, .inl fun j hj => ⟨next 0 _ (by simp [below, e]) rfl j hj, intClosed _ _⟩⟩
      · have ha := sa (by omega)
        have ia : intAt (H.take i) (nodAt T i).a.toNat = intAt H (nodAt T i).a.toNat := intAt_take (by omega)
        simp [go_sem, e, intCells_at]
        refine ⟨ha.1, ha.2, by omega, vcall_pure (c_l3Kids (nodAt T i).kind) ?_ ?_⟩
        · simp [go_sem]
        · simp [go_sem, e]
          refine ⟨by omega, by omega, i + 1, by omega, by omega, ?_⟩
          · refine ent_ks [0, 4] (by simp) (by simp) (by simp) (by simp) trivial ?_ ?_
            · simp [go_sem]
              exact wrap_succ (by omega)
            · simp [go_sem]
              exact ⟨clt, .inl fun j hj => ⟨next _ _ (by simp [below, e, ia]) rfl j hj, intClosed _ _⟩⟩
      · have ha := sa (by omega)
        have hb := sb e
        have ia : intAt (H.take i) (nodAt T i).a.toNat = intAt H (nodAt T i).a.toNat := intAt_take (by omega)
        have ib : intAt (H.take i) (nodAt T i).b.toNat = intAt H (nodAt T i).b.toNat := intAt_take (by omega)
        simp [go_sem, e, intCells_at]
        refine ⟨ha.1, ha.2, by omega, vcall_pure (c_l3Kids (nodAt T i).kind) ?_ ?_⟩
        · simp [go_sem]
        · simp [go_sem, e, intCells_at]
          refine ⟨hb.1, hb.2, by omega, fun hc => ⟨hb.1, hb.2, by omega, by omega, by omega, i + 1, by omega, by omega, ?_⟩, fun hc => ⟨by omega, by omega, i + 1, by omega, by omega, ?_⟩⟩
          · refine ent_ks [0, 4] (by simp) (by simp) (by simp) (by simp) trivial ?_ ?_
            · simp [go_sem]
              exact wrap_succ (by omega)
            · simp [go_sem]
              exact ⟨clt, .inl fun j hj => ⟨next _ _ (by rw [ia, ib] at hc; simp [below, e, ib]; omega) rfl j hj, intClosed _ _⟩⟩
          · refine ent_ks [0, 4] (by simp) (by simp) (by simp) (by simp) trivial ?_ ?_
            · simp [go_sem]
              exact wrap_succ (by omega)
            · simp [go_sem]
              exact ⟨clt, .inl fun j hj => ⟨next _ _ (by rw [ia, ib] at hc; simp [below, e, ia]; omega) rfl j hj, intClosed _ _⟩⟩
    · obtain rfl : i = T.length := by omega
      have w : IntKind.i64.wrap ((T.length : Int) - 1) = ((T.length - 1 : Nat) : Int) := by rw [wrap_i64 (by omega)]; omega
      rw [w]
      simp only [Int.toNat_natCast]
      simp [go_sem, intCells_at, intAt_take (H := H) (i := T.length) (j := T.length - 1) (by omega)]
      omega
end Go.Proofs.Ytcnmgfbafcnkhaa.V
/- Plain law: the tokens of a text, rendered, are the text. -/
namespace Go.Proofs.Ytcnmgfbafcnkhaa.V
open Go.RowKit
set_option linter.unusedVariables false
set_option linter.unusedSimpArgs false
set_option linter.constructorNameAsVariable false
theorem ext_app (z : ByteArray) {f i k : Nat} (h1 : f ≤ i) (h2 : i ≤ k) : z.extract f i ++ z.extract i k = z.extract f k := by
  apply ByteArray.ext
  simp only [ByteArray.data_append, ByteArray.data_extract]
  rw [Array.extract_append_extract]
  congr 1 <;> omega
theorem rend_cons (o : PTok) (l : List PTok) : rend (o :: l) = o.gap ++ o.text ++ rend l := by
  have gen : ∀ (l : List PTok) (b : ByteArray), l.foldl (fun b o => b ++ o.gap ++ o.text) b = b ++ l.foldl (fun b o => b ++ o.gap ++ o.text) ByteArray.empty := by
    intro l
    induction l with
    | nil => intro b; simp
    | cons o l ih =>
      intro b
      simp only [List.foldl_cons]
      rw [ih (b ++ o.gap ++ o.text), ih (ByteArray.empty ++ o.gap ++ o.text)]
      simp [ByteArray.append_assoc]
  unfold rend
  simp only [List.foldl_cons]
  rw [gen]
  simp
theorem rend_lexFrom (l : List POp) (z : ByteArray) (f : Nat) (hf : f ≤ z.size) : rend (lexFrom l z f) = z.extract f z.size := by
  generalize hn : z.size - f = n
  induction n using Nat.strongRecOn generalizing f with
  | ind n ih =>
    have hr := run_le isBl z f hf
    by_cases h : f + run isBl z f < z.size
    · rw [lexFrom_go rfl h, rend_cons]
      have hg := longest_ge l z (f + run isBl z f)
      have hl := longest_le l z (f + run isBl z f) h
      obtain ⟨i, hi⟩ : ∃ i, i = f + run isBl z f := ⟨_, rfl⟩
      rw [← hi] at hg hl h hr ⊢
      have hfi : f ≤ i := by omega
      obtain ⟨j, hj⟩ : ∃ j, j = i + longest l z i := ⟨_, rfl⟩
      rw [← hj] at hl ⊢
      simp only
      rw [ih (z.size - j) (by omega) j hl rfl, ext_app z hfi (by omega), ext_app z (by omega) hl]
    · have e : f + run isBl z f = z.size := by omega
      rw [lexFrom_end rfl h, rend_cons, e]
      simp only [rend, List.foldl_nil]
      rw [show (⟨#[]⟩ : ByteArray) = ByteArray.empty from rfl, ByteArray.append_empty, ByteArray.append_empty]
theorem rend_lexZ {l : List POp} {z : ByteArray} (h : lexOk l z = true) : rend (lexZ l z) = z := by
  rw [lexZ, if_pos h, rend_lexFrom l z 0 (by omega)]
  exact ByteArray.extract_zero_size
theorem ext_size_leZ (z : ByteArray) (a b : Nat) : (z.extract a b).size ≤ z.size := by
  rw [ByteArray.size_extract]; omega
theorem lexZ_texts {l : List POp} {z : ByteArray} (hz : z.size ≤ 200000) : (lexZ l z).length ≤ 200001 ∧ tokSum (lexZ l z) ≤ 200000 := by
  unfold lexZ
  split
  · rename_i h
    have h1 := lexFrom_len l z 0 (by omega)
    have h2 := rend_lexFrom l z 0 (by omega)
    have h3 := rend_size (lexFrom l z 0)
    rw [h2] at h3
    have h4 := ext_size_leZ z 0 z.size
    exact ⟨by omega, by omega⟩
  · exact ⟨by simp, by simp [tokSum]⟩
theorem tok_le {l : List PTok} {i : Nat} (hi : i < l.length) : tokSize (tokAt l i) ≤ tokSum l := by
  induction l generalizing i with
  | nil => simp at hi
  | cons o l ih =>
    unfold tokSum at *
    cases i with
    | zero => simp [tokAt]
    | succ i =>
      have := ih (i := i) (by simpa using hi)
      simp only [List.map_cons, List.sum_cons]
      have e : tokAt (o :: l) (i + 1) = tokAt l i := by simp [tokAt]
      rw [e]
      omega
end Go.Proofs.Ytcnmgfbafcnkhaa.V
/- Contracts: the offset of a token, by the reference. -/
namespace Go.Proofs.Ytcnmgfbafcnkhaa.V
open Go.RowKit
set_option linter.unusedVariables false
set_option linter.unusedSimpArgs false
set_option linter.constructorNameAsVariable false
/-- where token i begins, its gap not counted -/
def offZ (t : List PTok) (i : Nat) : Int := (tokSum (t.take i) + (tokAt t i).gap.size : Nat)
theorem argSl_eq {mem : List (Option Ob)} {sz n : Nat} {f f' : Nat → List AV} (hsz : 0 < sz) (h : ∀ i, i < n → f i = f' i ∧ ∀ c, c ∈ f' i → Closed c) : ArgSl mem (.sl sz n f) sz n f' :=
  ⟨hsz, f, by simp [contents], h⟩
theorem tokAt_take {t : List PTok} {i j : Nat} (h : j < i) : tokAt (t.take i) j = tokAt t j := by
  simp [tokAt, List.getD_eq_getElem?_getD, h]
theorem c_l3Offset (t : List PTok) (ht : t.length + tokSum t ≤ 1048576) (i : Nat) (hi : i < t.length) : VFun Try.prog 40 [.sl 3 t.length (tokCells t), .lit (.int .i64 i)] (fun av obs => obs = [] ∧ av = .lit (.int .i64 (offZ t i))) := by
  have clt : ∀ (i : Nat) (c : AV), i < t.length → c ∈ tokCells t i → Closed c := fun i c _ h => tokClosed t i c h
  have hle := tokSum_take_le t i
  have hsz := rend_size (t.take i)
  have htl : (t.take i).length = i := by simp; omega
  have hg := tok_le hi
  have cr := c_specRender (t.take i) (by omega)
  rw [htl] at cr
  unfold tokSize at hg
  refine vfun_start Try.func40 (by kernel_rfl) rfl (by simp [Try.ntmps40]) ?_; simp only [Try.ntmps40, Try.results40]; simp [go_sem]
  refine vc_drawn [] (.q 0 <| .q 1 <| .q 2 <| .q 5 <| .q 6 <| .q 7 <| .q 8 <| .q 9 <| .q 10 <| .or 3 (.q 4 <| .q 11 <| .q 12 <| .done) (.nil)) (by kernel_rfl) ?_
  simp [go_sem, tokCells_at]
  refine ⟨by omega, hi, vcallV_pure cr ?_ ?_⟩
  · simp [go_sem]
    exact argSl_eq (by omega) fun j hj => ⟨by rw [tokCells_at, tokAt_take hj], fun c hc => tokClosed _ _ c hc⟩
  · simp [go_sem, hsz]
    rw [wrap_i64 (by omega)]
    simp [offZ]
end Go.Proofs.Ytcnmgfbafcnkhaa.V
/- Nil slices taken for own rows of none: in an answer, in an argument. -/
namespace Go.Proofs.Ytcnmgfbafcnkhaa.V
open Go.RowKit
set_option linter.unusedVariables false
set_option linter.unusedSimpArgs false
set_option linter.constructorNameAsVariable false
/-- a nil slice in the first of several results, a struct of it alone: an own row of none -/
theorem VFun.adoptA {P : Program} {f : FuncId} {args : List AV} {R R' : AV → List Ob → Prop} (h : VFun P f args R) (ty sz : Nat) (hsz : 0 < sz) (g : Nat → List AV)
    (hr : ∀ av obs, R av obs → R' av obs ∨ ∃ xs : List Value, av = .tup (.agg [.lit (.slice none 0 0)] :: xs.map .lit) ∧ obs = [] ∧ R' (.tup (.agg [.own 0] :: xs.map .lit)) [⟨ty, sz, 0, g⟩]) : VFun P f args R' := by
  refine ⟨h.1, fun w vs hl hv => (h.2 w vs hl hv).mono fun e w' ⟨v, e1, gr, hd, av, obs, r, fl, hlit, hm, hrep⟩ => ?_⟩
  rcases hr av obs r with r' | ⟨xs, rfl, rfl, r'⟩
  · exact ⟨v, e1, gr, hd, av, obs, r', fl, hlit, hm, hrep⟩
  · refine ⟨v, e1, gr, fun _ => .slice none 0 0, _, _, r', ?_, fun ob ho i hi => ?_, ⟨fun k ob hk b hb => ?_, fun k ob hk => ?_, fun k hk => ⟨none, 0, 0, rfl⟩, fun k k' o o' hk hk' hne => .inl rfl⟩, ?_⟩
    · simp [flatV, flat2, flat1]
    · simp only [List.mem_singleton] at ho
      subst ho
      simp at hi
    · simp [Value.ownBlock] at hb
    · cases k with
      | zero =>
        simp only [List.map_cons, List.map_nil, List.getElem?_cons_zero, Option.some.injEq] at hk
        subst hk
        exact ⟨hsz, [], ⟨by simp, .inl ⟨rfl, rfl⟩⟩, fun i hi => by simp at hi⟩
      | succ k => simp at hk
    · cases hrep with
      | tup _ us hl2 hr2 =>
        match us, hl2 with
        | u1 :: us, hl2 =>
          have q1 := hr2 0 _ u1 rfl rfl
          cases q1 with
          | agg _ ws hl3 hr3 =>
            match ws, hl3 with
            | [x], _ =>
              have q2 := hr3 0 _ x rfl rfl
              cases q2
              refine .tup _ (.agg #[.slice none 0 0] :: us) (by simpa using hl2) fun j a u ha hu => ?_
              cases j with
              | zero =>
                simp only [List.getElem?_cons_zero, Option.some.injEq] at ha hu
                subst ha; subst hu
                refine .agg _ [.slice none 0 0] rfl fun j a u ha hu => ?_
                cases j with
                | zero =>
                  simp only [List.getElem?_cons_zero, Option.some.injEq] at ha hu
                  subst ha; subst hu
                  exact .own (hd := fun _ => .slice none 0 0) 0 (by simp)
                | succ j => simp at ha
              | succ j =>
                simp only [List.getElem?_cons_succ] at ha hu
                have := hr2 (j + 1) a u (by simpa using ha) (by simpa using hu)
                rw [List.getElem?_map, Option.map_eq_some_iff] at ha
                obtain ⟨y, hy, rfl⟩ := ha
                cases this
                exact .lit _
theorem Bel.weak {may may' : Nat → Prop} {w w' : World} (h : Bel may w w') (hh : ∀ b, may b → may' b) : Bel may' w w' := ⟨h.os, h.tape, h.output, h.size, fun k hk hm => h.block k hk fun e => hm (hh k e)⟩
/-- a contract at an own row of none answers for a nil slice too -/
theorem VProc.adoptNil {P : Program} {f : FuncId} {u : Value} {maps0 : List (Nat × Mp)} {R : AV → List (Option Ob) → List (Nat × Mp) → Prop} {ty sz : Nat} {g : Nat → List AV} (hsz : 0 < sz)
    (h : VProc P f [.lit u, .own 0] [some ⟨ty, sz, 0, g⟩] maps0 R) : VProc P f [.lit u, .lit (.slice none 0 0)] [] maps0 R := by
  refine ⟨h.1, fun w vs hd0 hl hv hm hmp htl => ?_⟩
  obtain ⟨HD, hHD⟩ : ∃ HD : Nat → Value, HD = fun k => if k = 0 then .slice none 0 0 else hd0 k := ⟨_, rfl⟩
  have h0 : HD 0 = .slice none 0 0 := by rw [hHD]; exact if_pos rfl
  have heqT : TailEq hd0 HD := ⟨1, fun k hk => by rw [hHD]; exact if_neg (by omega)⟩
  have hsh : ∀ b, Sh w HD [some ⟨ty, sz, 0, g⟩] maps0 b → Sh w hd0 [] maps0 b := by
    rintro b (q | ⟨k, o, hk, hb⟩ | q)
    · exact .inl q
    · have hkl := (List.getElem?_eq_some_iff.1 hk).1
      obtain rfl : k = 0 := by simpa using hkl
      rw [h0] at hb; simp [Value.ownBlock] at hb
    · exact .inr (.inr q)
  have htl' : TailNot HD (Sh w HD [some ⟨ty, sz, 0, g⟩] maps0) := by
    obtain ⟨K, hK⟩ := htl
    obtain ⟨M, hM⟩ := heqT
    refine ⟨K + M, fun k hk b hb hs => ?_⟩
    rw [hM k (by omega)] at hb
    exact hK k (by omega) b hb (hsh b hs)
  have hmr : MemRel (fun _ => True) w HD [some ⟨ty, sz, 0, g⟩] := by
    refine ⟨fun _ _ _ _ _ => trivial, fun k ob hk => ?_, fun k hk => ?_, fun k k' o o' hk hk' hne => ?_⟩
    · have hkl := (List.getElem?_eq_some_iff.1 hk).1
      obtain rfl : k = 0 := by simpa using hkl
      simp only [List.getElem?_cons_zero, Option.some.injEq] at hk
      subst hk
      rw [h0]
      exact ⟨hsz, [], ⟨by simp, .inl ⟨rfl, rfl⟩⟩, fun i hi => by simp at hi⟩
    · obtain rfl : k = 0 := by simpa using hk
      exact ⟨none, 0, 0, h0⟩
    · have hkl := (List.getElem?_eq_some_iff.1 hk).1
      have hkl' := (List.getElem?_eq_some_iff.1 hk').1
      simp at hkl hkl'
      omega
  refine (h.2 w vs HD (by simpa using hl) (fun j a x ha hx => ?_) hmr hmp htl').mono fun e w' ⟨v, e1, bel, hd, av, mm, maps, r, po, hfix, hmr, hmap, hrep⟩ => ?_
  · match j, ha with
    | 0, ha =>
      have := hv 0 (.lit u) x rfl hx
      simp at ha
      subst ha
      cases this
      exact .lit _
    | 1, ha =>
      have := hv 1 (.lit (.slice none 0 0)) x rfl hx
      simp at ha
      subst ha
      cases this
      rw [← h0]
      exact .own 0 (by simp)
    | j + 2, ha => simp at ha
  · refine ⟨v, e1, bel.weak hsh, hd, av, mm, maps, r, ⟨by simp, po.flat, po.cells, po.maps⟩, ⟨fun k hk => by simp at hk, heqT.trans hfix.2⟩, ⟨fun k o hk b hb => hsh b (hmr.alw k o hk b hb), hmr.obs, hmr.hds, hmr.apart⟩, fun b mp hb => ?_, hrep⟩
    obtain ⟨q1, q2⟩ := hmap b mp hb
    exact ⟨hsh b q1, q2⟩
end Go.Proofs.Ytcnmgfbafcnkhaa.V
/- What Parse answers. Plain Lean. -/
namespace Go.Proofs.Ytcnmgfbafcnkhaa.V
open Go.RowKit
open Go.Proofs.Ytcnmgfbafcnkhaa.Ops (Tr Tk Lv Res Fit OF)
set_option linter.unusedVariables false
set_option linter.unusedSimpArgs false
/-- the first token of kind 6 -/
def badAt (t : List PTok) : Option Nat := (List.range t.length).find? fun i => decide ((tokAt t i).kind = 6)
theorem badAt_some {t : List PTok} {i : Nat} (hi : i < t.length) (h : ∀ j, j < i → (tokAt t j).kind ≠ 6) (hb : (tokAt t i).kind = 6) : badAt t = some i := by
  unfold badAt
  rw [List.find?_range_eq_some]
  refine ⟨by simpa using hb, by simpa using hi, fun j hj => ?_⟩
  simpa using h j hj
theorem badAt_none {t : List PTok} (h : ∀ j, j < t.length → (tokAt t j).kind ≠ 6) : badAt t = none := by
  unfold badAt
  rw [List.find?_eq_none]
  intro j hj
  simpa using h j (by simpa using hj)
open Classical in
/-- the tokens, as the theory has them -/
noncomputable def toksZ (l : List POp) (t : List PTok) : List TkP := if h : ∃ ts : List TkP, ToksAre l t 0 ts ∧ Fit true 0 ts then Classical.choose h else []
theorem toksZ_ok {l : List POp} {t : List PTok} (h : ∃ ts : List TkP, ToksAre l t 0 ts ∧ Fit true 0 ts) : ToksAre l t 0 (toksZ l t) ∧ Fit true 0 (toksZ l t) := by
  unfold toksZ
  rw [dif_pos h]
  exact Classical.choose_spec h
/-- the tree of the tokens -/
noncomputable def partT (l : List POp) (t : List PTok) : Option PT := Ops.build lvO (toksZ l t).length (toksZ l t)
/-- what Parse answers at the tokens of a text -/
noncomputable def parK (l : List POp) (t : List PTok) : List PNode × Int × Int := match badAt t with
  | some i => ([], 3, offZ t i)
  | none => if 0 ≤ (rolesZ l t).2 then ([], 4, offZ t (rolesZ l t).2.toNat) else match partT l t with
    | none => ([], 5, 0)
    | some e => if highT e ≤ 1000 then (lay e [], 0, 0) else ([], 6, 0)
noncomputable def parZ (l : List POp) (z : ByteArray) : List PNode × Int × Int :=
  if tblOk l ≠ 0 then ([], 1, 0) else if ¬ z.size ≤ 20000 then ([], 2, 0) else parK l (lexZ l z)
theorem parK_bad {l : List POp} {t : List PTok} {i : Nat} (h : badAt t = some i) : parK l t = ([], 3, offZ t i) := by unfold parK; rw [h]
theorem parK_roles {l : List POp} {t : List PTok} (h : badAt t = none) (hr : 0 ≤ (rolesZ l t).2) : parK l t = ([], 4, offZ t (rolesZ l t).2.toNat) := by unfold parK; rw [h]; simp only; rw [if_pos hr]
theorem parK_none {l : List POp} {t : List PTok} (h : badAt t = none) (hr : (rolesZ l t).2 = -1) (hp : partT l t = none) : parK l t = ([], 5, 0) := by unfold parK; rw [h]; simp only; rw [if_neg (by omega), hp]
theorem parK_high {l : List POp} {t : List PTok} {e : PT} (h : badAt t = none) (hr : (rolesZ l t).2 = -1) (hp : partT l t = some e) (he : ¬ highT e ≤ 1000) : parK l t = ([], 6, 0) := by unfold parK; rw [h]; simp only; rw [if_neg (by omega), hp]; simp only; rw [if_neg he]
theorem parK_ok {l : List POp} {t : List PTok} {e : PT} (h : badAt t = none) (hr : (rolesZ l t).2 = -1) (hp : partT l t = some e) (he : highT e ≤ 1000) : parK l t = (lay e [], 0, 0) := by unfold parK; rw [h]; simp only; rw [if_neg (by omega), hp]; simp only; rw [if_pos he]
theorem lexFrom_last {l : List POp} {z : ByteArray} (f : Nat) (hf : f ≤ z.size) : (lexFrom l z f).length ≠ 0 ∧ (tokAt (lexFrom l z f) ((lexFrom l z f).length - 1)).kind = 7 := by
  generalize hn : z.size - f = n
  induction n using Nat.strongRecOn generalizing f with
  | ind n ih =>
    have hr := run_le isBl z f hf
    by_cases h : f + run isBl z f < z.size
    · have hg := longest_ge l z (f + run isBl z f)
      have hl := longest_le l z (f + run isBl z f) h
      obtain ⟨h1, h2⟩ := ih (z.size - (f + run isBl z f + longest l z (f + run isBl z f))) (by omega) (f + run isBl z f + longest l z (f + run isBl z f)) hl rfl
      rw [lexFrom_go rfl h]
      refine ⟨by simp, ?_⟩
      obtain ⟨q, hq⟩ : ∃ q, q = lexFrom l z (f + run isBl z f + longest l z (f + run isBl z f)) := ⟨_, rfl⟩
      rw [← hq] at h1 h2 ⊢
      rw [← h2]
      simp only [tokAt, List.getD_eq_getElem?_getD, List.length_cons, Nat.add_sub_cancel]
      rw [show q.length = (q.length - 1) + 1 by omega, List.getElem?_cons_succ]
      simp
    · rw [lexFrom_end rfl h]
      simp [tokAt]
theorem lexZ_ends {l : List POp} {z : ByteArray} (h : lexOk l z = true) : endsOk (lexZ l z) = true := by
  obtain ⟨h1, h2⟩ := lexFrom_last (l := l) (z := z) 0 (by omega)
  rw [lexZ, if_pos h]
  simp only [endsOk, h1, h2, ne_eq, not_false_eq_true, decide_true, Bool.and_self]
theorem roles_two {l : List POp} {t : List PTok} (h0 : tblOk l = 0) (he : endsOk t = true) : ((rolesZ l t).2 = -1 ∧ (rolesZ l t).1 = rolesUp l t t.length) ∨ (0 ≤ (rolesZ l t).2 ∧ (rolesZ l t).2 < t.length) := by
  unfold rolesZ
  rw [if_neg (by omega)]
  split
  · rename_i i hb
    unfold firstBad at hb
    rw [List.find?_range_eq_some] at hb
    have := hb.2.1
    simp only [List.mem_range] at this
    exact .inr ⟨by simp, by simp; omega⟩
  · rw [if_pos he]
    exact .inl ⟨rfl, rfl⟩
/-- what is known when the roles fit -/
structure Fits (l : List POp) (t : List PTok) : Prop where
  len : (toksZ l t).length + 1 = t.length
  toks : ToksAre l t 0 (toksZ l t)
  fit : Fit true 0 (toksZ l t)
  seg : SegIs l t (rolesUp l t t.length) 0 (toksZ l t)
  all : ∀ e : PT, e.yield = toksZ l t → e.All lvO (InL l)
theorem fits_of {l : List POp} {t : List PTok} (h0 : tblOk l = 0) (hr : (rolesZ l t).2 = -1) : Fits l t := by
  have hu := uniq_of_ok h0
  obtain ⟨h1, h2⟩ := toksZ_ok (toks_of hu hr)
  have hl := toksAre_len h1
  have hs := seg_of hu _ 0 0 h1 h2 rfl
  exact ⟨by omega, h1, h2, hs, fun e he => by rw [← he] at hs; exact (seg_ok e 0 hs).2.1⟩
theorem partT_ok {l : List POp} {t : List PTok} {e : PT} (F : Fits l t) (h : partT l t = some e) : e.Adm lvO ∧ e.yield = toksZ l t ∧ LeavesOk e ∧ e.All lvO (InL l) ∧ KindsOk e := by
  obtain ⟨h1, h2⟩ := Ops.build_sound lvO _ _ _ (OF.of_fit F.fit) h
  have hs := F.seg
  rw [← h2] at hs
  exact ⟨h1, h2, seg_ok e 0 hs⟩
/-- what the parser makes of the tokens, and where it stops -/
theorem run_of {l : List POp} {t : List PTok} (h0 : tblOk l = 0) (F : Fits l t) : ∃ r : Option (PT × List TkP), Ops.operand lvO (2 * (toksZ l t).length + 2) 0 (toksZ l t) = some r ∧
    (match r with
    | none => partT l t = none
    | some (e, rest) => t.length - 1 - rest.length < t.length ∧ ((partT l t = some e ∧ (tokAt t (t.length - 1 - rest.length)).kind = 7) ∨ (partT l t = none ∧ (tokAt t (t.length - 1 - rest.length)).kind ≠ 7))) := by
  have hof := OF.of_fit F.fit
  have hbe := Ops.build_eq_operand lvO (good_of_ok h0) (toksZ l t) hof F.all
  have hlen := F.len
  obtain ⟨r, hr⟩ := (Ops.fuel_all lvO (2 * (toksZ l t).length + 2)).1 0 (toksZ l t) (by omega)
  refine ⟨r, hr, ?_⟩
  have hno : (∀ e, r ≠ some (e, [])) → partT l t = none := fun h => by
    cases hp : partT l t with
    | none => rfl
    | some e =>
      have := (hbe e).1 hp
      rw [hr] at this
      exact absurd (Option.some.inj this) (h e)
  cases r with
  | none => exact hno fun e => by simp
  | some x =>
    obtain ⟨e, rest⟩ := x
    obtain ⟨h1, h2, _⟩ := (Ops.sound_all lvO _).1 _ _ _ _ hr
    have htk := F.toks
    rw [h1] at htk
    have hl := toksAre_len htk
    have hrest := toksAre_rest htk
    refine ⟨by omega, ?_⟩
    cases rest with
    | nil =>
      refine .inl ⟨(hbe e).2 hr, ?_⟩
      exact hrest.2
    | cons tk r =>
      refine .inr ⟨hno fun e' => by simp, ?_⟩
      have := hrest.1
      cases tk with
      | leaf b => have h := this.1; omega
      | opn => have h : _ = _ := this; omega
      | cls => have h : _ = _ := this; omega
      | pre o => have h := this.1; omega
      | inf o => have h := this.1; omega
      | post o => have h := this.1; omega
end Go.Proofs.Ytcnmgfbafcnkhaa.V
/- Contracts: Parse, by the reference. -/
namespace Go.Proofs.Ytcnmgfbafcnkhaa.V
open Go.RowKit
open Go.Proofs.Ytcnmgfbafcnkhaa.Ops (Tr Tk Lv Res Fit OF)
set_option linter.unusedVariables false
set_option linter.unusedSimpArgs false
set_option linter.constructorNameAsVariable false
theorem noSl_one {ty sz n : Nat} {f : Nat → List AV} (h : ∀ i, (f i).all flat1 = true) : NoSl [some ⟨ty, sz, n, f⟩] := fun k ob hk i _ => by
  cases k with
  | zero =>
    simp only [List.getElem?_cons_zero, Option.some.injEq] at hk
    subst hk
    exact h i
  | succ k => simp at hk
/-- an answer of Parse: with a row of its own, or a nil slice -/
def paR (l : List POp) (z : ByteArray) (av : AV) (obs : List Ob) : Prop := (av = .tup [.agg [.own 0], .lit (.int .i64 (parZ l z).2.1), .lit (.int .i64 (parZ l z).2.2)] ∧ obs = [⟨124, 4, (parZ l z).1.length, nodCells (parZ l z).1⟩]) ∨ ∃ x y : Int, parZ l z = ([], x, y) ∧ av = .tup [.agg [.lit (.slice none 0 0)], .lit (.int .i64 x), .lit (.int .i64 y)] ∧ obs = []
theorem paR_nil {l : List POp} {z : ByteArray} {x y : Int} (h : parZ l z = ([], x, y)) : paR l z (.tup [.agg [.lit (.slice none 0 0)], .lit (.int .i64 x), .lit (.int .i64 y)]) [] := .inr ⟨x, y, h, rfl, rfl⟩
theorem paR_own {l : List POp} {z : ByteArray} {av : AV} {obs : List Ob} (h : paR l z av obs) : (av = .tup [.agg [.own 0], .lit (.int .i64 (parZ l z).2.1), .lit (.int .i64 (parZ l z).2.2)] ∧ obs = [⟨124, 4, (parZ l z).1.length, nodCells (parZ l z).1⟩]) ∨ ∃ xs : List Value, av = .tup (.agg [.lit (.slice none 0 0)] :: xs.map .lit) ∧ obs = [] ∧
    (AV.tup (.agg [.own 0] :: xs.map .lit) = .tup [.agg [.own 0], .lit (.int .i64 (parZ l z).2.1), .lit (.int .i64 (parZ l z).2.2)] ∧ [(⟨124, 4, 0, nodCells []⟩ : Ob)] = [⟨124, 4, (parZ l z).1.length, nodCells (parZ l z).1⟩]) := by
  rcases h with h | ⟨x, y, h1, rfl, rfl⟩
  · exact .inl h
  · refine .inr ⟨[.int .i64 x, .int .i64 y], rfl, rfl, ?_⟩
    rw [h1]
    exact ⟨rfl, rfl⟩
set_option maxRecDepth 100000 in
theorem c_specParse1 (l : List POp) (hl : l.length ≤ 9223372036854775807) (hw : opsWf l) (z : ByteArray) (hz : z.size ≤ 1048576) : VFun Try.prog 12 [.agg [.sl 4 l.length (opCells l)], .lit (.string z)] (paR l z) := by
  have cl : ∀ (i : Nat) (c : AV), i < l.length → c ∈ opCells l i → Closed c := fun i c _ h => opClosed l i c h
  refine vfun_start Try.func12 (by kernel_rfl) rfl (by simp [Try.ntmps12]) ?_; simp only [Try.ntmps12, Try.results12]; simp [go_sem]
  refine vcall_pure (c_specTableOk l hl hw) ?_ ?_
  · simp [go_sem]
    exact argSl_refl (by omega) cl
  · simp [go_sem]
    refine ⟨fun h0 => paR_nil (by simp [parZ, h0]), fun h0 => ?_⟩
    have hu := uniq_of_ok h0
    refine vcall_use (c_specLex l hl hw z hz) ?_ ?_
    · simp [go_sem]
      exact argSl_refl (by omega) cl
    · rintro av obs ⟨rfl, rfl⟩
      simp [go_sem]
      refine ⟨fun h1 => paR_nil ?_, fun h1 => ?_⟩
      · have : ¬ z.size ≤ 20000 := fun e => by simp [lexOk, h0, e] at h1
        simp [parZ, h0, this]
      have hz2 : z.size ≤ 20000 := by simp [lexOk] at h1; exact h1.2
      have hends := lexZ_ends h1
      obtain ⟨hq1, hq2⟩ := lexZ_texts (l := l) (z := z) (by omega)
      obtain ⟨t, ht⟩ : ∃ t, t = lexZ l z := ⟨_, rfl⟩
      have hpar : parZ l z = parK l t := by rw [parZ, if_neg (by omega), if_neg (by omega), ← ht]
      rw [← ht] at hends hq1 hq2 ⊢
      have clt : ∀ (i : Nat) (c : AV), i < t.length → c ∈ tokCells t i → Closed c := fun i c _ h => tokClosed t i c h
      have hto : t.length + tokSum t ≤ 1048576 := by omega
      refine vc_loop (fun i : Nat => i ≤ t.length ∧ ∀ j, j < i → (tokAt t j).kind ≠ 6) (fun i => t.length - i) (fun i => .of [(2, .ptr 0 1 0 0), (4, .ptr 1 1 0 0), (5, .lit (.int .i64 0)), (6, .lit (.int .i64 0)), (7, .own 2), (9, .lit (.int .i64 i))] [some ⟨25, 1, 1, fun _ => [.sl 4 l.length (opCells l)]⟩, some ⟨42, 1, 1, fun _ => [.lit (.slice none 0 0)]⟩, some ⟨61, 3, t.length, tokCells t⟩]) ⟨0, ⟨by omega, by simp⟩, ?_⟩ (fun i hi => ?_)
      · simp [go_sem]
        exact ⟨cl, fun i hi c hc => .closed _ (clt i c hi hc)⟩
      · simp [go_sem, tokCells_at]
        refine ⟨by omega, fun h => ⟨h, fun hk => ?_, fun hk => ?_⟩, fun h => ?_⟩
        · have hb := badAt_some h hi.2 hk
          refine vcall_pure (c_l3Offset t hto i h) ?_ ?_
          · simp [go_sem]
            exact argSl_own (k := 2) rfl (by omega) clt
          · simp [go_sem]
            exact paR_nil (by rw [hpar, parK_bad hb])
        · refine ⟨i + 1, ⟨by omega, fun j hj => ?_⟩, by omega, wrap_succ (by omega), cl⟩
          rcases Nat.lt_succ_iff_lt_or_eq.mp hj with hj | rfl
          · exact hi.2 j hj
          · exact hk
        · obtain rfl : i = t.length := by omega
          have hnb := badAt_none hi.2
          refine vcall_use (c_specRoles l hl hw t (by omega)) ?_ ?_
          · simp [go_sem]
            exact ⟨argSl_refl (by omega) cl, argSl_own (k := 2) rfl (by omega) clt⟩
          · rintro av obs ⟨rfl, rfl⟩
            simp [go_sem]
            rcases roles_two h0 hends with ⟨hr, hR⟩ | ⟨hr, hlt⟩
            · rw [hr, hR]
              simp [go_sem]
              have F := fits_of h0 hr
              have hpos : 0 < t.length := by have := F.len; omega
              have w1 : IntKind.i64.wrap ((t.length : Int) - 1) = ((t.length - 1 : Nat) : Int) := by rw [wrap_i64 (by omega)]; omega
              have clr : ∀ (i : Nat) (c : AV), i < (rolesUp l t t.length).length → c ∈ intCells (rolesUp l t t.length) i → Closed c := fun i c _ h => intClosed _ i c h
              have cb := c_build l hl hu hw (ok_of_ok h0) t (by omega) (rolesUp l t t.length) (rolesUp_len l t t.length) (toksZ l t).length (toksZ l t) 0 (t.length - 1) [] (Nat.le_refl _) (OF.of_fit F.fit) (by have := F.len; omega) (by omega) F.seg (by have := F.len; simp; omega)
              rw [w1]
              refine ⟨by omega, vcall_shareX [4] cb (by simp) ?_ ?_ trivial ?_⟩
              · simp [go_sem]
                refine ⟨.inl ?_, .inr (.inl ⟨by simp, argSl_own (k := 2) rfl (by omega) clt, ?_⟩), .inr (.inl ⟨by simp, argSl_own (k := 3) rfl (by omega) clr, ?_⟩), .inl (.closed _ (.lit _)), .inl (.closed _ (.lit _)), .inl ?_⟩
                · exact .closed _ (by simp only [closed_agg, List.mem_singleton]; rintro c rfl; simp only [closed_sl]; exact cl)
                · exact fun i hi => tokLit _ i
                · exact fun i hi => rfl
                · exact .own 0 (by simp)
              · simp [go_sem, nodRow]
              · cases hp : partT l t with
                | none =>
                  have hk := parK_none hnb hr hp
                  rw [partT] at hp
                  rw [hp]
                  rintro av mem maps ⟨T, hT, ⟨rfl, rfl, rfl⟩ | ⟨rfl, rfl, rfl⟩⟩
                  · refine ⟨noSl_row fun i => rfl, ?_⟩
                    simp [go_sem, nodRow]
                    exact paR_nil (by rw [hpar, hk])
                  · refine ⟨noSl_one fun i => rfl, ?_⟩
                    simp [go_sem, nodRow]
                    exact paR_nil (by rw [hpar, hk])
                | some e =>
                  obtain ⟨e1, e2, e3, e4, e5⟩ := partT_ok F hp
                  have hp' := hp
                  rw [partT] at hp
                  rw [hp]
                  rintro av mem maps ⟨rfl, rfl, rfl⟩
                  refine ⟨noSl_row fun i => rfl, ?_⟩
                  simp [go_sem, nodRow]
                  have hly := lay_yield e []
                  have hgr := lay_grows e []
                  have hF := F.len
                  rw [← e2] at hF
                  simp only [List.length_nil, Nat.zero_add] at hly hgr
                  have hH := hOk_lay e [] [] e3 e5 ⟨rfl, fun i hi => by simp at hi⟩
                  have hlast := his_last e []
                  rw [hH.1] at hlast
                  have cle : ∀ (i : Nat) (c : AV), i < (lay e []).length → c ∈ nodCells (lay e []) i → Closed c := fun i c _ h => nodClosed _ i c h
                  have ch := c_l3Height (lay e []) (his e []) (by omega) hH
                  rw [hlast] at ch
                  refine vcall_pure ch ?_ ?_
                  · simp [go_sem]
                    exact argSl_own (k := 5) rfl (by omega) cle
                  · simp [go_sem]
                    refine ⟨fun h6 => paR_nil (by rw [hpar, parK_high hnb hr hp' (by omega)]), fun h6 => ⟨_, obsSame_one.mpr ⟨⟨124, 4, (lay e []).length, nodCells (lay e [])⟩, ⟨rfl, rfl, rfl, fun j hj => ⟨rfl, nodLit _ j⟩⟩, rfl⟩, .inl ?_⟩⟩
                    rw [hpar, parK_ok hnb hr hp' h6]
                    exact ⟨rfl, rfl⟩
            · obtain ⟨q, hq⟩ : ∃ q : Nat, (rolesZ l t).2 = q := ⟨(rolesZ l t).2.toNat, by omega⟩
              have hk := parK_roles hnb hr
              rw [hq] at hr hlt hk ⊢
              simp only [Int.toNat_natCast] at hk
              simp [go_sem, hr]
              have hq' : q < t.length := by omega
              refine ⟨vcall_pure (c_l3Offset t hto q hq') ?_ ?_, fun h => by omega⟩
              · simp [go_sem]
                exact argSl_own (k := 2) rfl (by omega) clt
              · simp [go_sem]
                exact paR_nil (by rw [hpar, hk])
theorem c_specParse (l : List POp) (hl : l.length ≤ 9223372036854775807) (hw : opsWf l) (z : ByteArray) (hz : z.size ≤ 1048576) : VFun Try.prog 12 [.agg [.sl 4 l.length (opCells l)], .lit (.string z)] (fun av obs => av = .tup [.agg [.own 0], .lit (.int .i64 (parZ l z).2.1), .lit (.int .i64 (parZ l z).2.2)] ∧ obs = [⟨124, 4, (parZ l z).1.length, nodCells (parZ l z).1⟩]) :=
  (c_specParse1 l hl hw z hz).adoptA 124 4 (by omega) (nodCells []) fun av obs h => paR_own h
end Go.Proofs.Ytcnmgfbafcnkhaa.V
/- An own row is given up: it is a borrowed slice from then on. -/
namespace Go.Proofs.Ytcnmgfbafcnkhaa.V
open Go.RowKit
set_option linter.unusedVariables false
set_option linter.unusedSimpArgs false
section
variable {P : Program} {n : Nat} {base : Fr} {w0 w : World} {hd : Nat → Value} {s : VS} {a : Act}
theorem lk_map {ts : List Nat} {x : AV} {r : List (Nat × AV)} {u : Nat} : lk (ts.map (fun t => (t, x)) ++ r) u = if u ∈ ts then x else lk r u := by
  induction ts with
  | nil => simp
  | cons t ts ih =>
    simp only [List.map_cons, List.cons_append, lk]
    by_cases e : t = u
    · subst e; simp
    · rw [if_neg e, ih]
      have e' : ¬ u = t := fun h => e h.symm
      simp [e']
theorem RelH.rowSl (h : RelH n base w0 hd s a w) {k : Nat} {ob : Ob} (hk : s.mem[k]? = some (some ob)) (hc : ∀ i, i < ob.n → ∀ c, c ∈ ob.f i → Closed c) : Rep w (okOf (s.mem.set k none) hd) hd (s.mem.set k none).length (.sl ob.sz ob.n ob.f) (hd k) := by
  obtain ⟨hs, vals, ho, hr⟩ := h.me.obs k ob hk
  have hok : ∀ ad u, okOf s.mem hd ad.block → w.cell? ad = some u → w.cell? ad = some u ∧ okOf (s.mem.set k none) hd ad.block := fun ad u ho hcell => ⟨hcell, free_ok _ _ _ _ ho⟩
  rcases ho.2 with ⟨e, h0⟩ | ⟨g, cap, cur, e, h3, h1, h2, h4⟩
  · rw [e, show Value.slice none 0 0 = Value.slice none ob.n 0 by rw [h0]]
    exact .sl _ _ _ none 0 (fun _ _ => undef) (by omega) (by omega) hs (fun i hi => (hr i hi).1) (fun hp => by omega) (fun i j av hi => by omega)
  · have hcells := fun i hi => h.cells_ hk e (i := i) hi
    have hown : (hd k).ownBlock = some g := by rw [e]; rfl
    rw [e]
    refine .sl _ _ _ _ _ (fun i j => (w.cell? ((⟨g, i * ob.sz, none⟩ : Addr).add j)).getD undef) (by omega) (by simp only [maxLen] at h2; omega) hs (fun i hi => (hr i hi).1) (fun hp => ⟨_, rfl, ⟨fun q ob' hq e' => ?_, h.ownTail (h.me.alw k ob hk g hown)⟩, fun i j hi hj => ?_⟩) fun i j av hi hj => ?_
    · obtain ⟨hq1, hq2⟩ := free_get hq
      rcases h.me.apart q k ob' ob hq1 hk hq2 with e2 | e2
      · rw [e'] at e2; cases e2
      · exact e2 (by rw [e', hown])
    · obtain ⟨u, h1, _⟩ := hcells i hi j _ (List.getElem?_eq_getElem (by rw [(hr i hi).1]; exact hj))
      have e3 : ((⟨g, 0, none⟩ : Addr).add (i * ob.sz + j)) = (⟨g, i * ob.sz, none⟩ : Addr).add j := by
        by_cases hj0 : j = 0
        · subst hj0
          by_cases hi0 : i * ob.sz = 0
          · simp [Addr.add, hi0]
          · simp only [Addr.add, Nat.add_zero]; rw [if_neg hi0]; simp
        · have hne : ¬ (i * ob.sz + j = 0) := by omega
          simp only [Addr.add]; rw [if_neg hne, if_neg hj0]; simp
      rw [e3, h1]; rfl
    · obtain ⟨u, h1, h2⟩ := hcells i hi j av hj
      simp only [h1]
      exact Rep.closed (hc i hi av (List.mem_of_getElem? hj)) (fun ad u' g1 g2 => ⟨g2, free_ok _ _ _ _ g1⟩) h2
end
/-- the slots ts hold the row k; it is given up -/
theorem Ent.give {s : VS} (ts : List Nat) (k : Nat) {ob : Ob} (hk : s.mem[k]? = some (some ob)) (hc : ∀ i, i < ob.n → ∀ c, c ∈ ob.f i → Closed c) (ht : ∀ t, t ∈ ts → lk s.tmps t = .own k) :
    Ent s { s with tmps := ts.map (fun t => (t, .sl ob.sz ob.n ob.f)) ++ s.tmps, mem := s.mem.set k none } := by
  intro n base w0 hd a w h
  have hf := h.free k
  have hr := h.rowSl hk hc
  refine ⟨hd, hf.defers, hf.size, hf.below, hf.le, hf.fixl, hf.fix, hf.mp, fun u => ?_, hf.me⟩
  simp only [lk_map]
  split
  · rename_i hu
    have := h.tm u
    rw [ht u hu] at this
    generalize a.tmps.getD u undef = v at this
    cases this
    exact hr
  · exact hf.tm u
end Go.Proofs.Ytcnmgfbafcnkhaa.V
/- The parser's first operand. -/
namespace Go.Proofs.Ytcnmgfbafcnkhaa.V
open Go.RowKit
open Go.Maps (Keyed)
open Go.Proofs.Ytcnmgfbafcnkhaa.Ops (Tr Tk Lv Res Fit)
set_option linter.unusedVariables false
set_option linter.unusedSimpArgs false
set_option linter.constructorNameAsVariable false
theorem zeroNud : zeroIs Try.prog 136 .nilFunc := fun w => Try.zeroValue136 w
theorem toks_at {E : PEnv} {i : Nat} {tk : TkP} {r : List TkP} (h : ToksAre E.l E.t i (tk :: r)) : i < E.t.length ∧ E.at_ r = i + 1 ∧ E.at_ (tk :: r) = i := by
  have := toksAre_len h
  simp only [List.length_cons] at this
  unfold PEnv.at_
  simp only [List.length_cons]
  omega
theorem fi_leaf (E : PEnv) (i : Nat) (hi : i < E.t.length) (rest : List TkP) (hr : E.at_ rest = i + 1) (hk : (tokAt E.t i).kind = 1 ∨ (tokAt E.t i).kind = 2) : E.Ans 94 [.ptr 0 6 0 0] i (some (.leaf ((tokAt E.t i).kind, (tokAt E.t i).text), rest)) := by
  refine .mk ?_
  have cn := c_pnext E.b1 E.b2 E.b3 E.b4 E.t E.len i hi
  rw [hr]
  simp only [PEnv.ob, pOb, PEnv.mps, mapsP, PTok.cells] at cn ⊢
  refine vprocG_start Try.func94 (by kernel_rfl) rfl (by simp [Try.ntmps94]) ?_; simp only [Try.ntmps94, Try.results94]; simp [go_sem]
  refine vcall_share [0] cn (by simp) ?_ ?_ ?_ ?_
  · simp [go_sem]
  · simp [go_sem]
    exact fun i c _ h => tokClosed E.t i c h
  · simp [go_sem]
  · rintro av mem maps ⟨rfl, rfl, rfl⟩
    simp only [pOb]
    simp [go_sem]
    rcases hk with hk | hk
    · simp [hk, go_sem]
      exact E.fin_ [] (by simp only [partP, hk]) rfl
    · simp [hk, go_sem]
      exact E.fin_ [] (by simp only [partP, hk]) rfl
theorem fi_open (E : PEnv) (i : Nat) (hi : i < E.t.length) (j : Nat) (hj : j < E.t.length) (e : PT) (r0 rest : List TkP) (h0 : E.at_ r0 = j) (hr : E.at_ rest = j + 1) (hk : (tokAt E.t i).kind = 4) (hk2 : (tokAt E.t j).kind = 5) (hl : highT e < 2 ^ 62) (ho : E.Ans 74 [.ptr 0 6 0 0, .lit (.int .i64 0)] (i + 1) (some (e, r0))) : E.Ans 94 [.ptr 0 6 0 0] i (some (.grp e, rest)) := by
  refine .mk ?_
  obtain ⟨T, u, hT, _, fh, hh, ch⟩ := partIs e
  have ew : IntKind.i64.wrap (1 + highT e) = 1 + highT e := wrap_i64 (by have := highT_pos e; omega)
  have cn := c_pnext E.b1 E.b2 E.b3 E.b4 E.t E.len i hi
  have cn2 := c_pnext E.b1 E.b2 E.b3 E.b4 E.t E.len j hj
  rw [hr]
  simp only [PEnv.ob, pOb, PEnv.mps, mapsP, PTok.cells] at cn cn2 ⊢
  refine vprocG_start Try.func94 (by kernel_rfl) rfl (by simp [Try.ntmps94]) ?_; simp only [Try.ntmps94, Try.results94]; simp [go_sem]
  refine vcall_share [0] cn (by simp) ?_ ?_ ?_ ?_
  · simp [go_sem]
  · simp [go_sem]
    exact fun i c _ h => tokClosed E.t i c h
  · simp [go_sem]
  · rintro av mem maps ⟨rfl, rfl, rfl⟩
    simp only [pOb]
    simp [hk, go_sem]
    refine vcall_tell [0] 48 ho (by simp) rfl (fun i _ => rnP E.lo i) ?_ ?_ ?_ ?_
    · simp [go_sem]
    · simp [go_sem, PEnv.ob, pOb]
      exact fun i c _ h => tokClosed E.t i c h
    · exact E.mpsLe []
    · rintro av mem maps ⟨⟨rfl, rfl⟩, rfl⟩
      rw [h0]
      simp only [PEnv.ob, pOb, PEnv.mps, mapsP]
      simp [go_sem]
      refine vcall_share [0] cn2 (by simp) ?_ ?_ ?_ ?_
      · simp [go_sem]
      · simp [go_sem]
        exact fun i c _ h => tokClosed E.t i c h
      · simp [go_sem]
      · rintro av mem maps ⟨rfl, rfl, rfl⟩
        simp only [pOb]
        simp [hk2, go_sem]
        rw [hT]
        simp [go_sem, hh]
        refine vcall_pure ch ?_ ?_
        · simp [go_sem]
        · simp [go_sem, ew]
          exact E.fin_ E.mps (by simp only [partP, hT]) rfl
theorem fi_open_dies (E : PEnv) (i : Nat) (hi : i < E.t.length) (hk : (tokAt E.t i).kind = 4) (ho : E.Ans 74 [.ptr 0 6 0 0, .lit (.int .i64 0)] (i + 1) none) : E.Ans 94 [.ptr 0 6 0 0] i none := by
  have cn := c_pnext E.b1 E.b2 E.b3 E.b4 E.t E.len i hi
  simp only [PEnv.Ans, PEnv.ob, pOb, PEnv.mps, mapsP, PTok.cells] at cn ho ⊢
  refine vdies_start Try.func94 (by kernel_rfl) rfl (by simp [Try.ntmps94]) ?_; simp only [Try.ntmps94, startG, startP, List.length_cons, List.length_nil, List.length_singleton]
  refine vd_snd ?_
  simp [go_sem]
  refine vd_snd ?_
  simp [go_sem]
  refine vcall_share [0] cn (by simp) ?_ ?_ ?_ ?_
  · simp [go_sem]
  · simp [go_sem]
    exact fun i c _ h => tokClosed E.t i c h
  · simp [go_sem]
  · rintro av mem maps ⟨rfl, rfl, rfl⟩
    simp only [pOb]
    simp [hk, go_sem]
    refine vd_fst ?_
    refine vd_snd ?_
    simp [hk, go_sem]
    refine vd_snd ?_
    simp [hk, go_sem]
    refine vd_snd ?_
    simp [hk, go_sem]
    refine vd_snd ?_
    simp [hk, go_sem]
    refine vd_fst ?_
    refine vd_at 1 ?_
    simp [go_sem]
    refine vdcall_tell [0] 48 ho (by simp) rfl (fun i _ => rnP E.lo i) ?_ ?_ (E.mpsLe []) (E.mpsLe [])
    · simp [go_sem]
    · simp [go_sem, PEnv.ob, pOb]
      exact fun i c _ h => tokClosed E.t i c h
theorem fi_open_end (E : PEnv) (i : Nat) (hi : i < E.t.length) (j : Nat) (hj : j < E.t.length) (e : PT) (r0 : List TkP) (h0 : E.at_ r0 = j) (hk : (tokAt E.t i).kind = 4) (hk2 : (tokAt E.t j).kind ≠ 5) (ho : E.Ans 74 [.ptr 0 6 0 0, .lit (.int .i64 0)] (i + 1) (some (e, r0))) : E.Ans 94 [.ptr 0 6 0 0] i none := by
  have cn := c_pnext E.b1 E.b2 E.b3 E.b4 E.t E.len i hi
  have cn2 := c_pnext E.b1 E.b2 E.b3 E.b4 E.t E.len j hj
  simp only [PEnv.Ans, PEnv.ob, pOb, PEnv.mps, mapsP, PTok.cells] at cn cn2 ⊢
  refine vdies_start Try.func94 (by kernel_rfl) rfl (by simp [Try.ntmps94]) ?_; simp only [Try.ntmps94, startG, startP, List.length_cons, List.length_nil, List.length_singleton]
  refine vd_snd ?_
  simp [go_sem]
  refine vd_snd ?_
  simp [go_sem]
  refine vcall_share [0] cn (by simp) ?_ ?_ ?_ ?_
  · simp [go_sem]
  · simp [go_sem]
    exact fun i c _ h => tokClosed E.t i c h
  · simp [go_sem]
  · rintro av mem maps ⟨rfl, rfl, rfl⟩
    simp only [pOb]
    simp [hk, go_sem]
    refine vd_fst ?_
    refine vd_snd ?_
    simp [hk, go_sem]
    refine vd_snd ?_
    simp [hk, go_sem]
    refine vd_snd ?_
    simp [hk, go_sem]
    refine vd_snd ?_
    simp [hk, go_sem]
    refine vd_snd ?_
    simp [hk, go_sem]
    refine vcall_tell [0] 48 ho (by simp) rfl (fun i _ => rnP E.lo i) ?_ ?_ ?_ ?_
    · simp [go_sem]
    · simp [go_sem, PEnv.ob, pOb]
      exact fun i c _ h => tokClosed E.t i c h
    · exact E.mpsLe []
    · rintro av mem maps ⟨⟨rfl, rfl⟩, rfl⟩
      rw [h0]
      simp only [PEnv.ob, pOb, PEnv.mps, mapsP]
      simp [go_sem]
      refine vd_fst ?_
      refine vd_snd ?_
      simp [go_sem]
      refine vcall_share [0] cn2 (by simp) ?_ ?_ ?_ ?_
      · simp [go_sem]
      · simp [go_sem]
        exact fun i c _ h => tokClosed E.t i c h
      · simp [go_sem]
      · rintro av mem maps ⟨rfl, rfl, rfl⟩
        simp only [pOb]
        simp [hk2, go_sem]
        refine vd_at 2 ?_
        simp [go_sem, noTreeV, E.n13, E.n14, E.n34]
theorem fi_pre (E : PEnv) (i : Nat) (hi : i < E.t.length) (q : Nat) (hk : (tokAt E.t i).kind = 3) (hz : (tokAt E.t i).text.size ≤ maxLen) (hm : mget E.esN (.string (tokAt E.t i).text) = some (.func (.func 73) #[] #[vsP E.bp E.bo 0, vsP E.bp E.bo (q + 1)])) (e : PT) (rest : List TkP)
    (ho : E.Ans 73 [.agg (tokAt E.t i).cells, .lit (vsP E.bp E.bo 0), .lit (vsP E.bp E.bo (q + 1))] (i + 1) (some (e, rest))) : E.Ans 94 [.ptr 0 6 0 0] i (some (e, rest)) := by
  refine .mk ?_
  have cn := c_pnext E.b1 E.b2 E.b3 E.b4 E.t E.len i hi
  have h13 := E.n13
  have h14 := E.n14
  have h34 := E.n34
  simp only [PEnv.ob, pOb, PEnv.mps, mapsP, PTok.cells, vsP] at cn ho hm ⊢
  refine vprocG_start Try.func94 (by kernel_rfl) rfl (by simp [Try.ntmps94]) ?_; simp only [Try.ntmps94, Try.results94]; simp [go_sem]
  refine vcall_share [0] cn (by simp) ?_ ?_ ?_ ?_
  · simp [go_sem]
  · simp [go_sem]
    exact fun i c _ h => tokClosed E.t i c h
  · simp [go_sem]
  · rintro av mem maps ⟨rfl, rfl, rfl⟩
    simp only [pOb]
    simp [hk, go_sem]
    refine vc_drawn [8] (.q 0 <| .q 1 <| .q 2 <| .q 3 <| .q 4 <| .q 5 <| .q 6 <| .q 7 <| .or 8 (.q 9 <| .done) (.nil)) (by kernel_rfl) ?_
    simp [hk, go_sem, h13, h14, h34]
    refine vlookK_use keyedString (keyString hz) _ zeroNud ?_
    rw [hm]
    simp [go_sem]
    refine vcall_tell [0] 48 ho (by simp) rfl (fun i _ => rnP E.lo i) ?_ ?_ ?_ ?_
    · simp [go_sem, hk]
    · simp [go_sem, PEnv.ob, pOb]
      exact fun i c _ h => tokClosed E.t i c h
    · exact E.mpsLe []
    · rintro av mem maps ⟨⟨rfl, rfl⟩, rfl⟩
      simp only [PEnv.ob, pOb, PEnv.mps, mapsP]
      simp [go_sem]
      exact E.fin_ E.mps rfl rfl
theorem fi_pre_dies (E : PEnv) (i : Nat) (hi : i < E.t.length) (q : Nat) (hk : (tokAt E.t i).kind = 3) (hz : (tokAt E.t i).text.size ≤ maxLen) (hm : mget E.esN (.string (tokAt E.t i).text) = some (.func (.func 73) #[] #[vsP E.bp E.bo 0, vsP E.bp E.bo (q + 1)]))
    (ho : E.Ans 73 [.agg (tokAt E.t i).cells, .lit (vsP E.bp E.bo 0), .lit (vsP E.bp E.bo (q + 1))] (i + 1) none) : E.Ans 94 [.ptr 0 6 0 0] i none := by
  have cn := c_pnext E.b1 E.b2 E.b3 E.b4 E.t E.len i hi
  have h13 := E.n13
  have h14 := E.n14
  have h34 := E.n34
  simp only [PEnv.Ans, PEnv.ob, pOb, PEnv.mps, mapsP, PTok.cells, vsP] at cn ho hm ⊢
  refine vdies_start Try.func94 (by kernel_rfl) rfl (by simp [Try.ntmps94]) ?_; simp only [Try.ntmps94, startG, startP, List.length_cons, List.length_nil, List.length_singleton]
  refine vd_snd ?_
  simp [go_sem]
  refine vd_snd ?_
  simp [go_sem]
  refine vcall_share [0] cn (by simp) ?_ ?_ ?_ ?_
  · simp [go_sem]
  · simp [go_sem]
    exact fun i c _ h => tokClosed E.t i c h
  · simp [go_sem]
  · rintro av mem maps ⟨rfl, rfl, rfl⟩
    simp only [pOb]
    simp [hk, go_sem]
    refine vd_snd ?_
    simp [hk, go_sem]
    refine vd_fst (vd_drawn [8] (.q 0 <| .q 1 <| .q 2 <| .q 3 <| .q 4 <| .q 5 <| .q 6 <| .q 7 <| .or 8 (.q 9 <| .done) (.nil)) (by kernel_rfl) ?_)
    simp [hk, go_sem, h13, h14, h34]
    refine vlookK_use keyedString (keyString hz) _ zeroNud ?_
    rw [hm]
    simp [go_sem]
    refine vdcall_tell [0] 48 ho (by simp) rfl (fun i _ => rnP E.lo i) ?_ ?_ (E.mpsLe []) (E.mpsLe [])
    · simp [go_sem, hk]
    · simp [go_sem, PEnv.ob, pOb]
      exact fun i c _ h => tokClosed E.t i c h
theorem tok_kind {l : List POp} {k : PTok} {tk : TkP} (h : TokIs l k tk) : k.kind = 5 → tk = .cls := by
  cases tk <;> simp only [TokIs] at h <;> intro h5 <;> first | rfl | (exfalso; omega) | skip
/-- the first operand, given what operand answers behind it -/
theorem c_first (E : PEnv) (n : Nat) (hO : ∀ i m d ts res, ToksAre E.l E.t i ts → Fit true d ts → Ops.operand lvO n m ts = some res → E.Ans 74 [.ptr 0 6 0 0, .lit (.int .i64 m)] i res)
    (i d : Nat) (ts : List TkP) (res : Option (PT × List TkP)) (ht : ToksAre E.l E.t i ts) (hf : Fit true d ts) (h : Ops.firstF lvO (Ops.operand lvO n) ts = some res) : E.Ans 94 [.ptr 0 6 0 0] i res := by
  cases ts with
  | nil => exact absurd hf (by simp [Fit])
  | cons tk r =>
    obtain ⟨hi, h1, _⟩ := toks_at ht
    obtain ⟨ht1, ht2⟩ := ht
    have big : ∀ {m : Int} {u : List TkP} {e : PT} {rest : List TkP}, u.length ≤ E.t.length → Ops.operand lvO n m u = some (some (e, rest)) → highT e ≤ 1048576 := @fun _ _ e _ hu hq => by
      have := ((Ops.sound_all lvO n).1 _ _ _ _ hq).1
      have h2 := highT_yield e
      have h3 := congrArg List.length this
      rw [List.length_append] at h3
      have := E.len
      omega
    have hlen := toksAre_len ht2
    cases tk with
    | leaf b =>
      simp only [Ops.firstF, Option.some.injEq] at h
      subst h
      simp only [TokIs] at ht1
      have := fi_leaf E i hi r h1 ht1.1
      rw [ht1.2]; exact this
    | opn =>
      simp only [TokIs] at ht1
      simp only [Fit] at hf
      cases hq : Ops.operand lvO n 0 r with
      | none => simp [Ops.firstF, hq] at h
      | some x =>
        have ho := hO (i + 1) 0 (d + 1) r x ht2 hf hq
        cases x with
        | none =>
          simp [Ops.firstF, hq] at h
          subst h
          exact fi_open_dies E i hi ht1 ho
        | some y =>
          obtain ⟨e, r0⟩ := y
          have hs := ((Ops.sound_all lvO n).1 _ _ _ _ hq).1
          have ht3 := ht2
          rw [hs] at ht3
          have ht4 := toksAre_rest ht3
          have hj : E.t.length - 1 - r0.length < E.t.length := by omega
          have hb := big (by omega) hq
          simp only [Ops.firstF, hq] at h
          cases r0 with
          | nil =>
            simp at h; subst h
            exact fi_open_end E i hi (E.at_ []) hj e [] rfl ht1 (by
              have := ht4.2
              show (tokAt E.t (E.t.length - 1 - 0)).kind ≠ 5
              simp only [List.length_nil] at this
              omega) ho
          | cons tk2 r1 =>
            obtain ⟨_, h6, h7⟩ := toks_at ht4
            by_cases hc : tk2 = .cls
            · subst hc
              simp at h; subst h
              have hk5 := ht4.1
              simp only [TokIs] at hk5
              exact fi_open E i hi (E.at_ (.cls :: r1)) hj e _ r1 rfl h6 ht1 hk5 (by omega) ho
            · have hn : res = none := by cases tk2 <;> first | exact absurd rfl hc | (simp at h; exact h.symm)
              subst hn
              exact fi_open_end E i hi (E.at_ (tk2 :: r1)) hj e _ rfl ht1 (fun h5 => hc (tok_kind ht4.1 h5)) ho
    | pre o =>
      simp only [TokIs] at ht1
      simp only [Fit] at hf
      obtain ⟨k1, k2, k3, j, hj, rfl⟩ := ht1
      obtain ⟨q, hq0, hq1, hq2⟩ := E.maps.nud j hj k3
      have hok := E.maps.ok j hj
      have hh : hole (opAt E.lo q) false = (lvO (opAt E.l j)).h2 := by rw [hq1]; exact hole_h2p hok k3
      have hw : (opAt E.lo q).wf := by rw [hq1]; exact E.maps.wf j hj
      rw [k2] at hq2
      cases hq : Ops.operand lvO n (lvO (opAt E.l j)).h2 r with
      | none => simp [Ops.firstF, hq] at h
      | some x =>
        have ho := hO (i + 1) _ d r x ht2 hf hq
        rw [← hh] at ho
        simp only [Ops.firstF, hq] at h
        cases x with
        | none =>
          simp at h; subst h
          exact fi_pre_dies E i hi q k1 (E.txt i hi) hq2 (an_pre_dies E _ q hq0 hw _ ho)
        | some y =>
          obtain ⟨e, r0⟩ := y
          simp at h; subst h
          have hb := big (by omega) hq
          have := fi_pre E i hi q k1 (E.txt i hi) hq2 _ _ (an_pre E (tokAt E.t i) q hq0 hw _ e r0 (by omega) ho)
          rw [hq1] at this; exact this
    | cls => exact absurd hf (by simp [Fit])
    | inf o => exact absurd hf (by simp [Fit])
    | post o => exact absurd hf (by simp [Fit])
end Go.Proofs.Ytcnmgfbafcnkhaa.V
/- The parser's operand. -/
namespace Go.Proofs.Ytcnmgfbafcnkhaa.V
open Go.RowKit
open Go.Maps (Keyed)
open Go.Proofs.Ytcnmgfbafcnkhaa.Ops (Tr Tk Lv Res Fit)
set_option linter.unusedVariables false
set_option linter.unusedSimpArgs false
set_option linter.constructorNameAsVariable false
theorem PEnv.mpsLe1 (E : PEnv) (M : List (Nat × Mp)) : MapsLe ((E.b1, ⟨115, E.esA⟩) :: (E.mps ++ M)) E.mps := by
  have h1 := E.n13
  have h2 := E.n14
  have h3 := E.n34
  simp [PEnv.mps, mapsP, MapsLe, lkm, h1, h2, h3, Ne.symm h1, Ne.symm h2, Ne.symm h3]
theorem PEnv.fin2 (E : PEnv) {u v : Value} {i j : Nat} {M : List (Nat × Mp)} (hM : MapsLe M E.mps) {r : List (Option Ob)} {tm : List (Nat × AV)} (hv : v = u) (hij : i = j) : vendP E.mps (E.Rt u j) ⟨tm, E.ob i :: r, M, 1⟩ (.lit v) := by
  subst hv; subst hij
  refine ⟨rfl, [], [E.ob i], by simp, by simp, by simp [go_sem], ?_, fun b hb => ?_, ⟨⟨rfl, rfl⟩, hM⟩⟩
  · simp only [PEnv.ob, pOb]
    simp [go_sem]
    exact pOut
  · cases hq : lkm E.mps b with
    | none => rw [hq] at hb; simp at hb
    | some mp => rw [mapsLe_get hM (b, mp) (lkm_mem hq)]; rfl
theorem zeroLed : zeroIs Try.prog 137 .nilFunc := fun w => Try.zeroValue137 w
/-- where operand's loop stands -/
structure AtLoop (E : PEnv) (n : Nat) (m : Int) (res : Option (PT × List TkP)) (x : PT × List TkP) : Prop where
  run : ∃ k, k ≤ n ∧ Ops.loop lvO k m x.1 x.2 = some res
  toks : ToksAre E.l E.t (E.at_ x.2) x.2
  fit : ∃ d, Fit false d x.2
  len : x.1.yield.length + x.2.length + 1 ≤ E.t.length
def atLoopS (E : PEnv) (m : Int) (x : PT × List TkP) : VS := ⟨[(62, .fam (E.lo.length + 1) (vsP E.bp E.bo) (asP E.lo)), (0, .ptr 0 6 0 0), (1, .lit (.int .i64 m)), (4, .lit .nilIface), (5, .lit (partP x.1))], [E.ob (E.at_ x.2)], E.mps, 1⟩
theorem op_some (E : PEnv) (n : Nat) (hO : ∀ i m d ts res, ToksAre E.l E.t i ts → Fit true d ts → Ops.operand lvO n m ts = some res → E.Ans 74 [.ptr 0 6 0 0, .lit (.int .i64 m)] i res)
    (i : Nat) (m : Int) (e : PT) (ts : List TkP) (er : PT) (rest : List TkP) (hf : E.Ans 94 [.ptr 0 6 0 0] i (some (e, ts))) (hm : m ≤ e.level lvO) (hl : AtLoop E n m (some (er, rest)) (e, ts)) : E.Ans 74 [.ptr 0 6 0 0, .lit (.int .i64 m)] i (some (er, rest)) := by
  refine .mk ?_
  obtain ⟨T, u, hT, ⟨fl, hfl, cl⟩, _⟩ := partIs e
  have h13 := E.n13
  have h14 := E.n14
  have h34 := E.n34
  simp only [PEnv.ob, pOb, PEnv.mps, mapsP]
  refine vprocG_start Try.func74 (by kernel_rfl) rfl (by simp [Try.ntmps74]) ?_; simp only [Try.ntmps74, Try.results74]; simp [go_sem]
  refine vcall_tell [0] 62 hf (by simp) rfl (fun i _ => rnP E.lo i) ?_ ?_ ?_ ?_
  · simp [go_sem]
  · simp [go_sem, PEnv.ob, pOb]
    exact fun i c _ h => tokClosed E.t i c h
  · exact E.mpsLe []
  · rintro av mem maps ⟨⟨rfl, rfl⟩, rfl⟩
    simp only [PEnv.ob, pOb, PEnv.mps, mapsP]
    simp [go_sem]
    rw [hT]
    simp [go_sem, hfl]
    refine vcall_pure cl ?_ ?_
    · simp [go_sem]
    · rw [← lvlP_eq] at hm
      simp [go_sem, show ¬ lvlP e < m by omega]
      refine vc_loopE (AtLoop E n m (some (er, rest))) (fun x => x.2.length) (atLoopS E m) ⟨(e, ts), hl, ?_⟩ (fun x hx => ?_)
      · refine ent_ks [0] (by simp) (by simp) (by simp) (by simp) (E.mpsLe _) ?_ ?_
        · simp [go_sem]
          exact ⟨.fam _ _ _ _ fun i _ => rnP E.lo i, hT.symm⟩
        · simp [go_sem, PEnv.ob, pOb]
          exact fun i c _ h => tokClosed E.t i c h
      · obtain ⟨e, ts⟩ := x
        obtain ⟨⟨k, hk, hrun⟩, htk, ⟨d, hfit⟩, hlen⟩ := hx
        have hlt : E.at_ ts < E.t.length := by unfold PEnv.at_; omega
        simp only [atLoopS, PEnv.ob, pOb, PEnv.mps, mapsP]
        simp [go_sem]
        refine vc_drawn [11] (.q 0 <| .q 1 <| .q 2 <| .q 3 <| .q 4 <| .q 5 <| .q 6 <| .q 7 <| .q 8 <| .q 9 <| .or 10 (.or 11 (.done) (.nil)) (.nil)) (by kernel_rfl) ?_
        simp [go_sem, tokCells_at, hlt, PTok.cells]
        cases ts with
        | nil =>
          have hk7 := htk.2
          simp [go_sem, hk7]
          cases k with
          | zero => simp [Ops.loop] at hrun
          | succ k =>
            simp [Ops.loop, Ops.loopF] at hrun
            obtain ⟨rfl, rfl⟩ := hrun
            exact E.fin_ [] rfl rfl
        | cons tk r =>
          obtain ⟨hi, hi1, hi2⟩ := toks_at htk
          obtain ⟨ht1, ht2⟩ := htk
          have hi2' : E.at_ (tk :: r) < E.t.length := hlt
          by_cases hc : tk = .cls
          · subst hc
            simp only [TokIs] at ht1
            simp [go_sem, ht1]
            cases k with
            | zero => simp [Ops.loop] at hrun
            | succ k =>
              simp [Ops.loop, Ops.loopF] at hrun
              obtain ⟨rfl, rfl⟩ := hrun
              exact E.fin_ [] rfl rfl
          · obtain ⟨o, hk3, htx, hko, ⟨j, hj, hjo⟩, htk⟩ : ∃ o, (tokAt E.t (E.at_ (tk :: r))).kind = 3 ∧ o.text = (tokAt E.t (E.at_ (tk :: r))).text ∧ o.kind ≠ 1 ∧ (∃ j, j < E.l.length ∧ opAt E.l j = o) ∧ ((tk = .inf o ∧ o.kind = 2) ∨ (tk = .post o ∧ o.kind = 3)) := by
              cases tk with
              | cls => exact absurd rfl hc
              | inf o => exact ⟨o, ht1.1, ht1.2.1, by have := ht1.2.2.1; omega, ht1.2.2.2, .inl ⟨rfl, ht1.2.2.1⟩⟩
              | post o => exact ⟨o, ht1.1, ht1.2.1, by have := ht1.2.2.1; omega, ht1.2.2.2, .inr ⟨rfl, ht1.2.2.1⟩⟩
              | leaf b => exact absurd hfit (by simp [Fit])
              | opn => exact absurd hfit (by simp [Fit])
              | pre o => exact absurd hfit (by simp [Fit])
            have hw : o.wf := by rw [← hjo]; exact E.maps.wf j hj
            have hok : opOk o = true := by rw [← hjo]; exact E.maps.ok j hj
            have hh1 := hole_h1 hok hko
            have cH := c_Hole o hw false
            rw [hh1] at cH
            have cb := c_behind E.l E.b1 E.b2 E.b3 E.b4 E.t (E.at_ (tk :: r)) E.maps.uniq E.esA E.maps.at_ j hj (by rw [hjo]; exact hko) (by rw [hjo]; exact hw)
            rw [hjo, htx] at cb
            simp only [POp.cells, pOb] at cb cH
            simp [go_sem, hk3]
            refine vcall_share [0] cb (by simp) ?_ ?_ ?_ ?_
            · simp [go_sem]
            · simp [go_sem]
              exact fun i c _ h => tokClosed E.t i c h
            · simp [go_sem]
            · rintro av mem maps ⟨rfl, rfl, rfl⟩
              simp only [pOb]
              simp [go_sem]
              have hrun' : ∃ k', k = k' + 1 ∧ ((o.level < m ∨ e.level lvO < (lvO o).h1) → er = e ∧ rest = tk :: r) := by
                cases k with
                | zero => simp [Ops.loop] at hrun
                | succ k =>
                  refine ⟨k, rfl, fun hor => ?_⟩
                  rw [Ops.loop] at hrun
                  rcases htk with ⟨rfl, _⟩ | ⟨rfl, _⟩ <;>
                  · simp only [Ops.loopF] at hrun
                    have hl : (lvO o).lev = o.level := rfl
                    rw [hl] at hrun
                    by_cases hlm : o.level < m
                    · rw [if_pos hlm] at hrun; simp at hrun; exact ⟨hrun.1.symm, hrun.2.symm⟩
                    · rcases hor with hor | hor
                      · exact absurd hor hlm
                      · rw [if_neg hlm, if_pos hor] at hrun; simp at hrun; exact ⟨hrun.1.symm, hrun.2.symm⟩
              obtain ⟨k, rfl, hstop⟩ := hrun'
              refine ⟨fun hlm => ?_, fun hlm => ?_⟩
              · obtain ⟨rfl, rfl⟩ := hstop (.inl hlm)
                exact E.fin2 (E.mpsLe1 []) rfl rfl
              · refine vc_drawn [] (.q 0 <| .q 2 <| .or 1 (.or 3 (.q 4 <| .done) (.nil)) (.nil)) (by kernel_rfl) ?_
                simp [go_sem]
                obtain ⟨T, u, hT, ⟨fl, hfl, cl⟩, _⟩ := partIs e
                rw [hT]
                simp [go_sem, hfl]
                refine vcallV_pure cl ?_ ?_
                · simp [go_sem]
                · simp [go_sem]
                  refine vcallV_pure cH ?_ ?_
                  · simp [go_sem]
                  · simp [go_sem]
                    rw [← hT]
                    rw [lvlP_eq]
                    refine ⟨fun hlh => ?_, fun hlh => ?_⟩
                    · obtain ⟨rfl, rfl⟩ := hstop (.inr hlh)
                      exact E.fin2 (E.mpsLe1 []) rfl rfl
                    · have ew : IntKind.i64.wrap ((E.at_ (tk :: r) : Int) + 1) = ((E.at_ r : Nat) : Int) := by rw [hi1, hi2]; exact wrap_succ (by have := E.len; omega)
                      simp [go_sem, ew]
                      refine vc_drawn [9] (.q 0 <| .q 1 <| .q 2 <| .q 3 <| .q 4 <| .q 5 <| .q 6 <| .q 7 <| .q 8 <| .or 9 (.q 10 <| .done) (.nil)) (by kernel_rfl) ?_
                      simp [go_sem, h13, h14, h34, Ne.symm h13, Ne.symm h14, Ne.symm h34]
                      refine vlookK_use keyedString (keyString (E.txt _ hi2')) _ zeroLed ?_
                      have hye := highT_yield e
                      have hEl := E.len
                      simp only [List.length_cons] at hlen
                      rcases htk with ⟨rfl, ho2⟩ | ⟨rfl, ho3⟩
                      · have hm2 := E.maps.led2 j hj (by rw [hjo]; exact ho2)
                        rw [hjo, htx] at hm2
                        rw [hm2]
                        simp [go_sem]
                        simp only [Fit] at hfit
                        have hh2 := hole_h2i hok ho2
                        rw [Ops.loop, Ops.loopF, if_neg (show ¬ (lvO o).lev < m by show ¬ o.level < m; omega), if_neg (show ¬ e.level lvO < (lvO o).h1 by omega)] at hrun
                        cases hq : Ops.operand lvO k (lvO o).h2 r with
                        | none => rw [hq] at hrun; simp at hrun
                        | some y =>
                          rw [hq] at hrun
                          cases y with
                          | none => simp at hrun
                          | some y =>
                            obtain ⟨e2, r2⟩ := y
                            simp only at hrun
                            have hq' := Ops.operand_le lvO (show k ≤ n by omega) hq
                            have hs := ((Ops.sound_all lvO n).1 _ _ _ _ hq').1
                            have ht2' : ToksAre E.l E.t (E.at_ r) r := by rw [hi1, ← hi2]; exact ht2
                            have ho := hO (E.at_ r) _ d r _ ht2' hfit hq'
                            rw [← hh2] at ho
                            have hy2 := highT_yield e2
                            have hl2 := congrArg List.length hs
                            rw [List.length_append] at hl2
                            have ha := an_inf E o hw (E.at_ r) e e2 r2 (by omega) (by omega) ho
                            refine vcall_tell [0] 62 ha (by simp) rfl (fun i _ => rnP E.lo i) ?_ ?_ ?_ ?_
                            · simp [go_sem, POp.cells, vsP]
                            · simp [go_sem, PEnv.ob, pOb]
                              exact fun i c _ h => tokClosed E.t i c h
                            · exact E.mpsLe1 []
                            · rintro av mem maps ⟨⟨rfl, rfl⟩, rfl⟩
                              simp only [PEnv.ob, pOb]
                              simp [go_sem]
                              refine ⟨.inf o e e2, r2, ⟨⟨k, by omega, hrun⟩, ?_, ⟨d, ?_⟩, ?_⟩, ?_, ?_⟩
                              · rw [hs] at ht2'; exact toksAre_rest ht2'
                              · rw [hs] at hfit; exact fit_yield _ _ _ hfit
                              · simp [Tr.yield]; omega
                              · try simp only [List.length_cons]
                                omega
                              · refine ent_ks [0] (by simp) (by simp) (by simp) (by simp) (E.mpsLe _) ?_ ?_
                                · simp [go_sem]
                                  exact .fam _ _ _ _ fun i _ => rnP E.lo i
                                · simp [go_sem, PEnv.ob, pOb]
                                  exact fun i c _ h => tokClosed E.t i c h
                      · have hm3 := E.maps.led3 j hj (by rw [hjo]; exact ho3)
                        rw [hjo, htx] at hm3
                        rw [hm3]
                        simp [go_sem]
                        simp only [Fit] at hfit
                        rw [Ops.loop, Ops.loopF, if_neg (show ¬ (lvO o).lev < m by show ¬ o.level < m; omega), if_neg (show ¬ e.level lvO < (lvO o).h1 by omega)] at hrun
                        have ha := an_post E e o r (by omega)
                        have ht2' : ToksAre E.l E.t (E.at_ r) r := by rw [hi1, ← hi2]; exact ht2
                        refine vcall_tell [0] 62 ha (by simp) rfl (fun i _ => rnP E.lo i) ?_ ?_ ?_ ?_
                        · simp [go_sem, POp.cells, vsP]
                        · simp [go_sem, PEnv.ob, pOb]
                          exact fun i c _ h => tokClosed E.t i c h
                        · exact E.mpsLe1 []
                        · rintro av mem maps ⟨⟨rfl, rfl⟩, rfl⟩
                          simp only [PEnv.ob, pOb]
                          simp [go_sem]
                          refine ⟨.post o e, r, ⟨⟨k, by omega, hrun⟩, ht2', ⟨d, hfit⟩, ?_⟩, ?_, ?_⟩
                          · simp [Tr.yield]; omega
                          · try simp only [List.length_cons]
                            omega
                          · refine ent_ks [0] (by simp) (by simp) (by simp) (by simp) (E.mpsLe _) ?_ ?_
                            · simp [go_sem]
                              exact .fam _ _ _ _ fun i _ => rnP E.lo i
                            · simp [go_sem, PEnv.ob, pOb]
                              exact fun i c _ h => tokClosed E.t i c h
theorem op_none1 (E : PEnv) (i : Nat) (m : Int) (hf : E.Ans 94 [.ptr 0 6 0 0] i none) : E.Ans 74 [.ptr 0 6 0 0, .lit (.int .i64 m)] i none := by
  simp only [PEnv.Ans, PEnv.ob, pOb, PEnv.mps, mapsP] at hf ⊢
  refine vdies_start Try.func74 (by kernel_rfl) rfl (by simp [Try.ntmps74]) ?_; simp only [Try.ntmps74, startG, startP, List.length_cons, List.length_nil, List.length_singleton]
  refine vd_snd ?_
  simp [go_sem]
  refine vd_fst ?_
  refine vd_at 1 ?_
  simp [go_sem]
  refine vdcall_tell [0] 62 hf (by simp) rfl (fun i _ => rnP E.lo i) ?_ ?_ (E.mpsLe []) (E.mpsLe [])
  · simp [go_sem]
  · simp [go_sem, PEnv.ob, pOb]
    exact fun i c _ h => tokClosed E.t i c h
theorem op_none2 (E : PEnv) (i : Nat) (m : Int) (e : PT) (ts : List TkP) (hf : E.Ans 94 [.ptr 0 6 0 0] i (some (e, ts))) (hm : e.level lvO < m) : E.Ans 74 [.ptr 0 6 0 0, .lit (.int .i64 m)] i none := by
  obtain ⟨T, u, hT, ⟨fl, hfl, cl⟩, _⟩ := partIs e
  simp only [PEnv.Ans, PEnv.ob, pOb, PEnv.mps, mapsP]
  refine vdies_start Try.func74 (by kernel_rfl) rfl (by simp [Try.ntmps74]) ?_; simp only [Try.ntmps74, startG, startP, List.length_cons, List.length_nil, List.length_singleton]
  refine vd_snd ?_
  simp [go_sem]
  refine vd_snd ?_
  simp [go_sem]
  refine vcall_tell [0] 62 hf (by simp) rfl (fun i _ => rnP E.lo i) ?_ ?_ ?_ ?_
  · simp [go_sem]
  · simp [go_sem, PEnv.ob, pOb]
    exact fun i c _ h => tokClosed E.t i c h
  · exact E.mpsLe []
  · rintro av mem maps ⟨⟨rfl, rfl⟩, rfl⟩
    simp only [PEnv.ob, pOb, PEnv.mps, mapsP]
    simp [go_sem]
    rw [hT]
    refine vd_fst ?_
    refine vd_snd ?_
    simp [go_sem, hfl]
    refine vcall_pure cl ?_ ?_
    · simp [go_sem]
    · rw [← lvlP_eq] at hm
      simp [go_sem, hm]
      refine vd_at 2 ?_
      simp [go_sem, noTreeV, E.n13, E.n14, E.n34]
theorem op_none3 (E : PEnv) (n : Nat) (hO : ∀ i m d ts res, ToksAre E.l E.t i ts → Fit true d ts → Ops.operand lvO n m ts = some res → E.Ans 74 [.ptr 0 6 0 0, .lit (.int .i64 m)] i res)
    (i : Nat) (m : Int) (e : PT) (ts : List TkP) (hf : E.Ans 94 [.ptr 0 6 0 0] i (some (e, ts))) (hm : m ≤ e.level lvO) (hl : AtLoop E n m none (e, ts)) : E.Ans 74 [.ptr 0 6 0 0, .lit (.int .i64 m)] i none := by
  obtain ⟨T, u, hT, ⟨fl, hfl, cl⟩, _⟩ := partIs e
  have h13 := E.n13
  have h14 := E.n14
  have h34 := E.n34
  simp only [PEnv.Ans, PEnv.ob, pOb, PEnv.mps, mapsP]
  refine vdies_start Try.func74 (by kernel_rfl) rfl (by simp [Try.ntmps74]) ?_; simp only [Try.ntmps74, startG, startP, List.length_cons, List.length_nil, List.length_singleton]
  refine vd_snd ?_
  simp [go_sem]
  refine vd_snd ?_
  simp [go_sem]
  refine vcall_tell [0] 62 hf (by simp) rfl (fun i _ => rnP E.lo i) ?_ ?_ ?_ ?_
  · simp [go_sem]
  · simp [go_sem, PEnv.ob, pOb]
    exact fun i c _ h => tokClosed E.t i c h
  · exact E.mpsLe []
  · rintro av mem maps ⟨⟨rfl, rfl⟩, rfl⟩
    simp only [PEnv.ob, pOb, PEnv.mps, mapsP]
    simp [go_sem]
    rw [hT]
    refine vd_snd ?_
    simp [go_sem, hfl]
    refine vcall_pure cl ?_ ?_
    · simp [go_sem]
    · rw [← lvlP_eq] at hm
      simp [go_sem, show ¬ lvlP e < m by omega]
      refine vd_loopE (AtLoop E n m none) (fun x => x.2.length) (atLoopS E m) ⟨(e, ts), hl, ?_⟩ (fun x hx => ?_)
      · refine ent_ks [0] (by simp) (by simp) (by simp) (by simp) (E.mpsLe _) ?_ ?_
        · simp [go_sem]
          exact ⟨.fam _ _ _ _ fun i _ => rnP E.lo i, hT.symm⟩
        · simp [go_sem, PEnv.ob, pOb]
          exact fun i c _ h => tokClosed E.t i c h
      · obtain ⟨e, ts⟩ := x
        obtain ⟨⟨k, hk, hrun⟩, htk, ⟨d, hfit⟩, hlen⟩ := hx
        have hlt : E.at_ ts < E.t.length := by unfold PEnv.at_; omega
        cases k with
        | zero => simp [Ops.loop] at hrun
        | succ k =>
          rw [Ops.loop] at hrun
          cases ts with
          | nil => simp [Ops.loopF] at hrun
          | cons tk r =>
            obtain ⟨hi, hi1, hi2⟩ := toks_at htk
            obtain ⟨ht1, ht2⟩ := htk
            have hi2' : E.at_ (tk :: r) < E.t.length := hlt
            obtain ⟨o, hk3, htx, hko, ⟨j, hj, hjo⟩, htk⟩ : ∃ o, (tokAt E.t (E.at_ (tk :: r))).kind = 3 ∧ o.text = (tokAt E.t (E.at_ (tk :: r))).text ∧ o.kind ≠ 1 ∧ (∃ j, j < E.l.length ∧ opAt E.l j = o) ∧ ((tk = .inf o ∧ o.kind = 2) ∨ (tk = .post o ∧ o.kind = 3)) := by
              cases tk with
              | cls => simp [Ops.loopF] at hrun
              | inf o => exact ⟨o, ht1.1, ht1.2.1, by have := ht1.2.2.1; omega, ht1.2.2.2, .inl ⟨rfl, ht1.2.2.1⟩⟩
              | post o => exact ⟨o, ht1.1, ht1.2.1, by have := ht1.2.2.1; omega, ht1.2.2.2, .inr ⟨rfl, ht1.2.2.1⟩⟩
              | leaf b => exact absurd hfit (by simp [Fit])
              | opn => exact absurd hfit (by simp [Fit])
              | pre o => exact absurd hfit (by simp [Fit])
            have hlm : ¬ o.level < m := fun hlm => by
              rcases htk with ⟨rfl, _⟩ | ⟨rfl, _⟩ <;>
              · simp only [Ops.loopF] at hrun
                rw [if_pos (show (lvO o).lev < m from hlm)] at hrun
                simp at hrun
            have hlh : ¬ e.level lvO < (lvO o).h1 := fun hlh => by
              rcases htk with ⟨rfl, _⟩ | ⟨rfl, _⟩ <;>
              · simp only [Ops.loopF] at hrun
                rw [if_neg (show ¬ (lvO o).lev < m from hlm), if_pos hlh] at hrun
                simp at hrun
            have hw : o.wf := by rw [← hjo]; exact E.maps.wf j hj
            have hok : opOk o = true := by rw [← hjo]; exact E.maps.ok j hj
            have hh1 := hole_h1 hok hko
            have cH := c_Hole o hw false
            rw [hh1] at cH
            have cb := c_behind E.l E.b1 E.b2 E.b3 E.b4 E.t (E.at_ (tk :: r)) E.maps.uniq E.esA E.maps.at_ j hj (by rw [hjo]; exact hko) (by rw [hjo]; exact hw)
            rw [hjo, htx] at cb
            have ew : IntKind.i64.wrap ((E.at_ (tk :: r) : Int) + 1) = ((E.at_ r : Nat) : Int) := by rw [hi1, hi2]; exact wrap_succ (by have := E.len; omega)
            obtain ⟨T, u, hT, ⟨fl, hfl, cl⟩, _⟩ := partIs e
            have hye := highT_yield e
            have hEl := E.len
            simp only [List.length_cons] at hlen
            have ht2' : ToksAre E.l E.t (E.at_ r) r := by rw [hi1, ← hi2]; exact ht2
            simp only [POp.cells, pOb] at cb cH
            -- the walk to the call of the closure, throwing or not
            by_cases hdie : tk = .inf o ∧ Ops.operand lvO k (lvO o).h2 r = some none
            · refine .inl ?_
              obtain ⟨rfl, hdq⟩ := hdie
              have ho2 : o.kind = 2 := by
                rcases htk with ⟨_, h⟩ | ⟨h, _⟩
                · exact h
                · simp at h
              simp only [Fit] at hfit
              have hh2 := hole_h2i hok ho2
              have ho := hO (E.at_ r) _ d r _ ht2' hfit (Ops.operand_le lvO (show k ≤ n by omega) hdq)
              rw [← hh2] at ho
              have ha := an_inf_dies E o hw (E.at_ r) e ho
              have hm2 := E.maps.led2 j hj (by rw [hjo]; exact ho2)
              rw [hjo, htx] at hm2
              simp only [atLoopS, PEnv.ob, pOb, PEnv.mps, mapsP]
              simp [go_sem]
              refine vd_snd ?_
              refine vc_drawn [11] (.q 0 <| .q 1 <| .q 2 <| .q 3 <| .q 4 <| .q 5 <| .q 6 <| .q 7 <| .q 8 <| .q 9 <| .or 10 (.or 11 (.done) (.nil)) (.nil)) (by kernel_rfl) ?_
              simp [go_sem, tokCells_at, hlt, PTok.cells]
              refine vd_snd ?_
              simp [go_sem, hk3]
              refine vd_snd ?_
              simp [go_sem]
              refine vcall_share [0] cb (by simp) ?_ ?_ ?_ ?_
              · simp [go_sem]
              · simp [go_sem]
                exact fun i c _ h => tokClosed E.t i c h
              · simp [go_sem]
              · rintro av mem maps ⟨rfl, rfl, rfl⟩
                simp only [pOb]
                simp [go_sem]
                refine vd_snd ?_
                simp [go_sem, hlm]
                refine vd_snd ?_
                simp [go_sem]
                refine vc_drawn [] (.q 0 <| .q 2 <| .or 1 (.or 3 (.q 4 <| .done) (.nil)) (.nil)) (by kernel_rfl) ?_
                simp [go_sem]
                rw [hT]
                simp [go_sem, hfl]
                refine vcallV_pure cl ?_ ?_
                · simp [go_sem]
                · simp [go_sem]
                  refine vcallV_pure cH ?_ ?_
                  · simp [go_sem]
                  · rw [← hT, lvlP_eq]
                    simp [go_sem, hlh]
                    refine vd_snd ?_
                    simp [go_sem, ew]
                    refine vd_drawn [9] (.q 0 <| .q 1 <| .q 2 <| .q 3 <| .q 4 <| .q 5 <| .q 6 <| .q 7 <| .q 8 <| .or 9 (.q 10 <| .done) (.nil)) (by kernel_rfl) ?_
                    simp [go_sem, h13, h14, h34, Ne.symm h13, Ne.symm h14, Ne.symm h34]
                    refine vlookK_use keyedString (keyString (E.txt _ hi2')) _ zeroLed ?_
                    rw [hm2]
                    simp [go_sem]
                    refine vdcall_tell [0] 62 ha (by simp) rfl (fun i _ => rnP E.lo i) ?_ ?_ (E.mpsLe1 []) (E.mpsLe [])
                    · simp [go_sem, POp.cells, vsP]
                    · simp [go_sem, PEnv.ob, pOb]
                      exact fun i c _ h => tokClosed E.t i c h
            · refine .inr ?_
              simp only [atLoopS, PEnv.ob, pOb, PEnv.mps, mapsP]
              simp [go_sem]
              refine vc_drawn [11] (.q 0 <| .q 1 <| .q 2 <| .q 3 <| .q 4 <| .q 5 <| .q 6 <| .q 7 <| .q 8 <| .q 9 <| .or 10 (.or 11 (.done) (.nil)) (.nil)) (by kernel_rfl) ?_
              simp [go_sem, tokCells_at, hlt, PTok.cells]
              simp [go_sem, hk3]
              refine vcall_share [0] cb (by simp) ?_ ?_ ?_ ?_
              · simp [go_sem]
              · simp [go_sem]
                exact fun i c _ h => tokClosed E.t i c h
              · simp [go_sem]
              · rintro av mem maps ⟨rfl, rfl, rfl⟩
                simp only [pOb]
                simp [go_sem, hlm]
                refine vc_drawn [] (.q 0 <| .q 2 <| .or 1 (.or 3 (.q 4 <| .done) (.nil)) (.nil)) (by kernel_rfl) ?_
                simp [go_sem]
                rw [hT]
                simp [go_sem, hfl]
                refine vcallV_pure cl ?_ ?_
                · simp [go_sem]
                · simp [go_sem]
                  refine vcallV_pure cH ?_ ?_
                  · simp [go_sem]
                  · rw [← hT, lvlP_eq]
                    simp [go_sem, hlh]
                    simp [go_sem, ew]
                    refine vc_drawn [9] (.q 0 <| .q 1 <| .q 2 <| .q 3 <| .q 4 <| .q 5 <| .q 6 <| .q 7 <| .q 8 <| .or 9 (.q 10 <| .done) (.nil)) (by kernel_rfl) ?_
                    simp [go_sem, h13, h14, h34, Ne.symm h13, Ne.symm h14, Ne.symm h34]
                    refine vlookK_use keyedString (keyString (E.txt _ hi2')) _ zeroLed ?_
                    rcases htk with ⟨rfl, ho2⟩ | ⟨rfl, ho3⟩
                    · have hm2 := E.maps.led2 j hj (by rw [hjo]; exact ho2)
                      rw [hjo, htx] at hm2
                      rw [hm2]
                      simp [go_sem]
                      simp only [Fit] at hfit
                      have hh2 := hole_h2i hok ho2
                      rw [Ops.loopF, if_neg (show ¬ (lvO o).lev < m by show ¬ o.level < m; omega), if_neg (show ¬ e.level lvO < (lvO o).h1 by omega)] at hrun
                      cases hq : Ops.operand lvO k (lvO o).h2 r with
                      | none => rw [hq] at hrun; simp at hrun
                      | some y =>
                        rw [hq] at hrun
                        cases y with
                        | none => exact absurd ⟨rfl, hq⟩ hdie
                        | some y =>
                          obtain ⟨e2, r2⟩ := y
                          simp only at hrun
                          have hq' := Ops.operand_le lvO (show k ≤ n by omega) hq
                          have hs := ((Ops.sound_all lvO n).1 _ _ _ _ hq').1
                          have ht2' : ToksAre E.l E.t (E.at_ r) r := by rw [hi1, ← hi2]; exact ht2
                          have ho := hO (E.at_ r) _ d r _ ht2' hfit hq'
                          rw [← hh2] at ho
                          have hy2 := highT_yield e2
                          have hl2 := congrArg List.length hs
                          rw [List.length_append] at hl2
                          have ha := an_inf E o hw (E.at_ r) e e2 r2 (by omega) (by omega) ho
                          refine vcall_tell [0] 62 ha (by simp) rfl (fun i _ => rnP E.lo i) ?_ ?_ ?_ ?_
                          · simp [go_sem, POp.cells, vsP]
                          · simp [go_sem, PEnv.ob, pOb]
                            exact fun i c _ h => tokClosed E.t i c h
                          · exact E.mpsLe1 []
                          · rintro av mem maps ⟨⟨rfl, rfl⟩, rfl⟩
                            simp only [PEnv.ob, pOb]
                            simp [go_sem]
                            refine ⟨.inf o e e2, r2, ⟨⟨k, by omega, hrun⟩, ?_, ⟨d, ?_⟩, ?_⟩, ?_, ?_⟩
                            · rw [hs] at ht2'; exact toksAre_rest ht2'
                            · rw [hs] at hfit; exact fit_yield _ _ _ hfit
                            · simp [Tr.yield]; omega
                            · try simp only [List.length_cons]
                              omega
                            · refine ent_ks [0] (by simp) (by simp) (by simp) (by simp) (E.mpsLe _) ?_ ?_
                              · simp [go_sem]
                                exact .fam _ _ _ _ fun i _ => rnP E.lo i
                              · simp [go_sem, PEnv.ob, pOb]
                                exact fun i c _ h => tokClosed E.t i c h
                    · have hm3 := E.maps.led3 j hj (by rw [hjo]; exact ho3)
                      rw [hjo, htx] at hm3
                      rw [hm3]
                      simp [go_sem]
                      simp only [Fit] at hfit
                      rw [Ops.loopF, if_neg (show ¬ (lvO o).lev < m by show ¬ o.level < m; omega), if_neg (show ¬ e.level lvO < (lvO o).h1 by omega)] at hrun
                      have ha := an_post E e o r (by omega)
                      have ht2' : ToksAre E.l E.t (E.at_ r) r := by rw [hi1, ← hi2]; exact ht2
                      refine vcall_tell [0] 62 ha (by simp) rfl (fun i _ => rnP E.lo i) ?_ ?_ ?_ ?_
                      · simp [go_sem, POp.cells, vsP]
                      · simp [go_sem, PEnv.ob, pOb]
                        exact fun i c _ h => tokClosed E.t i c h
                      · exact E.mpsLe1 []
                      · rintro av mem maps ⟨⟨rfl, rfl⟩, rfl⟩
                        simp only [PEnv.ob, pOb]
                        simp [go_sem]
                        refine ⟨.post o e, r, ⟨⟨k, by omega, hrun⟩, ht2', ⟨d, hfit⟩, ?_⟩, ?_, ?_⟩
                        · simp [Tr.yield]; omega
                        · try simp only [List.length_cons]
                          omega
                        · refine ent_ks [0] (by simp) (by simp) (by simp) (by simp) (E.mpsLe _) ?_ ?_
                          · simp [go_sem]
                            exact .fam _ _ _ _ fun i _ => rnP E.lo i
                          · simp [go_sem, PEnv.ob, pOb]
                            exact fun i c _ h => tokClosed E.t i c h
/-- operand answers as the theory's parser -/
theorem c_operand (E : PEnv) : ∀ (n i : Nat) (m : Int) (d : Nat) (ts : List TkP) (res : Option (PT × List TkP)), ToksAre E.l E.t i ts → Fit true d ts → Ops.operand lvO n m ts = some res → E.Ans 74 [.ptr 0 6 0 0, .lit (.int .i64 m)] i res := by
  intro n
  induction n with
  | zero => intro i m d ts res _ _ h; simp [Ops.operand] at h
  | succ n ih =>
    intro i m d ts res ht hf h
    rw [Ops.operand] at h
    cases hx : Ops.first lvO n ts with
    | none => rw [hx] at h; simp at h
    | some x =>
      rw [hx] at h
      have h1 := Ops.first_le lvO (Nat.le_succ n) hx
      rw [Ops.first] at h1
      have ha := c_first E n ih i d ts x ht hf h1
      cases x with
      | none =>
        simp at h; subst h
        exact op_none1 E i m ha
      | some y =>
        obtain ⟨e, rest⟩ := y
        simp only at h
        by_cases hlm : e.level lvO < m
        · rw [if_pos hlm] at h
          simp at h; subst h
          exact op_none2 E i m e rest ha hlm
        · rw [if_neg hlm] at h
          have hs := ((Ops.sound_all lvO n).2.1 _ _ _ hx).1
          have hl : AtLoop E n m res (e, rest) := by
            have hlen := toksAre_len ht
            rw [hs] at ht hf
            rw [hs, List.length_append] at hlen
            exact ⟨⟨n, Nat.le_refl _, h⟩, toksAre_rest ht, ⟨d, fit_yield _ _ _ hf⟩, by simp only; omega⟩
          cases res with
          | none => exact op_none3 E n ih i m e rest ha (by omega) hl
          | some z => exact op_some E n ih i m e rest z.1 z.2 ha (by omega) hl
end Go.Proofs.Ytcnmgfbafcnkhaa.V
/- The parser's whole: the deferred function. -/
namespace Go.Proofs.Ytcnmgfbafcnkhaa.V
open Go.RowKit
set_option linter.unusedVariables false
set_option linter.unusedSimpArgs false
theorem catch_idle (p q : Addr) (w : World) : CallsD Try.prog 78 #[.pointer (some p), .pointer (some q)] .returning w fun e u' w' => e = .returned (.tuple #[]) ∧ u' = .returning ∧ w' = w := by
  refine callsD_of_wpS Try.func78 rfl fun c₀ cs hu => ?_
  apply wpS_seq
  apply wpS_region
  simp [wpOpsS, go_sem, recoverD, hu, Try.ntmps78, Exit.thenS]
  apply wpS_seq
  apply wpS_region
  simp [wpOpsS, go_sem, recoverD, hu, Exit.thenS]
  refine wpS_cond (t := false) (by simp [Act.eval, Array.replicate]) ?_
  simp only [Bool.false_eq_true, if_false]
  refine wpS_of_wp (wp_skip ?_)
  cases c₀
  simp_all [bodyPostS, results, Try.results78]
theorem assert_noTree (w : World) : (Instr.typeAssert (.iface 139 (.agg #[])) 20 139 true).run Try.prog w = .ok (.tuple #[.agg #[], .bool true]) w := by
  obtain ⟨d, h4, h5⟩ := ifaceT_run (P := Try.prog) (T := 139) (by kernel_rfl)
  unfold Instr.typeAssert
  simp only [Sem.run_bind, und_run h4, Result.andThen_ok]
  cases d <;> first | exact absurd rfl (h5 _) | simp [Sem.run_pure]
theorem catch_dead (p q : Addr) (x y : Value) (u : TypeId) (older : List PanicEntry) (w : World) (hc : w.cell? p = some x) (hz : w.frozen? p = false) (hc2 : w.cell? q = some y) (hz2 : w.frozen? q = false) (hpq : p.block ≠ q.block) :
    CallsD Try.prog 78 #[.pointer (some p), .pointer (some q)] (.panicking ({ v := .iface 139 (.agg #[]), recovered := false } :: older)) w fun e u' w' => e = .returned (.tuple #[]) ∧ u' = .panicking ({ v := .iface 139 (.agg #[]), recovered := true } :: older) ∧ w' = ((w.alloc (.cells #[] 139)).setCell p .nilIface).setCell q (.bool false) := by
  refine callsD_of_wpS Try.func78 rfl fun c₀ cs hu => ?_
  apply wpS_seq
  apply wpS_region
  simp [wpOpsS, go_sem, recoverD, hu, Try.ntmps78, Exit.thenS]
  apply wpS_seq
  apply wpS_region
  simp [wpOpsS, go_sem, recoverD, hu, Exit.thenS]
  refine wpS_cond (t := true) (by simp [Act.eval, Array.replicate]) ?_
  simp only [if_true]
  apply wpS_seq
  apply wpS_seq
  apply wpS_region
  simp [wpOpsS, go_sem, recoverD, hu, Exit.thenS, assert_noTree]
  apply wpS_seq
  apply wpS_region
  simp [wpOpsS, go_sem, recoverD, hu, Exit.thenS]
  refine wpS_cond (t := false) (by simp [Act.eval, Array.replicate]) ?_
  simp only [Bool.false_eq_true, if_false]
  refine wpS_of_wp (wp_skip ?_)
  simp only [Exit.thenS]
  apply wpS_region
  have h1 : (w.alloc (.cells #[] 139)).cell? p = some x := (World.cell?_alloc_lt _ _ _ (World.block_lt_of_cell? w _ hc)).trans hc
  have h2 : (w.alloc (.cells #[] 139)).frozen? p = false := (World.frozen?_alloc_old _ _ _ (by have := World.block_lt_of_cell? w _ hc; omega)).trans hz
  have h3 : ((w.alloc (.cells #[] 139)).setCell p .nilIface).cell? q = some y := by
    rw [World.cell?_setCell_other _ _ _ _ (fun e => hpq (by rw [e]))]
    exact (World.cell?_alloc_lt _ _ _ (World.block_lt_of_cell? w _ hc2)).trans hc2
  have h4 : ((w.alloc (.cells #[] 139)).setCell p .nilIface).frozen? q = false := by
    rw [World.frozen?_setCell]
    exact (World.frozen?_alloc_old _ _ _ (by have := World.block_lt_of_cell? w _ hc2; omega)).trans hz2
  simp [wpOpsS, go_sem, h1, h2, h3, h4, bodyPostS, results, Try.results78]
end Go.Proofs.Ytcnmgfbafcnkhaa.V
/- The parser's whole. -/
namespace Go.Proofs.Ytcnmgfbafcnkhaa.V
open Go.RowKit
open Go.Maps (Keyed)
open Go.Proofs.Ytcnmgfbafcnkhaa.Ops (Tr Tk Lv Res Fit)
set_option linter.unusedVariables false
set_option linter.unusedSimpArgs false
set_option linter.constructorNameAsVariable false
def wholeS (E : PEnv) (i : Nat) : VS := ⟨[(3, .ptr 2 1 0 0), (2, .ptr 1 1 0 0), (20, .fam (E.lo.length + 1) (vsP E.bp E.bo) (asP E.lo)), (0, .ptr 0 6 0 0)], [E.ob i, some ⟨93, 1, 1, fun _ => [.lit .nilIface]⟩, some ⟨4, 1, 1, fun _ => [.lit (.bool false)]⟩], E.mps, 1⟩
def PEnv.Rw (E : PEnv) (u : Value) (b : Bool) (j : Nat) (av : AV) (mem : List (Option Ob)) (maps : List (Nat × Mp)) : Prop := (av = .tup [.lit u, .lit (.bool b)] ∧ mem = [E.ob j]) ∧ MapsLe maps E.mps
theorem PEnv.finw (E : PEnv) {u v : Value} {b c : Bool} {i j : Nat} {M : List (Nat × Mp)} (hM : MapsLe M E.mps) {r : List (Option Ob)} {tm : List (Nat × AV)} (hv : v = u) (hb : c = b) (hij : i = j) : vendP E.mps (E.Rw u b j) ⟨tm, E.ob i :: r, M, 1⟩ (.tup [.lit v, .lit (.bool c)]) := by
  subst hv; subst hij; subst hb
  refine ⟨rfl, [], [E.ob i], by simp, by simp, by simp [go_sem], ?_, fun b hb => ?_, ⟨⟨rfl, rfl⟩, hM⟩⟩
  · simp only [PEnv.ob, pOb]
    simp [go_sem]
    exact pOut
  · cases hq : lkm E.mps b with
    | none => rw [hq] at hb; simp at hb
    | some mp => rw [mapsLe_get hM (b, mp) (lkm_mem hq)]; rfl
theorem c_whole_some (E : PEnv) (i : Nat) (e : PT) (rest : List TkP) (hi : E.at_ rest < E.t.length) (ho : E.Ans 74 [.ptr 0 6 0 0, .lit (.int .i64 0)] i (some (e, rest))) :
    VProcG Try.prog 45 [.ptr 0 6 0 0] (E.lo.length + 1) (vsP E.bp E.bo) (asP E.lo) [E.ob i] E.mps (E.Rw (partP e) (decide ((tokAt E.t (E.at_ rest)).kind = 7)) (E.at_ rest)) := by
  refine ⟨⟨_, Try.func45, by kernel_rfl, rfl⟩, fun w vs hd0 hlen hrep hfam hm hmp htl => ?_⟩
  have hrel := (startP_rel (P := Try.prog) (fn := Try.f45) (by simp [Try.ntmps45]) hlen hrep hm hmp htl).tell 20 hfam
  suffices hX : ∀ (X : Value → World → Prop), (∀ v w', (Bel (Sh w hd0 [E.ob i] E.mps) w w' ∧ ∃ hd av mem maps, E.Rw (partP e) (decide ((tokAt E.t (E.at_ rest)).kind = 7)) (E.at_ rest) av mem maps ∧ PostOk [E.ob i] E.mps av mem maps ∧ ((∀ k, k < [E.ob i].length → hd k = hd0 k) ∧ TailEq hd0 hd) ∧ MemRel (Sh w hd0 [E.ob i] E.mps) w' hd mem ∧ MapRel Try.prog (Sh w hd0 [E.ob i] E.mps) w' maps ∧ Rep w' (okOf mem hd) hd mem.length av v) → X v w') → Calls Try.prog 45 vs.toArray w (fun e w' => ∃ v, e = .returned v ∧ X v w') from hX _ fun v w' h => h
  intro X hX
  refine calls_of_wp_defers Try.func45 rfl ?_
  refine wp_seq (vc_sound rfl _ hrel (K := fun e s => e = .normal ∧ s = wholeS E i) ?_ fun x hd' s' a' w' h' hk => ?_)
  · simp only [Try.ntmps45, PEnv.ob, pOb, PEnv.mps, mapsP, startP]
    simp [go_sem]
    rfl
  · obtain ⟨rfl, rfl⟩ := hk
    simp only [VX.out, Exit.then]
    refine wp_seq (wp_region_list ?_)
    have hmf : ∀ (fn : Fn) (first cap : Array Value) (w : World), (Instr.makeFunc fn first cap).run Try.prog w = .ok (.func fn first cap) w := fun _ _ _ _ => rfl
    have hsz : a'.tmps.size = 20 := h'.size
    have hds : a'.defers = [] := h'.defers
    obtain ⟨b2, n2, c2, hb2, hp2⟩ := rep_ptr (h'.tm 2)
    obtain ⟨b3, n3, c3, hb3, hp3⟩ := rep_ptr (h'.tm 3)
    simp [hsz] at hp2 hp3
    simp [wpList, Region.wanted, Oper.wp, Oper.upon, go_sem, hmf, hsz, hds, hp2, hp3, Exit.then]
    refine .inl (.inl ?_)
    have h2 : RelH 20 ⟨Try.prog, Sh w hd0 [E.ob i] E.mps, hd0, [⟨.fn (.func 78) #[.pointer (some ⟨b2, 0, none⟩), .pointer (some ⟨b3, 0, none⟩)], #[]⟩]⟩ w hd' (wholeS E i) ⟨a'.tmps.setIfInBounds 4 (.func (.func 78) #[] #[.pointer (some ⟨b2, 0, none⟩), .pointer (some ⟨b3, 0, none⟩)]), [⟨.fn (.func 78) #[.pointer (some ⟨b2, 0, none⟩), .pointer (some ⟨b3, 0, none⟩)], #[]⟩]⟩ w' := by
      refine ⟨rfl, by simp [hsz], h'.below, h'.le, h'.fixl, h'.fix, h'.mp, fun t => ?_, h'.me⟩
      by_cases ht : t = 4
      · subst ht
        exact .undef _
      · have := h'.tm t
        rwa [show (a'.tmps.setIfInBounds 4 (.func (.func 78) #[] #[.pointer (some ⟨b2, 0, none⟩), .pointer (some ⟨b3, 0, none⟩)])).getD t undef = a'.tmps.getD t undef by
          simp only [Array.getD_eq_getD_getElem?]; rw [Array.getElem?_setIfInBounds_ne (by omega)]]
    refine vc_sound rfl _ h2 (K := KfinP Try.prog 1 E.mps Try.f45.results.toList (E.Rw (partP e) (decide ((tokAt E.t (E.at_ rest)).kind = 7)) (E.at_ rest))) ?_ fun x hd3 s3 a3 w3 h3 hk => ?_
    · simp only [wholeS, PEnv.ob, pOb, PEnv.mps, mapsP]
      simp [go_sem]
      refine vcall_tell [0] 20 ho (by simp) rfl (fun i _ => rnP E.lo i) ?_ ?_ ?_ ?_
      · simp [go_sem]
      · simp [go_sem, PEnv.ob, pOb]
        exact fun i c _ h => tokClosed E.t i c h
      · exact E.mpsLe []
      · rintro av mem maps ⟨⟨rfl, rfl⟩, rfl⟩
        simp only [PEnv.ob, pOb, PEnv.mps, mapsP]
        obtain ⟨T, u, hT⟩ := partP_iface e
        rw [hT]
        simp [go_sem]
        refine vc_drawn [13,14] (.q 0 <| .q 1 <| .q 2 <| .q 3 <| .q 5 <| .q 6 <| .q 7 <| .or 4 (.or 8 (.or 9 (.q 10 <| .or 11 (.or 12 (.or 13 (.or 14 (.done) (.nil)) (.nil)) (.or 13 (.q 12 <| .or 14 (.done) (.nil)) (.nil))) (.or 13 (.q 11 <| .q 12 <| .or 14 (.done) (.nil)) (.nil))) (.or 13 (.q 9 <| .q 10 <| .q 11 <| .q 12 <| .or 14 (.done) (.nil)) (.nil))) (.or 13 (.q 8 <| .q 9 <| .q 10 <| .q 11 <| .q 12 <| .or 14 (.done) (.nil)) (.nil))) (.or 8 (.or 4 (.or 9 (.q 10 <| .or 11 (.or 12 (.or 13 (.or 14 (.done) (.nil)) (.nil)) (.or 13 (.q 12 <| .or 14 (.done) (.nil)) (.nil))) (.or 13 (.q 11 <| .q 12 <| .or 14 (.done) (.nil)) (.nil))) (.or 13 (.q 9 <| .q 10 <| .q 11 <| .q 12 <| .or 14 (.done) (.nil)) (.nil))) (.or 13 (.q 4 <| .q 9 <| .q 10 <| .q 11 <| .q 12 <| .or 14 (.done) (.nil)) (.nil))) (.or 13 (.q 4 <| .q 8 <| .q 9 <| .q 10 <| .q 11 <| .q 12 <| .or 14 (.done) (.nil)) (.nil)))) (by kernel_rfl) ?_
        simp [go_sem, tokCells_at, hi, PTok.cells]
        repeat' first
        | exact E.finw (E.mpsLe _) rfl (int_beq _ _) rfl
        | refine And.intro (E.finw (E.mpsLe _) rfl (int_beq _ _) rfl) ?_
    · have fin : ∀ (R' : Ending → World → Prop) v, (results Try.f45 a3.tmps).run Try.prog w3 = .ok v w3 → R' (.returned v) w3 → Leaves Try.prog Try.f45 a3.tmps R' a3.defers .returning w3 := fun R' v h1 h4 => by
        rw [show a3.defers = _ from h3.defers]
        refine leaves_cons (f := 78) (args := #[.pointer (some ⟨b2, 0, none⟩), .pointer (some ⟨b3, 0, none⟩)]) (by simp) (by simp [go_sem]) ?_
        refine (catch_idle _ _ _).mono ?_
        rintro e u' w'' ⟨rfl, rfl, rfl⟩
        exact ⟨v, h1, h4⟩
      cases x with
      | exit id => exact hk.elim
      | normal =>
        obtain ⟨v, h1, h4⟩ := vretP_sound h3 hk.1 hk.2
        exact fin _ v h1 ⟨v, rfl, hX _ _ h4⟩
      | ret =>
        obtain ⟨v, h1, h4⟩ := vretP_sound h3 hk.1 hk.2
        exact fin _ v h1 ⟨v, rfl, hX _ _ h4⟩
end Go.Proofs.Ytcnmgfbafcnkhaa.V
/- The parser's whole says that there is no tree. -/
namespace Go.Proofs.Ytcnmgfbafcnkhaa.V
open Go.RowKit
open Go.Maps (Keyed)
open Go.Proofs.Ytcnmgfbafcnkhaa.Ops (Tr Tk Lv Res Fit)
set_option linter.unusedVariables false
set_option linter.unusedSimpArgs false
set_option linter.constructorNameAsVariable false
section
variable {P : Program} {n : Nat} {base : Fr} {w0 w : World} {hd : Nat → Value} {s : VS} {a : Act}
/-- an own object of one cell -/
theorem own_one (h : RelH n base w0 hd s a w) {k ty : Nat} {f : Nat → List AV} (hk : s.mem[k]? = some (some ⟨ty, 1, 1, f⟩)) (ht : ty < tagged) : ∃ g cap cur, hd k = .slice (some ⟨g, 0, none⟩) 1 cap ∧ w.heap[g]? = some (.cells cur ty (0, 0)) ∧ 0 < cur.size := by
  obtain ⟨_, vals, ho, hr⟩ := h.me.obs k _ hk
  rcases (ho.row ht).2 with ⟨_, h0⟩ | ⟨g, cap, cur, e, _, hg, h1, _, h2, _⟩
  · simp at h0
  · exact ⟨g, cap, cur, e, hg, by have h1' : 1 ≤ cap := h1; have h2' : cur.size = cap * 1 := h2; omega⟩
theorem cells_cell {g : Nat} {cur : Array Value} {t : TypeId} (hg : w.heap[g]? = some (.cells cur t (0, 0))) (hp : 0 < cur.size) : ∃ x, w.cell? ⟨g, 0, none⟩ = some x ∧ w.frozen? ⟨g, 0, none⟩ = false := by
  refine ⟨cur[0], ?_, ?_⟩
  · simp [World.cell?, hg, hp]
  · simp [World.frozen?, hg]
/-- a call that throws -/
theorem dcall_sound (h : RelH n base w0 hd s a w) (hP : base.P = P) {o : Oper} {f : FuncId} {xs : List Operand} (hcall : callD P s o.op = some (f, xs)) {pv : Value} {ks : List Nat} {args' : List AV} {mem0 : List (Option Ob)} {maps0 : List (Nat × Mp)} {t N : Nat} {vs0 : Nat → Value} {as0 as1 : Nat → AV}
    (hnd : ks.Nodup) (hargs : CellsRn (fun j => ks.getD j 0) ks.length (xs.map (ev s)) args') (hgt : lk s.tmps t = .fam N vs0 as0) (hg : ∀ i, i < N → Rn (fun j => ks.getD j 0) ks.length (as0 i) (as1 i)) (hsh : ShMem (fun j => ks.getD j 0) ks.length s.mem ks mem0) (hmaps : MapsLe s.maps maps0) (hd1 : VDies P f pv args' N vs0 as1 mem0 maps0)
    {K : Act → World → Prop} {Q : Exit → Act → World → Prop} (hQ : ∀ w', Bel (Sh w (hdF hd ks s.mem false) mem0 maps0) w w' → MapRel P (Sh w (hdF hd ks s.mem false) mem0 maps0) w' maps0 → Q (.panic [{ v := pv, recovered := false }]) a w') : o.wp P a w K Q := by
  have hrun : (execOp a.eval o).run P w = .ok (.enter f (xs.map a.eval).toArray) w := (call_run h hcall).trans (run_call_of hd1.1 _ w)
  obtain ⟨hlen, _, hrep, hfam, hm0, hmp0, htl0⟩ := callG_pre h hP hnd hargs hgt hg hsh (mapsLe_get hmaps)
  have hcalls := hd1.2 w (xs.map a.eval) (hdF hd ks s.mem false) hlen hrep hfam hm0 hmp0 htl0
  unfold Oper.wp
  rw [hrun]
  simp only [Oper.upon]
  refine hcalls.mono ?_
  rintro e w' ⟨rfl, hb, hm⟩
  exact hQ w' hb hm
end
theorem setCell_bel {may : Nat → Prop} {w w' : World} (h : Bel may w w') {a : Addr} (ha : may a.block) (v : Value) : Bel may w (w'.setCell a v) := by
  refine ⟨h.os, h.tape, h.output, by simpa [World.setCell] using h.size, fun k hk hk2 => ?_⟩
  rw [Below.heap_setCell _ _ _ k (fun e => hk2 (by rw [e]; exact ha))]
  exact h.block k hk hk2
theorem alloc_bel {may : Nat → Prop} {w w' : World} (h : Bel may w w') (o : Obj) : Bel may w (w'.alloc o) := by
  refine ⟨h.os, h.tape, h.output, by rw [World.size_alloc]; have := h.size; omega, fun k hk hk2 => ?_⟩
  have hlt : k < w'.heap.size := Nat.lt_of_lt_of_le hk h.size
  rw [Below.heap_alloc _ _ _ hlt]
  exact h.block k hk hk2
set_option maxRecDepth 20000 in
theorem c_whole_none (E : PEnv) (i : Nat) (ho : E.Ans 74 [.ptr 0 6 0 0, .lit (.int .i64 0)] i none) :
    VProcG Try.prog 45 [.ptr 0 6 0 0] (E.lo.length + 1) (vsP E.bp E.bo) (asP E.lo) [E.ob i] E.mps (fun av mem maps => (av = .tup [.lit .nilIface, .lit (.bool false)] ∧ mem = [none]) ∧ maps = E.mps) := by
  refine ⟨⟨_, Try.func45, by kernel_rfl, rfl⟩, fun w vs hd0 hlen hrep hfam hm hmp htl => ?_⟩
  have hrel := (startP_rel (P := Try.prog) (fn := Try.f45) (by simp [Try.ntmps45]) hlen hrep hm hmp htl).tell 20 hfam
  suffices hX : ∀ (X : Value → World → Prop), (∀ v w', (Bel (Sh w hd0 [E.ob i] E.mps) w w' ∧ MapRel Try.prog (Sh w hd0 [E.ob i] E.mps) w' E.mps ∧ v = .tuple #[.nilIface, .bool false]) → X v w') → Calls Try.prog 45 vs.toArray w (fun e w' => ∃ v, e = .returned v ∧ X v w') from hX _ fun v w' ⟨h1, h2, h3⟩ => by
    subst h3
    refine ⟨h1, hd0, _, [none], E.mps, ⟨⟨rfl, rfl⟩, rfl⟩, ⟨Nat.le_refl _, rfl, fun k ob hk => ?_, fun b hb => hb⟩, ⟨fun _ _ => rfl, TailEq.refl _⟩, ⟨fun k ob hk => ?_, fun k ob hk => ?_, fun k hk => hm.hds k hk, fun k k' ob ob' hk => ?_⟩, h2, .tup _ [.nilIface, .bool false] rfl fun j a q g1 g2 => ?_⟩
    · cases k <;> simp at hk
    · cases k <;> simp at hk
    · cases k <;> simp at hk
    · cases k <;> simp at hk
    · rcases j with _ | _ | j
      · simp at g1 g2; subst g1; subst g2; exact .lit _
      · simp at g1 g2; subst g1; subst g2; exact .lit _
      · simp at g1
  intro X hX
  refine calls_of_wp_defers Try.func45 rfl ?_
  refine wp_seq (vc_sound rfl _ hrel (K := fun e s => e = .normal ∧ s = wholeS E i) ?_ fun x hd' s' a' w' h' hk => ?_)
  · simp only [Try.ntmps45, PEnv.ob, pOb, PEnv.mps, mapsP, startP]
    simp [go_sem]
    rfl
  · obtain ⟨rfl, rfl⟩ := hk
    simp only [VX.out, Exit.then]
    refine wp_seq (wp_region_list ?_)
    have hmf : ∀ (fn : Fn) (first cap : Array Value) (w : World), (Instr.makeFunc fn first cap).run Try.prog w = .ok (.func fn first cap) w := fun _ _ _ _ => rfl
    have hsz : a'.tmps.size = 20 := h'.size
    have hds : a'.defers = [] := h'.defers
    obtain ⟨b2, n2, c2, hb2, hp2⟩ := rep_ptr (h'.tm 2)
    obtain ⟨b3, n3, c3, hb3, hp3⟩ := rep_ptr (h'.tm 3)
    simp [hsz] at hp2 hp3
    simp [wpList, Region.wanted, Oper.wp, Oper.upon, go_sem, hmf, hsz, hds, hp2, hp3, Exit.then]
    refine .inl (.inl ?_)
    have h2 : RelH 20 ⟨Try.prog, Sh w hd0 [E.ob i] E.mps, hd0, [⟨.fn (.func 78) #[.pointer (some ⟨b2, 0, none⟩), .pointer (some ⟨b3, 0, none⟩)], #[]⟩]⟩ w hd' (wholeS E i) ⟨a'.tmps.setIfInBounds 4 (.func (.func 78) #[] #[.pointer (some ⟨b2, 0, none⟩), .pointer (some ⟨b3, 0, none⟩)]), [⟨.fn (.func 78) #[.pointer (some ⟨b2, 0, none⟩), .pointer (some ⟨b3, 0, none⟩)], #[]⟩]⟩ w' := by
      refine ⟨rfl, by simp [hsz], h'.below, h'.le, h'.fixl, h'.fix, h'.mp, fun t => ?_, h'.me⟩
      by_cases ht : t = 4
      · subst ht
        exact .undef _
      · have := h'.tm t
        rwa [show (a'.tmps.setIfInBounds 4 (.func (.func 78) #[] #[.pointer (some ⟨b2, 0, none⟩), .pointer (some ⟨b3, 0, none⟩)])).getD t undef = a'.tmps.getD t undef by
          simp only [Array.getD_eq_getD_getElem?]; rw [Array.getElem?_setIfInBounds_ne (by omega)]]
    refine wp_seq (wp_region_list ?_)
    unfold wpList
    rw [if_pos (by simp [Region.wanted])]
    refine .inl ?_
    have hmove : ∀ (o : Oper) (a : Act) (w : World) {K : Act → World → Prop} {Q : Exit → Act → World → Prop}, o.op = .move (.tmp 0) → K (a.put o.dst (a.eval (.tmp 0))) w → o.wp Try.prog a w K Q := fun o a w K Q ho hK => by
      unfold Oper.wp
      rw [show (execOp a.eval o).run Try.prog w = .ok (.value (a.eval (.tmp 0))) w by unfold execOp; simp only [ho]; rfl]
      exact hK
    refine hmove _ _ _ rfl ?_
    have h3 := h2.put (t := 5) (by omega) (h2.ev_ (.tmp 0))
    generalize hw3 : w' = w3 at h3 ⊢
    generalize ha3 : Act.put _ (some 5) _ = a3 at h3 ⊢
    unfold wpList
    rw [if_pos (by simp [Region.wanted])]
    refine .inl ?_
    have ho' : VDies Try.prog 74 noTreeV [.ptr 0 6 0 0, .lit (.int .i64 0)] (E.lo.length + 1) (vsP E.bp E.bo) (asP E.lo) [E.ob i] E.mps := ho
    refine dcall_sound (s := { wholeS E i with tmps := (5, .ptr 0 6 0 0) :: (wholeS E i).tmps }) (f := 74) (xs := [.tmp 5, .const (.int .i64 0)]) (ks := [0]) (t := 20) h3 rfl ?_ (by simp) ?_ (N := E.lo.length + 1) (vs0 := vsP E.bp E.bo) (as0 := asP E.lo) (as1 := asP E.lo) ?_ (fun i _ => rnP E.lo i) ?_ ?_ ho' fun w4 hb4 hm4 => ?_
    · simp [callD, callOf]
    · simp [go_sem]
    · rfl
    · simp [go_sem, wholeS, PEnv.ob, pOb]
      exact fun i c _ h => tokClosed E.t i c h
    · exact E.mpsLe []
    · simp only [Exit.then, bodyPostD]
      have hmay : ∀ b, Sh w3 (hdF hd' [0] (wholeS E i).mem false) [E.ob i] E.mps b → Sh w hd0 [E.ob i] E.mps b := by
        rintro b (h1 | ⟨j, ob', h1, h2⟩ | h1)
        · exact h3.le _ (Nat.le_trans h3.below.size h1)
        · cases j with
          | zero =>
            rw [hdF_lt (by simp)] at h2
            exact h3.me.alw 0 _ rfl b h2
          | succ j => simp at h1
        · exact .inr (.inr h1)
      obtain ⟨g2, cap2, cur2, e2, hg2, hq2⟩ := own_one h3 (k := 1) rfl (by decide)
      obtain ⟨g3, cap3, cur3, e3, hg3, hq3⟩ := own_one h3 (k := 2) rfl (by decide)
      have ev2 : g2 = b2 := by rw [hb2] at e2; simp at e2; exact e2.1.symm
      have ev3 : g3 = b3 := by rw [hb3] at e3; simp at e3; exact e3.1.symm
      subst ev2; subst ev3
      have o2 : (hd' 1).ownBlock = some g2 := by rw [e2]; rfl
      have o3 : (hd' 2).ownBlock = some g3 := by rw [e3]; rfl
      have m2 := h3.me.alw 1 _ rfl g2 o2
      have m3 := h3.me.alw 2 _ rfl g3 o3
      have h23 : g2 ≠ g3 := fun e => by
        rcases h3.me.apart 1 2 _ _ rfl rfl (by omega) with h | h
        · rw [o2] at h; simp at h
        · exact h (by rw [o2, o3, e])
      have notSh : ∀ (k : Nat) (ob : Ob) (g : Nat), k ≠ 0 → (wholeS E i).mem[k]? = some (some ob) → (hd' k).ownBlock = some g → g < w3.heap.size → ¬ Sh w3 (hdF hd' [0] (wholeS E i).mem false) [E.ob i] E.mps g := by
        intro k ob g hk hm hg hlt
        rintro (h1 | ⟨j, ob', h1, h2⟩ | h1)
        · omega
        · cases j with
          | zero =>
            rw [hdF_lt (by simp)] at h2
            rcases h3.me.apart k 0 ob _ hm rfl hk with h | h
            · rw [hg] at h; simp at h
            · exact h (by rw [hg]; exact h2.symm)
          | succ j => simp at h1
        · cases hq : lkm E.mps g with
          | none => rw [hq] at h1; simp at h1
          | some mp => exact (cells_not_map h3 (b := g) (mp := mp) hq).2 k ob hm hg
      have l2 : g2 < w3.heap.size := (Array.getElem?_eq_some_iff.1 hg2).1
      have l3 : g3 < w3.heap.size := (Array.getElem?_eq_some_iff.1 hg3).1
      have k2 : w4.heap[g2]? = some (.cells cur2 93 (0, 0)) := (hb4.block g2 l2 (notSh 1 _ g2 (by omega) rfl o2 l2)).trans hg2
      have k3 : w4.heap[g3]? = some (.cells cur3 4 (0, 0)) := (hb4.block g3 l3 (notSh 2 _ g3 (by omega) rfl o3 l3)).trans hg3
      obtain ⟨x, hx, hfx⟩ := cells_cell k2 hq2
      obtain ⟨y, hy, hfy⟩ := cells_cell k3 hq3
      have hbel : Bel (Sh w hd0 [E.ob i] E.mps) w w4 := ⟨hb4.os.trans h3.below.os, hb4.tape.trans h3.below.tape, hb4.output.trans h3.below.output, Nat.le_trans h3.below.size hb4.size, fun k hk hk2 => (hb4.block k (Nat.lt_of_lt_of_le hk h3.below.size) (fun e => hk2 (hmay k e))).trans (h3.below.block k hk hk2)⟩
      obtain ⟨b2', _, _, hb2', ht2⟩ := rep_ptr (h3.tm 2)
      obtain ⟨b3', _, _, hb3', ht3⟩ := rep_ptr (h3.tm 3)
      have ev2 : b2' = g2 := by rw [hb2'] at e2; simp at e2; exact e2.1
      have ev3 : b3' = g3 := by rw [hb3'] at e3; simp at e3; exact e3.1
      subst ev2; subst ev3
      have hs3 : a3.tmps.size = 20 := h3.size
      rw [show a3.defers = _ from h3.defers]
      refine leaves_cons (f := 78) (args := #[.pointer (some ⟨b2', 0, none⟩), .pointer (some ⟨b3', 0, none⟩)]) (by simp) (by simp [go_sem]) ?_
      refine (catch_dead ⟨b2', 0, none⟩ ⟨b3', 0, none⟩ x y 0 [] w4 hx hfx hy hfy h23).mono ?_
      rintro e u' w'' ⟨rfl, rfl, rfl⟩
      have c2 : (((w4.alloc (.cells #[] 139)).setCell ⟨b2', 0, none⟩ .nilIface).setCell ⟨b3', 0, none⟩ (.bool false)).cell? ⟨b2', 0, none⟩ = some .nilIface := by
        rw [World.cell?_setCell_other _ _ _ _ (fun e => h23 (by simpa using e.symm))]
        exact World.cell?_setCell_same _ _ _ ((World.cell?_alloc_lt _ _ _ (World.block_lt_of_cell? w4 _ hx)).trans hx)
      have c3 : (((w4.alloc (.cells #[] 139)).setCell ⟨b2', 0, none⟩ .nilIface).setCell ⟨b3', 0, none⟩ (.bool false)).cell? ⟨b3', 0, none⟩ = some (.bool false) := by
        refine World.cell?_setCell_same (u := y) _ _ _ ?_
        rw [World.cell?_setCell_other _ _ _ _ (fun e => h23 (by simp at e))]
        exact (World.cell?_alloc_lt _ _ _ (World.block_lt_of_cell? w4 _ hy)).trans hy
      refine ⟨.tuple #[.nilIface, .bool false], ?_, _, rfl, hX _ _ ⟨setCell_bel (setCell_bel (alloc_bel hbel _) m2 _) m3 _, fun b mp hb => ?_, rfl⟩⟩
      · generalize ((w4.alloc (.cells #[] 139)).setCell ⟨b2', 0, none⟩ .nilIface).setCell ⟨b3', 0, none⟩ (.bool false) = W at c2 c3
        simp [hs3] at ht2 ht3
        simp [results, Try.results45, go_sem, hs3, ht2, ht3, c2, c3]
      · obtain ⟨hb1, es, clock, hh, hmi⟩ := hm4 b mp hb
        refine ⟨hmay b hb1, es, clock, ?_, hmi⟩
        have hlt : b < w4.heap.size := (Array.getElem?_eq_some_iff.1 hh).1
        rw [Below.heap_setCell _ _ _ _ (fun e => by rw [e, k3] at hh; simp at hh), Below.heap_setCell _ _ _ _ (fun e => by rw [e, k2] at hh; simp at hh), Below.heap_alloc _ _ _ hlt]
        exact hh
end Go.Proofs.Ytcnmgfbafcnkhaa.V
/- Contracts: Parse, by the program. -/
namespace Go.Proofs.Ytcnmgfbafcnkhaa.V
open Go.RowKit
open Go.Proofs.Ytcnmgfbafcnkhaa.Ops (Tr Tk Lv Res Fit OF)
set_option linter.unusedVariables false
set_option linter.unusedSimpArgs false
set_option linter.constructorNameAsVariable false
def offFill (t : List PTok) (i j : Nat) : List AV := [.lit (.int .i64 (if j < i then offZ t j else 0))]
theorem offFill_at (t : List PTok) (i j : Nat) : offFill t i j = [.lit (.int .i64 (if j < i then offZ t j else 0))] := rfl
theorem offClosed (t : List PTok) (i j : Nat) (c : AV) (h : c ∈ offFill t i j) : Closed c := by
  simp only [offFill, List.mem_singleton] at h
  subst h; exact .lit _
set_option maxRecDepth 100000 in
theorem c_Parse1 (l : List POp) (hl : l.length ≤ 9223372036854775807) (hw : opsWf l) (z : ByteArray) (hz : z.size ≤ 1048576) : VFun Try.prog 14 [.agg [.sl 4 l.length (opCells l)], .lit (.string z)] (paR l z) := by
  have cl : ∀ (i : Nat) (c : AV), i < l.length → c ∈ opCells l i → Closed c := fun i c _ h => opClosed l i c h
  refine vfun_start Try.func14 (by kernel_rfl) rfl (by simp [Try.ntmps14]) ?_; simp only [Try.ntmps14, Try.results14]; simp [go_sem]
  refine vcall_pure (c_TableOk l hl hw) ?_ ?_
  · simp [go_sem]
    exact argSl_refl (by omega) cl
  · simp [go_sem]
    refine ⟨fun h0 => paR_nil (by simp [parZ, h0]), fun h0 => ?_⟩
    have hu := uniq_of_ok h0
    refine ⟨fun h1 => paR_nil ?_, fun h1 => ?_⟩
    · have : ¬ z.size ≤ 20000 := by omega
      simp [parZ, h0, this]
    have hz2 : z.size ≤ 20000 := by omega
    have h1 : lexOk l z = true := by simp [lexOk, h0, hz2]
    refine vcall_use (c_Lex l hl hw z hz) ?_ ?_
    · simp [go_sem]
      exact argSl_refl (by omega) cl
    · rintro av obs (⟨h2, _⟩ | ⟨_, rfl, rfl⟩)
      · rw [h1] at h2; cases h2
      simp [go_sem]
      have hends := lexZ_ends h1
      obtain ⟨hq1, hq2⟩ := lexZ_texts (l := l) (z := z) (by omega)
      obtain ⟨t, ht⟩ : ∃ t, t = lexZ l z := ⟨_, rfl⟩
      have hpar : parZ l z = parK l t := by rw [parZ, if_neg (by omega), if_neg (by omega), ← ht]
      rw [← ht] at hends hq1 hq2 ⊢
      have clt : ∀ (i : Nat) (c : AV), i < t.length → c ∈ tokCells t i → Closed c := fun i c _ h => tokClosed t i c h
      have hto : t.length + tokSum t ≤ 1048576 := by omega
      refine ⟨by omega, by omega, by omega, by omega, ?_⟩
      refine vc_loop (fun i : Nat => i ≤ t.length) (fun i => t.length - i) (fun i => .of [(2, .ptr 0 1 0 0), (4, .ptr 1 1 0 0), (5, .lit (.int .i64 0)), (6, .lit (.int .i64 0)), (7, .own 2), (9, .own 3), (10, .lit (.int .i64 (tokSum (t.take i)))), (36, .own 2), (37, .lit (.int .i64 t.length)), (38, .lit (.int .i64 i))] [some ⟨25, 1, 1, fun _ => [.sl 4 l.length (opCells l)]⟩, some ⟨42, 1, 1, fun _ => [.lit (.slice none 0 0)]⟩, some ⟨61, 3, t.length, tokCells t⟩, some ⟨3, 1, t.length, offFill t i⟩]) ⟨0, by omega, ?_⟩ (fun i hi => ?_)
      · simp [go_sem, offFill, tokSum]
        exact ⟨cl, fun i hi c hc => .closed _ (clt i c hi hc)⟩
      · by_cases h : i < t.length
        · have hup : ∀ x : AV, updF t.length (offFill t i) i 0 [x] i = [x] := fun x => by
            rw [updF_at h h, if_pos rfl]; rfl
          have htk := tokSum_take t i h
          have htl := tokSum_take_le t (i + 1)
          have hsz : tokSize (t.getD i default) = (tokAt t i).gap.size + (tokAt t i).text.size := rfl
          have ew : IntKind.i64.wrap (((tokSum (t.take i) : Nat) : Int) + (tokAt t i).gap.size) = offZ t i := by rw [wrap_i64 (by omega)]; simp [offZ]
          have ew2 : IntKind.i64.wrap (offZ t i + (tokAt t i).text.size) = ((tokSum (t.take (i + 1)) : Nat) : Int) := by unfold offZ; rw [wrap_i64 (by omega), htk, hsz]; omega
          simp [go_sem, tokCells_at, h, ew]
          refine vc_drawn [] (.q 0 <| .q 1 <| .q 2 <| .q 3 <| .q 4 <| .q 5 <| .q 6 <| .q 7 <| .q 8 <| .done) (by kernel_rfl) ?_
          simp [go_sem, tokCells_at, h, hup, ew2]
          refine ⟨i + 1, by omega, by omega, ⟨rfl, wrap_succ (by omega)⟩, cl, fun j hj => ⟨?_, fun c hc => .closed _ (offClosed _ _ _ c hc)⟩⟩
          rw [updF_at h hj]
          by_cases hji : j = i
          · subst hji
            simp [offFill, splice]
          · rw [if_neg hji]
            simp only [offFill]
            by_cases h2 : j < i
            · rw [if_pos h2, if_pos (by omega)]
            · rw [if_neg h2, if_neg (by omega)]
        · obtain rfl : i = t.length := by omega
          simp [go_sem]
          refine ⟨by omega, ?_⟩
          refine vc_loopE (fun i : Nat => i ≤ t.length ∧ ∀ j, j < i → (tokAt t j).kind ≠ 6) (fun i => t.length - i) (fun i => .of [(2, .ptr 0 1 0 0), (4, .ptr 1 1 0 0), (5, .lit (.int .i64 0)), (6, .lit (.int .i64 0)), (7, .sl 3 t.length (tokCells t)), (9, .own 3), (60, .sl 3 t.length (tokCells t)), (61, .lit (.int .i64 t.length)), (62, .lit (.int .i64 i))] [some ⟨25, 1, 1, fun _ => [.sl 4 l.length (opCells l)]⟩, some ⟨42, 1, 1, fun _ => [.lit (.slice none 0 0)]⟩, none, some ⟨3, 1, t.length, offFill t t.length⟩]) ⟨0, ⟨by omega, by simp⟩, ?_⟩ (fun i hi => ?_)
          · refine (Ent.give [7, 60] 2 rfl (fun i hi c hc => clt i c hi hc) (by simp [lk])).trans (Ent.of_le ?_)
            simp [go_sem]
            exact ⟨clt, cl, fun i hi c hc => .closed _ (offClosed _ _ _ c hc)⟩
          · by_cases h : i < t.length
            · by_cases hk : (tokAt t i).kind = 6
              · simp [go_sem, tokCells_at, h, hk]
                refine vc_drawn [5] (.q 0 <| .or 1 (.or 2 (.or 3 (.or 4 (.or 5 (.q 6 <| .q 7 <| .done) (.nil)) (.or 5 (.q 4 <| .q 6 <| .q 7 <| .done) (.nil))) (.or 5 (.q 3 <| .q 4 <| .q 6 <| .q 7 <| .done) (.nil))) (.or 5 (.q 2 <| .q 3 <| .q 4 <| .q 6 <| .q 7 <| .done) (.nil))) (.or 2 (.or 1 (.or 3 (.or 4 (.or 5 (.q 6 <| .q 7 <| .done) (.nil)) (.or 5 (.q 4 <| .q 6 <| .q 7 <| .done) (.nil))) (.or 5 (.q 3 <| .q 4 <| .q 6 <| .q 7 <| .done) (.nil))) (.or 5 (.q 1 <| .q 3 <| .q 4 <| .q 6 <| .q 7 <| .done) (.nil))) (.or 5 (.q 1 <| .q 2 <| .q 3 <| .q 4 <| .q 6 <| .q 7 <| .done) (.nil)))) (by kernel_rfl) ?_
                simp [go_sem, offFill_at, h]
                exact paR_nil (by rw [hpar, parK_bad (badAt_some h hi.2 hk)])
              · simp [go_sem, tokCells_at, h, hk]
                refine ⟨i + 1, ⟨by omega, fun j hj => ?_⟩, by omega, Ent.of_le ?_⟩
                · rcases Nat.lt_succ_iff_lt_or_eq.mp hj with hj | rfl
                  · exact hi.2 j hj
                  · exact hk
                · simp [go_sem]
                  exact ⟨⟨clt, wrap_succ (by omega)⟩, cl, fun i hi c hc => .closed _ (offClosed _ _ _ c hc)⟩
            · obtain rfl : i = t.length := by omega
              have hnb := badAt_none hi.2
              simp [go_sem]
              refine vcall_use (c_RolesO l hl hw t (by omega) (fun i hi => by have := tok_le hi; unfold tokSize at this; simp only [maxLen]; omega)) ?_ ?_
              · simp [go_sem]
                exact ⟨argSl_refl (by omega) cl, argSl_refl (by omega) clt⟩
              · rintro av obs ⟨rfl, rfl⟩
                simp [go_sem]
                rcases roles_two h0 hends with ⟨hr, hR⟩ | ⟨hr, hlt⟩
                · rw [hr, hR]
                  simp [go_sem]
                  have F := fits_of h0 hr
                  refine vcall_share [] (c_indexOf l hl hw) (by simp) ?_ ?_ trivial ?_
                  · simp [go_sem]
                    exact cl
                  · simp [go_sem]
                  · rintro av mem maps ⟨b1, b2, esA, esT, rfl, rfl, rfl, hb, hat, _⟩
                    simp [go_sem]
                    refine vcall_told [] 109 (c_newParser l t b1 b2 esA hu (ok_of_ok h0) hw hat) (by simp) ?_ ?_ ?_ ?_
                    · simp [go_sem]
                      exact clt
                    · simp [go_sem]
                    · simp [go_sem]
                      exact fun e => hb e.symm
                    · rintro av mem' maps' N vs as1 ⟨lo, bp, bo, b3, b4, esN, esL, ⟨n13, n14, n34⟩, rfl, rfl, rfl, rfl, rfl, rfl, hP⟩
                      simp [go_sem]
                      obtain ⟨E, hE⟩ : ∃ E : PEnv, E = ⟨l, lo, t, bp, bo, b1, b2, b3, b4, esA, esN, esL, hP, by omega, fun i hi => by have := tok_le hi; unfold tokSize at this; simp only [maxLen]; omega, n13, n14, n34⟩ := ⟨_, rfl⟩
                      obtain ⟨r, hrun, hcase⟩ := run_of h0 F
                      have ho := c_operand E _ 0 0 0 (toksZ l t) r (by rw [hE]; exact F.toks) F.fit hrun
                      have hfam : ∀ i, i < lo.length + 1 → Rn (fun j => [5].getD j 0) 1 (renB (backN [] 5) (asP lo i)) (asP lo i) := fun i _ => by
                        cases i with
                        | zero =>
                          refine .bptr _ _ (by simp) fun j a b h1 h2 => ?_
                          match j with
                          | 0 =>
                            simp [backN, ren1] at h1 h2
                            subst h1; subst h2
                            exact .ptr (f := fun j => [5].getD j 0) 0 6 0 0 (by omega)
                          | j + 1 => simp at h1
                        | succ j => 
                          have e : renB (backN [] 5) (asP lo (j + 1)) = asP lo (j + 1) := by simp [asP, renB, POp.cells, ren1]
                          rw [e]
                          exact .closed _ (.bptr _ fun c hc => by
                            simp [POp.cells] at hc
                            rcases hc with rfl | rfl | rfl | rfl <;> exact .lit _)
                      have hob : Option.map (renOb (backN [] 5)) (pOb b1 b2 b3 b4 t 0) = pOb b1 b2 b3 b4 t 0 := by simp [pOb, renOb, ren1]
                      rw [hob]
                      have hml := E.mpsLe [(b2, ⟨9, esT⟩), (b1, ⟨115, esA⟩)]
                      rw [hE] at hml
                      cases r with
                      | none =>
                        simp only at hcase
                        have cw := c_whole_none E 0 ho
                        rw [hE] at cw
                        refine vcall_tell [5] 109 cw (by simp) rfl hfam ?_ ?_ ?_ ?_
                        · simp [go_sem]
                        · simp [go_sem, PEnv.ob, pOb]
                          exact clt
                        · exact hml
                        · rintro av mem maps ⟨⟨rfl, rfl⟩, rfl⟩
                          simp [go_sem]
                          exact paR_nil (by rw [hpar, parK_none hnb hr hcase])
                      | some x =>
                        obtain ⟨e, rest⟩ := x
                        simp only at hcase
                        obtain ⟨hat7, hcase⟩ := hcase
                        have ea : E.at_ rest = t.length - 1 - rest.length := by rw [hE]; rfl
                        have eT : E.t = t := by rw [hE]
                        have cw := c_whole_some E 0 e rest (by rw [ea, eT]; exact hat7) ho
                        rw [ea, eT] at cw
                        rcases hcase with ⟨hp, hk7⟩ | ⟨hp, hk7⟩
                        · rw [hk7, hE] at cw
                          obtain ⟨e1, e2, e3, e4, e5⟩ := partT_ok F hp
                          obtain ⟨T, u, hT, _, fh, hmh, ch⟩ := partIs e
                          obtain ⟨T', u', hT', fn, hmn, cn⟩ := nodesAre e [] e5 (by have := lay_yield e []; have := F.len; rw [e2] at *; simp only [List.length_nil] at *; omega)
                          rw [hT] at cw hT'
                          simp only [Value.iface.injEq] at hT'
                          obtain ⟨rfl, rfl⟩ := hT'
                          refine vcall_tell [5] 109 cw (by simp) rfl hfam ?_ ?_ ?_ ?_
                          · simp [go_sem]
                          · simp [go_sem, PEnv.ob, pOb]
                            exact clt
                          · exact hml
                          · rintro av mem maps ⟨⟨rfl, rfl⟩, hM⟩
                            simp [go_sem, hmh]
                            refine vcall_pure ch ?_ ?_
                            · simp [go_sem]
                            · simp [go_sem, hmn]
                              refine ⟨fun h6 => paR_nil (by rw [hpar, parK_high hnb hr hp (by omega)]), fun h6 => ?_⟩
                              refine vcall_share [] (VProc.adoptNil (by omega) cn) (by simp) ?_ ?_ trivial ?_
                              · simp [go_sem]
                              · simp [go_sem]
                              · rintro av mem maps ⟨rfl, rfl, rfl⟩
                                simp [go_sem, nodRow]
                                refine ⟨_, obsSame_one.mpr ⟨⟨124, 4, (lay e []).length, nodCells (lay e [])⟩, ⟨rfl, rfl, rfl, fun j hj => ⟨rfl, nodLit _ j⟩⟩, rfl⟩, .inl ?_⟩
                                rw [hpar, parK_ok hnb hr hp h6]
                                exact ⟨rfl, rfl⟩
                        · have hk7' : decide ((tokAt t (t.length - 1 - rest.length)).kind = 7) = false := decide_eq_false hk7
                          rw [hk7', hE] at cw
                          refine vcall_tell [5] 109 cw (by simp) rfl hfam ?_ ?_ ?_ ?_
                          · simp [go_sem]
                          · simp [go_sem, PEnv.ob, pOb]
                            exact clt
                          · exact hml
                          · rintro av mem maps ⟨⟨rfl, rfl⟩, hM⟩
                            simp [go_sem]
                            exact paR_nil (by rw [hpar, parK_none hnb hr hp])
                · obtain ⟨q, hq⟩ : ∃ q : Nat, (rolesZ l t).2 = q := ⟨(rolesZ l t).2.toNat, by omega⟩
                  have hk := parK_roles hnb hr
                  rw [hq] at hr hlt hk ⊢
                  simp only [Int.toNat_natCast] at hk
                  have hq' : q < t.length := by omega
                  refine ⟨fun _ => vc_drawn [5] (.q 0 <| .or 1 (.or 2 (.or 3 (.or 4 (.or 5 (.q 6 <| .q 7 <| .done) (.nil)) (.or 5 (.q 4 <| .q 6 <| .q 7 <| .done) (.nil))) (.or 5 (.q 3 <| .q 4 <| .q 6 <| .q 7 <| .done) (.nil))) (.or 5 (.q 2 <| .q 3 <| .q 4 <| .q 6 <| .q 7 <| .done) (.nil))) (.or 2 (.or 1 (.or 3 (.or 4 (.or 5 (.q 6 <| .q 7 <| .done) (.nil)) (.or 5 (.q 4 <| .q 6 <| .q 7 <| .done) (.nil))) (.or 5 (.q 3 <| .q 4 <| .q 6 <| .q 7 <| .done) (.nil))) (.or 5 (.q 1 <| .q 3 <| .q 4 <| .q 6 <| .q 7 <| .done) (.nil))) (.or 5 (.q 1 <| .q 2 <| .q 3 <| .q 4 <| .q 6 <| .q 7 <| .done) (.nil)))) (by kernel_rfl) ?_, fun h => by omega⟩
                  simp [go_sem, offFill_at, hq']
                  exact paR_nil (by rw [hpar, hk])
theorem c_Parse (l : List POp) (hl : l.length ≤ 9223372036854775807) (hw : opsWf l) (z : ByteArray) (hz : z.size ≤ 1048576) : VFun Try.prog 14 [.agg [.sl 4 l.length (opCells l)], .lit (.string z)] (fun av obs => av = .tup [.agg [.own 0], .lit (.int .i64 (parZ l z).2.1), .lit (.int .i64 (parZ l z).2.2)] ∧ obs = [⟨124, 4, (parZ l z).1.length, nodCells (parZ l z).1⟩]) :=
  (c_Parse1 l hl hw z hz).adoptA 124 4 (by omega) (nodCells []) fun av obs h => paR_own h
end Go.Proofs.Ytcnmgfbafcnkhaa.V
/- Contracts: the law of Parse. -/
namespace Go.Proofs.Ytcnmgfbafcnkhaa.V
open Go.RowKit
set_option linter.unusedVariables false
set_option linter.unusedSimpArgs false
set_option linter.constructorNameAsVariable false
theorem parZ_len (l : List POp) (z : ByteArray) : (parZ l z).1.length ≤ 300000 := by
  unfold parZ
  split
  · simp
  · rename_i h0
    have h0 : tblOk l = 0 := Decidable.byContradiction h0
    split
    · simp
    · rename_i h1
      have h1 : z.size ≤ 20000 := Decidable.byContradiction h1
      have hok : lexOk l z = true := by simp [lexOk, h0, h1]
      obtain ⟨hq1, hq2⟩ := lexZ_texts (l := l) (z := z) (by omega)
      cases hb : badAt (lexZ l z) with
      | some i => rw [parK_bad hb]; simp
      | none =>
        rcases roles_two h0 (lexZ_ends hok) with ⟨hr, _⟩ | ⟨hr, _⟩
        · have F := fits_of h0 hr
          cases hp : partT l (lexZ l z) with
          | none => rw [parK_none hb hr hp]; simp
          | some e =>
            obtain ⟨e1, e2, e3, e4, e5⟩ := partT_ok F hp
            by_cases he : highT e ≤ 1000
            · rw [parK_ok hb hr hp he]
              have := lay_yield e []
              have := F.len
              rw [e2] at *
              simp only [List.length_nil] at *
              omega
            · rw [parK_high hb hr hp he]; simp
        · rw [parK_roles hb hr]; simp
set_option maxRecDepth 100000 in
theorem c_FnExactParse (l : List POp) (hl : l.length ≤ maxLen) (hw : opsWf l) (z : ByteArray) (hz : z.size ≤ maxLen) : VFun Try.prog 4 [.agg [.sl 4 l.length (opCells l)], .lit (.string z)] (fun av _ => av = .lit (.bool true)) := by
  have cl : ∀ (i : Nat) (c : AV), i < l.length → c ∈ opCells l i → Closed c := fun i c _ h => opClosed l i c h
  have hl' : l.length ≤ 9223372036854775807 := by simpa [maxLen] using hl
  have hle := parZ_len l z
  obtain ⟨p, hp⟩ : ∃ p, parZ l z = p := ⟨_, rfl⟩
  have cle : ∀ (i : Nat) (c : AV), i < p.1.length → c ∈ nodCells p.1 i → Closed c := fun i c _ h => nodClosed _ i c h
  rw [hp] at hle
  refine vfun_start Try.func4 (by kernel_rfl) rfl (by simp [Try.ntmps4]) ?_; simp only [Try.ntmps4, Try.results4]; simp [go_sem]
  intro hz'
  have cs := c_specParse l hl' hw z (by omega)
  have ci := c_Parse l hl' hw z (by omega)
  rw [hp] at cs ci
  refine vcall_use (c_szTable l 1048576 hl hw (by decide) (by decide)) ?_ ?_
  · simp [go_sem]
    exact argSl_refl (by omega) cl
  · rintro av obs ⟨rfl, rfl | ⟨h0, rfl⟩⟩
    · simp [go_sem]
    · simp [go_sem]
      refine fun h3 => ?_
      have hsa : l.length ≤ 1048576 := by omega
      refine vcall_use (c_toTable l hsa) ?_ ?_
      · simp [go_sem]
        exact argSl_refl (by omega) cl
      rintro av obs ⟨rfl, rfl⟩
      simp [go_sem]
      refine vcall_use (cs) ?_ ?_
      · simp [go_sem]
        exact argSl_own (k := 1) rfl (by omega) cl
      rintro av obs ⟨rfl, rfl⟩
      simp [go_sem]
      refine vcall_use (c_toTable l hsa) ?_ ?_
      · simp [go_sem]
        exact argSl_refl (by omega) cl
      rintro av obs ⟨rfl, rfl⟩
      simp [go_sem]
      refine vcall_use (ci) ?_ ?_
      · simp [go_sem]
        exact argSl_own (k := 4) rfl (by omega) cl
      rintro av obs ⟨rfl, rfl⟩
      simp [go_sem]
      refine vcall_pure (c_eqTree p.1 p.1 (by omega) (by omega)) ?_ ?_
      · simp [go_sem]
        exact ⟨argSl_own (k := 6) rfl (by omega) cle, argSl_own (k := 2) rfl (by omega) cle⟩
      simp [go_sem, nodsEq_refl]
      refine vc_drawn [] (.q 0 <| .q 1 <| .or 2 (.or 3 (.q 4 <| .done) (.nil)) (.nil)) (by kernel_rfl) ?_
      simp [go_sem]
      refine vcallV_use (c_toTable l hsa) ?_ ?_
      · simp [go_sem]
        exact argSl_refl (by omega) cl
      rintro av obs ⟨rfl, rfl⟩
      simp [go_sem]
      refine vcallV_pure (c_eqTable l l (by omega) (by omega)) ?_ ?_
      · simp [go_sem]
        exact ⟨argSl_own (k := 4) rfl (by omega) cl, argSl_own (k := 8) rfl (by omega) cl⟩
      simp [go_sem, opsEq_refl]
      refine vcall_share [4] (c_markTable l 1 hsa (by omega)) (by simp) ?_ ?_ trivial ?_
      · simp [go_sem]
      · simp [go_sem]
        exact fun i _ => cellsRn_lits (opLit _ i)
      rintro av mem maps ⟨rfl, rfl, rfl⟩
      simp [go_sem]
      refine ⟨fun _ => ?_, by omega⟩
      refine vcall_pure (c_eqTree p.1 p.1 (by omega) (by omega)) ?_ ?_
      · simp [go_sem]
        exact ⟨argSl_own (k := 6) rfl (by omega) cle, argSl_own (k := 2) rfl (by omega) cle⟩
      simp [go_sem, nodsEq_refl]
      refine vcall_share [6] (c_markTree p.1 1 (by omega) (by omega)) (by simp) ?_ ?_ trivial ?_
      · simp [go_sem]
      · simp [go_sem]
        exact fun i _ => cellsRn_lits (nodLit _ i)
      rintro av mem maps ⟨rfl, rfl, rfl⟩
      simp [go_sem]
      refine vcall_pure (c_heldTree p.1.length 1 (by omega) (by omega)) ?_ ?_
      · simp [go_sem]
        exact argSl_own (k := 6) rfl (by omega) fun i c _ hc => markNClosed 1 i c hc
      simp [go_sem]
      refine ⟨by omega, fun _ => ?_⟩
      refine vcall_use (c_toTable l hsa) ?_ ?_
      · simp [go_sem]
        exact argSl_refl (by omega) cl
      rintro av obs ⟨rfl, rfl⟩
      simp [go_sem]
      refine vcall_use (ci) ?_ ?_
      · simp [go_sem]
        exact argSl_own (k := 9) rfl (by omega) cl
      rintro av obs ⟨rfl, rfl⟩
      simp [go_sem]
      refine vcall_pure (c_eqTree p.1 p.1 (by omega) (by omega)) ?_ ?_
      · simp [go_sem]
        exact ⟨argSl_own (k := 10) rfl (by omega) cle, argSl_own (k := 2) rfl (by omega) cle⟩
      simp [go_sem, nodsEq_refl]
      refine vcall_pure (c_heldTree p.1.length 1 (by omega) (by omega)) ?_ ?_
      · simp [go_sem]
        exact argSl_own (k := 6) rfl (by omega) fun i c _ hc => markNClosed 1 i c hc
      simp [go_sem]
      omega
end Go.Proofs.Ytcnmgfbafcnkhaa.V
