import Derived.Test.YtjdmmhcogmepaaaGreatDoorMC
import Derived.Shelf.Strings.SlTrimAscii
import Derived.Test.YtjdmmhcogmepaaaGreatDoorMA
import Derived.Test.YtjdmmhcogmepaaaGreatDoorMB
import Derived.Recover
namespace Go.Proofs.YtjdmmhcogmepaaaGreatDoor.V
open Go.RowKit
open Go.Maps (Keyed)
open Go.ChangeMaps (setBlock)
set_option linter.unusedVariables false
set_option linter.unusedSimpArgs false
set_option linter.constructorNameAsVariable false
set_option maxRecDepth 20000 in
theorem np_start (l : List POp) (t : List PTok) (b1 b2 : Nat) (esA : List (Value × Value)) {w : World} {vs : List Value} {hd0 : Nat → Value} (hlen : [AV.agg [.lit (.map (some b1)), .lit (.map (some b2))], .sl 3 t.length (tokCells t)].length = vs.length)
  (hrep : ∀ (j : Nat) a u, [AV.agg [.lit (.map (some b1)), .lit (.map (some b2))], .sl 3 t.length (tokCells t)][j]? = some a → vs[j]? = some u → Rep w (okOf [] hd0) hd0 0 a u) (hm : MemRel (fun _ => True) w hd0 []) (hmp : MapRel Tryz.prog (fun _ => True) w [(b1, ⟨151, esA⟩)]) (htl : TailNot hd0 (Sh w hd0 [] [(b1, ⟨151, esA⟩)]))
  (hu : Uniq l) (hok : ∀ j, j < l.length → opOk (opAt l j) = true) (hw : opsWf l) (hat : AtIs l l.length esA)
  (R : Ending → World → Prop) (hR : ∀ v w', (Bel (Sh w hd0 [] [(b1, ⟨151, esA⟩)]) w w' ∧ ∃ hd av mem maps N vs1 as1, (npR2 l t b1 b2 esA av mem maps N vs1 as1 ∧ ∀ i, i < N → FlatB (as1 i) ∧ Rep w' (okOf mem hd) hd mem.length (as1 i) (vs1 i)) ∧ PostOk [] [(b1, ⟨151, esA⟩)] av mem maps ∧
   ((∀ k, k < ([] : List (Option Ob)).length → hd k = hd0 k) ∧ TailEq hd0 hd) ∧ MemRel (Sh w hd0 [] [(b1, ⟨151, esA⟩)]) w' hd mem ∧ MapRel Tryz.prog (Sh w hd0 [] [(b1, ⟨151, esA⟩)]) w' maps ∧ Rep w' (okOf mem hd) hd mem.length av v) → R (.returned v) w') : Calls Tryz.prog 51 vs.toArray w R := by
 have hrel := startP_rel (P := Tryz.prog) (fn := Tryz.f51) (by simp [Tryz.ntmps51]) hlen hrep hm hmp htl
 refine calls_of_wp Tryz.func51 rfl ?_
 refine wp_seq (vc_sound rfl _ hrel (K := fun e s => e = .normal ∧ s = ⟨[(4, .lit (.pointer none)), (2, .ptr 0 2 0 0), (0, AV.agg [.lit (.map (some b1)), .lit (.map (some b2))]), (1, .sl 3 t.length (tokCells t))], [some ⟨70, 2, 1, fun _ => [.lit (.map (some b1)), .lit (.map (some b2))]⟩], [(b1, ⟨151, esA⟩)], 0⟩) ?_ fun x hd' s' a' w' h' hk => ?_)
 ·simp only [Tryz.ntmps51, startP]
  simp [go_sem]
 ·obtain ⟨rfl, rfl⟩ := hk
  simp only [VX.out, Exit.then]
  refine wp_seq (vc_sound rfl _ h' (K := fun e s => e = .normal ∧ ∃ b3 b4, (b1 ≠ b3 ∧ b1 ≠ b4 ∧ b3 ≠ b4) ∧ Ent s ⟨[(5, .ptr 1 1 0 0), (2, .ptr 2 2 0 0)], [pOb b1 b2 b3 b4 t 0, some ⟨94, 1, 1, fun _ => [.ptr 0 6 0 0]⟩, some ⟨70, 2, 1, fun _ => [.lit (.map (some b1)), .lit (.map (some b2))]⟩], [(b1, ⟨151, esA⟩), (b3, ⟨9, []⟩), (b4, ⟨9, []⟩)], 0⟩) ?_ fun x hd' s' a' w' h' hk => ?_)
  ·simp [go_sem]
   intro b3 h13 b4 h4
   have h34 : b3 ≠ b4 := fun e => by rw [if_pos e] at h4; simp at h4
   have h14 : b1 ≠ b4 := fun e => by
    by_cases e2 : b3 = b4
    ·exact h34 e2
    ·rw [if_neg e2, if_pos e] at h4; simp at h4
   refine ⟨b3, b4, ⟨h13, h14, h34⟩, ent_ks [1, 2, 0] (by simp) (by simp) (by simp) (by simp) ?_ ?_ ?_⟩
   ·simp [MapsLe, lkm, h13, h14, h34, Ne.symm h13, Ne.symm h14, Ne.symm h34]
   ·simp [go_sem]
   ·simp [go_sem, pOb]
    exact fun i c _ h => tokClosed t i c h
  ·obtain ⟨rfl, b3, b4, ⟨h13, h14, h34⟩, hent⟩ := hk
   obtain ⟨hd1, h1⟩ := hent _ _ _ _ _ _ h'
   simp only [VX.out, Exit.then]
   refine wp_seq (wp_seq (wp_region_list ?_))
   refine wpList_step h1 rfl rfl (k := fun s => s = npR b1 b2 b3 b4 t esA [(14, .ptr 2 2 0 0)]) (by simp only [npR, pOb]; simp [go_sem]) fun hd2 s2 a2 w2 h2 hk2 => ?_
   subst hk2
   refine wpList_step h2 rfl rfl (k := fun s => s = npR b1 b2 b3 b4 t esA [(15, .lit (.map (some b1))), (14, .ptr 2 2 0 0)]) (by simp only [npR, pOb]; simp [go_sem]) fun hd3 s3 a3 w3 h3 hk3 => ?_
   subst hk3
   obtain ⟨hmay1, es, clock, hes, hmi⟩ := h3.mp b1 ⟨151, esA⟩ (by simp [npR, lkm])
   have hr := run_range_map (P := Tryz.prog) w3 67 151 133 b1 es clock (by kernel_rfl) hes
   refine wpList_run (v := .pointer (some ⟨w3.heap.size, 0, none⟩)) (w' := w3.alloc (.mapIter (some b1) clock #[] clock)) rfl ?_ ?_
   ·have e15 : a3.eval (.tmp 15) = .map (some b1) := (h3.ev_ (.tmp 15)).val_ rfl
    unfold execOp
    simp only [e15]
    exact run_v hr
   ·simp only [wpList, Exit.then]
    have h4 := (h3.grown (World.grownBy_alloc w3 (.mapIter (some b1) clock #[] clock) none)).put (t := 16) (by rw [Tryz.ntmps51]; omega) (.lit (.pointer (some ⟨w3.heap.size, 0, none⟩)))
    have hes4 : (w3.alloc (.mapIter (some b1) clock #[] clock)).heap[b1]? = some (.map es clock) := (Below.heap_alloc _ _ _ (Array.getElem?_eq_some_iff.1 hes).1).trans hes
    have hit4 : (w3.alloc (.mapIter (some b1) clock #[] clock)).heap[w3.heap.size]? = some (.mapIter (some b1) clock #[] clock) := heap_alloc_new _ _
    have hbi : Sh w hd0 [] [(b1, ⟨151, esA⟩)] w3.heap.size := h3.le _ h3.below.size
    have hlt1 : b1 < w3.heap.size := (Array.getElem?_eq_some_iff.1 hes).1
    generalize hbi' : w3.heap.size = bi at *
    generalize w3.alloc (.mapIter (some b1) clock #[] clock) = w4 at *
    generalize a3.put (some 16) (.pointer (some ⟨bi, 0, none⟩)) = a4 at *
    obtain ⟨hd5, h5⟩ : ∃ hd, RelH 50 ⟨Tryz.prog, Sh w hd0 [] [(b1, ⟨151, esA⟩)], hd0, []⟩ w hd ⟨[(5, .ptr 1 1 0 0), (16, .lit (.pointer (some ⟨bi, 0, none⟩)))], [pOb b1 b2 b3 b4 t 0, some ⟨94, 1, 1, fun _ => [.ptr 0 6 0 0]⟩], [(b3, ⟨9, []⟩), (b4, ⟨9, []⟩)], 0⟩ a4 w4 := by
     refine (ent_ks [0, 1] (by simp) (by simp [npR]) (by simp) (by simp) ?_ ?_ ?_ : Ent _ _) _ _ _ _ _ _ h4
     ·simp [MapsLe, npR, lkm, h13, h14, h34, Ne.symm h13, Ne.symm h14, Ne.symm h34]
     ·simp [go_sem, npR]
     ·simp [go_sem, pOb, npR]
      exact fun i c _ h => tokClosed t i c h
    obtain ⟨bp, _, _, hbp, hp5⟩ := rep_ptr (h5.tm 5)
    have h6 : RelH 50 ⟨Tryz.prog, Sh w hd0 [] [(b1, ⟨151, esA⟩)], hd0, []⟩ w hd5 (npS b1 b2 b3 b4 bp bi t ⟨[], fun _ => 0, [], [], #[]⟩) a4 w4 := h5.tell 50 fun i hi => by
     have e0 : i = 0 := by simp at hi; omega
     subst e0
     have := h5.tm 5
     rw [hp5] at this
     exact this
    refine wp_block (wp_loop_of (ι := NP) (fun x a w' => ∃ hd, RelH 50 ⟨Tryz.prog, Sh w hd0 [] [(b1, ⟨151, esA⟩)], hd0, []⟩ w hd (npS b1 b2 b3 b4 bp bi t x) a w' ∧ w'.heap[b1]? = some (.map es clock) ∧ (∃ c0, clock ≤ c0 ∧ w'.heap[bi]? = some (.mapIter (some b1) clock x.seen c0)) ∧ NPInv l es bp x) (fun x => (leftOf es x.seen).size) (fun x a w' hI => ?_) (i := ⟨[], fun _ => 0, [], [], #[]⟩) ⟨hd5, h6, hes4, ⟨clock, Nat.le_refl _, hit4⟩, fun e he hs => by simp at hs⟩)
    obtain ⟨hd7, h7, hes7, ⟨c0, hc0, hit7⟩, hinv⟩ := hI
    refine wp_seq (wp_region_list ?_)
    have e16 : a.eval (.tmp 16) = .pointer (some ⟨bi, 0, none⟩) := (h7.ev_ (.tmp 16)).val_ rfl
    rcases run_next_at (P := Tryz.prog) w' 0 bi b1 clock c0 x.seen es clock hit7 hes7 hmi.young hc0 with ⟨hleft, hrun⟩ | ⟨e, he, w8, hw8, hrun⟩
    ·refine wpList_run (v := .tuple #[.bool false]) (w' := w') rfl ?_ ?_
     ·unfold execOp
      simp only [e16]
      exact run_v hrun
     ·have h8 := h7.put (t := 17) (by omega) (av := .tup [.lit (.bool false)]) (v := .tuple #[.bool false]) (.tup _ [.bool false] rfl fun j a q g1 g2 => by
       rcases j with _ | j
       ·simp at g1 g2; subst g1; subst g2; exact .lit _
       ·simp at g1)
      have e17 : (a.put (some 17) (.tuple #[.bool false])).eval (.tmp 17) = .tuple #[.bool false] := by
       show (a.put (some 17) (.tuple #[.bool false])).tmps.getD 17 undef = _
       rw [put_getD _ _ _ (by rw [h7.size]; omega), if_pos rfl]
      refine wpList_run (v := .bool false) (w' := w') rfl (by unfold execOp; simp only [e17]; exact run_v (by simp [Instr.extract])) ?_
      have h9 := h8.put (t := 18) (by omega) (av := .lit (.bool false)) (v := .bool false) (.lit _)
      simp only [wpList, Exit.then]
      refine wp_seq (wp_cond_false ((h9.ev_ (.tmp 18)).val_ rfl) (wp_exit ?_))
      simp only [Exit.then, Exit.inBlock, if_true]
      refine vc_keep h9 rfl (fun b => b = b1) (fun b hb => by subst hb; exact (Array.getElem?_eq_some_iff.1 hes7).1) (fun b hb mp => by subst hb; simp [npS, lkm, Ne.symm h13, Ne.symm h14]) (fun b hb k ob hk => by subst hb; exact h9.own_ne hes7 (by simp) k ob hk) (K := fun e s => e = .ret ∧ s = { npS b1 b2 b3 b4 bp bi t x with tmps := (4, .ptr 0 6 0 0) :: (49, .ptr 0 6 0 0) :: (18, .lit (.bool false)) :: (17, .tup [.lit (.bool false)]) :: (npS b1 b2 b3 b4 bp bi t x).tmps }) (by simp only [npS, pOb]; simp [go_sem]) fun y hd10 s10 a10 w10 h10 hb10 hk10 => ?_
      obtain ⟨rfl, rfl⟩ := hk10
      have h11 : RelH 50 ⟨Tryz.prog, Sh w hd0 [] [(b1, ⟨151, esA⟩)], hd0, []⟩ w hd10 { npS b1 b2 b3 b4 bp bi t x with tmps := (4, .ptr 0 6 0 0) :: (npS b1 b2 b3 b4 bp bi t x).tmps } a10 w10 := by
       refine ⟨h10.defers, h10.size, h10.below, h10.le, h10.fixl, h10.fix, h10.mp, fun u => ?_, h10.me⟩
       have := h10.tm u
       simp only [lk] at this ⊢
       by_cases e4 : 4 = u
       ·rw [if_pos e4] at this ⊢; exact this
       ·rw [if_neg e4] at this ⊢
        by_cases e49 : 49 = u
        ·subst e49; exact .undef _
        ·rw [if_neg e49] at this
         by_cases e18 : 18 = u
         ·subst e18; exact .undef _
         ·rw [if_neg e18] at this
          by_cases e17 : 17 = u
          ·subst e17; exact .undef _
          ·rw [if_neg e17] at this; exact this
      obtain ⟨v, q1, q2⟩ := np_end ⟨h13, h14, h34⟩ h11 ((hb10 b1 rfl).trans hes7) hmi (np_all hu hok hw hat hmi hinv hleft)
      exact ⟨h10.defers, v, q1, hR v w10 q2⟩
    ·obtain ⟨he1, he2⟩ := mem_left he
     obtain ⟨j, hj, hkey, hval⟩ : ∃ j, j < l.length ∧ e.key = placeV (opAt l j) ∧ e.val = opV (opAt l j) := by
      have heq : es.toList.map (fun e => (e.key, e.val)) = esA := hmi.eq
      have hmem : (e.key, e.val) ∈ esA := by rw [← heq]; exact List.mem_map.2 ⟨e, he1, rfl⟩
      obtain ⟨q, hq⟩ := List.getElem?_of_mem hmem
      have hg : mget esA e.key = some e.val := mget_at hq (pair_first hmi.apart hq)
      exact hat.2 _ _ hg
     have hne : b1 ≠ bi := by omega
     have hinv' := fun b7 => np_next (b7 := b7) hu hmi hinv he1 hj hval
     have hko : (opAt l j).kind = 1 ∨ (opAt l j).kind = 2 ∨ (opAt l j).kind = 3 := by
      have := hok j hj
      simp [opOk] at this; omega
     have hzo : (opAt l j).text.size ≤ maxLen := hw j hj
     generalize ho : opAt l j = o at *
     have h8 : RelH 50 ⟨Tryz.prog, Sh w hd0 [] [(b1, ⟨151, esA⟩)], hd0, []⟩ w hd7 (npS b1 b2 b3 b4 bp bi t x) a w8 := by
      rcases hw8 with rfl | rfl
      ·exact h7
      ·exact h7.grown ⟨rfl, rfl, rfl, Nat.le_refl _, fun _ _ _ => rfl⟩
     have hp8 : w8.heap = w'.heap := by rcases hw8 with rfl | rfl <;> rfl
     have h9 := h8.iterTurn (b := bi) (o := .mapIter (some b1) clock x.seen c0) (by rw [hp8]; exact hit7) (by simp) (by simp) (fun ad u e hc => by
      unfold World.cell? at hc
      rw [e, hp8, hit7] at hc
      simp at hc) hbi (.mapIter (some b1) clock (x.seen.push e.born) clock)
     have hes9 : (setBlock w8 bi (.mapIter (some b1) clock (x.seen.push e.born) clock)).heap[b1]? = some (.map es clock) := by
      simp only [setBlock]
      rw [Array.getElem?_setIfInBounds_ne (fun e => hne e.symm), hp8]; exact hes7
     have hit9 : (setBlock w8 bi (.mapIter (some b1) clock (x.seen.push e.born) clock)).heap[bi]? = some (.mapIter (some b1) clock (x.seen.push e.born) clock) := by
      have : bi < w8.heap.size := by rw [hp8]; exact (Array.getElem?_eq_some_iff.1 hit7).1
      simp [setBlock, this]
     refine wpList_run (v := .tuple #[.bool true, e.key, e.val]) (w' := setBlock w8 bi (.mapIter (some b1) clock (x.seen.push e.born) clock)) rfl ?_ ?_
     ·unfold execOp
      simp only [e16]
      exact run_v hrun
     ·generalize setBlock w8 bi (.mapIter (some b1) clock (x.seen.push e.born) clock) = w9 at *
      have h10 := h9.put (t := 17) (by omega) (.undef (.tuple #[.bool true, e.key, e.val]))
      have e17 : (a.put (some 17) (.tuple #[.bool true, e.key, e.val])).eval (.tmp 17) = .tuple #[.bool true, e.key, e.val] := by
       show (a.put (some 17) _).tmps.getD 17 undef = _
       rw [put_getD _ _ _ (by rw [h7.size]; omega), if_pos rfl]
      refine wpList_run (v := .bool true) (w' := w9) rfl (by unfold execOp; simp only [e17]; exact run_v (by simp [Instr.extract])) ?_
      have h11 := h10.put (t := 18) (by omega) (av := .lit (.bool true)) (v := .bool true) (.lit _)
      simp only [wpList, Exit.then]
      refine wp_seq (wp_cond_true ((h11.ev_ (.tmp 18)).val_ rfl) (wp_skip ?_))
      generalize ((a.put (some 17) (.tuple #[.bool true, e.key, e.val])).put (some 18) (.bool true)) = a11 at *
      simp only [Exit.then]
      refine wp_block (wp_seq (wp_region_list ?_))
      have hrun2 := run_entry_at (P := Tryz.prog) w9 bi b1 clock x.seen es clock e hit9 hes9 he1 hmi.born
      have e16b : a11.eval (.tmp 16) = .pointer (some ⟨bi, 0, none⟩) := (h11.ev_ (.tmp 16)).val_ rfl
      refine wpList_run (v := .tuple #[e.key, e.val]) (w' := w9) rfl (by unfold execOp; simp only [e16b]; exact run_v hrun2) ?_
      have h12 := h11.put (t := 19) (by omega) (.undef (.tuple #[e.key, e.val]))
      have e19 : (a11.put (some 19) (.tuple #[e.key, e.val])).eval (.tmp 19) = .tuple #[e.key, e.val] := by
       show (a11.put (some 19) _).tmps.getD 19 undef = _
       rw [put_getD _ _ _ (by rw [h11.size]; omega), if_pos rfl]
      refine wpList_run (v := e.val) (w' := w9) rfl (by unfold execOp; simp only [e19]; exact run_v (by simp [Instr.extract])) ?_
      have h13' := h12.put (t := 20) (by omega) (av := .agg o.cells) (v := e.val) (by
       rw [hval]
       exact .agg _ [.string o.text, .int .i64 o.kind, .int .i64 o.level, .int .i64 o.side] rfl fun j a q g1 g2 => by
        rcases j with _ | _ | _ | _ | j <;> simp [POp.cells] at g1 g2 <;> subst g1 <;> subst g2 <;> exact .lit _)
      generalize ((a11.put (some 19) (.tuple #[e.key, e.val])).put (some 20) e.val) = a13 at *
      have tail3 : ∀ {s : VS} {a : Act} {w2 : World} {hd : Nat → Value}, RelH 50 ⟨Tryz.prog, Sh w hd0 [] [(b1, ⟨151, esA⟩)], hd0, []⟩ w hd s a w2 → w2.heap[b1]? = some (.map es clock) → w2.heap[bi]? = some (.mapIter (some b1) clock (x.seen.push e.born) clock) → (∀ mp, lkm s.maps b1 ≠ some mp) → (∀ b, b = b1 ∨ b = bi → b < w2.heap.size) ∧ (∀ b, b = b1 ∨ b = bi → ∀ mp, lkm s.maps b ≠ some mp) ∧ (∀ b, b = b1 ∨ b = bi → ∀ k ob, s.mem[k]? = some (some ob) → (hd k).ownBlock ≠ some b) := fun h g1 g2 g3 => by
       refine ⟨fun b hb => ?_, fun b hb mp hq => ?_, fun b hb => ?_⟩
       ·rcases hb with rfl | rfl
        ·exact (Array.getElem?_eq_some_iff.1 g1).1
        ·exact (Array.getElem?_eq_some_iff.1 g2).1
       ·rcases hb with rfl | rfl
        ·exact g3 mp hq
        ·obtain ⟨_, es', clock', h3, _⟩ := h.mp _ mp hq
         rw [g2] at h3; simp at h3
       ·rcases hb with rfl | rfl
        ·exact h.own_ne g1 (by simp)
        ·exact h.own_ne g2 (by simp)
      obtain ⟨p1, p2, p3⟩ := tail3 h13' hes9 hit9 (fun mp => by simp [npS, lkm, Ne.symm h13, Ne.symm h14])
      refine wpList_keep h13' rfl (fun b => b = b1 ∨ b = bi) p1 p2 p3 rfl (k := fun s => s = ⟨(7, .ptr 2 4 0 0) :: (20, .agg o.cells) :: (19, .undef) :: (18, .lit (.bool true)) :: (17, .undef) :: (npS b1 b2 b3 b4 bp bi t x).tmps, (npS b1 b2 b3 b4 bp bi t x).mem ++ [some ⟨133, 4, 1, fun _ => zeroOp⟩], (npS b1 b2 b3 b4 bp bi t x).maps, 0⟩) (by simp only [npS, pOb]; simp [go_sem, zeroOp]) fun hd14 s14 a14 w14 h14' hb14 hk14 => ?_
      subst hk14
      obtain ⟨p4, p5, p6⟩ := tail3 h14' ((hb14 b1 (.inl rfl)).trans hes9) ((hb14 bi (.inr rfl)).trans hit9) (fun mp => by simp [npS, lkm, Ne.symm h13, Ne.symm h14])
      refine wpList_keep h14' rfl (fun b => b = b1 ∨ b = bi) p4 p5 p6 rfl (k := fun s => s = ⟨(7, .ptr 2 4 0 0) :: (20, .agg o.cells) :: (19, .undef) :: (18, .lit (.bool true)) :: (17, .undef) :: (npS b1 b2 b3 b4 bp bi t x).tmps, (npS b1 b2 b3 b4 bp bi t x).mem ++ [some ⟨133, 4, 1, fun _ => o.cells⟩], (npS b1 b2 b3 b4 bp bi t x).maps, 0⟩) (by simp only [npS, pOb, POp.cells, zeroOp]; simp [go_sem]) fun hd15 s15 a15 w15 h15 hb15 hk15 => ?_
      subst hk15
      simp only [wpList, Exit.then]
      obtain ⟨b7, _, _, hb7, hp7⟩ := rep_ptr (h15.tm 7)
      have hes15 : w15.heap[b1]? = some (.map es clock) := ((hb15 b1 (.inl rfl)).trans (hb14 b1 (.inl rfl))).trans hes9
      have hit15 : w15.heap[bi]? = some (.mapIter (some b1) clock (x.seen.push e.born) clock) := ((hb15 bi (.inr rfl)).trans (hb14 bi (.inr rfl))).trans hit9
      have h16 := h15.tell 50 (N := x.lo.length + 2) (vs := vsP bp fun j => if j = x.lo.length then b7 else x.bo j) («as» := fun i => if i = x.lo.length + 1 then .ptr 2 4 0 0 else asN x.lo i) (fun i hi => by
       by_cases hq : i = x.lo.length + 1
       ·subst hq
        have := h15.tm 7
        rw [hp7] at this
        simp only [if_true, vsP]
        exact this
       ·simp only [if_neg hq]
        have := h15.told (t := 50) (i := i) rfl (by omega)
        cases i with
        | zero => exact this
        | succ j => simp only [vsP, if_neg (show j ≠ x.lo.length by omega)]; exact this)
      obtain ⟨p7, p8, p9⟩ := tail3 h16 hes15 hit15 (fun mp => by simp [npS, lkm, Ne.symm h13, Ne.symm h14])
      refine vc_keep h16 rfl (fun b => b = b1 ∨ b = bi) p7 p8 p9 (K := fun e' s => e' = .normal ∧ Ent s ⟨[(50, .fam (x.lo.length + 2) (vsP bp fun j => if j = x.lo.length then b7 else x.bo j) (fun i => if i = x.lo.length + 1 then .ptr 2 4 0 0 else asN x.lo i)), (5, .ptr 1 1 0 0), (16, .lit (.pointer (some ⟨bi, 0, none⟩)))], [pOb b1 b2 b3 b4 t 0, some ⟨94, 1, 1, fun _ => [.ptr 0 6 0 0]⟩, some ⟨133, 4, 1, fun _ => o.cells⟩], [(b3, ⟨9, (npNext bp b7 x o e.born).esN⟩), (b4, ⟨9, (npNext bp b7 x o e.born).esL⟩)], 0⟩) ?_ fun y hd17 s17 a17 w17 h17 hb17 hk17 => ?_
      ·simp only [npS, pOb, POp.cells]
       rcases hko with hk1 | hk1 | hk1
       ·simp [go_sem, hk1]
        refine vc_drawn [7] (.q 0 <| .q 1 <| .q 2 <| .q 3 <| .q 4 <| .q 5 <| .q 6 <| .or 7 (.done) (.nil)) (by kernel_rfl) ?_
        simp [go_sem]
        refine vmkfun_use [.pointer (some ⟨bp, 0, none⟩), .pointer (some ⟨b7, 0, none⟩)] ⟨capIs_told 50 0 rfl (by omega) rfl (by simp [asN]) rfl, capIs_told 50 (x.lo.length + 1) rfl (by omega) (by simp [vsP]) (by simp) rfl, trivial⟩ ?_
        simp [go_sem, h34]
        refine vmsetK_use keyedString (keyString hzo) ?_
        simp [go_sem]
        refine ent_ks [0, 1, 2] (by simp) (by simp) (by simp) (by simp) ?_ ?_ ?_
        ·simp [MapsLe, lkm, h34, Ne.symm h34, npNext, hk1]
        ·simp [go_sem]
         exact .fam _ _ _ _ fun i hi => by
          by_cases hq : i = x.lo.length + 1
          ·simp only [if_pos hq]; exact .ptr 2 4 0 0 (by omega)
          ·simp only [if_neg hq]
           cases i with
           | zero => exact .ptr 1 1 0 0 (by omega)
           | succ j => exact .closed _ (.bptr _ fun c hc => by
             simp [POp.cells] at hc
             rcases hc with rfl | rfl | rfl | rfl <;> exact .lit _)
        ·simp [go_sem]
         exact fun i c _ h => tokClosed t i c h
       ·simp [go_sem, hk1]
        refine vc_drawn [7] (.q 0 <| .q 1 <| .q 2 <| .q 3 <| .q 4 <| .q 5 <| .q 6 <| .or 7 (.done) (.nil)) (by kernel_rfl) ?_
        simp [go_sem]
        refine vmkfun_use [.pointer (some ⟨bp, 0, none⟩)] ⟨capIs_told 50 0 rfl (by omega) rfl (by simp [asN]) rfl, trivial⟩ ?_
        simp [go_sem, h34, Ne.symm h34]
        refine vmsetK_use keyedString (keyString hzo) ?_
        simp [go_sem]
        refine ent_ks [0, 1, 2] (by simp) (by simp) (by simp) (by simp) ?_ ?_ ?_
        ·simp [MapsLe, lkm, h34, Ne.symm h34, npNext, hk1]
        ·simp [go_sem]
         exact .fam _ _ _ _ fun i hi => by
          by_cases hq : i = x.lo.length + 1
          ·simp only [if_pos hq]; exact .ptr 2 4 0 0 (by omega)
          ·simp only [if_neg hq]
           cases i with
           | zero => exact .ptr 1 1 0 0 (by omega)
           | succ j => exact .closed _ (.bptr _ fun c hc => by
             simp [POp.cells] at hc
             rcases hc with rfl | rfl | rfl | rfl <;> exact .lit _)
        ·simp [go_sem]
         exact fun i c _ h => tokClosed t i c h
       ·simp [go_sem, hk1]
        refine vc_drawn [6] (.q 0 <| .q 1 <| .q 2 <| .q 3 <| .q 4 <| .q 5 <| .or 6 (.done) (.nil)) (by kernel_rfl) ?_
        simp [go_sem, h34, Ne.symm h34]
        refine vmsetK_use keyedString (keyString hzo) ?_
        simp [go_sem]
        refine ent_ks [0, 1, 2] (by simp) (by simp) (by simp) (by simp) ?_ ?_ ?_
        ·simp [MapsLe, lkm, h34, Ne.symm h34, npNext, hk1]
        ·simp [go_sem]
         exact .fam _ _ _ _ fun i hi => by
          by_cases hq : i = x.lo.length + 1
          ·simp only [if_pos hq]; exact .ptr 2 4 0 0 (by omega)
          ·simp only [if_neg hq]
           cases i with
           | zero => exact .ptr 1 1 0 0 (by omega)
           | succ j => exact .closed _ (.bptr _ fun c hc => by
             simp [POp.cells] at hc
             rcases hc with rfl | rfl | rfl | rfl <;> exact .lit _)
        ·simp [go_sem]
         exact fun i c _ h => tokClosed t i c h
      ·obtain ⟨rfl, hent⟩ := hk17
       obtain ⟨hd18, h18⟩ := hent _ _ _ _ _ _ h17
       simp only [VX.out, Exit.inBlock, Exit.then]
       have fo := h18.freed (k := 2) (ob := ⟨133, 4, 1, fun _ => o.cells⟩) (v := .pointer (some ⟨b7, 0, none⟩)) rfl (by simp) (by
        have := h18.told (t := 50) (i := x.lo.length + 1) rfl (by omega)
        simp only [if_true, vsP] at this
        exact this)
       have h19 := (h18.free 2).tell 50 (N := x.lo.length + 2) (vs := vsP bp fun j => if j = x.lo.length then b7 else x.bo j) («as» := asN (x.lo ++ [o])) (fun i hi => by
        by_cases hq : i = x.lo.length + 1
        ·subst hq
         simp only [asN, opAt_last, vsP, if_true]
         exact fo
        ·have := (h18.free 2).told (t := 50) (i := i) rfl (by omega)
         simp only [if_neg hq] at this
         cases i with
         | zero => exact this
         | succ j =>
          simp only [asN] at this ⊢
          rw [opAt_snoc (by omega)]; exact this)
       obtain ⟨hd20, h20⟩ : ∃ hd, RelH 50 ⟨Tryz.prog, Sh w hd0 [] [(b1, ⟨151, esA⟩)], hd0, []⟩ w hd (npS b1 b2 b3 b4 bp bi t (npNext bp b7 x o e.born)) a17 w17 := by
        refine (ent_ks [0, 1] (by simp) (by simp) (by simp) (by simp) ?_ ?_ ?_ : Ent _ _) _ _ _ _ _ _ h19
        ·simp [MapsLe, lkm, h34, Ne.symm h34]
        ·simp [go_sem, npNext]
         exact .fam _ _ _ _ fun i hi => by
          cases i with
          | zero => exact .ptr 1 1 0 0 (by omega)
          | succ j => exact .closed _ (.bptr _ fun c hc => by
            simp [POp.cells] at hc
            rcases hc with rfl | rfl | rfl | rfl <;> exact .lit _)
        ·simp [go_sem, pOb]
         exact fun i c _ h => tokClosed t i c h
       exact ⟨npNext bp b7 x o e.born, ⟨hd20, h20, (hb17 b1 (.inl rfl)).trans hes15, ⟨clock, Nat.le_refl _, (hb17 bi (.inr rfl)).trans hit15⟩, hinv' b7⟩, left_shrinks es x.seen e he⟩
theorem c_newParser (l : List POp) (t : List PTok) (b1 b2 : Nat) (esA : List (Value × Value)) (hu : Uniq l) (hok : ∀ j, j < l.length → opOk (opAt l j) = true) (hw : opsWf l) (hat : AtIs l l.length esA) :
  VProcT Tryz.prog 51 [.agg [.lit (.map (some b1)), .lit (.map (some b2))], .sl 3 t.length (tokCells t)] [] [(b1, ⟨151, esA⟩)] (npR2 l t b1 b2 esA) :=
 ⟨⟨_, Tryz.func51, by kernel_rfl, rfl⟩, fun w vs hd0 hlen hrep hm hmp htl => np_start l t b1 b2 esA hlen hrep hm hmp htl hu hok hw hat _ fun v w' h => ⟨v, rfl, h⟩⟩
end Go.Proofs.YtjdmmhcogmepaaaGreatDoor.V
namespace Go.Proofs.YtjdmmhcogmepaaaGreatDoor.V
open Go.RowKit
set_option linter.unusedVariables false
set_option linter.unusedSimpArgs false
set_option linter.constructorNameAsVariable false
structure PNode where
 text : ByteArray
 kind : Int
 a : Int
 b : Int
def PNode.cells (o : PNode) : List AV := [.lit (.int .i64 o.kind), .lit (.string o.text), .lit (.int .i64 o.a), .lit (.int .i64 o.b)]
def PNode.wf (o : PNode) : Prop := o.text.size ≤ maxLen
instance : Inhabited PNode := ⟨⟨⟨#[]⟩, 0, 0, 0⟩⟩
def nodCells (l : List PNode) (i : Nat) : List AV := (l.getD i default).cells
theorem nodClosed (l : List PNode) (i : Nat) (c : AV) (h : c ∈ nodCells l i) : Closed c := by
 simp [nodCells, PNode.cells] at h
 rcases h with rfl | rfl | rfl | rfl <;> exact .lit _
theorem nodLit (l : List PNode) (i : Nat) : (nodCells l i).all isLit = true := rfl
def nodAt (l : List PNode) (i : Nat) : PNode := l.getD i default
theorem nodCells_at (l : List PNode) (i : Nat) : nodCells l i = [.lit (.int .i64 (nodAt l i).kind), .lit (.string (nodAt l i).text), .lit (.int .i64 (nodAt l i).a), .lit (.int .i64 (nodAt l i).b)] := rfl
@[go_sem] theorem nodCells_ren {g : Nat → Nat} {l : List PNode} {i : Nat} : (nodCells l i).map (ren1 g) = nodCells l i := map_lits rfl
end Go.Proofs.YtjdmmhcogmepaaaGreatDoor.V
namespace Go.Proofs.YtjdmmhcogmepaaaGreatDoor.V
open Go.RowKit
set_option linter.unusedVariables false
set_option linter.unusedSimpArgs false
set_option linter.constructorNameAsVariable false
theorem vfun_below {P : Program} {f : FuncId} {vs : List Value} {v : Value} (hf : FnOk P f) (h : ∀ w, Calls P f vs.toArray w fun e w' => e = .returned v ∧ Below w.heap.size w w') : VFun P f (vs.map .lit) (fun av obs => obs = [] ∧ av = .lit v) := by
 refine ⟨hf, fun w us hl hu => ?_⟩
 have e : us = vs := by
  have hl' : vs.length = us.length := by simpa using hl
  apply List.ext_getElem hl'.symm
  intro j h1 h2
  have := hu j (.lit vs[j]) us[j] (by simp [h2]) (List.getElem?_eq_getElem h1)
  generalize us[j] = x at this
  generalize vs[j] = y at this
  cases this
  rfl
 subst e
 refine (h w).mono fun e w' ⟨he, hw⟩ => ?_
 subst he
 exact ⟨v, rfl, ⟨hw.os, hw.tape, hw.output, hw.size, fun k hk _ => hw.block k hk⟩, fun _ => undef, .lit v, [], ⟨rfl, rfl⟩, rfl, fun ob h => by simp at h, ⟨fun k ob h => by simp at h, fun k ob h => by simp at h, fun k h => by simp at h, fun k k' ob ob' h => by simp at h⟩, .lit v⟩
def digitBytes : ByteArray := { data := #[48, 49, 50, 51, 52, 53, 54, 55, 56, 57] }
theorem contains_digit (b : UInt8) : digitBytes.data.toList.contains b = isDg b.toNat := by
 revert b
 have h : (List.range 256).all (fun n => digitBytes.data.toList.contains n.toUInt8 == isDg n) = true := by kernel_rfl
 intro b
 have := List.all_eq_true.mp h b.toNat (List.mem_range.mpr b.toNat_lt)
 simpa using this
theorem dropWhile_all {α : Type} {p : α → Bool} {l : List α} : l.dropWhile p = [] ↔ ∀ x, x ∈ l → p x = true := by
 induction l with
 | nil => simp
 | cons a l ih =>
  rw [List.dropWhile_cons]
  split
  ·rename_i h; simp [ih, h]
  ·rename_i h; simp [h]
theorem trim_nil {l cs : List UInt8} : Lib.trimS l cs = [] ↔ ∀ x, x ∈ l → cs.contains x = true := by
 unfold Lib.trimS Lib.trimLeftS
 rw [dropWhile_all]
 unfold Lib.trimRightS
 constructor
 ·intro h x hx
  have hd : l = (l.reverse.dropWhile (cs.contains ·)).reverse ++ (l.reverse.takeWhile (cs.contains ·)).reverse := by
   rw [← List.reverse_append, List.takeWhile_append_dropWhile, List.reverse_reverse]
  rw [hd, List.mem_append] at hx
  rcases hx with hx | hx
  ·exact h x hx
  ·rw [List.mem_reverse] at hx
   exact List.all_eq_true.mp (List.all_takeWhile (p := (cs.contains ·)) (l := l.reverse)) x hx
 ·intro h x hx
  rw [List.mem_reverse] at hx
  exact h x (List.mem_reverse.mp ((List.dropWhile_sublist _).subset hx))
def trimDg (z : ByteArray) : ByteArray := ⟨(Lib.trimS z.data.toList digitBytes.data.toList).toArray⟩
theorem trimDg_num (z : ByteArray) (h : 0 < z.size) : decide (trimDg z = ⟨#[]⟩) = numZ z := by
 have e : trimDg z = ⟨#[]⟩ ↔ ∀ i, i < z.size → isDg (byteAt z i) = true := by
  unfold trimDg
  rw [ByteArray.mk.injEq, Array.mk.injEq, trim_nil]
  simp only [contains_digit]
  constructor
  ·intro h i hi
   have := h (z.data.toList[i]'hi) (List.getElem_mem _)
   unfold byteAt
   rw [dif_pos hi]
   exact this
  ·intro h x hx
   obtain ⟨i, hi, rfl⟩ := List.getElem_of_mem hx
   have := h i hi
   unfold byteAt at this
   rw [dif_pos (show i < z.size from hi)] at this
   exact this
 rw [Bool.eq_iff_iff, decide_eq_true_eq, e]
 simp only [numZ, h, decide_true, Bool.and_true, List.all_eq_true, List.mem_range]
theorem c_trim (z : ByteArray) (hz : z.size ≤ 9223372036854775807) : VFun Tryz.prog 121 [.lit (.string z), .lit (.string digitBytes)] (fun av obs => obs = [] ∧ av = .lit (.string (trimDg z))) :=
 vfun_below (vs := [.string z, .string digitBytes]) ⟨_, Tryz.func121, rfl, rfl⟩ (fun w => Any.strings_Trim_laid Tryz.lays160 (by kernel_rfl) z digitBytes w hz (by decide) (ascii_of_all (by decide)))
theorem ba_nil {z : ByteArray} : z.toList = [] ↔ z.size = 0 := by
 rw [ByteArray.toList_eq]
 constructor
 ·intro h
  show z.data.size = 0
  rw [← Array.length_toList, h]; rfl
 ·intro h
  apply List.eq_nil_of_length_eq_zero
  rw [Array.length_toList]; exact h
theorem ba_empty {z : ByteArray} : z.toList.isEmpty = decide (z = ⟨#[]⟩) := by
 rw [Bool.eq_iff_iff, List.isEmpty_iff, decide_eq_true_iff, ba_nil]
 constructor
 ·intro h
  exact ByteArray.ext (Array.eq_empty_of_size_eq_zero h)
 ·intro h
  rw [h]; rfl
theorem c_nameOk (z : ByteArray) (hz : z.size ≤ 9223372036854775807) : VFun Tryz.prog 122 [.lit (.string z)] (fun av obs => obs = [] ∧ av = .lit (.bool (namZ z))) := by
 refine vfun_start Tryz.func122 (by kernel_rfl) rfl (by simp [Tryz.ntmps122]) ?_; simp only [Tryz.ntmps122, Tryz.results122]; simp [go_sem]
 have emp : z.toList = [] → namZ z = false := fun h => by simp [namZ, ba_nil.mp h]
 refine ⟨fun h0 => ⟨by have := mt ba_nil.mpr h0; omega, vcall_pure (c_isLetter (byteAt z 0)) ?_ ?_⟩, emp⟩
 ·simp [go_sem]
 ·have hp : 0 < z.size := by have := mt ba_nil.mpr h0; omega
  simp [go_sem]
  refine ⟨fun e => by simp only [namZ, all_false (p := fun i => namAt z i) hp (by simp [namAt, e]), Bool.false_and], fun e => ?_⟩
  refine vc_loop (fun i : Nat => i ≤ z.size ∧ ∀ j, j < i → namAt z j = true) (fun i => z.size - i) (fun i => .of [(0, .lit (.string z)), (13, .lit (.int .i64 z.size)), (14, .lit (.int .i64 i))] []) ⟨0, ⟨by omega, by simp⟩, ?_⟩ (fun i hi => ?_)
  ·simp [go_sem]
  ·simp [go_sem]
   have bad : i < z.size → namAt z i = false → namZ z = false := fun h e => by simp only [namZ, all_false (p := fun i => namAt z i) h e, Bool.false_and]
   have step : i < z.size → namAt z i = true → ∃ j : Nat, (j ≤ z.size ∧ ∀ q, q < j → namAt z q = true) ∧ z.size - j < z.size - i ∧ IntKind.i64.wrap ((i : Int) + 1) = j := fun hl e => ⟨i + 1, ⟨by omega, fun j hj => by
    rcases Nat.lt_succ_iff_lt_or_eq.mp hj with hj | rfl
    ·exact hi.2 j hj
    ·exact e⟩, by omega, wrap_succ (by omega)⟩
   refine ⟨fun h => ⟨h, vcall_pure (c_isLetter (byteAt z i)) ?_ ?_⟩, fun h => by simp only [namZ, all_true (p := fun i => namAt z i) (n := z.size) fun j hj => hi.2 j (by omega), Bool.true_and, hp, decide_true]⟩
   ·simp [go_sem]
   ·simp [go_sem]
    refine ⟨fun e1 => ⟨h, vcall_pure (c_isDigit (byteAt z i)) ?_ ?_⟩, fun e1 => step h (by simp [namAt, e1])⟩
    ·simp [go_sem]
    ·have h0 : i ≠ 0 := fun hz => by subst hz; rw [e] at e1; cases e1
     simp [go_sem]
     exact ⟨fun e2 => bad h (by simp [namAt, e1, e2]), fun e2 => step h (by simp [namAt, e1, e2, h0])⟩
def kidsN (k : Int) : Int := if k = 4 then 2 else if k = 3 ∨ k = 5 ∨ k = 6 then 1 else 0
theorem c_l3Kids (k : Int) : VFun Tryz.prog 58 [.lit (.int .i64 k)] (fun av obs => obs = [] ∧ av = .lit (.int .i64 (kidsN k))) := by
 refine vfun_start Tryz.func58 (by kernel_rfl) rfl (by simp [Tryz.ntmps58]) ?_; simp only [Tryz.ntmps58, Tryz.results58]; simp [go_sem]
 by_cases h1 : k = 4
 ·simp [kidsN, h1]
 ·by_cases h2 : k = 3 <;> by_cases h3 : k = 5 <;> by_cases h4 : k = 6 <;> simp [kidsN, h1, h2, h3, h4]
theorem c_kids (o : PNode) (h : 1 ≤ o.kind ∧ o.kind ≤ 6) : VFun Tryz.prog 62 [.agg o.cells] (fun av obs => obs = [] ∧ av = .lit (.int .i64 (kidsN o.kind))) := by
 obtain ⟨z, k, x, y⟩ := o
 simp only [PNode.cells] at h ⊢
 refine vfun_start Tryz.func62 (by kernel_rfl) rfl (by simp [Tryz.ntmps62]) ?_; simp only [Tryz.ntmps62, Tryz.results62]; simp [go_sem]
 have hk : k = 1 ∨ k = 2 ∨ k = 3 ∨ k = 4 ∨ k = 5 ∨ k = 6 := by omega
 rcases hk with rfl | rfl | rfl | rfl | rfl | rfl <;> simp [kidsN]
def txtOk (o : PNode) : Bool := decide (o.text.size ≤ 20000) && (if o.kind = 1 then numZ o.text else if o.kind = 2 then namZ o.text else if o.kind = 6 then decide (o.text = ⟨#[]⟩) else decide (3 ≤ o.kind ∧ o.kind ≤ 5) && sgOk o.text)
theorem c_l3TextOk (o : PNode) (ho : o.wf) : VFun Tryz.prog 119 [.agg o.cells] (fun av obs => obs = [] ∧ av = .lit (.bool (txtOk o))) := by
 obtain ⟨z, k, x, y⟩ := o
 simp only [PNode.cells, PNode.wf, maxLen] at ho ⊢
 refine vfun_start Tryz.func119 (by kernel_rfl) rfl (by simp [Tryz.ntmps119]) ?_; simp only [Tryz.ntmps119, Tryz.results119]; simp [go_sem]
 refine ⟨fun h => by simp [txtOk]; omega, fun h => ⟨fun h1 => ?_, fun h1 => ⟨fun h2 => ?_, fun h2 => ?_⟩⟩⟩
 ·refine vcall_pure (c_l2IsNumber z (by omega)) ?_ ?_
  ·simp [go_sem]
  ·simp [go_sem, txtOk, h1]
   omega
 ·refine vcall_pure (c_l2IsName z (by omega)) ?_ ?_
  ·simp [go_sem]
  ·simp [go_sem, txtOk, h2]
   omega
 ·have hs : z.size ≤ 20000 := by omega
  refine ⟨fun h3 => by simp [txtOk, h1, h2, h3, hs, ba_empty], fun h3 => ⟨fun h4 => ⟨fun h5 => vcall_pure (c_l1Signs z (by simp only [maxLen]; omega)) ?_ ?_, fun h5 => ?_⟩, fun h4 => ?_⟩⟩
  ·simp [go_sem]
  ·simp [go_sem, txtOk, h1, h2, h3, h4, h5, hs]
  ·simp [go_sem, txtOk, h1, h2, h3, hs]
   intros; omega
  ·simp [go_sem, txtOk, h1, h2, h3, hs]
   intros; omega
theorem c_textOk (o : PNode) (ho : o.wf) : VFun Tryz.prog 89 [.agg o.cells] (fun av obs => obs = [] ∧ av = .lit (.bool (txtOk o))) := by
 obtain ⟨z, k, x, y⟩ := o
 simp only [PNode.cells, PNode.wf, maxLen] at ho ⊢
 refine vfun_start Tryz.func89 (by kernel_rfl) rfl (by simp [Tryz.ntmps89]) ?_; simp only [Tryz.ntmps89, Tryz.results89]; simp [go_sem]
 refine ⟨fun h => by simp [txtOk]; omega, fun h => ⟨fun h1 => ⟨fun h0 => ?_, fun h0 => ?_⟩, fun h1 => ⟨fun h2 => ?_, fun h2 => ?_⟩⟩⟩
 ·refine vcall_pure (c_trim z (by omega)) ?_ ?_
  ·simp [go_sem, digitBytes]
  ·simp [go_sem, txtOk, h1, ba_empty]
   rw [trimDg_num z (by have := mt ba_nil.mpr h0; omega)]
   simp [show z.size ≤ 20000 by omega]
 ·simp [txtOk, h1, numZ, ba_nil.mp h0]
 ·refine vcall_pure (c_nameOk z (by omega)) ?_ ?_
  ·simp [go_sem]
  ·simp [go_sem, txtOk, h2]
   omega
 ·have hs : z.size ≤ 20000 := by omega
  have sg := c_signsOk z (by simp only [maxLen]; omega)
  by_cases h3 : k = 3 ∨ k = 4 ∨ k = 5
  ·rcases h3 with rfl | rfl | rfl
   all_goals
    simp
    refine vcall_pure sg ?_ ?_
    ·simp [go_sem]
    ·simp [go_sem, txtOk, hs]
  ·have h4 : ¬ k = 3 := by omega
   have h5 : ¬ k = 4 := by omega
   have h6 : ¬ k = 5 := by omega
   simp [h4, h5, h6]
   refine ⟨fun h7 => by simp [txtOk, h7, hs, ba_empty], fun h7 => ?_⟩
   simp [txtOk, h1, h2, h7, hs]
   intros; omega
end Go.Proofs.YtjdmmhcogmepaaaGreatDoor.V
namespace Go.Proofs.YtjdmmhcogmepaaaGreatDoor.V
open Go.RowKit
set_option linter.unusedVariables false
set_option linter.unusedSimpArgs false
set_option linter.constructorNameAsVariable false
def fromS (l : List PNode) (n : Nat) : {f : Int // f ≤ n} :=
 if kidsN (nodAt l n).kind = 0 then (if (nodAt l n).a ≠ 0 ∨ (nodAt l n).b ≠ 0 then ⟨-1, by omega⟩ else ⟨n, by omega⟩)
 else if h0 : n = 0 then ⟨-1, by omega⟩
 else if kidsN (nodAt l n).kind = 1 then (if (nodAt l n).a ≠ (n : Int) - 1 ∨ (nodAt l n).b ≠ 0 then ⟨-1, by omega⟩ else match fromS l (n - 1) with | ⟨f, hf⟩ => ⟨f, by omega⟩)
 else if (nodAt l n).b ≠ (n : Int) - 1 then ⟨-1, by omega⟩
 else match fromS l (n - 1) with
  | ⟨f, hf⟩ => if h : f < 1 ∨ (nodAt l n).a ≠ f - 1 then ⟨-1, by omega⟩ else match fromS l (f - 1).toNat with | ⟨g, hg⟩ => ⟨g, by omega⟩
termination_by n
decreasing_by all_goals omega
def fromZ (l : List PNode) (i : Int) : Int := if i < 0 then -1 else (fromS l i.toNat).1
theorem kidsN_cases (k : Int) : kidsN k = 0 ∨ kidsN k = 1 ∨ kidsN k = 2 := by
 unfold kidsN; split <;> (try split) <;> simp
theorem fromZ_neg (l : List PNode) {i : Int} (h : i < 0) : fromZ l i = -1 := if_pos h
theorem fromZ_le (l : List PNode) {i : Int} (h : 0 ≤ i) : fromZ l i ≤ i := by
 unfold fromZ
 rw [if_neg (by omega)]
 have := (fromS l i.toNat).2
 omega
theorem fromZ_nat (l : List PNode) (n : Nat) : fromZ l n = (fromS l n).1 := by
 unfold fromZ
 rw [if_neg (by omega), Int.toNat_natCast]
theorem fromZ_eq (l : List PNode) (n : Nat) : fromZ l n = if kidsN (nodAt l n).kind = 0 then (if (nodAt l n).a ≠ 0 ∨ (nodAt l n).b ≠ 0 then -1 else (n : Int))
  else if kidsN (nodAt l n).kind = 1 then (if (nodAt l n).a ≠ (n : Int) - 1 ∨ (nodAt l n).b ≠ 0 then -1 else fromZ l ((n : Int) - 1))
  else if (nodAt l n).b ≠ (n : Int) - 1 then -1
  else if fromZ l ((n : Int) - 1) < 1 ∨ (nodAt l n).a ≠ fromZ l ((n : Int) - 1) - 1 then -1 else fromZ l (fromZ l ((n : Int) - 1) - 1) := by
 rw [fromZ_nat, fromS]
 by_cases h0 : kidsN (nodAt l n).kind = 0
 ·simp only [h0, if_true]
  split <;> rfl
 ·simp only [h0, if_false]
  by_cases hn : n = 0
  ·subst hn
   have e : fromZ l (((0 : Nat) : Int) - 1) = -1 := fromZ_neg l (by omega)
   simp only [e, dite_true]
   split
   ·split <;> rfl
   ·split
    ·rfl
    ·rw [if_pos (.inl (by omega))]
  ·have e : ((n : Nat) : Int) - 1 = (n - 1 : Nat) := by omega
   have e2 : fromZ l ((n - 1 : Nat) : Int) = (fromS l (n - 1)).1 := fromZ_nat l (n - 1)
   simp only [hn, dite_false]
   split
   ·split
    ·rfl
    ·rw [e, e2]
   ·split
    ·rfl
    ·simp only [e, e2]
     generalize fromS l (n - 1) = y
     obtain ⟨f, hf⟩ := y
     simp only
     split
     ·rfl
     ·rename_i h
      unfold fromZ
      rw [if_neg (by omega)]
theorem fromZ_ge (l : List PNode) (i : Int) : -1 ≤ fromZ l i := by
 have key : ∀ (g : Nat) (i : Int), i < g → -1 ≤ fromZ l i := by
  intro g
  induction g with
  | zero => intro i h; rw [fromZ_neg l (by omega)]; decide
  | succ g ih =>
   intro i h
   by_cases hi : i < 0
   ·rw [fromZ_neg l hi]; decide
   ·obtain ⟨n, rfl⟩ := Int.eq_ofNat_of_zero_le (show 0 ≤ i by omega)
    rw [fromZ_eq]
    split
    ·split <;> omega
    ·split
     ·split
      ·decide
      ·exact ih _ (by omega)
     ·split
      ·decide
      ·split
       ·decide
       ·rename_i h3
        by_cases hn : n = 0
        ·subst hn
         rw [fromZ_neg l (i := ((0 : Nat) : Int) - 1) (by omega)] at h3
         omega
        ·have := fromZ_le l (i := (n : Int) - 1) (by omega)
         exact ih _ (by omega)
 exact key (i.toNat + 1) i (by omega)
theorem fromZ_all (l : List PNode) : ∀ (n : Nat) (j : Nat), 0 ≤ fromZ l n → fromZ l n ≤ j → j ≤ n → 0 ≤ fromZ l j := by
 intro n
 induction n using Nat.strongRecOn with
 | ind n ih =>
  intro j h0 hj hn
  by_cases hjn : j = n
  ·subst hjn; exact h0
  ·rw [fromZ_eq] at h0 hj
   split at h0
   ·rename_i hk
    split at h0
    ·omega
    ·rename_i h1
     simp only [hk, if_true, if_neg h1] at hj
     omega
   ·rename_i hk
    have hn1 : ((n : Int) - 1) = ((n - 1 : Nat) : Int) := by omega
    split at h0
    ·rename_i hk1
     split at h0
     ·omega
     ·rename_i h1
      simp only [hk1, if_true, if_neg h1, if_neg (show ¬ (1 : Int) = 0 by decide)] at hj
      rw [hn1] at h0 hj
      exact ih (n - 1) (by omega) j h0 hj (by omega)
    ·rename_i hk1
     split at h0
     ·omega
     ·rename_i h1
      split at h0
      ·omega
      ·rename_i h2
       simp only [if_neg hk, if_neg hk1, if_neg h1, if_neg h2] at hj
       rw [hn1] at h0 hj h2
       have hle := fromZ_le l (i := ((n - 1 : Nat) : Int)) (by omega)
       by_cases hs : fromZ l ((n - 1 : Nat) : Int) ≤ j
       ·exact ih (n - 1) (by omega) j (by omega) hs (by omega)
       ·have e : fromZ l ((n - 1 : Nat) : Int) - 1 = ((fromZ l ((n - 1 : Nat) : Int) - 1).toNat : Int) := by omega
        rw [e] at h0 hj
        exact ih _ (by omega) j h0 hj (by omega)
def inOrd (l : List PNode) : Bool := decide (1 ≤ l.length ∧ l.length ≤ 20000) && decide (fromZ l ((l.length : Int) - 1) = 0) && (List.range l.length).all fun i => txtOk (nodAt l i)
theorem txtOk_range {o : PNode} (h : ¬ (1 ≤ o.kind ∧ o.kind ≤ 6)) : txtOk o = false := by
 have h1 : ¬ o.kind = 1 := by omega
 have h2 : ¬ o.kind = 2 := by omega
 have h3 : ¬ o.kind = 6 := by omega
 simp only [txtOk, h1, h2, h3, if_false]
 have h4 : decide (3 ≤ o.kind ∧ o.kind ≤ 5) = false := decide_eq_false (by omega)
 rw [h4]; simp
theorem c_l3From_step (l : List PNode) (hl : l.length ≤ 9223372036854775807) (i : Int) (h1 : -1 ≤ i) (h2 : i < l.length)
  (ih : ∀ j : Int, -1 ≤ j → j < i → VFun Tryz.prog 118 [.sl 4 l.length (nodCells l), .lit (.int .i64 j)] (fun av obs => obs = [] ∧ av = .lit (.int .i64 (fromZ l j)))) :
  VFun Tryz.prog 118 [.sl 4 l.length (nodCells l), .lit (.int .i64 i)] (fun av obs => obs = [] ∧ av = .lit (.int .i64 (fromZ l i))) := by
 have cl : ∀ (i : Nat) (c : AV), i < l.length → c ∈ nodCells l i → Closed c := fun i c _ h => nodClosed l i c h
 refine vfun_start Tryz.func118 (by kernel_rfl) rfl (by simp [Tryz.ntmps118]) ?_; simp only [Tryz.ntmps118, Tryz.results118]; simp [go_sem]
 refine ⟨fun h => (fromZ_neg l h).symm, fun h => ?_⟩
 obtain ⟨n, rfl⟩ := Int.eq_ofNat_of_zero_le h
 have eq := fromZ_eq l n
 have le1 : fromZ l ((n : Int) - 1) ≤ n := by
  by_cases hn : n = 0
  ·subst hn; rw [fromZ_neg l (by omega)]; decide
  ·have := fromZ_le l (i := (n : Int) - 1) (by omega)
   omega
 have le0 : 1 ≤ fromZ l ((n : Int) - 1) → fromZ l ((n : Int) - 1) ≤ (n : Int) - 1 := fun h => by
  by_cases hn : n = 0
  ·subst hn; rw [fromZ_neg l (by omega)] at h; omega
  ·exact fromZ_le l (by omega)
 have ge1 : -1 ≤ fromZ l ((n : Int) - 1) := fromZ_ge l _
 have e1 : IntKind.i64.wrap ((n : Int) - 1) = (n : Int) - 1 := wrap_i64 (by omega)
 simp [go_sem, nodCells_at]
 refine ⟨by omega, vcall_pure (c_l3Kids (nodAt l n).kind) ?_ ?_⟩
 ·simp [go_sem]
 ·simp [go_sem]
  refine ⟨fun k0 => ?_, fun k0 => vcall_pure (c_l3Kids (nodAt l n).kind) ?_ ?_⟩
  ·simp only [k0, if_true] at eq
   rw [eq]
   clear eq
   by_cases ha : (nodAt l n).a = 0 <;> by_cases hb : (nodAt l n).b = 0 <;> simp [ha, hb]
  ·simp [go_sem]
  ·simp only [k0, if_false] at eq
   simp [go_sem, e1]
   refine ⟨fun k1 => ?_, fun k1 => ?_⟩
   ·have k10 : ¬ (1 : Int) = 0 := by decide
    simp only [k1, if_true, k10, if_false] at eq
    refine ⟨fun ha => ⟨fun hb => by rw [eq, if_pos (.inr hb)], fun hb => vcall_pure (ih ((n : Int) - 1) (by omega) (by omega)) ?_ ?_⟩, fun ha => by rw [eq, if_pos (.inl ha)]⟩
    ·simp [go_sem]
     exact argSl_refl (by omega) cl
    ·simp [go_sem]
     rw [eq, if_neg (by rintro (h | h) <;> omega)]
   ·simp only [k1, if_false] at eq
    refine ⟨fun hb => by rw [eq, if_pos hb], fun hb => vcall_pure (ih ((n : Int) - 1) (by omega) (by omega)) ?_ ?_⟩
    ·simp [go_sem]
     exact argSl_refl (by omega) cl
    ·have e2 : IntKind.i64.wrap (fromZ l ((n : Int) - 1) - 1) = fromZ l ((n : Int) - 1) - 1 := wrap_i64 (by omega)
     rw [if_neg (by omega)] at eq
     by_cases hf : fromZ l ((n : Int) - 1) < 1
     ·rw [if_pos (.inl hf)] at eq
      simp [go_sem, hf, eq]
     ·simp [go_sem, hf, e2]
      refine ⟨fun ha => by rw [eq, if_pos (.inr ha)], fun ha => vcall_pure (ih (fromZ l ((n : Int) - 1) - 1) (by omega) (by omega)) ?_ ?_⟩
      ·simp [go_sem]
       exact argSl_refl (by omega) cl
      ·simp [go_sem]
       rw [eq, if_neg (by rintro (h | h) <;> omega)]
theorem c_l3From (l : List PNode) (hl : l.length ≤ 9223372036854775807) : ∀ (g : Nat) (i : Int), i < g → -1 ≤ i → i < l.length → VFun Tryz.prog 118 [.sl 4 l.length (nodCells l), .lit (.int .i64 i)] (fun av obs => obs = [] ∧ av = .lit (.int .i64 (fromZ l i))) := by
 intro g
 induction g with
 | zero => exact fun i h1 h2 h3 => c_l3From_step l hl i h2 h3 fun j h4 h5 => absurd h5 (by omega)
 | succ g ih => exact fun i h1 h2 h3 => c_l3From_step l hl i h2 h3 fun j h4 h5 => ih j (by omega) h4 (by omega)
theorem c_l3InOrder (l : List PNode) (hl : l.length ≤ 9223372036854775807) (hw : ∀ i, i < l.length → (nodAt l i).wf) : VFun Tryz.prog 80 [.agg [.sl 4 l.length (nodCells l)]] (fun av obs => obs = [] ∧ av = .lit (.bool (inOrd l))) := by
 have cl : ∀ (i : Nat) (c : AV), i < l.length → c ∈ nodCells l i → Closed c := fun i c _ h => nodClosed l i c h
 refine vfun_start Tryz.func80 (by kernel_rfl) rfl (by simp [Tryz.ntmps80]) ?_; simp only [Tryz.ntmps80, Tryz.results80]; simp [go_sem]
 have hw1 : 1 ≤ l.length → IntKind.i64.wrap ((l.length : Int) - 1) = (l.length : Int) - 1 := fun h => wrap_i64 (by omega)
 refine ⟨by omega, fun h1 => ⟨by omega, fun h2 => ⟨by omega, ?_⟩, fun h2 => ?_⟩, fun h1 => ?_⟩
 ·rw [hw1 (by omega)]
  refine vcall_pure (c_l3From l hl l.length ((l.length : Int) - 1) (by omega) (by omega) (by omega)) ?_ ?_
  ·simp [go_sem]
   exact argSl_refl (by omega) cl
  ·simp [go_sem]
   refine ⟨fun hf => by simp [inOrd, hf], fun hf => ?_⟩
   refine vc_loop (fun i : Nat => i ≤ l.length ∧ ∀ j, j < i → txtOk (nodAt l j) = true) (fun i => l.length - i) (fun i => .of [(3, .sl 4 l.length (nodCells l)), (4, .lit (.int .i64 i))] []) ⟨0, ⟨by omega, by simp⟩, ?_⟩ (fun i hi => ?_)
   ·simp [go_sem]
    exact cl
   ·simp [go_sem, nodCells_at]
    refine ⟨by omega, fun h => ⟨h, vcall_pure (c_l3TextOk (nodAt l i) (hw i h)) ?_ ?_⟩, fun h => ?_⟩
    ·simp [go_sem, PNode.cells]
    ·simp [go_sem]
     refine ⟨fun e => ?_, fun e => ⟨i + 1, ⟨by omega, fun j hj => ?_⟩, by omega, cl, wrap_succ (by omega)⟩⟩
     ·simp only [inOrd, all_false (p := fun i => txtOk (nodAt l i)) h e, Bool.and_false]
     ·rcases Nat.lt_succ_iff_lt_or_eq.mp hj with hj | rfl
      ·exact hi.2 j hj
      ·exact e
    ·simp only [inOrd, all_true (p := fun i => txtOk (nodAt l i)) (n := l.length) fun j hj => hi.2 j (by omega), hf, decide_true, Bool.and_true, decide_eq_true_eq]
     omega
 ·have : ¬ (1 ≤ l.length ∧ l.length ≤ 20000) := by omega
  simp [inOrd, this]
 ·have : ¬ (1 ≤ l.length ∧ l.length ≤ 20000) := by omega
  simp [inOrd, this]
def stN (l : List PNode) (i j : Nat) : Int := if j < i then fromZ l j else 0
def stFill (l : List PNode) (i j : Nat) : List AV := [.lit (.int .i64 (stN l i j))]
theorem stFill_at (l : List PNode) (i j : Nat) : stFill l i j = [.lit (.int .i64 (stN l i j))] := rfl
set_option maxRecDepth 100000 in
theorem c_inOrder (l : List PNode) (hl : l.length ≤ 9223372036854775807) (hw : ∀ i, i < l.length → (nodAt l i).wf) : VFun Tryz.prog 44 [.agg [.sl 4 l.length (nodCells l)]] (fun av obs => obs = [] ∧ av = .lit (.bool (inOrd l))) := by
 have cl : ∀ (i : Nat) (c : AV), i < l.length → c ∈ nodCells l i → Closed c := fun i c _ h => nodClosed l i c h
 have bad : ∀ i : Nat, i < l.length → fromZ l i < 0 → inOrd l = false := fun i hi hf => by
  simp only [inOrd, Bool.and_eq_false_iff, decide_eq_false_iff_not]
  refine .inl (.inr fun e => ?_)
  have e1 : (l.length : Int) - 1 = ((l.length - 1 : Nat) : Int) := by omega
  rw [e1] at e
  have := fromZ_all l (l.length - 1) i (by omega) (by omega) (by omega)
  omega
 have badT : ∀ i : Nat, i < l.length → txtOk (nodAt l i) = false → inOrd l = false := fun i hi e => by
  simp only [inOrd, all_false (p := fun i => txtOk (nodAt l i)) hi e, Bool.and_false]
 have badL : ¬ (1 ≤ l.length ∧ l.length ≤ 20000) → inOrd l = false := fun h => by simp [inOrd, h]
 refine vfun_start Tryz.func44 (by kernel_rfl) rfl (by simp [Tryz.ntmps44]) ?_; simp only [Tryz.ntmps44, Tryz.results44]; simp [go_sem]
 refine ⟨by omega, fun h1 => ⟨by omega, fun h2 => badL (by omega), fun h2 => ⟨by omega, by omega, by omega, by omega, ?_⟩⟩, fun h1 => badL (by omega)⟩
 refine vc_loop (fun i : Nat => i ≤ l.length ∧ ∀ j, j < i → txtOk (nodAt l j) = true ∧ 0 ≤ fromZ l j) (fun i => l.length - i)
  (fun i => .of [(3, .own 1), (21, .sl 4 l.length (nodCells l)), (22, .lit (.int .i64 l.length)), (23, .lit (.int .i64 i))] [some ⟨37, 1, 1, fun _ => [.sl 4 l.length (nodCells l)]⟩, some ⟨3, 1, l.length, stFill l i⟩]) ⟨0, ⟨by omega, by simp⟩, ?_⟩ (fun i hi => ?_)
 ·simp [go_sem, stFill, stN]
  exact cl
 ·simp [go_sem, nodCells_at]
  refine ⟨fun h => ⟨h, fun k1 => ⟨fun k6 => vcall_pure (c_textOk (nodAt l i) (hw i h)) ?_ ?_, fun k6 => badT i h (txtOk_range (by omega))⟩, fun k1 => badT i h (txtOk_range (by omega))⟩, fun h => ?_⟩
  ·simp [go_sem, PNode.cells]
  ·simp [go_sem]
   refine ⟨fun e => badT i h e, fun e => vcall_pure (c_kids (nodAt l i) (by omega)) ?_ ?_⟩
   ·simp [go_sem, PNode.cells]
   ·have hin : ∀ j : Nat, j < i → stN l i j = fromZ l j := fun j hj => if_pos hj
    have hi1 : 1 ≤ i → stN l i (i - 1) = fromZ l ((i : Int) - 1) := fun h1 => by rw [hin _ (by omega)]; congr 1; omega
    have e1 : IntKind.i64.wrap ((i : Int) - 1) = (i : Int) - 1 := wrap_i64 (by omega)
    have n1 : ((i : Int) - 1).toNat = i - 1 := by omega
    have eq := fromZ_eq l i
    have step : ∀ v : Int, v = fromZ l i → 0 ≤ v → ∃ j, (j ≤ l.length ∧ ∀ (j_1 : Nat), j_1 < j → txtOk (nodAt l j_1) = true ∧ 0 ≤ fromZ l j_1) ∧ l.length - j < l.length - i ∧
      ((∀ (i : Nat) (c : AV), i < l.length → c ∈ nodCells l i → Closed c) ∧ IntKind.i64.wrap ((i : Int) + 1) = j) ∧ (∀ (i : Nat) (c : AV), i < l.length → c ∈ nodCells l i → Closed c) ∧
      ∀ (i_1 : Nat), i_1 < l.length → updF l.length (stFill l i) i 0 [AV.lit (Value.int IntKind.i64 v)] i_1 = [AV.lit (Value.int IntKind.i64 (stN l j i_1))] := by
     rintro v rfl hv
     refine ⟨i + 1, ⟨by omega, fun j hj => ?_⟩, by omega, ⟨cl, wrap_succ (by omega)⟩, cl, fun j hj => ?_⟩
     ·rcases Nat.lt_succ_iff_lt_or_eq.mp hj with hj | rfl
      ·exact hi.2 j hj
      ·exact ⟨e, hv⟩
     ·rw [updF_at h hj]
      by_cases hji : j = i
      ·subst hji
       simp [stFill, splice, stN]
      ·rw [if_neg hji]
       simp only [stFill, stN]
       by_cases h2 : j < i
       ·rw [if_pos h2, if_pos (by omega)]
       ·rw [if_neg h2, if_neg (by omega)]
    simp [go_sem, e1, n1, stFill_at]
    refine ⟨fun k0 => ?_, fun k0 => ⟨fun k1 => ?_, fun k1 => ⟨fun k2 => ?_, fun k2 => ?_⟩⟩⟩
    ·simp only [k0, if_true] at eq
     have no : ¬ ((nodAt l i).a = 0 ∧ (nodAt l i).b = 0) → inOrd l = false := fun hn => bad i h (by rw [eq, if_pos (by omega)]; omega)
     refine ⟨fun ha => ⟨fun hb => no (by omega), fun hb => ⟨h, ?_⟩⟩, fun ha => no (by omega)⟩
     rw [if_neg (by omega)] at eq
     exact step _ eq.symm (by omega)
    ·simp only [if_neg k0, if_pos k1] at eq
     have no : ¬ (1 ≤ (i : Int) ∧ (nodAt l i).a = (i : Int) - 1 ∧ (nodAt l i).b = 0) → inOrd l = false := fun hn => bad i h (by
      rw [eq]
      split
      ·omega
      ·rw [fromZ_neg l (by omega)]; omega)
     refine ⟨fun g1 => ⟨fun ha => ⟨fun hb => no (by omega), fun hb => ?_⟩, fun ha => no (by omega)⟩, fun g1 => no (by omega)⟩
     rw [if_neg (by omega)] at eq
     have hp := (hi.2 (i - 1) (by omega)).2
     have e3 : ((i - 1 : Nat) : Int) = (i : Int) - 1 := by omega
     rw [e3] at hp
     simp only [hi1 (by omega)]
     exact ⟨g1, by omega, by omega, h, step _ eq.symm hp⟩
    ·simp only [if_neg k0, if_neg k1] at eq
     refine vc_drawn [] (.q 0 <| .q 1 <| .q 2 <| .q 3 <| .q 4 <| .q 5 <| .q 6 <| .q 7 <| .q 8 <| .q 9 <| .q 10 <| .q 11 <| .q 12 <| .q 13 <| .q 14 <| .q 15 <| .q 16 <| .q 17 <| .q 18 <| .q 19 <| .q 20 <| .q 21 <| .q 22 <| .q 23 <| .q 24 <| .done) (by kernel_rfl) ?_
     simp [go_sem, e1, n1, stFill_at]
     have lt2 : (i : Int) < 2 → fromZ l ((i : Int) - 1) < 1 := fun h2 => by
      by_cases h3 : i = 0
      ·subst h3; rw [fromZ_neg l (by omega)]; omega
      ·have := fromZ_le l (i := (i : Int) - 1) (by omega)
       omega
     have no : ¬ (2 ≤ (i : Int) ∧ (nodAt l i).b = (i : Int) - 1 ∧ (nodAt l i).a = fromZ l ((i : Int) - 1) - 1 ∧ 0 ≤ (nodAt l i).a) → inOrd l = false := fun hn => bad i h (by
      rw [eq]
      split
      ·omega
      ·split
       ·omega
       ·rename_i h1 h2
        have : ¬ (i : Int) < 2 := fun h3 => h2 (.inl (lt2 h3))
        omega)
     refine ⟨fun g2 => ⟨fun hb => ⟨by omega, by omega, by omega, ?_⟩, fun hb => no (by omega)⟩, fun g2 => no (by omega)⟩
     have hp := (hi.2 (i - 1) (by omega)).2
     have e3 : ((i - 1 : Nat) : Int) = (i : Int) - 1 := by omega
     rw [e3] at hp
     have hle := fromZ_le l (i := (i : Int) - 1) (by omega)
     simp only [hi1 (by omega), wrap_i64 (n := fromZ l ((i : Int) - 1) - 1) (by omega)]
     refine ⟨fun ha => ⟨fun h0 => no (by omega), fun h0 => ⟨h0, by omega, by omega, h, step _ ?_ ?_⟩⟩, fun ha => no (by omega)⟩
     ·rw [eq, if_neg (by omega), if_neg (by omega), hin _ (by omega), Int.toNat_of_nonneg h0, ha]
     ·rw [hin _ (by omega)]
      exact (hi.2 _ (by omega)).2
    ·have := kidsN_cases (nodAt l i).kind
     omega
  ·have hl1 : i = l.length := by omega
   subst hl1
   have e1 : IntKind.i64.wrap ((l.length : Int) - 1) = (l.length : Int) - 1 := wrap_i64 (by omega)
   have n1 : ((l.length : Int) - 1).toNat = l.length - 1 := by omega
   simp [go_sem, stFill_at, e1, n1]
   refine ⟨by omega, h1, by omega, by omega, ?_⟩
   have e3 : ((l.length - 1 : Nat) : Int) = (l.length : Int) - 1 := by omega
   have e4 : stN l l.length (l.length - 1) = fromZ l ((l.length : Int) - 1) := by unfold stN; rw [if_pos (by omega), e3]
   have hr : 1 ≤ l.length ∧ l.length ≤ 20000 := by omega
   simp only [inOrd, all_true (p := fun i => txtOk (nodAt l i)) (n := l.length) fun j hj => (hi.2 j (by omega)).1, e4, hr, and_self, decide_true, Bool.true_and, Bool.and_true, int_beq]
end Go.Proofs.YtjdmmhcogmepaaaGreatDoor.V
namespace Go.Proofs.YtjdmmhcogmepaaaGreatDoor.V
open Go.RowKit
open Go.Proofs.YtjdmmhcogmepaaaGreatDoor.Ops (Tr)
set_option linter.unusedVariables false
set_option linter.unusedSimpArgs false
set_option linter.constructorNameAsVariable false
abbrev ET := Tr POp (Int × ByteArray)
def ET.nil : ET := .leaf (0, ⟨#[]⟩)
def lay : ET → List PNode → List PNode
 | .leaf b, out => out ++ [⟨b.2, b.1, 0, 0⟩]
 | .grp e, out => lay e out ++ [⟨⟨#[]⟩, 6, (lay e out).length - 1, 0⟩]
 | .pre o e, out => lay e out ++ [⟨o.text, o.kind + 2, (lay e out).length - 1, 0⟩]
 | .post o e, out => lay e out ++ [⟨o.text, o.kind + 2, (lay e out).length - 1, 0⟩]
 | .inf o x y, out => lay y (lay x out) ++ [⟨o.text, o.kind + 2, (lay x out).length - 1, (lay y (lay x out)).length - 1⟩]
def nodRow (t : List PNode) : Option Ob := some ⟨77, 4, t.length, nodCells t⟩
theorem nod_app (t : List PNode) (o : PNode) (j : Nat) (h : j < t.length + 1) : joinF t.length (nodCells t) (fun i => [o.cells][i]?.getD []) j = nodCells (t ++ [o]) j := by
 unfold joinF nodCells
 by_cases hj : j < t.length
 ·rw [if_pos hj, List.getD_eq_getElem?_getD, List.getD_eq_getElem?_getD, List.getElem?_append_left hj]
 ·have : j = t.length := by omega
  subst this
  rw [if_neg (by omega), List.getD_eq_getElem?_getD, List.getElem?_append_right (by omega)]
  simp
theorem outAt_app {idx : Nat → Nat} {ks : List Nat} {ty : Nat} {l T : List PNode} {o : PNode} {f : Nat → List AV} (h : T = l ++ [o]) (hf : ∀ j, j < l.length + 1 → f j = nodCells (l ++ [o]) j) : OutAt idx ks ⟨ty, 4, T.length, nodCells T⟩ (some (some ⟨ty, 4, l.length + 1, f⟩)) := by
 subst h
 rw [show (l ++ [o]).length = l.length + 1 by simp]
 exact outAt_lits hf (fun j _ => nodLit _ j)
theorem outAt_same {idx : Nat → Nat} {ks : List Nat} {ty : Nat} {l T : List PNode} {f : Nat → List AV} (h : T = l) (hf : ∀ j, j < l.length → f j = nodCells l j) : OutAt idx ks ⟨ty, 4, T.length, nodCells T⟩ (some (some ⟨ty, 4, l.length, f⟩)) := by
 subst h
 exact outAt_lits hf (fun j _ => nodLit _ j)
theorem nod_appF {T : List PNode} {o : PNode} {f : Nat → List AV} {n : Nat} (hn : n = T.length) (hf : ∀ j, j < n → f j = nodCells T j) (j : Nat) (h : j < n + 1) : joinF n f (fun q => [o.cells][q]?.getD []) j = nodCells (T ++ [o]) j := by
 rw [← nod_app T o j (by omega)]
 subst hn
 unfold joinF
 by_cases hj : j < T.length
 ·rw [if_pos hj, if_pos hj, hf j hj]
 ·rw [if_neg hj, if_neg hj]
theorem outAt_appF {idx : Nat → Nat} {ks : List Nat} {ty : Nat} {T R : List PNode} {o : PNode} {f : Nat → List AV} {n : Nat} (hn : n = T.length) (h : R = T ++ [o]) (hf : ∀ j, j < n + 1 → f j = nodCells (T ++ [o]) j) : OutAt idx ks ⟨ty, 4, R.length, nodCells R⟩ (some (some ⟨ty, 4, n + 1, f⟩)) := by
 subst hn
 exact outAt_app h hf
end Go.Proofs.YtjdmmhcogmepaaaGreatDoor.V
namespace Go.Proofs.YtjdmmhcogmepaaaGreatDoor.V
open Go.RowKit
open Go.Proofs.YtjdmmhcogmepaaaGreatDoor.Ops (Tr)
set_option linter.unusedVariables false
set_option linter.unusedSimpArgs false
set_option linter.constructorNameAsVariable false
def NodesAre (e : PT) (out : List PNode) : Prop := ∃ T u, partP e = .iface T u ∧ ∃ f, methOf Tryz.prog T "loop.example/s0059/impl.nodes" = some f ∧ VProc Tryz.prog f [.lit u, .own 0] [nodRow out] [] (fun av mem maps => av = .own 1 ∧ mem = [none, nodRow (lay e out)] ∧ maps = [])
theorem mo_leaf_n : methOf Tryz.prog 193 "loop.example/s0059/impl.nodes" = some 186 := by kernel_rfl
theorem mo_group_n : methOf Tryz.prog 212 "loop.example/s0059/impl.nodes" = some 189 := by kernel_rfl
theorem mo_applied_n : methOf Tryz.prog 164 "loop.example/s0059/impl.nodes" = some 183 := by kernel_rfl
theorem nodes_leaf (b : Int × ByteArray) (out : List PNode) (hl : out.length ≤ 3000000) : NodesAre (.leaf b) out := by
 refine ⟨_, _, rfl, _, mo_leaf_n, ?_⟩
 simp only [nodRow]
 refine vproc_start Tryz.func186 (by kernel_rfl) rfl (by simp [Tryz.ntmps186]) ?_; simp only [Tryz.ntmps186, Tryz.results186]; simp [go_sem]
 refine ⟨by omega, by omega, ?_⟩
 refine ⟨rfl, [3], [none, nodRow (lay (.leaf b) out)], by simp, by simp [go_sem], by simp [go_sem], ?_, by simp [go_sem], ?_⟩
 ·simp [go_sem, nodRow]
  refine outAt_app (o := ⟨b.2, b.1, 0, 0⟩) (by simp [lay]) fun j hj => ?_
  exact nod_app out ⟨b.2, b.1, 0, 0⟩ j hj
 ·simp [go_sem, nodRow]
theorem nodes_group (e : PT) (out : List PNode) (ih : NodesAre e out) (h0 : 0 < (lay e out).length) (hl : (lay e out).length ≤ 3000000) : NodesAre (.grp e) out := by
 refine ⟨_, _, rfl, _, mo_group_n, ?_⟩
 obtain ⟨T, u, hT, f, hm, hc⟩ := ih
 have ew : IntKind.i64.wrap (((lay e out).length : Int) - 1) = ((lay e out).length : Int) - 1 := wrap_i64 (by omega)
 rw [hT]
 simp only [nodRow] at hc ⊢
 refine vproc_start Tryz.func189 (by kernel_rfl) rfl (by simp [Tryz.ntmps189]) ?_; simp only [Tryz.ntmps189, Tryz.results189]; simp [go_sem]
 simp [go_sem, hm]
 refine vcall_share [0] hc (by simp) ?_ ?_ trivial ?_
 ·simp [go_sem]
 ·simp [go_sem]
  exact fun i _ => cellsRn_lits (nodLit _ i)
 ·rintro av mem maps ⟨rfl, rfl, rfl⟩
  simp [go_sem, ew]
  refine ⟨by omega, by omega, by omega, ?_⟩
  refine ⟨rfl, [4], [none, nodRow (lay (.grp e) out)], by simp, by simp [go_sem], by simp [go_sem], ?_, by simp [go_sem], ?_⟩
  ·simp [go_sem, nodRow]
   refine outAt_app (o := ⟨⟨#[]⟩, 6, ((lay e out).length : Int) - 1, 0⟩) (by simp [lay]) fun j hj => ?_
   exact nod_app (lay e out) ⟨⟨#[]⟩, 6, ((lay e out).length : Int) - 1, 0⟩ j hj
  ·simp [go_sem, nodRow]
theorem nodes_pre (o : POp) (hk : o.kind = 1) (e : PT) (out : List PNode) (ih : NodesAre e out) (h0 : 0 < (lay e out).length) (hl : (lay e out).length ≤ 3000000) : NodesAre (.pre o e) out := by
 refine ⟨_, _, rfl, _, mo_applied_n, ?_⟩
 obtain ⟨T, u, hT, f, hm, hc⟩ := ih
 have ew : IntKind.i64.wrap (((lay e out).length : Int) - 1) = ((lay e out).length : Int) - 1 := wrap_i64 (by omega)
 have ek : IntKind.i64.wrap (o.kind + 2) = o.kind + 2 := wrap_i64 (by omega)
 rw [hT]
 simp only [nodRow] at hc ⊢
 refine vproc_start Tryz.func183 (by kernel_rfl) rfl (by simp [Tryz.ntmps183]) ?_; simp only [Tryz.ntmps183, Tryz.results183]; simp [go_sem]
 simp [go_sem, hm, ek]
 refine vcall_share [0] hc (by simp) ?_ ?_ trivial ?_
 ·simp [go_sem]
 ·simp [go_sem]
  exact fun i _ => cellsRn_lits (nodLit _ i)
 ·rintro av mem maps ⟨rfl, rfl, rfl⟩
  simp [go_sem, ew]
  refine ⟨by omega, by omega, by omega, ?_⟩
  refine ⟨rfl, [5], [none, nodRow (lay (.pre o e) out)], by simp, by simp [go_sem], by simp [go_sem], ?_, by simp [go_sem], ?_⟩
  ·simp [go_sem, nodRow]
   refine outAt_app (o := ⟨o.text, o.kind + 2, ((lay e out).length : Int) - 1, 0⟩) (by simp [lay]) fun j hj => ?_
   exact nod_app (lay e out) ⟨o.text, o.kind + 2, ((lay e out).length : Int) - 1, 0⟩ j hj
  ·simp [go_sem, nodRow]
theorem nodes_post (o : POp) (hk : o.kind = 3) (e : PT) (out : List PNode) (ih : NodesAre e out) (h0 : 0 < (lay e out).length) (hl : (lay e out).length ≤ 3000000) : NodesAre (.post o e) out := by
 refine ⟨_, _, rfl, _, mo_applied_n, ?_⟩
 obtain ⟨T, u, hT, f, hm, hc⟩ := ih
 have ew : IntKind.i64.wrap (((lay e out).length : Int) - 1) = ((lay e out).length : Int) - 1 := wrap_i64 (by omega)
 have ek : IntKind.i64.wrap (o.kind + 2) = o.kind + 2 := wrap_i64 (by omega)
 rw [hT]
 simp only [nodRow] at hc ⊢
 refine vproc_start Tryz.func183 (by kernel_rfl) rfl (by simp [Tryz.ntmps183]) ?_; simp only [Tryz.ntmps183, Tryz.results183]; simp [go_sem]
 simp [go_sem, hm, ek]
 refine vcall_share [0] hc (by simp) ?_ ?_ trivial ?_
 ·simp [go_sem]
 ·simp [go_sem]
  exact fun i _ => cellsRn_lits (nodLit _ i)
 ·rintro av mem maps ⟨rfl, rfl, rfl⟩
  simp [go_sem, ew]
  refine ⟨by omega, by omega, by omega, ?_⟩
  refine ⟨rfl, [5], [none, nodRow (lay (.post o e) out)], by simp, by simp [go_sem], by simp [go_sem], ?_, by simp [go_sem], ?_⟩
  ·simp [go_sem, nodRow]
   refine outAt_app (o := ⟨o.text, o.kind + 2, ((lay e out).length : Int) - 1, 0⟩) (by simp [lay]) fun j hj => ?_
   exact nod_app (lay e out) ⟨o.text, o.kind + 2, ((lay e out).length : Int) - 1, 0⟩ j hj
  ·simp [go_sem, nodRow]
theorem nodes_inf (o : POp) (hk : o.kind = 2) (x y : PT) (out : List PNode) (ih : NodesAre x out) (ih2 : NodesAre y (lay x out)) (h0 : 0 < (lay x out).length) (h1 : 0 < (lay y (lay x out)).length) (hl : (lay x out).length ≤ 3000000) (hl2 : (lay y (lay x out)).length ≤ 3000000) : NodesAre (.inf o x y) out := by
 refine ⟨_, _, rfl, _, mo_applied_n, ?_⟩
 obtain ⟨T, u, hT, f, hm, hc⟩ := ih
 obtain ⟨T', u', hT', f', hm', hc'⟩ := ih2
 have ew : IntKind.i64.wrap (((lay x out).length : Int) - 1) = ((lay x out).length : Int) - 1 := wrap_i64 (by omega)
 have ew' : IntKind.i64.wrap (((lay y (lay x out)).length : Int) - 1) = ((lay y (lay x out)).length : Int) - 1 := wrap_i64 (by omega)
 have ek : IntKind.i64.wrap (o.kind + 2) = o.kind + 2 := wrap_i64 (by omega)
 rw [hT, hT']
 simp only [nodRow] at hc hc' ⊢
 refine vproc_start Tryz.func183 (by kernel_rfl) rfl (by simp [Tryz.ntmps183]) ?_; simp only [Tryz.ntmps183, Tryz.results183]; simp [go_sem]
 simp [go_sem, hm, ek]
 refine vcall_share [0] hc (by simp) ?_ ?_ trivial ?_
 ·simp [go_sem]
 ·simp [go_sem]
  exact fun i _ => cellsRn_lits (nodLit _ i)
 ·rintro av mem maps ⟨rfl, rfl, rfl⟩
  simp [go_sem, ew, hm']
  refine ⟨by omega, ?_⟩
  refine vcall_share [3] hc' (by simp) ?_ ?_ trivial ?_
  ·simp [go_sem]
  ·simp [go_sem]
   exact fun i _ => cellsRn_lits (nodLit _ i)
  ·rintro av mem maps ⟨rfl, rfl, rfl⟩
   simp [go_sem, ew']
   refine ⟨by omega, by omega, by omega, ?_⟩
   refine ⟨rfl, [6], [none, nodRow (lay (.inf o x y) out)], by simp, by simp [go_sem], by simp [go_sem], ?_, by simp [go_sem], ?_⟩
   ·simp [go_sem, nodRow]
    refine outAt_app (o := ⟨o.text, o.kind + 2, ((lay x out).length : Int) - 1, ((lay y (lay x out)).length : Int) - 1⟩) (by simp [lay]) fun j hj => ?_
    exact nod_app (lay y (lay x out)) ⟨o.text, o.kind + 2, ((lay x out).length : Int) - 1, ((lay y (lay x out)).length : Int) - 1⟩ j hj
   ·simp [go_sem, nodRow]
theorem lay_grows : ∀ (e : PT) (out : List PNode), out.length < (lay e out).length
 | .leaf _, out => by simp [lay]
 | .grp e, out => by have := lay_grows e out; simp [lay]; omega
 | .pre _ e, out => by have := lay_grows e out; simp [lay]; omega
 | .post _ e, out => by have := lay_grows e out; simp [lay]; omega
 | .inf _ x y, out => by have := lay_grows x out; have := lay_grows y (lay x out); simp [lay]; omega
def KindsOk : PT → Prop
 | .leaf _ => True
 | .grp e => KindsOk e
 | .pre o e => o.kind = 1 ∧ KindsOk e
 | .post o e => o.kind = 3 ∧ KindsOk e
 | .inf o x y => o.kind = 2 ∧ KindsOk x ∧ KindsOk y
theorem nodesAre : ∀ (e : PT) (out : List PNode), KindsOk e → (lay e out).length ≤ 3000000 → NodesAre e out
 | .leaf b, out, _, hl => nodes_leaf b out (by have := lay_grows (.leaf b) out; omega)
 | .grp e, out, hk, hl => by
  have h1 := lay_grows e out
  have h2 : (lay e out).length < (lay (.grp e) out).length := by simp [lay]
  exact nodes_group e out (nodesAre e out hk (by omega)) (by omega) (by omega)
 | .pre o e, out, hk, hl => by
  have h1 := lay_grows e out
  have h2 : (lay e out).length < (lay (.pre o e) out).length := by simp [lay]
  exact nodes_pre o hk.1 e out (nodesAre e out hk.2 (by omega)) (by omega) (by omega)
 | .post o e, out, hk, hl => by
  have h1 := lay_grows e out
  have h2 : (lay e out).length < (lay (.post o e) out).length := by simp [lay]
  exact nodes_post o hk.1 e out (nodesAre e out hk.2 (by omega)) (by omega) (by omega)
 | .inf o x y, out, hk, hl => by
  have h1 := lay_grows x out
  have h2 := lay_grows y (lay x out)
  have h3 : (lay y (lay x out)).length < (lay (.inf o x y) out).length := by simp [lay]
  exact nodes_inf o hk.1 x y out (nodesAre x out hk.2.1 (by omega)) (nodesAre y (lay x out) hk.2.2 (by omega)) (by omega) (by omega) (by omega) (by omega)
end Go.Proofs.YtjdmmhcogmepaaaGreatDoor.V
namespace Go.Proofs.YtjdmmhcogmepaaaGreatDoor.V
open Go.RowKit
open Go.Proofs.YtjdmmhcogmepaaaGreatDoor.Ops (Tr Tk Lv Res Fit)
set_option linter.unusedVariables false
set_option linter.unusedSimpArgs false
theorem toks_exist {l : List POp} {t : List PTok} {n : Nat} (hu : Uniq l) (hn : t.length = n + 1) (h : ∀ j, j < t.length → 0 ≤ roleAt l t j (stAt l t j)) (hk7 : (tokAt t n).kind = 7) : ∀ (m i d : Nat), i + m = n → (d : Int) = openAt t i → ∃ ts : List TkP, ToksAre l t i ts ∧ Fit (!stAt l t i) d ts := by
 intro m
 induction m with
 | zero =>
  intro i d hi hd
  obtain rfl : i = n := by omega
  have hr := h i (by omega)
  refine ⟨[], ⟨by omega, hk7⟩, ?_⟩
  cases hs : stAt l t i with
  | false => rw [hs] at hr; simp [roleAt, hk7] at hr
  | true =>
   rw [hs] at hr
   simp only [roleAt, hk7] at hr
   simp at hr
   simp only [Bool.not_true, Fit]
   split at hr
   ·omega
   ·omega
 | succ m ih =>
  intro i d hi hd
  have hr := h i (by omega)
  have nxt : ∀ (st : Bool) (d' : Nat), stAt l t (i + 1) = st → (d' : Int) = openAt t (i + 1) → ∃ ts : List TkP, ToksAre l t (i + 1) ts ∧ Fit (!st) d' ts := fun st d' h1 h2 => by
   obtain ⟨ts, g1, g2⟩ := ih (i + 1) d' (by omega) h2
   rw [h1] at g2
   exact ⟨ts, g1, g2⟩
  cases hs : stAt l t i with
  | false =>
   rw [hs] at hr
   by_cases k12 : (tokAt t i).kind = 1 ∨ (tokAt t i).kind = 2
   ·obtain ⟨ts, g1, g2⟩ := nxt true d (by rcases k12 with e | e <;> simp [stAt, e]) (by rcases k12 with e | e <;> simp [openAt, e, hd])
    exact ⟨.leaf ((tokAt t i).kind, (tokAt t i).text) :: ts, ⟨⟨k12, rfl⟩, g1⟩, g2⟩
   ·by_cases k4 : (tokAt t i).kind = 4
    ·obtain ⟨ts, g1, g2⟩ := nxt false (d + 1) (by simp [stAt, k4]) (by simp [openAt, k4]; omega)
     exact ⟨.opn :: ts, ⟨k4, g1⟩, g2⟩
    ·simp only [roleAt, if_true] at hr
     rw [if_neg (by omega)] at hr
     split at hr
     ·rename_i h3
      obtain ⟨j, hj, e1, e2⟩ := (opHas_iff l _ _).1 h3.2
      obtain ⟨ts, g1, g2⟩ := nxt false d (by simp [stAt, h3.1, hs]) (by simp [openAt, h3.1, hd])
      exact ⟨.pre (opAt l j) :: ts, ⟨⟨h3.1, e1, e2, j, hj, rfl⟩, g1⟩, g2⟩
     ·omega
  | true =>
   rw [hs] at hr
   simp only [roleAt, Bool.true_eq_false, if_false] at hr
   split at hr
   ·rename_i h3
    obtain ⟨j, hj, e1, e2⟩ := (opHas_iff l _ _).1 h3.2
    have no3 : opHas l (tokAt t i).text 3 = false := by
     cases e : opHas l (tokAt t i).text 3 with
     | false => rfl
     | true =>
      obtain ⟨j', hj', e1', e2'⟩ := (opHas_iff l _ _).1 e
      have := hu j j' hj hj' (by rw [e1, e1']) (by rw [e2, e2']; rfl)
      rw [this, e2'] at e2; omega
    obtain ⟨ts, g1, g2⟩ := nxt false d (by simp [stAt, h3.1, no3]) (by simp [openAt, h3.1, hd])
    exact ⟨.inf (opAt l j) :: ts, ⟨⟨h3.1, e1, e2, j, hj, rfl⟩, g1⟩, g2⟩
   ·split at hr
    ·rename_i h3
     obtain ⟨j, hj, e1, e2⟩ := (opHas_iff l _ _).1 h3.2
     obtain ⟨ts, g1, g2⟩ := nxt true d (by simp [stAt, h3.1, hs, h3.2]) (by simp [openAt, h3.1, hd])
     exact ⟨.post (opAt l j) :: ts, ⟨⟨h3.1, e1, e2, j, hj, rfl⟩, g1⟩, g2⟩
    ·split at hr
     ·rename_i h5
      obtain ⟨ts, g1, g2⟩ := nxt true (d - 1) (by simp [stAt, h5.1]) (by simp [openAt, h5.1]; omega)
      refine ⟨.cls :: ts, ⟨h5.1, g1⟩, ?_⟩
      obtain ⟨d', rfl⟩ : ∃ d', d = d' + 1 := ⟨d - 1, by omega⟩
      simpa [Fit] using g2
     ·split at hr
      ·rename_i h7
       exfalso; omega
      ·exfalso; omega
theorem toks_of {l : List POp} {t : List PTok} (hu : Uniq l) (hr : (rolesZ l t).2 = -1) : ∃ ts : List TkP, ToksAre l t 0 ts ∧ Fit true 0 ts := by
 unfold rolesZ at hr
 split at hr
 ·simp at hr
 ·split at hr
  ·simp at hr
  ·rename_i hb
   split at hr
   ·rename_i he
    simp [endsOk] at he
    obtain ⟨n, hn⟩ : ∃ n, t.length = n + 1 := ⟨t.length - 1, by have : t.length ≠ 0 := fun e => he.1 (List.eq_nil_of_length_eq_zero e); omega⟩
    have h0 : ∀ j, j < t.length → 0 ≤ roleAt l t j (stAt l t j) := fun j hj => by
     unfold firstBad at hb
     rw [List.find?_eq_none] at hb
     have := hb j (by simpa using hj)
     simp at this; exact this
    exact toks_exist hu hn h0 (by have := he.2; rw [hn] at this; simpa using this) n 0 0 (by omega) (by simp [openAt])
   ·simp at hr
end Go.Proofs.YtjdmmhcogmepaaaGreatDoor.V
namespace Go.Proofs.YtjdmmhcogmepaaaGreatDoor.V
open Go.RowKit
open Go.Proofs.YtjdmmhcogmepaaaGreatDoor.Ops (Tr Tk Lv Res Fit)
set_option linter.unusedVariables false
set_option linter.unusedSimpArgs false
theorem ok_of_ok {l : List POp} (h : tblOk l = 0) (j : Nat) (hj : j < l.length) : opOk (opAt l j) = true := by
 have := tblOk_ops h
 unfold tblOps at this
 rw [List.all_eq_true] at this
 exact this j (by simpa using hj)
def InL (l : List POp) (o : POp) : Prop := ∃ j, j < l.length ∧ opAt l j = o
theorem good_of_ok {l : List POp} (h : tblOk l = 0) : Ops.Good lvO (InL l) := by
 have hc : tblClash l 4 = false := by
  unfold tblOk at h
  cases hh : tblClash l 4
  ·rfl
  ·rw [hh] at h
   split at h
   ·cases h
   ·split at h
    ·cases h
    ·split at h
     ·cases h
     ·simp at h
 have no : ∀ i j, i < l.length → j < i → clash (opAt l i) (opAt l j) 4 = true → False := fun i j hi hj hcl => by
  have := (tblClash_iff l 4).2 ⟨i, hi, j, hj, hcl⟩
  rw [hc] at this
  cases this
 refine ⟨fun a ⟨j, hj, e⟩ => ?_, fun a ⟨j, hj, e⟩ => ?_, fun a b ⟨i, hi, e⟩ ⟨j, hj, e2⟩ hl => ?_⟩
 ·have := ok_of_ok h j hj
  rw [e] at this
  exact (opOk_level this).1
 ·have := ok_of_ok h j hj
  rw [e] at this
  exact (opOk_level this).2
 ·subst e; subst e2
  have hl' : (opAt l i).level = (opAt l j).level := hl
  show sortN (opAt l i) = sortN (opAt l j)
  rcases Nat.lt_trichotomy i j with hlt | rfl | hlt
  ·by_cases hs : sortN (opAt l i) = sortN (opAt l j)
   ·exact hs
   ·exact (no j i hj hlt (by simp [clash, hl', Ne.symm hs])).elim
  ·rfl
  ·by_cases hs : sortN (opAt l i) = sortN (opAt l j)
   ·exact hs
   ·exact (no i j hi hlt (by simp [clash, hl', hs])).elim
end Go.Proofs.YtjdmmhcogmepaaaGreatDoor.V
namespace Go.Proofs.YtjdmmhcogmepaaaGreatDoor.V
open Go.RowKit
open Go.Maps (Keyed)
set_option linter.unusedVariables false
set_option linter.unusedSimpArgs false
set_option linter.constructorNameAsVariable false
def opIs (z : ByteArray) (k : Int) (o : POp) : Bool := decide (o.text = z) && decide (o.kind = k)
def opOf (l : List POp) (z : ByteArray) (k : Int) : POp := (l.find? (opIs z k)).getD noOp
theorem find_at {l : List POp} {z : ByteArray} {k : Int} : ∀ {i : Nat}, i < l.length → opIs z k (opAt l i) = true → (∀ j, j < i → opIs z k (opAt l j) = false) → l.find? (opIs z k) = some (opAt l i) := by
 induction l with
 | nil => intro i h; simp at h
 | cons a r ih =>
  intro i h h1 h2
  cases i with
  | zero =>
   have e : opAt (a :: r) 0 = a := rfl
   rw [e] at h1 ⊢
   simp [List.find?_cons, h1]
  | succ i =>
   have e0 := h2 0 (by omega)
   have e : opAt (a :: r) 0 = a := rfl
   have es : ∀ j, opAt (a :: r) (j + 1) = opAt r j := fun j => rfl
   rw [e] at e0
   rw [List.find?_cons, e0]
   simp only [es] at h1 ⊢
   exact ih (by simpa using h) h1 fun j hj => by
    have := h2 (j + 1) (by omega)
    rw [es] at this; exact this
theorem opOf_at {l : List POp} {z : ByteArray} {k : Int} {i : Nat} (h : i < l.length) (h1 : opIs z k (opAt l i) = true) (h2 : ∀ j, j < i → opIs z k (opAt l j) = false) : opOf l z k = opAt l i := by
 unfold opOf; rw [find_at h h1 h2]; rfl
theorem opHas_has {l : List POp} {z : ByteArray} {k : Int} (h : opHas l z k = true) : ∃ i, i < l.length ∧ opOf l z k = opAt l i ∧ (opAt l i).text = z ∧ (opAt l i).kind = k := by
 obtain ⟨j, hj, e1, e2⟩ := (opHas_iff l z k).1 h
 have key : ∀ n, (∃ j, j < n ∧ j < l.length ∧ opIs z k (opAt l j) = true) → ∃ i, i < l.length ∧ opIs z k (opAt l i) = true ∧ ∀ j, j < i → opIs z k (opAt l j) = false := by
  intro n
  induction n with
  | zero => rintro ⟨j, hj, _⟩; omega
  | succ n ih =>
   rintro ⟨j, hj, hl, h⟩
   by_cases hx : ∃ j, j < n ∧ j < l.length ∧ opIs z k (opAt l j) = true
   ·exact ih hx
   ·refine ⟨j, hl, h, fun q hq => ?_⟩
    cases e : opIs z k (opAt l q) with
    | false => rfl
    | true => exact absurd ⟨q, by omega, by omega, e⟩ hx
 obtain ⟨i, hi, g1, g2⟩ := key (j + 1) ⟨j, by omega, hj, by simp [opIs, e1, e2]⟩
 simp only [opIs, Bool.and_eq_true, decide_eq_true_eq] at g1
 exact ⟨i, hi, opOf_at hi (by simp [opIs, g1]) g2, g1.1, g1.2⟩
theorem c_l2FindS (l : List POp) (hl : l.length ≤ 9223372036854775807) (z : ByteArray) (kd : Int) : VFun Tryz.prog 82 [.agg [.sl 4 l.length (opCells l)], .lit (.string z), .lit (.int .i64 kd)] (fun av obs => obs = [] ∧ ((av = .lit (.int .i64 (-1)) ∧ opHas l z kd = false) ∨ ∃ i : Nat, av = .lit (.int .i64 i) ∧ i < l.length ∧ opHas l z kd = true ∧ opOf l z kd = opAt l i)) := by
 have cl : ∀ (i : Nat) (c : AV), i < l.length → c ∈ opCells l i → Closed c := fun i c _ h => opClosed l i c h
 refine vfun_start Tryz.func82 (by kernel_rfl) rfl (by simp [Tryz.ntmps82]) ?_; simp only [Tryz.ntmps82, Tryz.results82]; simp [go_sem]
 refine vc_loop (fun i : Nat => i ≤ l.length ∧ ∀ j, j < i → ¬ ((opAt l j).text = z ∧ (opAt l j).kind = kd)) (fun i => l.length - i) (fun i => .of [(1, .lit (.string z)), (2, .lit (.int .i64 kd)), (3, .ptr 0 1 0 0), (7, .lit (.int .i64 i))] [some ⟨30, 1, 1, fun _ => [.sl 4 l.length (opCells l)]⟩]) ⟨0, ⟨by omega, by simp⟩, ?_⟩ (fun i hi => ?_)
 ·simp [go_sem]
  exact cl
 ·simp [go_sem, opCells_at, ba_toList]
  have step : ¬ ((opAt l i).text = z ∧ (opAt l i).kind = kd) → ∀ j, j < i + 1 → ¬ ((opAt l j).text = z ∧ (opAt l j).kind = kd) := fun e j hj => by
   rcases Nat.lt_succ_iff_lt_or_eq.mp hj with hj | rfl
   ·exact hi.2 j hj
   ·exact e
  refine ⟨by omega, fun h => ?_, fun h => ?_⟩
  ·have cl2 : ∀ (i : Nat) (c : AV), i < l.length → c = AV.lit (Value.string (opAt l i).text) ∨ c = AV.lit (Value.int IntKind.i64 (opAt l i).kind) ∨ c = AV.lit (Value.int IntKind.i64 (opAt l i).level) ∨ c = AV.lit (Value.int IntKind.i64 (opAt l i).side) → Closed c := by
    rintro i c _ (rfl | rfl | rfl | rfl) <;> exact .lit _
   refine ⟨h, fun e1 => ⟨h, fun e2 => ?_, fun e2 => ⟨i + 1, ⟨by omega, fun j hj e3 e4 => step (fun e5 => e2 e5.2) j hj ⟨e3, e4⟩⟩, by omega, wrap_succ (by omega), cl2⟩⟩, fun e1 => ⟨i + 1, ⟨by omega, fun j hj e3 e4 => step (fun e5 => e1 e5.1) j hj ⟨e3, e4⟩⟩, by omega, wrap_succ (by omega), cl2⟩⟩
   refine ⟨i, rfl, h, (opHas_iff l z kd).2 ⟨i, h, e1, e2⟩, opOf_at h (by simp [opIs, e1, e2]) fun j hj => ?_⟩
   have := hi.2 j hj
   simpa [opIs] using this
  ·simp only [opHas, List.any_eq_false, List.mem_range]
   exact fun j hj => by
    have := hi.2 j (by omega)
    simp only [Bool.and_eq_true, decide_eq_true_eq]
    exact this
def isOpN (o : PNode) : Bool := decide (3 ≤ o.kind ∧ o.kind ≤ 5)
def ndOp (l : List POp) (n : PNode) : POp := opOf l n.text (n.kind - 2)
def lvlN (l : List POp) (n : PNode) : Int := if isOpN n then (ndOp l n).level else 1001
def fitsN (l : List POp) (t : List PNode) (i : Nat) : Bool := !isOpN (nodAt t i) || (decide (hole (ndOp l (nodAt t i)) false ≤ lvlN l (nodAt t (nodAt t i).a.toNat)) && (decide (kidsN (nodAt t i).kind = 1) || decide (hole (ndOp l (nodAt t i)) true ≤ lvlN l (nodAt t (nodAt t i).b.toNat))))
def opdAll (l : List POp) (t : List PNode) : Bool := (List.range t.length).all fun i => !isOpN (nodAt t i) || opHas l (nodAt t i).text ((nodAt t i).kind - 2)
def wellF (l : List POp) (t : List PNode) : Bool := decide (tblOk l = 0) && inOrd t && opdAll l t
theorem inOrd_kid {t : List PNode} (h : inOrd t = true) {i : Nat} (hi : i < t.length) : txtOk (nodAt t i) = true ∧ (1 ≤ (nodAt t i).kind ∧ (nodAt t i).kind ≤ 6) ∧ (kidsN (nodAt t i).kind ≠ 0 → 0 ≤ (nodAt t i).a ∧ (nodAt t i).a < i) ∧ (kidsN (nodAt t i).kind = 2 → 0 ≤ (nodAt t i).b ∧ (nodAt t i).b < i) := by
 simp only [inOrd, Bool.and_eq_true, decide_eq_true_eq] at h
 obtain ⟨⟨h1, h2⟩, h3⟩ := h
 have hx := List.all_eq_true.1 h3 i (List.mem_range.2 hi)
 have e1 : (t.length : Int) - 1 = ((t.length - 1 : Nat) : Int) := by omega
 rw [e1] at h2
 have h0 := fromZ_all t (t.length - 1) i (by omega) (by omega) (by omega)
 rw [fromZ_eq] at h0
 have hk : 1 ≤ (nodAt t i).kind ∧ (nodAt t i).kind ≤ 6 := Decidable.byContradiction fun hn => by rw [txtOk_range hn] at hx; cases hx
 refine ⟨hx, hk, fun hk0 => ?_, fun hk2 => ?_⟩
 ·rw [if_neg hk0] at h0
  split at h0
  ·split at h0
   ·omega
   ·rename_i hn
    by_cases hz : i = 0
    ·subst hz; rw [fromZ_neg t (by omega)] at h0; omega
    ·omega
  ·split at h0
   ·omega
   ·split at h0
    ·omega
    ·rename_i hb hn
     have := fromZ_le t (i := (i : Int) - 1)
     by_cases hz : i = 0
     ·subst hz; rw [fromZ_neg t (by omega)] at hn; omega
     ·have := this (by omega)
      omega
 ·rw [if_neg (by omega), if_neg (by omega)] at h0
  split at h0
  ·omega
  ·split at h0
   ·omega
   ·rename_i hb hn
    by_cases hz : i = 0
    ·subst hz; rw [fromZ_neg t (by omega)] at hn; omega
    ·omega
theorem opAt_wf {l : List POp} (hw : opsWf l) {z : ByteArray} {k : Int} (h : opHas l z k = true) : (opOf l z k).wf := by
 obtain ⟨i, hi, e, _⟩ := opHas_has h
 rw [e]; exact hw i hi
theorem c_l3IsOp (o : PNode) : VFun Tryz.prog 81 [.agg o.cells] (fun av obs => obs = [] ∧ av = .lit (.bool (isOpN o))) := by
 obtain ⟨z, k, x, y⟩ := o
 simp only [PNode.cells]
 refine vfun_start Tryz.func81 (by kernel_rfl) rfl (by simp [Tryz.ntmps81]) ?_; simp only [Tryz.ntmps81, Tryz.results81]; simp [go_sem]
 simp [isOpN]
 omega
theorem c_l3OpOf (l : List POp) (hl : l.length ≤ 9223372036854775807) (n : PNode) (hk : isOpN n = true) (h : opHas l n.text (n.kind - 2) = true) : VFun Tryz.prog 83 [.agg [.sl 4 l.length (opCells l)], .agg n.cells] (fun av obs => obs = [] ∧ av = .agg (ndOp l n).cells) := by
 have cl : ∀ (i : Nat) (c : AV), i < l.length → c ∈ opCells l i → Closed c := fun i c _ h => opClosed l i c h
 obtain ⟨z, k, x, y⟩ := n
 simp only [isOpN, decide_eq_true_eq] at hk
 simp only [PNode.cells] at h ⊢
 have e1 : IntKind.i64.wrap (k - 2) = k - 2 := wrap_i64 (by omega)
 refine vfun_start Tryz.func83 (by kernel_rfl) rfl (by simp [Tryz.ntmps83]) ?_; simp only [Tryz.ntmps83, Tryz.results83]; simp [go_sem]
 refine vc_drawn [11] (.q 0 <| .q 1 <| .q 2 <| .q 3 <| .q 4 <| .q 5 <| .q 6 <| .q 7 <| .or 8 (.q 9 <| .q 10 <| .or 11 (.done) (.nil)) (.nil)) (by kernel_rfl) ?_
 simp [go_sem, e1]
 refine vcallV_use (c_l2FindS l hl z (k - 2)) ?_ ?_
 ·simp [go_sem]
  exact argSl_refl (by omega) cl
 ·rintro av obs ⟨rfl, ⟨rfl, hn⟩ | ⟨i, rfl, hi, _, he⟩⟩
  ·rw [h] at hn; cases hn
  ·simp [go_sem, opCells_at]
   refine ⟨hi, ?_⟩
   simp [ndOp, he, POp.cells]
theorem c_l3Level (l : List POp) (hl : l.length ≤ 9223372036854775807) (n : PNode) (h : isOpN n = true → opHas l n.text (n.kind - 2) = true) : VFun Tryz.prog 84 [.agg [.sl 4 l.length (opCells l)], .agg n.cells] (fun av obs => obs = [] ∧ av = .lit (.int .i64 (lvlN l n))) := by
 have cl : ∀ (i : Nat) (c : AV), i < l.length → c ∈ opCells l i → Closed c := fun i c _ h => opClosed l i c h
 have c1 := c_l3IsOp n
 have c2 := c_l3OpOf l hl n
 simp only [PNode.cells, POp.cells] at c1 c2 ⊢
 refine vfun_start Tryz.func84 (by kernel_rfl) rfl (by simp [Tryz.ntmps84]) ?_; simp only [Tryz.ntmps84, Tryz.results84]; simp [go_sem]
 refine vcall_pure c1 ?_ ?_
 ·simp [go_sem]
 ·cases hk : isOpN n with
  | true =>
   simp [go_sem]
   refine vcall_val (c2 hk (h hk)) ?_ ?_ ?_
   ·simp [go_sem]
    exact argSl_refl (by omega) cl
   ·simp [go_sem]
   ·simp [go_sem, lvlN, hk]
  | false => simp [go_sem, lvlN, hk]
theorem c_l3Fits (l : List POp) (hl : l.length ≤ 9223372036854775807) (hw : opsWf l) (t : List PNode) (ht : t.length ≤ 9223372036854775807) (i : Nat) (hi : i < t.length) (ha : isOpN (nodAt t i) = true → opHas l (nodAt t i).text ((nodAt t i).kind - 2) = true ∧ (0 ≤ (nodAt t i).a ∧ (nodAt t i).a < t.length) ∧ (isOpN (nodAt t (nodAt t i).a.toNat) = true → opHas l (nodAt t (nodAt t i).a.toNat).text ((nodAt t (nodAt t i).a.toNat).kind - 2) = true) ∧
  (kidsN (nodAt t i).kind ≠ 1 → (0 ≤ (nodAt t i).b ∧ (nodAt t i).b < t.length) ∧ (isOpN (nodAt t (nodAt t i).b.toNat) = true → opHas l (nodAt t (nodAt t i).b.toNat).text ((nodAt t (nodAt t i).b.toNat).kind - 2) = true))) :
  VFun Tryz.prog 41 [.agg [.sl 4 l.length (opCells l)], .sl 4 t.length (nodCells t), .lit (.int .i64 i)] (fun av obs => obs = [] ∧ av = .lit (.bool (fitsN l t i))) := by
 have cl : ∀ (i : Nat) (c : AV), i < l.length → c ∈ opCells l i → Closed c := fun i c _ h => opClosed l i c h
 have c1 := c_l3IsOp (nodAt t i)
 have c2 := c_l3OpOf l hl (nodAt t i)
 simp only [PNode.cells, POp.cells] at c1 c2
 refine vfun_start Tryz.func41 (by kernel_rfl) rfl (by simp [Tryz.ntmps41]) ?_; simp only [Tryz.ntmps41, Tryz.results41]; simp [go_sem]
 simp [go_sem, nodCells_at]
 refine ⟨hi, vcall_pure c1 ?_ ?_⟩
 ·simp [go_sem]
 ·cases hk : isOpN (nodAt t i) with
  | false => simp [go_sem, fitsN, hk]
  | true =>
   obtain ⟨h1, h2, h3, h4⟩ := ha hk
   have howf : (ndOp l (nodAt t i)).wf := opAt_wf hw h1
   simp [go_sem]
   refine vcall_val (c2 hk h1) ?_ ?_ ?_
   ·simp [go_sem]
    exact argSl_refl (by omega) cl
   ·simp [go_sem]
   ·simp [go_sem]
    refine vc_drawn [] (.q 0 <| .q 1 <| .q 2 <| .q 3 <| .q 4 <| .q 5 <| .q 7 <| .or 6 (.or 8 (.q 9 <| .done) (.nil)) (.nil)) (by kernel_rfl) ?_
    simp [go_sem, nodCells_at]
    have c3 := c_l3Level l hl (nodAt t (nodAt t i).a.toNat) h3
    have c4 := c_l1Hole (ndOp l (nodAt t i)) howf
    simp only [PNode.cells, POp.cells] at c3 c4
    refine ⟨h2.1, h2.2, vcallV_pure c3 ?_ ?_⟩
    ·simp [go_sem]
     exact argSl_refl (by omega) cl
    ·simp [go_sem]
     refine vcallV_pure (c4 false) ?_ ?_
     ·simp [go_sem]
     ·simp [go_sem]
      refine ⟨fun h5 => by simp [fitsN, hk]; omega, fun h5 => vc_drawn [] (.q 0 <| .q 1 <| .or 2 (.q 3 <| .q 4 <| .q 5 <| .q 6 <| .q 7 <| .q 8 <| .q 9 <| .q 10 <| .q 12 <| .or 11 (.or 13 (.q 14 <| .q 15 <| .q 16 <| .done) (.nil)) (.nil)) (.nil)) (by kernel_rfl) ?_⟩
      simp [go_sem]
      refine vcallV_pure (c_l3Kids (nodAt t i).kind) ?_ ?_
      ·simp [go_sem]
      ·by_cases hk1 : kidsN (nodAt t i).kind = 1
       ·simp [go_sem, hk1, fitsN, hk, h5]
       ·obtain ⟨h6, h7⟩ := h4 hk1
        have c5 := c_l3Level l hl (nodAt t (nodAt t i).b.toNat) h7
        simp only [PNode.cells] at c5
        simp [go_sem, hk1, nodCells_at]
        refine ⟨h6.1, h6.2, vcallV_pure c5 ?_ ?_⟩
        ·simp [go_sem]
         exact argSl_refl (by omega) cl
        ·simp [go_sem]
         refine vcallV_pure (c4 true) ?_ ?_
         ·simp [go_sem]
         ·simp [go_sem, fitsN, hk, h5, hk1]
theorem c_l3WellFormed (l : List POp) (hl : l.length ≤ 9223372036854775807) (hw : opsWf l) (t : List PNode) (ht : t.length ≤ 9223372036854775807) (hwt : ∀ i, i < t.length → (nodAt t i).wf) : VFun Tryz.prog 40 [.agg [.sl 4 l.length (opCells l)], .agg [.sl 4 t.length (nodCells t)]] (fun av obs => obs = [] ∧ av = .lit (.bool (wellF l t))) := by
 have cl : ∀ (i : Nat) (c : AV), i < l.length → c ∈ opCells l i → Closed c := fun i c _ h => opClosed l i c h
 have clt : ∀ (i : Nat) (c : AV), i < t.length → c ∈ nodCells t i → Closed c := fun i c _ h => nodClosed t i c h
 refine vfun_start Tryz.func40 (by kernel_rfl) rfl (by simp [Tryz.ntmps40]) ?_; simp only [Tryz.ntmps40, Tryz.results40]; simp [go_sem]
 refine vcall_pure (c_specTableOk l hl hw) ?_ ?_
 ·simp [go_sem]
  exact argSl_refl (by omega) cl
 ·simp [go_sem]
  refine ⟨fun h0 => ?_, fun h0 => by simp [wellF, h0]⟩
  refine vcall_pure (c_l3InOrder t ht hwt) ?_ ?_
  ·simp [go_sem]
   exact argSl_refl (by omega) clt
  ·simp [go_sem]
   refine ⟨fun h1 => by simp [wellF, h1], fun h1 => ?_⟩
   refine vc_loop (fun i : Nat => i ≤ t.length ∧ ∀ j, j < i → isOpN (nodAt t j) = true → opHas l (nodAt t j).text ((nodAt t j).kind - 2) = true) (fun i => t.length - i)
    (fun i => .of [(2, .ptr 0 1 0 0), (3, .ptr 1 1 0 0), (5, .lit (.int .i64 i))] [some ⟨30, 1, 1, fun _ => [.sl 4 l.length (opCells l)]⟩, some ⟨37, 1, 1, fun _ => [.sl 4 t.length (nodCells t)]⟩]) ⟨0, ⟨by omega, by simp⟩, ?_⟩ (fun i hi => ?_)
   ·simp [go_sem]
    exact ⟨cl, clt⟩
   ·simp [go_sem, nodCells_at]
    have c1 := c_l3IsOp (nodAt t i)
    simp only [PNode.cells] at c1
    have next : i < t.length → (isOpN (nodAt t i) = true → opHas l (nodAt t i).text ((nodAt t i).kind - 2) = true) → i + 1 ≤ t.length ∧ ∀ j, j < i + 1 → isOpN (nodAt t j) = true → opHas l (nodAt t j).text ((nodAt t j).kind - 2) = true := fun h e => ⟨by omega, fun j hj => by
     rcases Nat.lt_succ_iff_lt_or_eq.mp hj with hj | rfl
     ·exact hi.2 j hj
     ·exact e⟩
    refine ⟨by omega, fun h => ⟨h, vcall_pure c1 ?_ ?_⟩, fun h => ?_⟩
    ·simp [go_sem]
    ·cases hk : isOpN (nodAt t i) with
     | false =>
      simp [go_sem]
      exact ⟨i + 1, next h (fun e => by rw [hk] at e; cases e), by omega, wrap_succ (by omega), cl, clt⟩
     | true =>
      have hk' := hk
      simp only [isOpN, decide_eq_true_eq] at hk'
      have e1 : IntKind.i64.wrap ((nodAt t i).kind - 2) = (nodAt t i).kind - 2 := wrap_i64 (by omega)
      simp [go_sem, e1]
      refine vcall_use (c_l2FindS l hl (nodAt t i).text ((nodAt t i).kind - 2)) ?_ ?_
      ·simp [go_sem]
       exact argSl_refl (by omega) cl
      ·rintro av obs ⟨rfl, ⟨rfl, hn⟩ | ⟨q, rfl, hq, hp, he⟩⟩
       ·simp [go_sem]
        simp only [wellF, opdAll, all_false (p := fun i => !isOpN (nodAt t i) || opHas l (nodAt t i).text ((nodAt t i).kind - 2)) h (by simp [hk, hn]), Bool.and_false]
       ·simp [go_sem, show ¬ ((q : Int) < 0) by omega]
        exact ⟨i + 1, next h (fun _ => hp), by omega, wrap_succ (by omega), cl, clt⟩
    ·have hl1 : i = t.length := by omega
     subst hl1
     simp only [wellF, opdAll, all_true (p := fun i => !isOpN (nodAt t i) || opHas l (nodAt t i).text ((nodAt t i).kind - 2)) (n := t.length) fun j hj => by
      cases hk : isOpN (nodAt t j) with
      | false => rfl
      | true => simp [hi.2 j hj hk], h0, h1, decide_true, Bool.and_true]
end Go.Proofs.YtjdmmhcogmepaaaGreatDoor.V
namespace Go.Proofs.YtjdmmhcogmepaaaGreatDoor.V
open Go.RowKit
open Go.Proofs.YtjdmmhcogmepaaaGreatDoor.Ops (Tr Tk Lv Res Fit)
set_option linter.unusedVariables false
set_option linter.unusedSimpArgs false
set_option linter.constructorNameAsVariable false
theorem c_l3Op (l : List POp) (hl : l.length ≤ 9223372036854775807) (t : List PTok) (ht : t.length ≤ 1048576) (rs : List Int) (i : Nat) (hi : i < t.length) (hr : i < rs.length) (h : opHas l (tokAt t i).text (intAt rs i) = true) :
  VFun Tryz.prog 137 [.agg [.sl 4 l.length (opCells l)], .sl 3 t.length (tokCells t), .sl 1 rs.length (intCells rs), .lit (.int .i64 i)] (fun av obs => obs = [] ∧ av = .agg (opOf l (tokAt t i).text (intAt rs i)).cells) := by
 have cl : ∀ (i : Nat) (c : AV), i < l.length → c ∈ opCells l i → Closed c := fun i c _ h => opClosed l i c h
 have cf := c_l2FindS l hl (tokAt t i).text (intAt rs i)
 refine vfun_start Tryz.func137 (by kernel_rfl) rfl (by simp [Tryz.ntmps137]) ?_; simp only [Tryz.ntmps137, Tryz.results137]; simp [go_sem]
 refine vc_drawn [15] (.q 0 <| .q 1 <| .q 2 <| .q 3 <| .q 4 <| .q 5 <| .q 6 <| .q 7 <| .q 8 <| .q 9 <| .q 10 <| .q 11 <| .or 12 (.q 13 <| .q 14 <| .or 15 (.done) (.nil)) (.nil)) (by kernel_rfl) ?_
 simp [go_sem, tokCells_at, intCells_at, hi, hr]
 refine vcallV_use cf ?_ ?_
 ·simp [go_sem]
  exact argSl_refl (by omega) cl
 ·rintro av obs ⟨rfl, ⟨rfl, hn⟩ | ⟨q, rfl, hq, _, he⟩⟩
  ·rw [h] at hn; cases hn
  ·simp [go_sem, opCells_at]
   refine ⟨hq, ?_⟩
   simp [he, POp.cells]
def roleT : TkP → Int
 | .pre _ => 1
 | .inf _ => 2
 | .post _ => 3
 | _ => 0
theorem op_unique {l : List POp} {o : POp} {z : ByteArray} (hu : Uniq l) (h1 : o.text = z) (hj : ∃ j, j < l.length ∧ opAt l j = o) : opHas l z o.kind = true ∧ opOf l z o.kind = o := by
 obtain ⟨j, hj, rfl⟩ := hj
 have hh : opHas l z (opAt l j).kind = true := (opHas_iff l z _).2 ⟨j, hj, h1, rfl⟩
 obtain ⟨i, hi, e1, e2, e3⟩ := opHas_has hh
 exact ⟨hh, e1.trans (hu i j hi hj (by rw [e2, h1]) (by rw [e3]))⟩
def SegIs (l : List POp) (t : List PTok) (rs : List Int) : Nat → List TkP → Prop
 | _, [] => True
 | i, tk :: r => TokIs l (tokAt t i) tk ∧ intAt rs i = roleT tk ∧ SegIs l t rs (i + 1) r
theorem seg_at {l : List POp} {t : List PTok} {rs : List Int} : ∀ {s : List TkP} {i k : Nat} {tk : TkP}, SegIs l t rs i s → s[k]? = some tk → TokIs l (tokAt t (i + k)) tk ∧ intAt rs (i + k) = roleT tk
 | [], i, k, tk, _, h => by simp at h
 | x :: r, i, 0, tk, hs, h => by
  simp at h; subst h
  exact ⟨hs.1, hs.2.1⟩
 | x :: r, i, k + 1, tk, hs, h => by
  have := seg_at hs.2.2 (by simpa using h)
  rw [show i + (k + 1) = i + 1 + k by omega]; exact this
theorem seg_op {l : List POp} {t : List PTok} {rs : List Int} (hu : Uniq l) {s : List TkP} {i k : Nat} {tk : TkP} {o : POp} (hs : SegIs l t rs i s) (h : s[k]? = some tk) (ho : tk.op? = some o) : opHas l (tokAt t (i + k)).text (intAt rs (i + k)) = true ∧ opOf l (tokAt t (i + k)).text (intAt rs (i + k)) = o := by
 obtain ⟨h1, h2⟩ := seg_at hs h
 rw [h2]
 cases tk with
 | pre o' =>
  simp [Tk.op?] at ho; subst ho
  have := op_unique hu h1.2.1 h1.2.2.2
  rw [h1.2.2.1] at this; exact this
 | inf o' =>
  simp [Tk.op?] at ho; subst ho
  have := op_unique hu h1.2.1 h1.2.2.2
  rw [h1.2.2.1] at this; exact this
 | post o' =>
  simp [Tk.op?] at ho; subst ho
  have := op_unique hu h1.2.1 h1.2.2.2
  rw [h1.2.2.1] at this; exact this
 | _ => simp [Tk.op?] at ho
def bestI (a : Nat) : Option (Nat × POp) → Int
 | none => -1
 | some x => (a + x.1 : Nat)
end Go.Proofs.YtjdmmhcogmepaaaGreatDoor.V
namespace Go.Proofs.YtjdmmhcogmepaaaGreatDoor.V
open Go.RowKit
open Go.Proofs.YtjdmmhcogmepaaaGreatDoor.Ops (Tr Tk Lv Res Fit)
set_option linter.unusedVariables false
set_option linter.unusedSimpArgs false
set_option linter.constructorNameAsVariable false
structure AtRoot (s : List TkP) (i : Nat) (d : Int) (best : Option (Nat × POp)) : Prop where
 le : i ≤ s.length
 dle : -(i : Int) ≤ d ∧ d ≤ i
 run : Ops.root lvO s 0 0 none = Ops.root lvO (s.drop i) i d best
 has : ∀ k o, best = some (k, o) → k < i ∧ ∃ tk, s[k]? = some tk ∧ tk.op? = some o
theorem turn_le (tk : TkP) : -1 ≤ tk.turn ∧ tk.turn ≤ 1 := by cases tk <;> simp [Tk.turn]
theorem atRoot_unf {s : List TkP} {i : Nat} {d : Int} {best : Option (Nat × POp)} {tk : TkP} (hk : s[i]? = some tk) : Ops.root lvO (s.drop i) i d best = Ops.root lvO (tk :: s.drop (i + 1)) i d best := by
 obtain ⟨hl, e⟩ := List.getElem?_eq_some_iff.1 hk
 rw [List.drop_eq_getElem_cons hl, e]
theorem atRoot_skip {s : List TkP} {i : Nat} {d : Int} {best : Option (Nat × POp)} {tk : TkP} (h : AtRoot s i d best) (hk : s[i]? = some tk) (hc : d + tk.turn ≠ 0 ∨ tk.op? = none) : AtRoot s (i + 1) (d + tk.turn) best := by
 have hl := (List.getElem?_eq_some_iff.1 hk).1
 have ht := turn_le tk
 have hd := h.dle
 refine ⟨by omega, by omega, ?_, fun k o e => ⟨by have := (h.has k o e).1; omega, (h.has k o e).2⟩⟩
 rw [h.run, atRoot_unf hk, Ops.root]
 split
 ·rename_i h0
  rcases hc with hc | hc
  ·exact absurd h0 hc
  ·rw [hc]
 ·rfl
theorem atRoot_take {s : List TkP} {i : Nat} {d : Int} {best : Option (Nat × POp)} {tk : TkP} {o : POp} (h : AtRoot s i d best) (hk : s[i]? = some tk) (h0 : d + tk.turn = 0) (ho : tk.op? = some o) : AtRoot s (i + 1) (d + tk.turn) (Ops.better lvO best (i, o)) := by
 have hl := (List.getElem?_eq_some_iff.1 hk).1
 have ht := turn_le tk
 have hd := h.dle
 refine ⟨by omega, by omega, ?_, fun k o' e => ?_⟩
 ·rw [h.run, atRoot_unf hk, Ops.root, if_pos h0, ho]
 ·have new : ∀ {k o'}, some (i, o) = some (k, o') → k < i + 1 ∧ ∃ tk, s[k]? = some tk ∧ tk.op? = some o' := fun e => by
   simp at e
   obtain ⟨rfl, rfl⟩ := e
   exact ⟨by omega, tk, hk, ho⟩
  unfold Ops.better at e
  split at e
  ·exact new e
  ·rename_i b
   split at e
   ·exact new e
   ·have := h.has k o' e
    exact ⟨by omega, this.2⟩
set_option maxRecDepth 100000 in
theorem c_l3Root (l : List POp) (hl : l.length ≤ 9223372036854775807) (hu : Uniq l) (t : List PTok) (ht : t.length ≤ 1048576) (rs : List Int) (hrs : rs.length = t.length) (a b : Nat) (s : List TkP) (hab : a + s.length = b) (hb : b ≤ t.length) (hs : SegIs l t rs a s) :
  VFun Tryz.prog 112 [.agg [.sl 4 l.length (opCells l)], .sl 3 t.length (tokCells t), .sl 1 rs.length (intCells rs), .lit (.int .i64 a), .lit (.int .i64 b)] (fun av obs => obs = [] ∧ av = .lit (.int .i64 (bestI a (Ops.root lvO s 0 0 none)))) := by
 have cl : ∀ (i : Nat) (c : AV), i < l.length → c ∈ opCells l i → Closed c := fun i c _ h => opClosed l i c h
 have clt : ∀ (i : Nat) (c : AV), i < t.length → c ∈ tokCells t i → Closed c := fun i c _ h => tokClosed t i c h
 have cli : ∀ (i : Nat) (c : AV), i < rs.length → c ∈ intCells rs i → Closed c := fun i c _ h => intClosed rs i c h
 refine vfun_start Tryz.func112 (by kernel_rfl) rfl (by simp [Tryz.ntmps112]) ?_; simp only [Tryz.ntmps112, Tryz.results112]; simp [go_sem]
 refine vc_loop (fun x : Nat × Int × Option (Nat × POp) => a ≤ x.1 ∧ AtRoot s (x.1 - a) x.2.1 x.2.2) (fun x => b - x.1) (fun x => .of [(1, .sl 3 t.length (tokCells t)), (2, .sl 1 rs.length (intCells rs)), (4, .lit (.int .i64 b)), (5, .ptr 0 1 0 0), (11, .lit (.int .i64 (bestI a x.2.2))), (12, .lit (.int .i64 x.2.1)), (13, .lit (.int .i64 x.1))] [some ⟨30, 1, 1, fun _ => [.sl 4 l.length (opCells l)]⟩]) ⟨(a, 0, none), ⟨Nat.le_refl _, by simp, by simp, by simp, fun k o h => by cases h⟩, ?_⟩ (fun x hx => ?_)
 ·simp [go_sem, bestI]
  exact ⟨⟨clt, cli⟩, cl⟩
 ·obtain ⟨q, d, best⟩ := x
  obtain ⟨haq, hx⟩ := hx
  simp only at haq hx
  obtain ⟨i, hqi⟩ : ∃ i, q - a = i := ⟨_, rfl⟩
  rw [hqi] at hx
  have hle := hx.le
  have hd := hx.dle
  by_cases hlt : q < b
  ·obtain ⟨tk, htk⟩ : ∃ tk, s[i]? = some tk := ⟨_, List.getElem?_eq_getElem (by omega)⟩
   obtain ⟨hT, hR⟩ := seg_at hs htk
   rw [show a + i = q by omega] at hT hR
   have skip := fun hc => atRoot_skip hx htk hc
   have take := fun o h0 ho => atRoot_take (o := o) hx htk h0 ho
   have hqt : q < t.length := by omega
   have ew : IntKind.i64.wrap ((q : Int) + 1) = ((q + 1 : Nat) : Int) := wrap_succ (by omega)
   have clt2 : ∀ (i : Nat) (c : AV), i < t.length → c = AV.lit (Value.int IntKind.i64 (tokAt t i).kind) ∨ c = AV.lit (Value.string (tokAt t i).gap) ∨ c = AV.lit (Value.string (tokAt t i).text) → Closed c := by
    rintro i c _ (rfl | rfl | rfl) <;> exact .lit _
   have out : ∀ {best' : Option (Nat × POp)} {d' : Int}, AtRoot s (i + 1) d' best' → a ≤ q + 1 ∧ AtRoot s (q + 1 - a) d' best' := fun h => ⟨by omega, by rw [show q + 1 - a = i + 1 by omega]; exact h⟩
   have hcl : (∃ bb, tk = .leaf bb) ∨ tk = .opn ∨ tk = .cls ∨ ∃ o, tk.op? = some o ∧ tk.turn = 0 ∧ (tokAt t q).kind = 3 ∧ roleT tk ≠ 0 := by
    cases tk with
    | leaf bb => exact .inl ⟨bb, rfl⟩
    | opn => exact .inr (.inl rfl)
    | cls => exact .inr (.inr (.inl rfl))
    | pre o => exact .inr (.inr (.inr ⟨o, rfl, rfl, hT.1, by simp [roleT]⟩))
    | inf o => exact .inr (.inr (.inr ⟨o, rfl, rfl, hT.1, by simp [roleT]⟩))
    | post o => exact .inr (.inr (.inr ⟨o, rfl, rfl, hT.1, by simp [roleT]⟩))
   rcases hcl with ⟨bb, rfl⟩ | rfl | rfl | ⟨o, hop, htu, hk3, hr0⟩
   ·have k4 : (tokAt t q).kind ≠ 4 := by have := hT.1; omega
    have k5 : (tokAt t q).kind ≠ 5 := by have := hT.1; omega
    simp only [roleT] at hR
    have sk := out (skip (.inr rfl))
    simp only [Tk.turn, Int.add_zero] at sk
    by_cases h0 : d = 0
    ·subst h0
     simp [go_sem, tokCells_at, intCells_at, hqt, hlt, k4, k5, hrs, hR]
     exact ⟨q + 1, 0, best, sk, by omega, ⟨clt2, rfl, rfl, ew⟩, cl⟩
    ·simp [go_sem, tokCells_at, intCells_at, hqt, hlt, k4, k5, h0, hrs, hR]
     exact ⟨q + 1, d, best, sk, by omega, ⟨clt2, rfl, rfl, ew⟩, cl⟩
   ·have k4 : (tokAt t q).kind = 4 := hT
    simp only [roleT] at hR
    have sk := out (skip (.inr rfl))
    simp only [Tk.turn] at sk
    have wd : IntKind.i64.wrap (d + 1) = d + 1 := wrap_i64 (by omega)
    by_cases h0 : d + 1 = 0
    ·simp [go_sem, tokCells_at, intCells_at, hqt, hlt, k4, wd, h0, hrs, hR]
     exact ⟨q + 1, d + 1, best, sk, by omega, ⟨clt2, rfl, h0.symm, ew⟩, cl⟩
    ·simp [go_sem, tokCells_at, intCells_at, hqt, hlt, k4, wd, h0, hrs, hR]
     exact ⟨q + 1, d + 1, best, sk, by omega, ⟨clt2, rfl, rfl, ew⟩, cl⟩
   ·have k5 : (tokAt t q).kind = 5 := hT
    simp only [roleT] at hR
    have sk := out (skip (.inr rfl))
    simp only [Tk.turn] at sk
    have wd : IntKind.i64.wrap (d - 1) = d - 1 := wrap_i64 (by omega)
    by_cases h0 : d - 1 = 0
    ·simp [go_sem, tokCells_at, intCells_at, hqt, hlt, k5, wd, h0, hrs, hR]
     refine ⟨q + 1, d + -1, best, sk, by omega, ⟨clt2, rfl, ?_, ew⟩, cl⟩
     first | omega | (rw [show IntKind.i64.wrap 0 = 0 by decide]; omega)
    ·simp [go_sem, tokCells_at, intCells_at, hqt, hlt, k5, wd, h0, hrs, hR]
     refine ⟨q + 1, d + -1, best, sk, by omega, ⟨clt2, rfl, ?_, ew⟩, cl⟩
     first | omega | (rw [show IntKind.i64.wrap 0 = 0 by decide]; omega)
   ·by_cases h0 : d = 0
    ·subst h0
     have tk1 := out (take o (by omega) hop)
     rw [htu, Int.add_zero] at tk1
     obtain ⟨ho1, ho2⟩ := seg_op hu hs htk hop
     rw [show a + i = q by omega] at ho1 ho2
     have c1 := c_l3Op l hl t ht rs q hqt (by omega) ho1
     rw [ho2] at c1
     have c2 := c_l1Sort o
     simp only [POp.cells] at c1 c2
     simp [go_sem, tokCells_at, intCells_at, hqt, hlt, hk3, hrs, hR, hr0]
     refine vcall_val c1 ?_ ?_ ?_
     ·simp [go_sem, hrs]
      exact ⟨argSl_refl (by omega) cl, argSl_refl (by omega) clt, argSl_refl (by omega) (fun i c hi h => cli i c (by omega) h)⟩
     ·simp [go_sem]
     ·simp [go_sem]
      refine vc_drawn [] (.q 0 <| .q 1 <| .q 2 <| .q 3 <| .q 4 <| .q 5 <| .q 6 <| .q 7 <| .q 8 <| .or 9 (.q 10 <| .q 11 <| .q 12 <| .q 13 <| .q 14 <| .q 15 <| .q 16 <| .q 17 <| .q 18 <| .q 19 <| .or 20 (.q 21 <| .q 22 <| .q 23 <| .q 24 <| .or 25 (.q 26 <| .q 27 <| .q 28 <| .done) (.nil)) (.nil)) (.nil)) (by kernel_rfl) ?_
      cases best with
      | none =>
       simp [go_sem, bestI]
       exact ⟨q + 1, 0, some (i, o), tk1, by omega, ⟨clt, fun i c hi h => cli i c (by omega) h, by simp only; omega, rfl, ew⟩, cl⟩
      | some x =>
       obtain ⟨k, ob⟩ := x
       obtain ⟨hk1, tkb, hkb, hob⟩ := hx.has k ob rfl
       obtain ⟨hb1, hb2⟩ := seg_op hu hs hkb hob
       have c3 := c_l3Op l hl t ht rs (a + k) (by omega) (by omega) hb1
       rw [hb2] at c3
       have eb : bestI a (some (k, ob)) = ((a + k : Nat) : Int) := rfl
       rw [eb]
       have hp1 : a + k < t.length := by omega
       generalize hp : a + k = p at *
       simp only [POp.cells] at c3
       have hp0 : ¬ ((p : Int) < 0) := by omega
       have hp2 : (0 : Int) ≤ p := by omega
       simp [go_sem, hp0, hp2]
       refine vcallV_val c3 ?_ ?_ ?_
       ·simp [go_sem, hrs]
        exact ⟨argSl_refl (by omega) cl, argSl_refl (by omega) clt, argSl_refl (by omega) (fun i c hi h => cli i c (by omega) h)⟩
       ·simp [go_sem]
       ·have stay : Ops.better lvO (some (k, ob)) (i, o) = some (k, ob) → a ≤ q + 1 ∧ AtRoot s (q + 1 - a) 0 (some (k, ob)) := fun e => by rw [e] at tk1; exact tk1
        have turn : Ops.better lvO (some (k, ob)) (i, o) = some (i, o) → a ≤ q + 1 ∧ AtRoot s (q + 1 - a) 0 (some (i, o)) := fun e => by rw [e] at tk1; exact tk1
        have eb2 : bestI a (some (i, o)) = (q : Int) := by show ((a + i : Nat) : Int) = _; omega
        have cli2 : ∀ (i : Nat) (c : AV), i < t.length → c ∈ intCells rs i → Closed c := fun i c hi h => cli i c (by omega) h
        by_cases hll : o.level < ob.level
        ·simp [go_sem, hll]
         exact ⟨q + 1, 0, some (i, o), turn (by unfold Ops.better; exact if_pos (.inl hll)), by omega, ⟨clt, cli2, eb2.symm, rfl, ew⟩, cl⟩
        ·simp [go_sem, hll]
         refine vcallV_val c3 ?_ ?_ ?_
         ·simp [go_sem, hrs]
          exact ⟨argSl_refl (by omega) cl, argSl_refl (by omega) clt, argSl_refl (by omega) cli2⟩
         ·simp [go_sem]
         ·by_cases he : o.level = ob.level
          ·simp [go_sem, he]
           refine vcallV_pure c2 ?_ ?_
           ·simp [go_sem, he]
           ·by_cases hs2 : sortN o = 2
            ·simp [go_sem, hs2]
             exact ⟨q + 1, 0, some (k, ob), stay (by unfold Ops.better; exact if_neg (by rintro (h | ⟨_, h⟩); exact hll h; exact h hs2)), by omega, ⟨clt, cli2, eb.symm, rfl, ew⟩, cl⟩
            ·simp [go_sem, hs2]
             exact ⟨q + 1, 0, some (i, o), turn (by unfold Ops.better; exact if_pos (.inr ⟨he, hs2⟩)), by omega, ⟨clt, cli2, eb2.symm, rfl, ew⟩, cl⟩
          ·simp [go_sem, he]
           exact ⟨q + 1, 0, some (k, ob), stay (by unfold Ops.better; exact if_neg (by rintro (h | ⟨h, _⟩); exact hll h; exact he h)), by omega, ⟨clt, cli2, eb.symm, rfl, ew⟩, cl⟩
    ·have sk := out (skip (.inl (by rw [htu]; omega)))
     rw [htu, Int.add_zero] at sk
     simp [go_sem, tokCells_at, intCells_at, hqt, hlt, hk3, h0, hrs, hR]
     exact ⟨q + 1, d, best, sk, by omega, ⟨clt2, rfl, rfl, ew⟩, cl⟩
  ·simp [go_sem, hlt]
   have hi : i = s.length := by omega
   have := hx.run
   rw [hi, List.drop_length] at this
   rw [this]
   simp [Ops.root]
end Go.Proofs.YtjdmmhcogmepaaaGreatDoor.V
namespace Go.Proofs.YtjdmmhcogmepaaaGreatDoor.V
open Go.RowKit
open Go.Proofs.YtjdmmhcogmepaaaGreatDoor.Ops (Tr Tk Lv Res Fit)
set_option linter.unusedVariables false
set_option linter.unusedSimpArgs false
theorem roles_at {l : List POp} {t : List PTok} {n i : Nat} (h : i < n) : intAt (rolesUp l t n) i = roleAt l t i (stAt l t i) := by
 simp [intAt, rolesUp, List.getD_eq_getElem?_getD, List.getElem?_map, List.getElem?_range h]
theorem seg_of {l : List POp} {t : List PTok} (hu : Uniq l) : ∀ (ts : List TkP) (i d : Nat), ToksAre l t i ts → Fit (!stAt l t i) d ts → (d : Int) = openAt t i → SegIs l t (rolesUp l t t.length) i ts
 | [], _, _, _, _, _ => trivial
 | tk :: r, i, d, ht, hf, hd => by
  have hi : i < t.length := by have := toksAre_len ht; simp only [List.length_cons] at this; omega
  obtain ⟨h1, h2⟩ := ht
  have nxt : ∀ (st : Bool) (d' : Nat), roleAt l t i (stAt l t i) = roleT tk → stAt l t (i + 1) = st → (d' : Int) = openAt t (i + 1) → Fit (!st) d' r → SegIs l t (rolesUp l t t.length) i (tk :: r) := fun st d' hr e1 e2 e3 =>
   ⟨h1, by rw [roles_at hi]; exact hr, seg_of hu r (i + 1) d' h2 (by rw [e1]; exact e3) e2⟩
  have has : ∀ {o : POp}, o.text = (tokAt t i).text → (∃ j, j < l.length ∧ opAt l j = o) → opHas l (tokAt t i).text o.kind = true := fun {o} e ⟨j, hj, e2⟩ => (opHas_iff l _ _).2 ⟨j, hj, by rw [e2]; exact e, by rw [e2]⟩
  have hasno : ∀ {o : POp} {k : Int}, o.text = (tokAt t i).text → (∃ j, j < l.length ∧ opAt l j = o) → o.kind ≠ 1 → k ≠ 1 → o.kind ≠ k → opHas l (tokAt t i).text k = false := fun {o k} e ⟨j, hj, e2⟩ n1 n2 n3 => by
   cases hh : opHas l (tokAt t i).text k with
   | false => rfl
   | true =>
    obtain ⟨j', hj', g1, g2⟩ := (opHas_iff l _ _).1 hh
    have := hu j j' hj hj' (by rw [e2, e, g1]) (by
     rw [e2, g2]
     have a1 : (o.kind == 1) = false := by simpa using n1
     have a2 : (k == 1) = false := by simpa using n2
     rw [a1, a2])
    rw [e2] at this
    rw [← this] at g2
    exact absurd g2 n3
  cases hs : stAt l t i with
  | false =>
   rw [hs] at hf
   cases tk with
   | leaf b =>
    refine nxt true d ?_ ?_ ?_ (by simpa [Fit] using hf)
    ·rw [hs]; rcases h1.1 with e | e <;> simp [roleAt, roleT, e]
    ·rcases h1.1 with e | e <;> simp [stAt, e]
    ·rcases h1.1 with e | e <;> simp [openAt, e, hd]
   | opn =>
    have k4 : (tokAt t i).kind = 4 := h1
    exact nxt false (d + 1) (by rw [hs]; simp [roleAt, roleT, k4]) (by simp [stAt, k4]) (by simp [openAt, k4]; omega) (by simpa [Fit] using hf)
   | pre o =>
    have hh := has h1.2.1 h1.2.2.2
    rw [h1.2.2.1] at hh
    exact nxt false d (by rw [hs]; simp [roleAt, roleT, h1.1, hh]) (by simp [stAt, h1.1, hs]) (by simp [openAt, h1.1, hd]) (by simpa [Fit] using hf)
   | cls => simp [Fit] at hf
   | inf o => simp [Fit] at hf
   | post o => simp [Fit] at hf
  | true =>
   rw [hs] at hf
   cases tk with
   | leaf b => simp [Fit] at hf
   | opn => simp [Fit] at hf
   | pre o => simp [Fit] at hf
   | inf o =>
    have hh := has h1.2.1 h1.2.2.2
    rw [h1.2.2.1] at hh
    have no := hasno (k := 3) h1.2.1 h1.2.2.2 (by rw [h1.2.2.1]; omega) (by omega) (by rw [h1.2.2.1]; omega)
    exact nxt false d (by rw [hs]; simp [roleAt, roleT, h1.1, hh]) (by simp [stAt, h1.1, hs, no]) (by simp [openAt, h1.1, hd]) (by simpa [Fit] using hf)
   | post o =>
    have hh := has h1.2.1 h1.2.2.2
    rw [h1.2.2.1] at hh
    have no := hasno (k := 2) h1.2.1 h1.2.2.2 (by rw [h1.2.2.1]; omega) (by omega) (by rw [h1.2.2.1]; omega)
    exact nxt true d (by rw [hs]; simp [roleAt, roleT, h1.1, hh, no]) (by simp [stAt, h1.1, hs, hh]) (by simp [openAt, h1.1, hd]) (by simpa [Fit] using hf)
   | cls =>
    have k5 : (tokAt t i).kind = 5 := h1
    cases d with
    | zero => simp [Fit] at hf
    | succ d =>
     exact nxt true d (by rw [hs]; simp [roleAt, roleT, k5]; omega) (by simp [stAt, k5]) (by simp [openAt, k5]; omega) (by simpa [Fit] using hf)
end Go.Proofs.YtjdmmhcogmepaaaGreatDoor.V
namespace Go.Proofs.YtjdmmhcogmepaaaGreatDoor.V
open Go.RowKit
open Go.Proofs.YtjdmmhcogmepaaaGreatDoor.Ops (Tr Tk Lv Res Fit)
set_option linter.unusedVariables false
set_option linter.unusedSimpArgs false
def LeavesOk : PT → Prop
 | .leaf b => b.1 = 1 ∨ b.1 = 2
 | .grp e => LeavesOk e
 | .pre _ e => LeavesOk e
 | .post _ e => LeavesOk e
 | .inf _ x y => LeavesOk x ∧ LeavesOk y
theorem last_node {T : List PNode} {nd : PNode} : nodAt (T ++ [nd]) ((T ++ [nd]).length - 1) = nd := by
 simp [nodAt, List.getD_eq_getElem?_getD]
theorem lvl_op {l : List POp} (hu : Uniq l) {o : POp} (hj : InL l o) (hk : 1 ≤ o.kind ∧ o.kind ≤ 3) {nd : PNode} (h1 : nd.text = o.text) (h2 : nd.kind = o.kind + 2) : lvlN l nd = o.level := by
 obtain ⟨g1, g2⟩ := op_unique hu (z := nd.text) h1.symm hj
 have e : nd.kind - 2 = o.kind := by omega
 unfold lvlN
 have hop : isOpN nd = true := by simp [isOpN]; omega
 rw [if_pos hop, ndOp, e, g2]
theorem lvl_last {l : List POp} (hu : Uniq l) (e : PT) (out : List PNode) (h1 : LeavesOk e) (h2 : e.All lvO (InL l)) (h3 : KindsOk e) : lvlN l (nodAt (lay e out) ((lay e out).length - 1)) = e.level lvO := by
 cases e with
 | leaf b =>
  simp only [lay, last_node, Tr.level]
  have : isOpN (⟨b.2, b.1, 0, 0⟩ : PNode) = false := by
   have h1' : b.1 = 1 ∨ b.1 = 2 := h1
   simp [isOpN]; omega
  unfold lvlN
  rw [if_neg (by rw [this]; simp)]
 | grp e =>
  simp only [lay, last_node, Tr.level]
  unfold lvlN
  rw [if_neg (by simp [isOpN])]
 | pre o e =>
  simp only [lay, last_node, Tr.level]
  exact lvl_op hu h2.1 (by have := h3.1; omega) rfl rfl
 | post o e =>
  simp only [lay, last_node, Tr.level]
  exact lvl_op hu h2.1 (by have := h3.1; omega) rfl rfl
 | inf o x y =>
  simp only [lay, last_node, Tr.level]
  exact lvl_op hu h2.1 (by have := h3.1; omega) rfl rfl
end Go.Proofs.YtjdmmhcogmepaaaGreatDoor.V
namespace Go.Proofs.YtjdmmhcogmepaaaGreatDoor.V
open Go.RowKit
open Go.Proofs.YtjdmmhcogmepaaaGreatDoor.Ops (Tr Tk Lv Res Fit)
set_option linter.unusedVariables false
set_option linter.unusedSimpArgs false
set_option linter.constructorNameAsVariable false
def BuildR (m : Nat) (out : List PNode) (r : Option PT) (av : AV) (mem : List (Option Ob)) (maps : List (Nat × Mp)) : Prop := match r with
 | some e => av = .tup [.own 1, .lit (.bool true)] ∧ mem = [none, nodRow (lay e out)] ∧ maps = []
 | none => ∃ T : List PNode, T.length ≤ out.length + m ∧ ((av = .tup [.own 1, .lit (.bool false)] ∧ mem = [none, nodRow T] ∧ maps = []) ∨ (av = .tup [.own 0, .lit (.bool false)] ∧ mem = [nodRow T] ∧ maps = []))
theorem c_build_leaf (l : List POp) (hl : l.length ≤ 9223372036854775807) (hu : Uniq l) (t : List PTok) (ht : t.length ≤ 1048576) (rs : List Int) (hrs : rs.length = t.length) (a : Nat) (ha : a + 1 ≤ t.length) (b : Int × ByteArray) (hs : SegIs l t rs a [.leaf b]) (out : List PNode) (ho : out.length ≤ 2000000) :
  VProc Tryz.prog 70 [.agg [.sl 4 l.length (opCells l)], .sl 3 t.length (tokCells t), .sl 1 rs.length (intCells rs), .lit (.int .i64 a), .lit (.int .i64 (a + 1 : Nat)), .own 0] [nodRow out] [] (BuildR 1 out (some (.leaf b))) := by
 have cl : ∀ (i : Nat) (c : AV), i < l.length → c ∈ opCells l i → Closed c := fun i c _ h => opClosed l i c h
 have clt : ∀ (i : Nat) (c : AV), i < t.length → c ∈ tokCells t i → Closed c := fun i c _ h => tokClosed t i c h
 have cli : ∀ (i : Nat) (c : AV), i < rs.length → c ∈ intCells rs i → Closed c := fun i c _ h => intClosed rs i c h
 have cr := c_l3Root l hl hu t ht rs hrs a (a + 1) [.leaf b] rfl ha hs
 have er : Ops.root lvO ([.leaf b] : List TkP) 0 0 none = none := by simp [Ops.root, Tk.turn, Tk.op?]
 rw [er] at cr
 simp only [bestI] at cr
 obtain ⟨⟨hk, hb⟩, _, _⟩ := hs
 have hat : a < t.length := by omega
 refine vproc_start Tryz.func70 (by kernel_rfl) rfl (by simp [Tryz.ntmps70]) ?_; simp only [Tryz.ntmps70, Tryz.results70]; simp [go_sem]
 refine vcall_pure cr ?_ ?_
 ·simp [go_sem]
  exact ⟨argSl_refl (by omega) cl, argSl_refl (by omega) clt, argSl_refl (by omega) cli⟩
 ·have k4 : (tokAt t a).kind ≠ 4 := by omega
  rcases hk with hk | hk
  ·simp [go_sem, tokCells_at, hat, hk, nodRow]
   refine ⟨by omega, by omega, ?_⟩
   refine ⟨rfl, [4], [none, nodRow (lay (.leaf b) out)], by simp, by simp [go_sem], by simp [go_sem], ?_, by simp [go_sem], ?_⟩
   ·simp [go_sem, nodRow]
    refine outAt_app (o := ⟨(tokAt t a).text, 1, 0, 0⟩) (by rw [hb, hk]; simp [lay]) fun j hj => ?_
    exact nod_app out ⟨(tokAt t a).text, 1, 0, 0⟩ j hj
   ·simp [go_sem, BuildR, nodRow]
  ·simp [go_sem, tokCells_at, hat, hk, nodRow]
   refine ⟨by omega, by omega, ?_⟩
   refine ⟨rfl, [4], [none, nodRow (lay (.leaf b) out)], by simp, by simp [go_sem], by simp [go_sem], ?_, by simp [go_sem], ?_⟩
   ·simp [go_sem, nodRow]
    refine outAt_app (o := ⟨(tokAt t a).text, 2, 0, 0⟩) (by rw [hb, hk]; simp [lay]) fun j hj => ?_
    exact nod_app out ⟨(tokAt t a).text, 2, 0, 0⟩ j hj
   ·simp [go_sem, BuildR, nodRow]
theorem c_build_grp (l : List POp) (hl : l.length ≤ 9223372036854775807) (hu : Uniq l) (t : List PTok) (ht : t.length ≤ 1048576) (rs : List Int) (hrs : rs.length = t.length) (a b : Nat) (s : List TkP) (hab : a + s.length = b) (hb : b ≤ t.length) (hs : SegIs l t rs a s) (u : List TkP) (hsu : s = .opn :: (u ++ [.cls])) (er : Ops.root lvO s 0 0 none = none) (out : List PNode) (ho : out.length ≤ 2000000) (r : Option PT) (hr : ∀ e, r = some e → (lay e out).length ≤ 3000000)
  (ih : VProc Tryz.prog 70 [.agg [.sl 4 l.length (opCells l)], .sl 3 t.length (tokCells t), .sl 1 rs.length (intCells rs), .lit (.int .i64 (a + 1 : Nat)), .lit (.int .i64 (b - 1 : Nat)), .own 0] [nodRow out] [] (BuildR u.length out r)) :
  VProc Tryz.prog 70 [.agg [.sl 4 l.length (opCells l)], .sl 3 t.length (tokCells t), .sl 1 rs.length (intCells rs), .lit (.int .i64 a), .lit (.int .i64 b), .own 0] [nodRow out] [] (BuildR s.length out (r.map .grp)) := by
 have cl : ∀ (i : Nat) (c : AV), i < l.length → c ∈ opCells l i → Closed c := fun i c _ h => opClosed l i c h
 have clt : ∀ (i : Nat) (c : AV), i < t.length → c ∈ tokCells t i → Closed c := fun i c _ h => tokClosed t i c h
 have cli : ∀ (i : Nat) (c : AV), i < rs.length → c ∈ intCells rs i → Closed c := fun i c _ h => intClosed rs i c h
 have cr := c_l3Root l hl hu t ht rs hrs a b s hab hb hs
 rw [er] at cr
 simp only [bestI] at cr
 have hlen : 2 ≤ s.length := by rw [hsu]; simp
 have hk : (tokAt t a).kind = 4 := by rw [hsu] at hs; exact hs.1
 have hat : a < t.length := by omega
 have ew1 : IntKind.i64.wrap ((a : Int) + 1) = ((a + 1 : Nat) : Int) := wrap_succ (by omega)
 have ew2 : IntKind.i64.wrap ((b : Int) - 1) = ((b - 1 : Nat) : Int) := by rw [wrap_i64 (by omega)]; omega
 refine vproc_start Tryz.func70 (by kernel_rfl) rfl (by simp [Tryz.ntmps70]) ?_; simp only [Tryz.ntmps70, Tryz.results70]; simp [go_sem]
 refine vcall_pure cr ?_ ?_
 ·simp [go_sem]
  exact ⟨argSl_refl (by omega) cl, argSl_refl (by omega) clt, argSl_refl (by omega) cli⟩
 ·simp [go_sem, tokCells_at, hat, hk, ew1, ew2]
  refine vcall_share [0] ih (by simp) ?_ ?_ trivial ?_
  ·simp [go_sem]
   exact ⟨cl, clt, cli⟩
  ·simp [go_sem, nodRow]
   exact fun i _ => cellsRn_lits (nodLit _ i)
  ·intro av mem maps hB
   cases r with
   | some e =>
    obtain ⟨rfl, rfl, rfl⟩ := hB
    have h1 := hr e rfl
    have h0 := lay_grows e out
    have ew : IntKind.i64.wrap (((lay e out).length : Int) - 1) = ((lay e out).length : Int) - 1 := wrap_i64 (by omega)
    simp [go_sem, nodRow, ew]
    refine ⟨by omega, by omega, by omega, ?_⟩
    refine ⟨rfl, [4], [none, nodRow (lay (.grp e) out)], by simp, by simp [go_sem], by simp [go_sem], ?_, by simp [go_sem], ?_⟩
    ·simp [go_sem, nodRow]
     refine outAt_app (o := ⟨⟨#[]⟩, 6, ((lay e out).length : Int) - 1, 0⟩) (by simp [lay]) fun j hj => ?_
     exact nod_app (lay e out) ⟨⟨#[]⟩, 6, ((lay e out).length : Int) - 1, 0⟩ j hj
    ·simp [go_sem, BuildR, nodRow]
   | none =>
    have hsl : s.length = u.length + 2 := by rw [hsu]; simp
    obtain ⟨T, hT, hB⟩ := hB
    have ew : IntKind.i64.wrap ((T.length : Int) - 1) = (T.length : Int) - 1 := wrap_i64 (by omega)
    rcases hB with ⟨rfl, rfl, rfl⟩ | ⟨rfl, rfl, rfl⟩
    ·simp [go_sem, nodRow, ew]
     refine ⟨by omega, by omega, by omega, ?_⟩
     obtain ⟨T2, hT2⟩ : ∃ T2, T2 = T ++ [(⟨⟨#[]⟩, 6, (T.length : Int) - 1, 0⟩ : PNode)] := ⟨_, rfl⟩
     have hl2 : T2.length = T.length + 1 := by rw [hT2]; simp
     refine ⟨rfl, [4], [none, nodRow T2], by simp, by simp [go_sem], by simp [go_sem], ?_, by simp [go_sem], ?_⟩
     ·simp [go_sem, nodRow]
      refine outAt_app (o := ⟨⟨#[]⟩, 6, (T.length : Int) - 1, 0⟩) hT2 fun j hj => ?_
      exact nod_app T ⟨⟨#[]⟩, 6, (T.length : Int) - 1, 0⟩ j hj
     ·simp [go_sem]
      exact ⟨T2, by omega, .inl ⟨rfl, rfl, rfl⟩⟩
    ·simp [go_sem, nodRow, ew]
     refine ⟨by omega, by omega, by omega, ?_⟩
     obtain ⟨T2, hT2⟩ : ∃ T2, T2 = T ++ [(⟨⟨#[]⟩, 6, (T.length : Int) - 1, 0⟩ : PNode)] := ⟨_, rfl⟩
     have hl2 : T2.length = T.length + 1 := by rw [hT2]; simp
     refine ⟨rfl, [3], [none, nodRow T2], by simp, by simp [go_sem], by simp [go_sem], ?_, by simp [go_sem], ?_⟩
     ·simp [go_sem, nodRow]
      refine outAt_app (o := ⟨⟨#[]⟩, 6, (T.length : Int) - 1, 0⟩) hT2 fun j hj => ?_
      exact nod_app T ⟨⟨#[]⟩, 6, (T.length : Int) - 1, 0⟩ j hj
     ·simp [go_sem]
      exact ⟨T2, by omega, .inl ⟨rfl, rfl, rfl⟩⟩
end Go.Proofs.YtjdmmhcogmepaaaGreatDoor.V
namespace Go.Proofs.YtjdmmhcogmepaaaGreatDoor.V
open Go.RowKit
open Go.Proofs.YtjdmmhcogmepaaaGreatDoor.Ops (Tr Tk Lv Res Fit)
set_option linter.unusedVariables false
set_option linter.unusedSimpArgs false
set_option linter.constructorNameAsVariable false
theorem c_build_bad (l : List POp) (hl : l.length ≤ 9223372036854775807) (hu : Uniq l) (t : List PTok) (ht : t.length ≤ 1048576) (rs : List Int) (hrs : rs.length = t.length) (a b : Nat) (s : List TkP) (hab : a + s.length = b) (hb : b ≤ t.length) (hs : SegIs l t rs a s) (k : Nat) (o : POp) (er : Ops.root lvO s 0 0 none = some (k, o)) (tk : TkP) (hk : s[k]? = some tk) (hbad : (tk = .pre o ∧ k ≠ 0) ∨ (tk = .post o ∧ k + 1 ≠ s.length)) (out : List PNode) (ho : out.length ≤ 2000000) :
  VProc Tryz.prog 70 [.agg [.sl 4 l.length (opCells l)], .sl 3 t.length (tokCells t), .sl 1 rs.length (intCells rs), .lit (.int .i64 a), .lit (.int .i64 b), .own 0] [nodRow out] [] (BuildR s.length out none) := by
 have cl : ∀ (i : Nat) (c : AV), i < l.length → c ∈ opCells l i → Closed c := fun i c _ h => opClosed l i c h
 have clt : ∀ (i : Nat) (c : AV), i < t.length → c ∈ tokCells t i → Closed c := fun i c _ h => tokClosed t i c h
 have cli : ∀ (i : Nat) (c : AV), i < rs.length → c ∈ intCells rs i → Closed c := fun i c _ h => intClosed rs i c h
 have cr := c_l3Root l hl hu t ht rs hrs a b s hab hb hs
 rw [er] at cr
 have eb : bestI a (some (k, o)) = ((a + k : Nat) : Int) := rfl
 rw [eb] at cr
 have hlt := (List.getElem?_eq_some_iff.1 hk).1
 obtain ⟨_, hr⟩ := seg_at hs hk
 have hp : a + k < t.length := by omega
 obtain ⟨p, hp'⟩ : ∃ p, a + k = p := ⟨_, rfl⟩
 rw [hp'] at cr hr hp
 have hp0 : ¬ ((p : Int) < 0) := by omega
 have hp2 : p < rs.length := by omega
 refine vproc_start Tryz.func70 (by kernel_rfl) rfl (by simp [Tryz.ntmps70]) ?_; simp only [Tryz.ntmps70, Tryz.results70]; simp [go_sem]
 refine vcall_pure cr ?_ ?_
 ·simp [go_sem]
  exact ⟨argSl_refl (by omega) cl, argSl_refl (by omega) clt, argSl_refl (by omega) cli⟩
 ·simp [go_sem, hp0]
  refine vc_drawn [12] (.q 0 <| .q 1 <| .q 2 <| .q 3 <| .q 4 <| .q 5 <| .q 6 <| .q 7 <| .q 8 <| .q 9 <| .q 10 <| .or 11 (.or 12 (.done) (.nil)) (.nil)) (by kernel_rfl) ?_
  rcases hbad with ⟨rfl, hk0⟩ | ⟨rfl, hk0⟩
  ·have w : IntKind.i64.wrap 3 = 3 := by decide
   have hne : ¬ (p : Int) = (a : Int) := by omega
   have hbn : ((p : Int) != (a : Int)) = true := by simp; omega
   simp only [roleT] at hr
   simp [go_sem, tokCells_at, intCells_at, hp, hp2, hr, w, hne, hbn, nodRow]
   refine ⟨rfl, [], [nodRow out], by simp, by simp [go_sem], by simp [go_sem], ?_, by simp [go_sem], ?_⟩
   ·simp [go_sem, nodRow]
    exact outAt_same rfl fun j _ => rfl
   ·simp [go_sem]
    exact ⟨out, by omega, .inr ⟨rfl, rfl, rfl⟩⟩
  ·have w : IntKind.i64.wrap 5 = 5 := by decide
   have wb : IntKind.i64.wrap ((b : Int) - 1) = (b : Int) - 1 := wrap_i64 (by omega)
   have hne : ¬ (p : Int) = (b : Int) - 1 := by omega
   have hbn : ((p : Int) != (b : Int) - 1) = true := by simp; omega
   simp only [roleT] at hr
   simp [go_sem, tokCells_at, intCells_at, hp, hp2, hr, w, wb, hne, hbn, nodRow]
   refine ⟨rfl, [], [nodRow out], by simp, by simp [go_sem], by simp [go_sem], ?_, by simp [go_sem], ?_⟩
   ·simp [go_sem, nodRow]
    exact outAt_same rfl fun j _ => rfl
   ·simp [go_sem]
    exact ⟨out, by omega, .inr ⟨rfl, rfl, rfl⟩⟩
theorem c_build_pre_none (l : List POp) (hl : l.length ≤ 9223372036854775807) (hu : Uniq l) (t : List PTok) (ht : t.length ≤ 1048576) (rs : List Int) (hrs : rs.length = t.length) (a b : Nat) (s : List TkP) (hab : a + s.length = b) (hb : b ≤ t.length) (hs : SegIs l t rs a s) (o : POp) (er : Ops.root lvO s 0 0 none = some (0, o)) (hk : s[0]? = some (.pre o)) (out : List PNode) (ho : out.length ≤ 2000000)
  (ih : VProc Tryz.prog 70 [.agg [.sl 4 l.length (opCells l)], .sl 3 t.length (tokCells t), .sl 1 rs.length (intCells rs), .lit (.int .i64 (a + 1 : Nat)), .lit (.int .i64 b), .own 0] [nodRow out] [] (BuildR (s.length - 1) out none)) :
  VProc Tryz.prog 70 [.agg [.sl 4 l.length (opCells l)], .sl 3 t.length (tokCells t), .sl 1 rs.length (intCells rs), .lit (.int .i64 a), .lit (.int .i64 b), .own 0] [nodRow out] [] (BuildR s.length out none) := by
 have cl : ∀ (i : Nat) (c : AV), i < l.length → c ∈ opCells l i → Closed c := fun i c _ h => opClosed l i c h
 have clt : ∀ (i : Nat) (c : AV), i < t.length → c ∈ tokCells t i → Closed c := fun i c _ h => tokClosed t i c h
 have cli : ∀ (i : Nat) (c : AV), i < rs.length → c ∈ intCells rs i → Closed c := fun i c _ h => intClosed rs i c h
 have cr := c_l3Root l hl hu t ht rs hrs a b s hab hb hs
 rw [er] at cr
 have eb : bestI a (some (0, o)) = (a : Int) := by simp [bestI]
 rw [eb] at cr
 have hlt := (List.getElem?_eq_some_iff.1 hk).1
 obtain ⟨_, hr⟩ := seg_at hs hk
 simp only [Nat.add_zero, roleT] at hr
 have hp : a < t.length := by omega
 have hp0 : ¬ ((a : Int) < 0) := by omega
 have hp2 : a < rs.length := by omega
 have w : IntKind.i64.wrap 3 = 3 := by decide
 have ew1 : IntKind.i64.wrap ((a : Int) + 1) = ((a + 1 : Nat) : Int) := wrap_succ (by omega)
 refine vproc_start Tryz.func70 (by kernel_rfl) rfl (by simp [Tryz.ntmps70]) ?_; simp only [Tryz.ntmps70, Tryz.results70]; simp [go_sem]
 refine vcall_pure cr ?_ ?_
 ·simp [go_sem]
  exact ⟨argSl_refl (by omega) cl, argSl_refl (by omega) clt, argSl_refl (by omega) cli⟩
 ·simp [go_sem, hp0]
  refine vc_drawn [12] (.q 0 <| .q 1 <| .q 2 <| .q 3 <| .q 4 <| .q 5 <| .q 6 <| .q 7 <| .q 8 <| .q 9 <| .q 10 <| .or 11 (.or 12 (.done) (.nil)) (.nil)) (by kernel_rfl) ?_
  simp [go_sem, tokCells_at, intCells_at, hp, hp2, hr, w, ew1, nodRow]
  refine vcall_share [0] ih (by simp) ?_ ?_ trivial ?_
  ·simp [go_sem]
   exact ⟨cl, clt, cli⟩
  ·simp [go_sem, nodRow]
   exact fun i _ => cellsRn_lits (nodLit _ i)
  ·rintro av mem maps ⟨T, hT, hB⟩
   rcases hB with ⟨rfl, rfl, rfl⟩ | ⟨rfl, rfl, rfl⟩
   ·simp [go_sem, nodRow]
    refine ⟨rfl, [3], [none, nodRow T], by simp, by simp [go_sem], by simp [go_sem], ?_, by simp [go_sem], ?_⟩
    ·simp [go_sem, nodRow]
     exact outAt_same rfl fun j _ => rfl
    ·simp [go_sem]
     exact ⟨T, by omega, .inl ⟨rfl, rfl, rfl⟩⟩
   ·simp [go_sem, nodRow]
    refine ⟨rfl, [], [nodRow T], by simp, by simp [go_sem], by simp [go_sem], ?_, by simp [go_sem], ?_⟩
    ·simp [go_sem, nodRow]
     exact outAt_same rfl fun j _ => rfl
    ·simp [go_sem]
     exact ⟨T, by omega, .inr ⟨rfl, rfl, rfl⟩⟩
end Go.Proofs.YtjdmmhcogmepaaaGreatDoor.V
namespace Go.Proofs.YtjdmmhcogmepaaaGreatDoor.V
open Go.RowKit
open Go.Proofs.YtjdmmhcogmepaaaGreatDoor.Ops (Tr Tk Lv Res Fit)
set_option linter.unusedVariables false
set_option linter.unusedSimpArgs false
theorem nodAt_old {T : List PNode} {nd : PNode} {i : Nat} (h : i < T.length) : nodAt (T ++ [nd]) i = nodAt T i := by
 simp [nodAt, List.getD_eq_getElem?_getD, List.getElem?_append_left h]
theorem nodAt_new {T : List PNode} {nd : PNode} : nodAt (T ++ [nd]) T.length = nd := by
 simp [nodAt, List.getD_eq_getElem?_getD]
theorem fits_pre {l : List POp} (hu : Uniq l) {o : POp} (hj : InL l o) (hok : opOk o = true) (hk : o.kind = 1) (e : PT) (out : List PNode) (h1 : LeavesOk e) (h2 : e.All lvO (InL l)) (h3 : KindsOk e) :
  fitsN l (lay e out ++ [⟨o.text, 3, ((lay e out).length : Int) - 1, 0⟩]) (lay e out).length = decide ((lvO o).h2 ≤ e.level lvO) := by
 have hg := lay_grows e out
 have hl := lvl_last hu e out h1 h2 h3
 obtain ⟨g1, g2⟩ := op_unique hu (z := o.text) rfl hj
 rw [hk] at g2
 have hn : nodAt (lay e out ++ [(⟨o.text, 3, ((lay e out).length : Int) - 1, 0⟩ : PNode)]) (lay e out).length = ⟨o.text, 3, ((lay e out).length : Int) - 1, 0⟩ := nodAt_new
 have ha : (((lay e out).length : Int) - 1).toNat = (lay e out).length - 1 := by omega
 unfold fitsN
 rw [hn]
 simp only [ha]
 rw [nodAt_old (by omega), hl]
 have hd : ndOp l ⟨o.text, 3, ((lay e out).length : Int) - 1, 0⟩ = o := by simp only [ndOp]; exact g2
 rw [hd, hole_h2p hok hk]
 simp [isOpN, kidsN]
theorem fits_post {l : List POp} (hu : Uniq l) {o : POp} (hj : InL l o) (hok : opOk o = true) (hk : o.kind = 3) (e : PT) (out : List PNode) (h1 : LeavesOk e) (h2 : e.All lvO (InL l)) (h3 : KindsOk e) :
  fitsN l (lay e out ++ [⟨o.text, 5, ((lay e out).length : Int) - 1, 0⟩]) (lay e out).length = decide ((lvO o).h1 ≤ e.level lvO) := by
 have hg := lay_grows e out
 have hl := lvl_last hu e out h1 h2 h3
 obtain ⟨g1, g2⟩ := op_unique hu (z := o.text) rfl hj
 rw [hk] at g2
 have hn : nodAt (lay e out ++ [(⟨o.text, 5, ((lay e out).length : Int) - 1, 0⟩ : PNode)]) (lay e out).length = ⟨o.text, 5, ((lay e out).length : Int) - 1, 0⟩ := nodAt_new
 have ha : (((lay e out).length : Int) - 1).toNat = (lay e out).length - 1 := by omega
 unfold fitsN
 rw [hn]
 simp only [ha]
 rw [nodAt_old (by omega), hl]
 have hd : ndOp l ⟨o.text, 5, ((lay e out).length : Int) - 1, 0⟩ = o := by simp only [ndOp]; exact g2
 rw [hd, hole_h1 hok (by omega)]
 simp [isOpN, kidsN]
theorem lay_old : ∀ (e : PT) (out : List PNode) (i : Nat), i < out.length → nodAt (lay e out) i = nodAt out i
 | .leaf b, out, i, h => by simp only [lay]; exact nodAt_old h
 | .grp e, out, i, h => by
  have := lay_grows e out
  simp only [lay]; rw [nodAt_old (by omega)]; exact lay_old e out i h
 | .pre o e, out, i, h => by
  have := lay_grows e out
  simp only [lay]; rw [nodAt_old (by omega)]; exact lay_old e out i h
 | .post o e, out, i, h => by
  have := lay_grows e out
  simp only [lay]; rw [nodAt_old (by omega)]; exact lay_old e out i h
 | .inf o x y, out, i, h => by
  have := lay_grows x out
  have := lay_grows y (lay x out)
  simp only [lay]; rw [nodAt_old (by omega), lay_old y (lay x out) i (by omega)]; exact lay_old x out i h
theorem fits_inf {l : List POp} (hu : Uniq l) {o : POp} (hj : InL l o) (hok : opOk o = true) (hk : o.kind = 2) (x y : PT) (out : List PNode) (h1 : LeavesOk x) (h2 : x.All lvO (InL l)) (h3 : KindsOk x) (q1 : LeavesOk y) (q2 : y.All lvO (InL l)) (q3 : KindsOk y) :
  fitsN l (lay y (lay x out) ++ [⟨o.text, 4, ((lay x out).length : Int) - 1, ((lay y (lay x out)).length : Int) - 1⟩]) (lay y (lay x out)).length = decide ((lvO o).h1 ≤ x.level lvO ∧ (lvO o).h2 ≤ y.level lvO) := by
 have hg := lay_grows x out
 have hg2 := lay_grows y (lay x out)
 have hl := lvl_last hu x out h1 h2 h3
 have hl2 := lvl_last hu y (lay x out) q1 q2 q3
 obtain ⟨g1, g2⟩ := op_unique hu (z := o.text) rfl hj
 rw [hk] at g2
 have hn : nodAt (lay y (lay x out) ++ [(⟨o.text, 4, ((lay x out).length : Int) - 1, ((lay y (lay x out)).length : Int) - 1⟩ : PNode)]) (lay y (lay x out)).length = ⟨o.text, 4, ((lay x out).length : Int) - 1, ((lay y (lay x out)).length : Int) - 1⟩ := nodAt_new
 have ha : (((lay x out).length : Int) - 1).toNat = (lay x out).length - 1 := by omega
 have hb : (((lay y (lay x out)).length : Int) - 1).toNat = (lay y (lay x out)).length - 1 := by omega
 unfold fitsN
 rw [hn]
 simp only [ha, hb]
 rw [nodAt_old (by omega), nodAt_old (by omega), hl2, lay_old y (lay x out) _ (by omega), hl]
 have hd : ndOp l ⟨o.text, 4, ((lay x out).length : Int) - 1, ((lay y (lay x out)).length : Int) - 1⟩ = o := by simp only [ndOp]; exact g2
 rw [hd, hole_h1 hok (by omega), hole_h2i hok hk]
 simp [isOpN, kidsN]
end Go.Proofs.YtjdmmhcogmepaaaGreatDoor.V
namespace Go.Proofs.YtjdmmhcogmepaaaGreatDoor.V
open Go.RowKit
open Go.Proofs.YtjdmmhcogmepaaaGreatDoor.Ops (Tr Tk Lv Res Fit)
set_option linter.unusedVariables false
set_option linter.unusedSimpArgs false
set_option linter.constructorNameAsVariable false
theorem c_build_left_none (l : List POp) (hl : l.length ≤ 9223372036854775807) (hu : Uniq l) (t : List PTok) (ht : t.length ≤ 1048576) (rs : List Int) (hrs : rs.length = t.length) (a b : Nat) (s : List TkP) (hab : a + s.length = b) (hb : b ≤ t.length) (hs : SegIs l t rs a s) (k : Nat) (o : POp) (er : Ops.root lvO s 0 0 none = some (k, o)) (tk : TkP) (hk : s[k]? = some tk) (htk : tk = .inf o ∨ (tk = .post o ∧ k + 1 = s.length)) (out : List PNode) (ho : out.length ≤ 2000000)
  (ih : VProc Tryz.prog 70 [.agg [.sl 4 l.length (opCells l)], .sl 3 t.length (tokCells t), .sl 1 rs.length (intCells rs), .lit (.int .i64 a), .lit (.int .i64 (a + k : Nat)), .own 0] [nodRow out] [] (BuildR k out none)) :
  VProc Tryz.prog 70 [.agg [.sl 4 l.length (opCells l)], .sl 3 t.length (tokCells t), .sl 1 rs.length (intCells rs), .lit (.int .i64 a), .lit (.int .i64 b), .own 0] [nodRow out] [] (BuildR s.length out none) := by
 have cl : ∀ (i : Nat) (c : AV), i < l.length → c ∈ opCells l i → Closed c := fun i c _ h => opClosed l i c h
 have clt : ∀ (i : Nat) (c : AV), i < t.length → c ∈ tokCells t i → Closed c := fun i c _ h => tokClosed t i c h
 have cli : ∀ (i : Nat) (c : AV), i < rs.length → c ∈ intCells rs i → Closed c := fun i c _ h => intClosed rs i c h
 have cr := c_l3Root l hl hu t ht rs hrs a b s hab hb hs
 rw [er] at cr
 have eb : bestI a (some (k, o)) = ((a + k : Nat) : Int) := rfl
 rw [eb] at cr
 have hlt := (List.getElem?_eq_some_iff.1 hk).1
 obtain ⟨_, hr⟩ := seg_at hs hk
 have hp : a + k < t.length := by omega
 obtain ⟨p, hp'⟩ : ∃ p, a + k = p := ⟨_, rfl⟩
 rw [hp'] at cr hr hp ih
 have hp0 : ¬ ((p : Int) < 0) := by omega
 have hp2 : p < rs.length := by omega
 have w4 : IntKind.i64.wrap 4 = 4 := by decide
 have w5 : IntKind.i64.wrap 5 = 5 := by decide
 have wb : IntKind.i64.wrap ((b : Int) - 1) = (b : Int) - 1 := wrap_i64 (by omega)
 refine vproc_start Tryz.func70 (by kernel_rfl) rfl (by simp [Tryz.ntmps70]) ?_; simp only [Tryz.ntmps70, Tryz.results70]; simp [go_sem]
 refine vcall_pure cr ?_ ?_
 ·simp [go_sem]
  exact ⟨argSl_refl (by omega) cl, argSl_refl (by omega) clt, argSl_refl (by omega) cli⟩
 ·simp [go_sem, hp0]
  refine vc_drawn [12] (.q 0 <| .q 1 <| .q 2 <| .q 3 <| .q 4 <| .q 5 <| .q 6 <| .q 7 <| .q 8 <| .q 9 <| .q 10 <| .or 11 (.or 12 (.done) (.nil)) (.nil)) (by kernel_rfl) ?_
  rcases htk with rfl | ⟨rfl, hke⟩
  ·simp only [roleT] at hr
   simp [go_sem, tokCells_at, intCells_at, hp, hp2, hr, w4, nodRow]
   refine vcall_share [0] ih (by simp) ?_ ?_ trivial ?_
   ·simp [go_sem]
    exact ⟨cl, clt, cli⟩
   ·simp [go_sem, nodRow]
    exact fun i _ => cellsRn_lits (nodLit _ i)
   ·rintro av mem maps ⟨T, hT, hB⟩
    rcases hB with ⟨rfl, rfl, rfl⟩ | ⟨rfl, rfl, rfl⟩
    ·simp [go_sem, nodRow]
     refine ⟨rfl, [3], [none, nodRow T], by simp, by simp [go_sem], by simp [go_sem], ?_, by simp [go_sem], ?_⟩
     ·simp [go_sem, nodRow]
      exact outAt_same rfl fun j _ => rfl
     ·simp [go_sem]
      exact ⟨T, by omega, .inl ⟨rfl, rfl, rfl⟩⟩
    ·simp [go_sem, nodRow]
     refine ⟨rfl, [], [nodRow T], by simp, by simp [go_sem], by simp [go_sem], ?_, by simp [go_sem], ?_⟩
     ·simp [go_sem, nodRow]
      exact outAt_same rfl fun j _ => rfl
     ·simp [go_sem]
      exact ⟨T, by omega, .inr ⟨rfl, rfl, rfl⟩⟩
  ·simp only [roleT] at hr
   have hpb : IntKind.i64.wrap ((b : Int) - 1) = (p : Int) := by rw [wb]; omega
   simp [go_sem, tokCells_at, intCells_at, hp, hp2, hr, w5, hpb, nodRow]
   refine vcall_share [0] ih (by simp) ?_ ?_ trivial ?_
   ·simp [go_sem]
    exact ⟨cl, clt, cli⟩
   ·simp [go_sem, nodRow]
    exact fun i _ => cellsRn_lits (nodLit _ i)
   ·rintro av mem maps ⟨T, hT, hB⟩
    rcases hB with ⟨rfl, rfl, rfl⟩ | ⟨rfl, rfl, rfl⟩
    ·simp [go_sem, nodRow]
     refine ⟨rfl, [3], [none, nodRow T], by simp, by simp [go_sem], by simp [go_sem], ?_, by simp [go_sem], ?_⟩
     ·simp [go_sem, nodRow]
      exact outAt_same rfl fun j _ => rfl
     ·simp [go_sem]
      exact ⟨T, by omega, .inl ⟨rfl, rfl, rfl⟩⟩
    ·simp [go_sem, nodRow]
     refine ⟨rfl, [], [nodRow T], by simp, by simp [go_sem], by simp [go_sem], ?_, by simp [go_sem], ?_⟩
     ·simp [go_sem, nodRow]
      exact outAt_same rfl fun j _ => rfl
     ·simp [go_sem]
      exact ⟨T, by omega, .inr ⟨rfl, rfl, rfl⟩⟩
end Go.Proofs.YtjdmmhcogmepaaaGreatDoor.V
namespace Go.Proofs.YtjdmmhcogmepaaaGreatDoor.V
open Go.RowKit
open Go.Proofs.YtjdmmhcogmepaaaGreatDoor.Ops (Tr Tk Lv Res Fit)
set_option linter.unusedVariables false
set_option linter.unusedSimpArgs false
set_option linter.constructorNameAsVariable false
theorem has_last {l : List POp} (hu : Uniq l) (e : PT) (out : List PNode) (h1 : LeavesOk e) (h2 : e.All lvO (InL l)) (h3 : KindsOk e) (h : isOpN (nodAt (lay e out) ((lay e out).length - 1)) = true) : opHas l (nodAt (lay e out) ((lay e out).length - 1)).text ((nodAt (lay e out) ((lay e out).length - 1)).kind - 2) = true := by
 have one : ∀ {o : POp}, InL l o → opHas l o.text (o.kind + 2 - 2) = true := fun {o} hj => by
  rw [show o.kind + 2 - 2 = o.kind by omega]
  exact (op_unique hu rfl hj).1
 cases e with
 | leaf b =>
  simp only [lay, last_node] at h
  have h1' : b.1 = 1 ∨ b.1 = 2 := h1
  simp [isOpN] at h; omega
 | grp e => simp only [lay, last_node] at h; simp [isOpN] at h
 | pre o e => simp only [lay, last_node]; exact one h2.1
 | post o e => simp only [lay, last_node]; exact one h2.1
 | inf o x y => simp only [lay, last_node]; exact one h2.1
theorem argSl_ownE {mem : List (Option Ob)} {k sz n N ty : Nat} {f f' : Nat → List AV} (hk : mem[k]? = some (some ⟨ty, sz, N, f⟩)) (hsz : 0 < sz) (hn : N = n) (h : ∀ i, i < n → f i = f' i) (hc : ∀ (i : Nat) c, i < n → c ∈ f' i → Closed c) : ArgSl mem (.own k) sz n f' :=
 ⟨hsz, f, by simp [contents, hk, hn], fun i hi => ⟨h i hi, fun c hc' => hc i c hi hc'⟩⟩
theorem c_build_pre_some (l : List POp) (hl : l.length ≤ 9223372036854775807) (hu : Uniq l) (t : List PTok) (ht : t.length ≤ 1048576) (rs : List Int) (hrs : rs.length = t.length) (a b : Nat) (s : List TkP) (hab : a + s.length = b) (hb : b ≤ t.length) (hs : SegIs l t rs a s) (o : POp) (er : Ops.root lvO s 0 0 none = some (0, o)) (hk : s[0]? = some (.pre o)) (hw : opsWf l) (hj : InL l o) (hok : opOk o = true) (hk1 : o.kind = 1) (e : PT) (h1 : LeavesOk e) (h2 : e.All lvO (InL l)) (h3 : KindsOk e) (out : List PNode) (ho : out.length ≤ 2000000) (hle : (lay e out).length ≤ 3000000) (hsz : (lay e out).length ≤ out.length + (s.length - 1))
  (ih : VProc Tryz.prog 70 [.agg [.sl 4 l.length (opCells l)], .sl 3 t.length (tokCells t), .sl 1 rs.length (intCells rs), .lit (.int .i64 (a + 1 : Nat)), .lit (.int .i64 b), .own 0] [nodRow out] [] (BuildR (s.length - 1) out (some e))) :
  VProc Tryz.prog 70 [.agg [.sl 4 l.length (opCells l)], .sl 3 t.length (tokCells t), .sl 1 rs.length (intCells rs), .lit (.int .i64 a), .lit (.int .i64 b), .own 0] [nodRow out] [] (BuildR s.length out (if (lvO o).h2 ≤ e.level lvO then some (.pre o e) else none)) := by
 have cl : ∀ (i : Nat) (c : AV), i < l.length → c ∈ opCells l i → Closed c := fun i c _ h => opClosed l i c h
 have clt : ∀ (i : Nat) (c : AV), i < t.length → c ∈ tokCells t i → Closed c := fun i c _ h => tokClosed t i c h
 have cli : ∀ (i : Nat) (c : AV), i < rs.length → c ∈ intCells rs i → Closed c := fun i c _ h => intClosed rs i c h
 have cr := c_l3Root l hl hu t ht rs hrs a b s hab hb hs
 rw [er] at cr
 have eb : bestI a (some (0, o)) = (a : Int) := by simp [bestI]
 rw [eb] at cr
 have hlt := (List.getElem?_eq_some_iff.1 hk).1
 obtain ⟨hTk, hr⟩ := seg_at hs hk
 have htx : o.text = (tokAt t a).text := hTk.2.1
 simp only [Nat.add_zero, roleT] at hr
 have hp : a < t.length := by omega
 have hp0 : ¬ ((a : Int) < 0) := by omega
 have hp2 : a < rs.length := by omega
 have w : IntKind.i64.wrap 3 = 3 := by decide
 have ew1 : IntKind.i64.wrap ((a : Int) + 1) = ((a + 1 : Nat) : Int) := wrap_succ (by omega)
 refine vproc_start Tryz.func70 (by kernel_rfl) rfl (by simp [Tryz.ntmps70]) ?_; simp only [Tryz.ntmps70, Tryz.results70]; simp [go_sem]
 refine vcall_pure cr ?_ ?_
 ·simp [go_sem]
  exact ⟨argSl_refl (by omega) cl, argSl_refl (by omega) clt, argSl_refl (by omega) cli⟩
 ·simp [go_sem, hp0]
  refine vc_drawn [12] (.q 0 <| .q 1 <| .q 2 <| .q 3 <| .q 4 <| .q 5 <| .q 6 <| .q 7 <| .q 8 <| .q 9 <| .q 10 <| .or 11 (.or 12 (.done) (.nil)) (.nil)) (by kernel_rfl) ?_
  simp [go_sem, tokCells_at, intCells_at, hp, hp2, hr, w, ew1, nodRow]
  refine vcall_share [0] ih (by simp) ?_ ?_ trivial ?_
  ·simp [go_sem]
   exact ⟨cl, clt, cli⟩
  ·simp [go_sem, nodRow]
   exact fun i _ => cellsRn_lits (nodLit _ i)
  ·rintro av mem maps ⟨rfl, rfl, rfl⟩
   have hg := lay_grows e out
   have ew : IntKind.i64.wrap (((lay e out).length : Int) - 1) = ((lay e out).length : Int) - 1 := wrap_i64 (by omega)
   simp [go_sem, nodRow, ew]
   have ew0 : IntKind.i64.wrap ((lay e out).length : Int) = (lay e out).length := wrap_i64 (by omega)
   obtain ⟨T2, hT2⟩ : ∃ T2, T2 = lay e out ++ [(⟨o.text, 3, ((lay e out).length : Int) - 1, 0⟩ : PNode)] := ⟨_, rfl⟩
   have hl2 : T2.length = (lay e out).length + 1 := by rw [hT2]; simp
   have hn : nodAt T2 (lay e out).length = ⟨o.text, 3, ((lay e out).length : Int) - 1, 0⟩ := by rw [hT2]; exact nodAt_new
   have hf : fitsN l T2 (lay e out).length = decide ((lvO o).h2 ≤ e.level lvO) := by rw [hT2]; exact fits_pre hu hj hok hk1 e out h1 h2 h3
   have cf := c_l3Fits l hl hw T2 (by omega) (lay e out).length (by omega) (fun _ => by
    rw [hn]
    have ha : (((lay e out).length : Int) - 1).toNat = (lay e out).length - 1 := by omega
    simp only [ha]
    rw [show nodAt T2 ((lay e out).length - 1) = nodAt (lay e out) ((lay e out).length - 1) by rw [hT2]; exact nodAt_old (by omega)]
    refine ⟨by have := (op_unique hu (z := o.text) rfl hj).1; rw [hk1] at this; exact this, by omega, has_last hu e out h1 h2 h3, fun hh => absurd rfl hh⟩)
   rw [hf] at cf
   rw [ew0]
   refine ⟨by omega, by omega, by omega, by omega, vcall_pure cf ?_ ?_⟩
   ·simp [go_sem]
    exact ⟨argSl_refl (by omega) cl, argSl_ownE (k := 5) rfl (by omega) hl2.symm (fun i hi => by rw [hT2, htx]; exact nod_app (lay e out) ⟨(tokAt t a).text, 3, ((lay e out).length : Int) - 1, 0⟩ i (by omega)) (fun i c _ h => nodClosed T2 i c h)⟩
   ·simp [go_sem]
    by_cases hc : (lvO o).h2 ≤ e.level lvO
    ·simp only [if_pos hc, hc, decide_true, if_true]
     refine ⟨rfl, [5], [none, nodRow (lay (.pre o e) out)], by simp, by simp [go_sem], by simp [go_sem], ?_, by simp [go_sem], ?_⟩
     ·simp [go_sem, nodRow]
      refine outAt_app (o := ⟨(tokAt t a).text, 3, ((lay e out).length : Int) - 1, 0⟩) (by rw [← htx]; simp [lay, hk1]) fun j hj => ?_
      exact nod_app (lay e out) ⟨(tokAt t a).text, 3, ((lay e out).length : Int) - 1, 0⟩ j hj
     ·simp [go_sem, BuildR, nodRow]
    ·simp only [if_neg hc, hc, decide_false]
     refine ⟨rfl, [5], [none, nodRow T2], by simp, by simp [go_sem], by simp [go_sem], ?_, by simp [go_sem], ?_⟩
     ·simp [go_sem, nodRow]
      refine outAt_app (o := ⟨(tokAt t a).text, 3, ((lay e out).length : Int) - 1, 0⟩) (by rw [← htx]; exact hT2) fun j hj => ?_
      exact nod_app (lay e out) ⟨(tokAt t a).text, 3, ((lay e out).length : Int) - 1, 0⟩ j hj
     ·simp [go_sem]
      exact ⟨T2, by omega, .inl ⟨rfl, rfl, rfl⟩⟩
end Go.Proofs.YtjdmmhcogmepaaaGreatDoor.V
namespace Go.Proofs.YtjdmmhcogmepaaaGreatDoor.V
open Go.RowKit
open Go.Proofs.YtjdmmhcogmepaaaGreatDoor.Ops (Tr Tk Lv Res Fit)
set_option linter.unusedVariables false
set_option linter.unusedSimpArgs false
set_option linter.constructorNameAsVariable false
theorem c_build_post_some (l : List POp) (hl : l.length ≤ 9223372036854775807) (hu : Uniq l) (t : List PTok) (ht : t.length ≤ 1048576) (rs : List Int) (hrs : rs.length = t.length) (a b : Nat) (s : List TkP) (hab : a + s.length = b) (hb : b ≤ t.length) (hs : SegIs l t rs a s) (k : Nat) (o : POp) (er : Ops.root lvO s 0 0 none = some (k, o)) (hk : s[k]? = some (.post o)) (hke : k + 1 = s.length) (hw : opsWf l) (hj : InL l o) (hok : opOk o = true) (hk1 : o.kind = 3) (e : PT) (h1 : LeavesOk e) (h2 : e.All lvO (InL l)) (h3 : KindsOk e) (out : List PNode) (ho : out.length ≤ 2000000) (hle : (lay e out).length ≤ 3000000) (hsz : (lay e out).length ≤ out.length + (s.length - 1))
  (ih : VProc Tryz.prog 70 [.agg [.sl 4 l.length (opCells l)], .sl 3 t.length (tokCells t), .sl 1 rs.length (intCells rs), .lit (.int .i64 a), .lit (.int .i64 (a + k : Nat)), .own 0] [nodRow out] [] (BuildR k out (some e))) :
  VProc Tryz.prog 70 [.agg [.sl 4 l.length (opCells l)], .sl 3 t.length (tokCells t), .sl 1 rs.length (intCells rs), .lit (.int .i64 a), .lit (.int .i64 b), .own 0] [nodRow out] [] (BuildR s.length out (if (lvO o).h1 ≤ e.level lvO then some (.post o e) else none)) := by
 have cl : ∀ (i : Nat) (c : AV), i < l.length → c ∈ opCells l i → Closed c := fun i c _ h => opClosed l i c h
 have clt : ∀ (i : Nat) (c : AV), i < t.length → c ∈ tokCells t i → Closed c := fun i c _ h => tokClosed t i c h
 have cli : ∀ (i : Nat) (c : AV), i < rs.length → c ∈ intCells rs i → Closed c := fun i c _ h => intClosed rs i c h
 have cr := c_l3Root l hl hu t ht rs hrs a b s hab hb hs
 rw [er] at cr
 have eb : bestI a (some (k, o)) = ((a + k : Nat) : Int) := rfl
 rw [eb] at cr
 have hlt := (List.getElem?_eq_some_iff.1 hk).1
 obtain ⟨hTk, hr⟩ := seg_at hs hk
 simp only [roleT] at hr
 have hp : a + k < t.length := by omega
 obtain ⟨p, hp'⟩ : ∃ p, a + k = p := ⟨_, rfl⟩
 rw [hp'] at cr hr hp ih hTk
 have htx : o.text = (tokAt t p).text := hTk.2.1
 have hp0 : ¬ ((p : Int) < 0) := by omega
 have hp2 : p < rs.length := by omega
 have w5 : IntKind.i64.wrap 5 = 5 := by decide
 have hpb : IntKind.i64.wrap ((b : Int) - 1) = (p : Int) := by rw [wrap_i64 (by omega)]; omega
 refine vproc_start Tryz.func70 (by kernel_rfl) rfl (by simp [Tryz.ntmps70]) ?_; simp only [Tryz.ntmps70, Tryz.results70]; simp [go_sem]
 refine vcall_pure cr ?_ ?_
 ·simp [go_sem]
  exact ⟨argSl_refl (by omega) cl, argSl_refl (by omega) clt, argSl_refl (by omega) cli⟩
 ·simp [go_sem, hp0]
  refine vc_drawn [12] (.q 0 <| .q 1 <| .q 2 <| .q 3 <| .q 4 <| .q 5 <| .q 6 <| .q 7 <| .q 8 <| .q 9 <| .q 10 <| .or 11 (.or 12 (.done) (.nil)) (.nil)) (by kernel_rfl) ?_
  simp [go_sem, tokCells_at, intCells_at, hp, hp2, hr, w5, hpb, nodRow]
  refine vcall_share [0] ih (by simp) ?_ ?_ trivial ?_
  ·simp [go_sem]
   exact ⟨cl, clt, cli⟩
  ·simp [go_sem, nodRow]
   exact fun i _ => cellsRn_lits (nodLit _ i)
  ·rintro av mem maps ⟨rfl, rfl, rfl⟩
   have hg := lay_grows e out
   have ew : IntKind.i64.wrap (((lay e out).length : Int) - 1) = ((lay e out).length : Int) - 1 := wrap_i64 (by omega)
   simp [go_sem, nodRow, ew]
   have ew0 : IntKind.i64.wrap ((lay e out).length : Int) = (lay e out).length := wrap_i64 (by omega)
   obtain ⟨T2, hT2⟩ : ∃ T2, T2 = lay e out ++ [(⟨o.text, 5, ((lay e out).length : Int) - 1, 0⟩ : PNode)] := ⟨_, rfl⟩
   have hl2 : T2.length = (lay e out).length + 1 := by rw [hT2]; simp
   have hn : nodAt T2 (lay e out).length = ⟨o.text, 5, ((lay e out).length : Int) - 1, 0⟩ := by rw [hT2]; exact nodAt_new
   have hf : fitsN l T2 (lay e out).length = decide ((lvO o).h1 ≤ e.level lvO) := by rw [hT2]; exact fits_post hu hj hok hk1 e out h1 h2 h3
   have cf := c_l3Fits l hl hw T2 (by omega) (lay e out).length (by omega) (fun _ => by
    rw [hn]
    have ha : (((lay e out).length : Int) - 1).toNat = (lay e out).length - 1 := by omega
    simp only [ha]
    rw [show nodAt T2 ((lay e out).length - 1) = nodAt (lay e out) ((lay e out).length - 1) by rw [hT2]; exact nodAt_old (by omega)]
    refine ⟨by have := (op_unique hu (z := o.text) rfl hj).1; rw [hk1] at this; exact this, by omega, has_last hu e out h1 h2 h3, fun hh => absurd rfl hh⟩)
   rw [hf] at cf
   rw [ew0]
   refine ⟨by omega, by omega, by omega, by omega, vcall_pure cf ?_ ?_⟩
   ·simp [go_sem]
    exact ⟨argSl_refl (by omega) cl, argSl_ownE (k := 5) rfl (by omega) hl2.symm (fun i hi => by rw [hT2, htx]; exact nod_app (lay e out) ⟨(tokAt t p).text, 5, ((lay e out).length : Int) - 1, 0⟩ i (by omega)) (fun i c _ h => nodClosed T2 i c h)⟩
   ·simp [go_sem]
    by_cases hc : (lvO o).h1 ≤ e.level lvO
    ·simp only [if_pos hc, hc, decide_true, if_true]
     refine ⟨rfl, [5], [none, nodRow (lay (.post o e) out)], by simp, by simp [go_sem], by simp [go_sem], ?_, by simp [go_sem], ?_⟩
     ·simp [go_sem, nodRow]
      refine outAt_app (o := ⟨(tokAt t p).text, 5, ((lay e out).length : Int) - 1, 0⟩) (by rw [← htx]; simp [lay, hk1]) fun j hj => ?_
      exact nod_app (lay e out) ⟨(tokAt t p).text, 5, ((lay e out).length : Int) - 1, 0⟩ j hj
     ·simp [go_sem, BuildR, nodRow]
    ·simp only [if_neg hc, hc, decide_false]
     refine ⟨rfl, [5], [none, nodRow T2], by simp, by simp [go_sem], by simp [go_sem], ?_, by simp [go_sem], ?_⟩
     ·simp [go_sem, nodRow]
      refine outAt_app (o := ⟨(tokAt t p).text, 5, ((lay e out).length : Int) - 1, 0⟩) (by rw [← htx]; exact hT2) fun j hj => ?_
      exact nod_app (lay e out) ⟨(tokAt t p).text, 5, ((lay e out).length : Int) - 1, 0⟩ j hj
     ·simp [go_sem]
      exact ⟨T2, by omega, .inl ⟨rfl, rfl, rfl⟩⟩
end Go.Proofs.YtjdmmhcogmepaaaGreatDoor.V
namespace Go.Proofs.YtjdmmhcogmepaaaGreatDoor.V
open Go.RowKit
open Go.Proofs.YtjdmmhcogmepaaaGreatDoor.Ops (Tr Tk Lv Res Fit)
set_option linter.unusedVariables false
set_option linter.unusedSimpArgs false
set_option linter.constructorNameAsVariable false
theorem c_build_inf_none (l : List POp) (hl : l.length ≤ 9223372036854775807) (hu : Uniq l) (t : List PTok) (ht : t.length ≤ 1048576) (rs : List Int) (hrs : rs.length = t.length) (a b : Nat) (s : List TkP) (hab : a + s.length = b) (hb : b ≤ t.length) (hs : SegIs l t rs a s) (k : Nat) (o : POp) (er : Ops.root lvO s 0 0 none = some (k, o)) (hk : s[k]? = some (.inf o)) (hw : opsWf l) (hj : InL l o) (e : PT) (out : List PNode) (ho : out.length ≤ 2000000) (hle : (lay e out).length ≤ 3000000) (hsz : (lay e out).length ≤ out.length + k)
  (ih : VProc Tryz.prog 70 [.agg [.sl 4 l.length (opCells l)], .sl 3 t.length (tokCells t), .sl 1 rs.length (intCells rs), .lit (.int .i64 a), .lit (.int .i64 (a + k : Nat)), .own 0] [nodRow out] [] (BuildR k out (some e)))
  (ih2 : VProc Tryz.prog 70 [.agg [.sl 4 l.length (opCells l)], .sl 3 t.length (tokCells t), .sl 1 rs.length (intCells rs), .lit (.int .i64 (a + k + 1 : Nat)), .lit (.int .i64 b), .own 0] [nodRow (lay e out)] [] (BuildR (s.length - k - 1) (lay e out) none)) :
  VProc Tryz.prog 70 [.agg [.sl 4 l.length (opCells l)], .sl 3 t.length (tokCells t), .sl 1 rs.length (intCells rs), .lit (.int .i64 a), .lit (.int .i64 b), .own 0] [nodRow out] [] (BuildR s.length out none) := by
 have cl : ∀ (i : Nat) (c : AV), i < l.length → c ∈ opCells l i → Closed c := fun i c _ h => opClosed l i c h
 have clt : ∀ (i : Nat) (c : AV), i < t.length → c ∈ tokCells t i → Closed c := fun i c _ h => tokClosed t i c h
 have cli : ∀ (i : Nat) (c : AV), i < rs.length → c ∈ intCells rs i → Closed c := fun i c _ h => intClosed rs i c h
 have cr := c_l3Root l hl hu t ht rs hrs a b s hab hb hs
 rw [er] at cr
 have eb : bestI a (some (k, o)) = ((a + k : Nat) : Int) := rfl
 rw [eb] at cr
 have hlt := (List.getElem?_eq_some_iff.1 hk).1
 obtain ⟨hTk, hr⟩ := seg_at hs hk
 simp only [roleT] at hr
 have hp : a + k < t.length := by omega
 obtain ⟨p, hp'⟩ : ∃ p, a + k = p := ⟨_, rfl⟩
 rw [hp'] at cr hr hp ih ih2 hTk
 have htx : o.text = (tokAt t p).text := hTk.2.1
 have hp0 : ¬ ((p : Int) < 0) := by omega
 have hp2 : p < rs.length := by omega
 have w4 : IntKind.i64.wrap 4 = 4 := by decide
 have ew1 : IntKind.i64.wrap ((p : Int) + 1) = ((p + 1 : Nat) : Int) := wrap_succ (by omega)
 refine vproc_start Tryz.func70 (by kernel_rfl) rfl (by simp [Tryz.ntmps70]) ?_; simp only [Tryz.ntmps70, Tryz.results70]; simp [go_sem]
 refine vcall_pure cr ?_ ?_
 ·simp [go_sem]
  exact ⟨argSl_refl (by omega) cl, argSl_refl (by omega) clt, argSl_refl (by omega) cli⟩
 ·simp [go_sem, hp0]
  refine vc_drawn [12] (.q 0 <| .q 1 <| .q 2 <| .q 3 <| .q 4 <| .q 5 <| .q 6 <| .q 7 <| .q 8 <| .q 9 <| .q 10 <| .or 11 (.or 12 (.done) (.nil)) (.nil)) (by kernel_rfl) ?_
  simp [go_sem, tokCells_at, intCells_at, hp, hp2, hr, w4, nodRow]
  refine vcall_share [0] ih (by simp) ?_ ?_ trivial ?_
  ·simp [go_sem]
   exact ⟨cl, clt, cli⟩
  ·simp [go_sem, nodRow]
   exact fun i _ => cellsRn_lits (nodLit _ i)
  ·rintro av mem maps ⟨rfl, rfl, rfl⟩
   have hg := lay_grows e out
   have ew : IntKind.i64.wrap (((lay e out).length : Int) - 1) = ((lay e out).length : Int) - 1 := wrap_i64 (by omega)
   simp [go_sem, nodRow, ew, ew1]
   refine ⟨by omega, ?_⟩
   refine vcall_share [3] ih2 (by simp) ?_ ?_ trivial ?_
   ·simp [go_sem]
    exact ⟨cl, clt, cli⟩
   ·simp [go_sem, nodRow]
    exact fun i _ => cellsRn_lits (nodLit _ i)
   ·rintro av mem maps ⟨T, hT, hB⟩
    rcases hB with ⟨rfl, rfl, rfl⟩ | ⟨rfl, rfl, rfl⟩
    ·simp [go_sem, nodRow]
     refine ⟨rfl, [4], [none, nodRow T], by simp, by simp [go_sem], by simp [go_sem], ?_, by simp [go_sem], ?_⟩
     ·simp [go_sem, nodRow]
      exact outAt_same rfl fun j _ => rfl
     ·simp [go_sem]
      exact ⟨T, by omega, .inl ⟨rfl, rfl, rfl⟩⟩
    ·simp [go_sem, nodRow]
     refine ⟨rfl, [3], [none, nodRow T], by simp, by simp [go_sem], by simp [go_sem], ?_, by simp [go_sem], ?_⟩
     ·simp [go_sem, nodRow]
      exact outAt_same rfl fun j _ => rfl
     ·simp [go_sem]
      exact ⟨T, by omega, .inl ⟨rfl, rfl, rfl⟩⟩
end Go.Proofs.YtjdmmhcogmepaaaGreatDoor.V
namespace Go.Proofs.YtjdmmhcogmepaaaGreatDoor.V
open Go.RowKit
open Go.Proofs.YtjdmmhcogmepaaaGreatDoor.Ops (Tr Tk Lv Res Fit)
set_option linter.unusedVariables false
set_option linter.unusedSimpArgs false
set_option linter.constructorNameAsVariable false
theorem c_build_inf_some (l : List POp) (hl : l.length ≤ 9223372036854775807) (hu : Uniq l) (t : List PTok) (ht : t.length ≤ 1048576) (rs : List Int) (hrs : rs.length = t.length) (a b : Nat) (s : List TkP) (hab : a + s.length = b) (hb : b ≤ t.length) (hs : SegIs l t rs a s) (k : Nat) (o : POp) (er : Ops.root lvO s 0 0 none = some (k, o)) (hk : s[k]? = some (.inf o)) (hw : opsWf l) (hj : InL l o) (hok : opOk o = true) (hk1 : o.kind = 2) (e e' : PT) (h1 : LeavesOk e) (h2 : e.All lvO (InL l)) (h3 : KindsOk e) (q1 : LeavesOk e') (q2 : e'.All lvO (InL l)) (q3 : KindsOk e') (out : List PNode) (ho : out.length ≤ 2000000) (hle : (lay e out).length ≤ 3000000) (hle2 : (lay e' (lay e out)).length ≤ 3000000) (hsz : (lay e out).length ≤ out.length + k) (hsz2 : (lay e' (lay e out)).length ≤ (lay e out).length + (s.length - k - 1))
  (ih : VProc Tryz.prog 70 [.agg [.sl 4 l.length (opCells l)], .sl 3 t.length (tokCells t), .sl 1 rs.length (intCells rs), .lit (.int .i64 a), .lit (.int .i64 (a + k : Nat)), .own 0] [nodRow out] [] (BuildR k out (some e)))
  (ih2 : VProc Tryz.prog 70 [.agg [.sl 4 l.length (opCells l)], .sl 3 t.length (tokCells t), .sl 1 rs.length (intCells rs), .lit (.int .i64 (a + k + 1 : Nat)), .lit (.int .i64 b), .own 0] [nodRow (lay e out)] [] (BuildR (s.length - k - 1) (lay e out) (some e'))) :
  VProc Tryz.prog 70 [.agg [.sl 4 l.length (opCells l)], .sl 3 t.length (tokCells t), .sl 1 rs.length (intCells rs), .lit (.int .i64 a), .lit (.int .i64 b), .own 0] [nodRow out] [] (BuildR s.length out (if (lvO o).h1 ≤ e.level lvO ∧ (lvO o).h2 ≤ e'.level lvO then some (.inf o e e') else none)) := by
 have cl : ∀ (i : Nat) (c : AV), i < l.length → c ∈ opCells l i → Closed c := fun i c _ h => opClosed l i c h
 have clt : ∀ (i : Nat) (c : AV), i < t.length → c ∈ tokCells t i → Closed c := fun i c _ h => tokClosed t i c h
 have cli : ∀ (i : Nat) (c : AV), i < rs.length → c ∈ intCells rs i → Closed c := fun i c _ h => intClosed rs i c h
 have cr := c_l3Root l hl hu t ht rs hrs a b s hab hb hs
 rw [er] at cr
 have eb : bestI a (some (k, o)) = ((a + k : Nat) : Int) := rfl
 rw [eb] at cr
 have hlt := (List.getElem?_eq_some_iff.1 hk).1
 obtain ⟨hTk, hr⟩ := seg_at hs hk
 simp only [roleT] at hr
 have hp : a + k < t.length := by omega
 obtain ⟨p, hp'⟩ : ∃ p, a + k = p := ⟨_, rfl⟩
 rw [hp'] at cr hr hp ih ih2 hTk
 have htx : o.text = (tokAt t p).text := hTk.2.1
 have hp0 : ¬ ((p : Int) < 0) := by omega
 have hp2 : p < rs.length := by omega
 have w4 : IntKind.i64.wrap 4 = 4 := by decide
 have ew1 : IntKind.i64.wrap ((p : Int) + 1) = ((p + 1 : Nat) : Int) := wrap_succ (by omega)
 refine vproc_start Tryz.func70 (by kernel_rfl) rfl (by simp [Tryz.ntmps70]) ?_; simp only [Tryz.ntmps70, Tryz.results70]; simp [go_sem]
 refine vcall_pure cr ?_ ?_
 ·simp [go_sem]
  exact ⟨argSl_refl (by omega) cl, argSl_refl (by omega) clt, argSl_refl (by omega) cli⟩
 ·simp [go_sem, hp0]
  refine vc_drawn [12] (.q 0 <| .q 1 <| .q 2 <| .q 3 <| .q 4 <| .q 5 <| .q 6 <| .q 7 <| .q 8 <| .q 9 <| .q 10 <| .or 11 (.or 12 (.done) (.nil)) (.nil)) (by kernel_rfl) ?_
  simp [go_sem, tokCells_at, intCells_at, hp, hp2, hr, w4, nodRow]
  refine vcall_share [0] ih (by simp) ?_ ?_ trivial ?_
  ·simp [go_sem]
   exact ⟨cl, clt, cli⟩
  ·simp [go_sem, nodRow]
   exact fun i _ => cellsRn_lits (nodLit _ i)
  ·rintro av mem maps ⟨rfl, rfl, rfl⟩
   have hg := lay_grows e out
   have ew : IntKind.i64.wrap (((lay e out).length : Int) - 1) = ((lay e out).length : Int) - 1 := wrap_i64 (by omega)
   simp [go_sem, nodRow, ew, ew1]
   refine ⟨by omega, ?_⟩
   refine vcall_share [3] ih2 (by simp) ?_ ?_ trivial ?_
   ·simp [go_sem]
    exact ⟨cl, clt, cli⟩
   ·simp [go_sem, nodRow]
    exact fun i _ => cellsRn_lits (nodLit _ i)
   ·rintro av mem maps ⟨rfl, rfl, rfl⟩
    have hg2 := lay_grows e' (lay e out)
    have ew' : IntKind.i64.wrap (((lay e' (lay e out)).length : Int) - 1) = ((lay e' (lay e out)).length : Int) - 1 := wrap_i64 (by omega)
    simp [go_sem, nodRow, ew']
    have ew0 : IntKind.i64.wrap ((lay e' (lay e out)).length : Int) = (lay e' (lay e out)).length := wrap_i64 (by omega)
    obtain ⟨nd, hnd⟩ : ∃ nd, nd = (⟨o.text, 4, ((lay e out).length : Int) - 1, ((lay e' (lay e out)).length : Int) - 1⟩ : PNode) := ⟨_, rfl⟩
    obtain ⟨T2, hT2⟩ : ∃ T2, T2 = lay e' (lay e out) ++ [nd] := ⟨_, rfl⟩
    have hl2 : T2.length = (lay e' (lay e out)).length + 1 := by rw [hT2]; simp
    have hn : nodAt T2 (lay e' (lay e out)).length = nd := by rw [hT2]; exact nodAt_new
    have hf : fitsN l T2 (lay e' (lay e out)).length = decide ((lvO o).h1 ≤ e.level lvO ∧ (lvO o).h2 ≤ e'.level lvO) := by rw [hT2, hnd]; exact fits_inf hu hj hok hk1 e e' out h1 h2 h3 q1 q2 q3
    have cf := c_l3Fits l hl hw T2 (by omega) (lay e' (lay e out)).length (by omega) (fun _ => by
     rw [hn, hnd]
     have ha : (((lay e out).length : Int) - 1).toNat = (lay e out).length - 1 := by omega
     have hb' : (((lay e' (lay e out)).length : Int) - 1).toNat = (lay e' (lay e out)).length - 1 := by omega
     simp only [ha, hb']
     rw [show nodAt T2 ((lay e out).length - 1) = nodAt (lay e out) ((lay e out).length - 1) by rw [hT2, nodAt_old (by omega)]; exact lay_old e' (lay e out) _ (by omega)]
     rw [show nodAt T2 ((lay e' (lay e out)).length - 1) = nodAt (lay e' (lay e out)) ((lay e' (lay e out)).length - 1) by rw [hT2]; exact nodAt_old (by omega)]
     refine ⟨by have := (op_unique hu (z := o.text) rfl hj).1; rw [hk1] at this; exact this, by omega, has_last hu e out h1 h2 h3, fun hh => ⟨by omega, has_last hu e' (lay e out) q1 q2 q3⟩⟩)
    rw [hf] at cf
    rw [ew0]
    rw [htx] at hnd
    refine ⟨by omega, by omega, by omega, by omega, vcall_pure cf ?_ ?_⟩
    ·simp [go_sem]
     exact ⟨argSl_refl (by omega) cl, argSl_ownE (k := 6) rfl (by omega) hl2.symm (fun i hi => by rw [hT2, hnd]; exact nod_app (lay e' (lay e out)) ⟨(tokAt t p).text, 4, ((lay e out).length : Int) - 1, ((lay e' (lay e out)).length : Int) - 1⟩ i (by omega)) (fun i c _ h => nodClosed T2 i c h)⟩
    ·simp [go_sem]
     by_cases hc : (lvO o).h1 ≤ e.level lvO ∧ (lvO o).h2 ≤ e'.level lvO
     ·simp only [if_pos hc, hc, decide_true, if_true, and_self]
      refine ⟨rfl, [6], [none, nodRow (lay (.inf o e e') out)], by simp, by simp [go_sem], by simp [go_sem], ?_, by simp [go_sem], ?_⟩
      ·simp [go_sem, nodRow]
       refine outAt_app (o := ⟨(tokAt t p).text, 4, ((lay e out).length : Int) - 1, ((lay e' (lay e out)).length : Int) - 1⟩) (by rw [← htx]; simp [lay, hk1]) fun j hj => ?_
       exact nod_app (lay e' (lay e out)) ⟨(tokAt t p).text, 4, ((lay e out).length : Int) - 1, ((lay e' (lay e out)).length : Int) - 1⟩ j hj
      ·simp [go_sem, BuildR, nodRow]
     ·have hdc : decide ((lvO o).h1 ≤ e.level lvO ∧ (lvO o).h2 ≤ e'.level lvO) = false := decide_eq_false hc
      simp only [if_neg hc]
      refine ⟨rfl, [6], [none, nodRow T2], by simp, by simp [go_sem], by simp [go_sem], ?_, by simp [go_sem], ?_⟩
      ·simp [go_sem, nodRow]
       refine outAt_app (o := ⟨(tokAt t p).text, 4, ((lay e out).length : Int) - 1, ((lay e' (lay e out)).length : Int) - 1⟩) (by rw [← hnd]; exact hT2) fun j hj => ?_
       exact nod_app (lay e' (lay e out)) ⟨(tokAt t p).text, 4, ((lay e out).length : Int) - 1, ((lay e' (lay e out)).length : Int) - 1⟩ j hj
      ·simp [go_sem]
       exact ⟨T2, by omega, .inl ⟨by simpa using hc, rfl, rfl⟩⟩
end Go.Proofs.YtjdmmhcogmepaaaGreatDoor.V
namespace Go.Proofs.YtjdmmhcogmepaaaGreatDoor.V
open Go.RowKit
open Go.Proofs.YtjdmmhcogmepaaaGreatDoor.Ops (Tr Tk Lv Res Fit OF)
set_option linter.unusedVariables false
set_option linter.unusedSimpArgs false
theorem seg_append {l : List POp} {t : List PTok} {rs : List Int} : ∀ {u w : List TkP} {i : Nat}, SegIs l t rs i (u ++ w) ↔ SegIs l t rs i u ∧ SegIs l t rs (i + u.length) w
 | [], w, i => by simp [SegIs]
 | x :: u, w, i => by
  simp only [List.cons_append, SegIs, List.length_cons, seg_append (u := u), and_assoc]
  rw [show i + (u.length + 1) = i + 1 + u.length by omega]
theorem seg_ok {l : List POp} {t : List PTok} {rs : List Int} : ∀ (e : PT) (i : Nat), SegIs l t rs i e.yield → LeavesOk e ∧ e.All lvO (InL l) ∧ KindsOk e
 | .leaf b, i, h => by
  simp only [Tr.yield, SegIs, TokIs] at h
  refine ⟨?_, trivial, trivial⟩
  have := h.1
  simp only [LeavesOk]
  rw [this.2]; exact this.1
 | .grp e, i, h => by
  simp only [Tr.yield, SegIs] at h
  exact seg_ok e _ (seg_append.1 h.2.2).1
 | .pre o e, i, h => by
  simp only [Tr.yield, SegIs, TokIs] at h
  obtain ⟨⟨_, _, hk, hj⟩, _, h2⟩ := h
  obtain ⟨g0, g1, g2⟩ := seg_ok e _ h2
  exact ⟨g0, ⟨hj, by simp [lvO, sortN, hk], g1⟩, hk, g2⟩
 | .post o e, i, h => by
  simp only [Tr.yield] at h
  obtain ⟨h1, h3⟩ := seg_append.1 h
  obtain ⟨g0, g1, g2⟩ := seg_ok e _ h1
  simp only [SegIs, TokIs] at h3
  obtain ⟨⟨_, _, hk, hj⟩, _⟩ := h3
  exact ⟨g0, ⟨hj, by simp [lvO, sortN, hk], g1⟩, hk, g2⟩
 | .inf o x y, i, h => by
  simp only [Tr.yield] at h
  obtain ⟨h1, h3⟩ := seg_append.1 h
  obtain ⟨g0, g1, g2⟩ := seg_ok x _ h1
  simp only [SegIs, TokIs] at h3
  obtain ⟨⟨_, _, hk, hj⟩, _, h4⟩ := h3
  obtain ⟨q0, q1, q2⟩ := seg_ok y _ h4
  exact ⟨⟨g0, q0⟩, ⟨hj, g1, q1⟩, hk, g2, q2⟩
theorem lay_yield : ∀ (e : PT) (out : List PNode), (lay e out).length ≤ out.length + e.yield.length
 | .leaf _, out => by simp [lay, Tr.yield]
 | .grp e, out => by have := lay_yield e out; simp [lay, Tr.yield]; omega
 | .pre _ e, out => by have := lay_yield e out; simp [lay, Tr.yield]; omega
 | .post _ e, out => by have := lay_yield e out; simp [lay, Tr.yield]; omega
 | .inf _ x y, out => by have := lay_yield x out; have := lay_yield y (lay x out); simp [lay, Tr.yield]; omega
end Go.Proofs.YtjdmmhcogmepaaaGreatDoor.V
namespace Go.Proofs.YtjdmmhcogmepaaaGreatDoor.V
open Go.RowKit
open Go.Proofs.YtjdmmhcogmepaaaGreatDoor.Ops (Tr Tk Lv Res Fit OF)
set_option linter.unusedVariables false
set_option linter.unusedSimpArgs false
set_option linter.constructorNameAsVariable false
theorem c_build (l : List POp) (hl : l.length ≤ 9223372036854775807) (hu : Uniq l) (hw : opsWf l) (hok : ∀ j, j < l.length → opOk (opAt l j) = true) (t : List PTok) (ht : t.length ≤ 1048576) (rs : List Int) (hrs : rs.length = t.length) : ∀ (n : Nat) (s : List TkP) (a b : Nat) (out : List PNode), s.length ≤ n → OF s → a + s.length = b → b ≤ t.length → SegIs l t rs a s → out.length + s.length ≤ 2000000 →
  VProc Tryz.prog 70 [.agg [.sl 4 l.length (opCells l)], .sl 3 t.length (tokCells t), .sl 1 rs.length (intCells rs), .lit (.int .i64 a), .lit (.int .i64 b), .own 0] [nodRow out] [] (BuildR s.length out (Ops.build lvO n s)) := by
 have okL : ∀ {o}, InL l o → opOk o = true := fun ⟨j, hj, e⟩ => e ▸ hok j hj
 intro n
 induction n with
 | zero =>
  intro s a b out hn ⟨t0, h0⟩
  have := Ops.yield_pos t0
  rw [h0] at this; omega
 | succ n ih =>
  intro s a b out hn hof hab hb hs ho
  have good : ∀ {s' : List TkP} {e : PT} {a' : Nat}, SegIs l t rs a' s' → OF s' → Ops.build lvO n s' = some e → LeavesOk e ∧ e.All lvO (InL l) ∧ KindsOk e ∧ ∀ out, (lay e out).length ≤ out.length + s'.length := fun h1 h2 h3 => by
   obtain ⟨_, hy⟩ := Ops.build_sound lvO n _ _ h2 h3
   rw [← hy] at h1 ⊢
   obtain ⟨g0, g1, g2⟩ := seg_ok _ _ h1
   exact ⟨g0, g1, g2, lay_yield _⟩
  rw [Ops.build]
  unfold Ops.buildF
  cases hr : Ops.root lvO s 0 0 none with
  | none =>
   obtain ⟨t0, h0⟩ := id hof
   rw [← h0] at hr
   rcases Ops.root_none lvO t0 hr with ⟨bb, rfl⟩ | ⟨t1, rfl⟩
   ·simp only [Tr.yield] at h0
    subst h0
    simp only [List.length_singleton] at hab
    subst hab
    exact c_build_leaf l hl hu t ht rs hrs a hb bb hs out (by omega)
   ·simp only [Tr.yield] at h0 hr
    rw [h0] at hr
    have hlen : s.length = t1.yield.length + 2 := by rw [← h0]; simp
    have hs1 : SegIs l t rs (a + 1) t1.yield := by
     rw [← h0] at hs
     exact (seg_append.1 hs.2.2).1
    have h1 := ih t1.yield (a + 1) (b - 1) out (by omega) ⟨t1, rfl⟩ (by omega) (by omega) hs1 (by omega)
    have := c_build_grp l hl hu t ht rs hrs a b s hab hb hs t1.yield h0.symm hr out (by omega) (Ops.build lvO n t1.yield) (fun e he => by
     have := (good hs1 ⟨t1, rfl⟩ he).2.2.2 out; omega) h1
    subst h0
    simpa using this
  | some x =>
   obtain ⟨k, o⟩ := x
   rcases Ops.root_at lvO s 0 0 none k o hr with h | ⟨u, tk, w, hsu, hop, hd, hk⟩
   ·cases h
   ·simp only [Int.zero_add, Nat.zero_add] at hd hk
    have hsk : s[k]? = some tk := by rw [hsu, hk]; simp
    have hlen : s.length = u.length + w.length + 1 := by rw [hsu]; simp; omega
    have hseg := hs
    rw [hsu] at hseg
    obtain ⟨hsl, hsr⟩ := seg_append.1 hseg
    have hTk := hsr.1
    have hsq := hsr.2.2
    simp only [hsk]
    cases tk with
    | leaf bb => simp [Tk.op?] at hop
    | opn => simp [Tk.op?] at hop
    | cls => simp [Tk.op?] at hop
    | pre o' =>
     simp only [Tk.op?, Option.some.injEq] at hop
     subst hop
     simp only
     by_cases hk0 : k = 0
     ·obtain rfl : u = [] := List.eq_nil_of_length_eq_zero (by omega)
      subst hk0
      simp only [List.nil_append] at hsu
      rw [if_neg (by simp)]
      have hdr : s.drop 1 = w := by rw [hsu]; rfl
      rw [hdr]
      have hofw : OF w := Ops.of_pre (o := o') (by rw [← hsu]; exact hof)
      have hsw : SegIs l t rs (a + 1) w := by simpa using hsq
      have h1 := ih w (a + 1) b out (by omega) hofw (by simp at hlen; omega) hb hsw (by omega)
      have hl1 : w.length = s.length - 1 := by omega
      rw [hl1] at h1
      cases he : Ops.build lvO n w with
      | none =>
       rw [he] at h1
       exact c_build_pre_none l hl hu t ht rs hrs a b s hab hb hs o' hr hsk out (by omega) h1
      | some e =>
       rw [he] at h1
       obtain ⟨g0, g1, g2, g3⟩ := good hsw hofw he
       have g3 := g3 out
       exact c_build_pre_some l hl hu t ht rs hrs a b s hab hb hs o' hr hsk hw hTk.2.2.2 (okL hTk.2.2.2) hTk.2.2.1 e g0 g1 g2 out (by omega) (by omega) (by omega) h1
     ·rw [if_pos hk0]
      exact c_build_bad l hl hu t ht rs hrs a b s hab hb hs k o' hr _ hsk (.inl ⟨rfl, hk0⟩) out (by omega)
    | post o' =>
     simp only [Tk.op?, Option.some.injEq] at hop
     subst hop
     simp only
     by_cases hk0 : k + 1 = s.length
     ·obtain rfl : w = [] := List.eq_nil_of_length_eq_zero (by omega)
      rw [if_neg (by omega)]
      have hdr : s.take k = u := by rw [hsu, hk]; simp
      rw [hdr]
      have hofw : OF u := Ops.of_post (o := o') (by rw [← hsu]; exact hof)
      have h1 := ih u a (a + k) out (by omega) hofw (by omega) (by omega) hsl (by omega)
      rw [← hk] at h1
      cases he : Ops.build lvO n u with
      | none =>
       rw [he] at h1
       exact c_build_left_none l hl hu t ht rs hrs a b s hab hb hs k o' hr _ hsk (.inr ⟨rfl, hk0⟩) out (by omega) h1
      | some e =>
       rw [he] at h1
       obtain ⟨g0, g1, g2, g3⟩ := good hsl hofw he
       have g3 := g3 out
       exact c_build_post_some l hl hu t ht rs hrs a b s hab hb hs k o' hr hsk hk0 hw hTk.2.2.2 (okL hTk.2.2.2) hTk.2.2.1 e g0 g1 g2 out (by omega) (by omega) (by omega) h1
     ·rw [if_pos hk0]
      exact c_build_bad l hl hu t ht rs hrs a b s hab hb hs k o' hr _ hsk (.inr ⟨rfl, hk0⟩) out (by omega)
    | inf o' =>
     simp only [Tk.op?, Option.some.injEq] at hop
     subst hop
     simp only
     have hdr : s.take k = u := by rw [hsu, hk]; simp
     have hdr2 : s.drop (k + 1) = w := by rw [hsu, hk]; simp
     rw [hdr, hdr2]
     obtain ⟨hofu, hofw⟩ := Ops.of_inf (o := o') (by rw [← hsu]; exact hof) hd
     have h1 := ih u a (a + k) out (by omega) hofu (by omega) (by omega) hsl (by omega)
     rw [← hk] at h1
     cases he : Ops.build lvO n u with
     | none =>
      rw [he] at h1
      exact c_build_left_none l hl hu t ht rs hrs a b s hab hb hs k o' hr _ hsk (.inl rfl) out (by omega) h1
     | some e =>
      rw [he] at h1
      obtain ⟨g0, g1, g2, g3⟩ := good hsl hofu he
      have g3 := g3 out
      have hsw : SegIs l t rs (a + k + 1) w := by rw [hk]; exact hsq
      have h2 := ih w (a + k + 1) b (lay e out) (by omega) hofw (by omega) hb hsw (by omega)
      have hl1 : w.length = s.length - k - 1 := by omega
      rw [hl1] at h2
      simp only
      cases he2 : Ops.build lvO n w with
      | none =>
       rw [he2] at h2
       exact c_build_inf_none l hl hu t ht rs hrs a b s hab hb hs k o' hr hsk hw hTk.2.2.2 e out (by omega) (by omega) (by omega) h1 h2
      | some e2 =>
       rw [he2] at h2
       obtain ⟨q0, q1, q2, q3⟩ := good hsw hofw he2
       have q3 := q3 (lay e out)
       exact c_build_inf_some l hl hu t ht rs hrs a b s hab hb hs k o' hr hsk hw hTk.2.2.2 (okL hTk.2.2.2) hTk.2.2.1 e e2 g0 g1 g2 q0 q1 q2 out (by omega) (by omega) (by omega) (by omega) (by omega) h1 h2
end Go.Proofs.YtjdmmhcogmepaaaGreatDoor.V
namespace Go.Proofs.YtjdmmhcogmepaaaGreatDoor.V
open Go.RowKit
open Go.Proofs.YtjdmmhcogmepaaaGreatDoor.Ops (Tr Tk Lv Res Fit OF)
set_option linter.unusedVariables false
set_option linter.unusedSimpArgs false
def below (T : List PNode) (H : List Int) (i : Nat) : Int :=
 if kidsN (nodAt T i).kind = 0 then 0 else if kidsN (nodAt T i).kind = 1 then intAt H (nodAt T i).a.toNat else max (intAt H (nodAt T i).a.toNat) (intAt H (nodAt T i).b.toNat)
structure HStep (T : List PNode) (H : List Int) (i : Nat) : Prop where
 a : kidsN (nodAt T i).kind ≠ 0 → 0 ≤ (nodAt T i).a ∧ (nodAt T i).a < i
 b : kidsN (nodAt T i).kind = 2 → 0 ≤ (nodAt T i).b ∧ (nodAt T i).b < i
 h : intAt H i = below T H i + 1
 lo : 1 ≤ intAt H i ∧ intAt H i ≤ i + 1
def HOk (T : List PNode) (H : List Int) : Prop := H.length = T.length ∧ ∀ i, i < T.length → HStep T H i
theorem intAt_old {H : List Int} {h : Int} {i : Nat} (hi : i < H.length) : intAt (H ++ [h]) i = intAt H i := by
 simp [intAt, List.getD_eq_getElem?_getD, List.getElem?_append_left hi]
theorem intAt_new {H : List Int} {h : Int} {i : Nat} (hi : i = H.length) : intAt (H ++ [h]) i = h := by
 subst hi; simp [intAt, List.getD_eq_getElem?_getD]
theorem one0 : ((1 : Int) = 0) = False := by simp
theorem two0 : ((2 : Int) = 0) = False := by simp
theorem two1 : ((2 : Int) = 1) = False := by simp
theorem kids_012 (k : Int) : kidsN k = 0 ∨ kidsN k = 1 ∨ kidsN k = 2 := kidsN_cases k
theorem below_old {T : List PNode} {H : List Int} {n : PNode} {h : Int} {i : Nat} (hl : H.length = T.length) (hi : i < T.length) (s : HStep T H i) : below (T ++ [n]) (H ++ [h]) i = below T H i := by
 unfold below
 rw [nodAt_old hi]
 rcases kids_012 (nodAt T i).kind with e | e | e
 ·rw [if_pos e, if_pos e]
 ·have := s.a (by omega)
  simp only [e, one0, if_false, if_true]
  rw [intAt_old (by omega)]
 ·have := s.a (by omega)
  have := s.b e
  simp only [e, two0, two1, if_false]
  rw [intAt_old (by omega), intAt_old (by omega)]
theorem hOk_app {T : List PNode} {H : List Int} {n : PNode} {h : Int} (ok : HOk T H) (ha : kidsN n.kind ≠ 0 → 0 ≤ n.a ∧ n.a < T.length) (hb : kidsN n.kind = 2 → 0 ≤ n.b ∧ n.b < T.length)
  (hh : h = (if kidsN n.kind = 0 then 0 else if kidsN n.kind = 1 then intAt H n.a.toNat else max (intAt H n.a.toNat) (intAt H n.b.toNat)) + 1) : HOk (T ++ [n]) (H ++ [h]) := by
 obtain ⟨hl, hs⟩ := ok
 refine ⟨by simp [hl], fun i hi => ?_⟩
 simp only [List.length_append, List.length_singleton] at hi
 by_cases e : i < T.length
 ·have s := hs i e
  refine ⟨?_, ?_, ?_, ?_⟩
  ·rw [nodAt_old e]; exact s.a
  ·rw [nodAt_old e]; exact s.b
  ·rw [below_old hl e s, intAt_old (by omega)]; exact s.h
  ·rw [intAt_old (by omega)]; exact s.lo
 ·obtain rfl : i = T.length := by omega
  have hn : nodAt (T ++ [n]) T.length = n := nodAt_new
  have hb' : below (T ++ [n]) (H ++ [h]) T.length + 1 = h := by
   unfold below
   rw [hn, hh]
   rcases kids_012 n.kind with e | e | e
   ·rw [if_pos e, if_pos e]
   ·have := ha (by omega)
    simp only [e, one0, if_false, if_true]
    rw [intAt_old (by omega)]
   ·have := ha (by omega)
    have := hb e
    simp only [e, two0, two1, if_false]
    rw [intAt_old (by omega), intAt_old (by omega)]
  refine ⟨?_, ?_, ?_, ?_⟩
  ·rw [hn]; exact ha
  ·rw [hn]; exact hb
  ·rw [hb', intAt_new hl.symm]
  ·rw [intAt_new hl.symm, hh]
   rcases kids_012 n.kind with e | e | e
   ·rw [if_pos e]; omega
   ·have := ha (by omega)
    have := (hs n.a.toNat (by omega)).lo
    rw [if_neg (by omega), if_pos e]; omega
   ·have := ha (by omega)
    have := hb e
    have := (hs n.a.toNat (by omega)).lo
    have := (hs n.b.toNat (by omega)).lo
    rw [if_neg (by omega), if_neg (by omega)]; omega
def his : PT → List Int → List Int
 | .leaf _, hs => hs ++ [1]
 | .grp e, hs => his e hs ++ [1 + highT e]
 | .pre _ e, hs => his e hs ++ [1 + highT e]
 | .post _ e, hs => his e hs ++ [1 + highT e]
 | .inf _ x y, hs => his y (his x hs) ++ [1 + max (highT x) (highT y)]
theorem his_last (e : PT) (hs : List Int) : intAt (his e hs) ((his e hs).length - 1) = highT e := by
 cases e <;> simp only [his, highT] <;> rw [intAt_new (by simp)]
theorem his_pos (e : PT) (hs : List Int) : hs.length < (his e hs).length := by
 induction e generalizing hs with
 | leaf _ => simp [his]
 | grp e ih => have := ih hs; simp [his]; omega
 | pre _ e ih => have := ih hs; simp [his]; omega
 | post _ e ih => have := ih hs; simp [his]; omega
 | inf _ x y ihx ihy => have := ihx hs; have := ihy (his x hs); simp [his]; omega
theorem his_old (e : PT) : ∀ (hs : List Int) (i : Nat), i < hs.length → intAt (his e hs) i = intAt hs i := by
 induction e with
 | leaf _ => intro hs i h; simp only [his]; exact intAt_old h
 | grp e ih => intro hs i h; have := his_pos e hs; simp only [his]; rw [intAt_old (by omega), ih hs i h]
 | pre _ e ih => intro hs i h; have := his_pos e hs; simp only [his]; rw [intAt_old (by omega), ih hs i h]
 | post _ e ih => intro hs i h; have := his_pos e hs; simp only [his]; rw [intAt_old (by omega), ih hs i h]
 | inf _ x y ihx ihy => intro hs i h; have := his_pos x hs; have := his_pos y (his x hs); simp only [his]; rw [intAt_old (by omega), ihy _ i (by omega), ihx hs i h]
theorem hOk_lay : ∀ (e : PT) (out : List PNode) (hs : List Int), LeavesOk e → KindsOk e → HOk out hs → HOk (lay e out) (his e hs)
 | .leaf b, out, hs, h1, h2, ok => by
  have k0 : kidsN b.1 = 0 := by have h : b.1 = 1 ∨ b.1 = 2 := h1; rcases h with e | e <;> simp [kidsN, e]
  simp only [lay, his]
  exact hOk_app ok (fun h => absurd k0 h) (fun h => by simp only at h; omega) (by simp [k0])
 | .grp e, out, hs, h1, h2, ok => by
  have := hOk_lay e out hs h1 h2 ok
  have hl := this.1
  have hp := his_pos e hs
  have hlast := his_last e hs
  have k1 : kidsN 6 = 1 := rfl
  simp only [lay, his]
  refine hOk_app this (fun _ => by simp only; omega) (fun h => by simp only at h; omega) ?_
  simp only [k1, one0, if_false, if_true]
  rw [show (((lay e out).length : Int) - 1).toNat = (his e hs).length - 1 by omega, hlast]
  omega
 | .pre o e, out, hs, h1, h2, ok => by
  have := hOk_lay e out hs h1 h2.2 ok
  have hl := this.1
  have hp := his_pos e hs
  have hlast := his_last e hs
  have k1 : kidsN (o.kind + 2) = 1 := by rw [h2.1]; rfl
  simp only [lay, his]
  refine hOk_app this (fun _ => by simp only; omega) (fun h => by simp only at h; omega) ?_
  simp only [k1, one0, if_false, if_true]
  rw [show (((lay e out).length : Int) - 1).toNat = (his e hs).length - 1 by omega, hlast]
  omega
 | .post o e, out, hs, h1, h2, ok => by
  have := hOk_lay e out hs h1 h2.2 ok
  have hl := this.1
  have hp := his_pos e hs
  have hlast := his_last e hs
  have k1 : kidsN (o.kind + 2) = 1 := by rw [h2.1]; rfl
  simp only [lay, his]
  refine hOk_app this (fun _ => by simp only; omega) (fun h => by simp only at h; omega) ?_
  simp only [k1, one0, if_false, if_true]
  rw [show (((lay e out).length : Int) - 1).toNat = (his e hs).length - 1 by omega, hlast]
  omega
 | .inf o x y, out, hs, h1, h2, ok => by
  have okx := hOk_lay x out hs h1.1 h2.2.1 ok
  have := hOk_lay y _ _ h1.2 h2.2.2 okx
  have hl := this.1
  have hlx := okx.1
  have hp := his_pos y (his x hs)
  have hpx := his_pos x hs
  have hlast := his_last y (his x hs)
  have hlastx := his_last x hs
  have k2 : kidsN (o.kind + 2) = 2 := by rw [h2.1]; rfl
  simp only [lay, his]
  refine hOk_app this (fun _ => by simp only; omega) (fun h => by simp only; omega) ?_
  simp only [k2, two0, two1, if_false]
  rw [show (((lay y (lay x out)).length : Int) - 1).toNat = (his y (his x hs)).length - 1 by omega, hlast, show (((lay x out).length : Int) - 1).toNat = (his x hs).length - 1 by omega, his_old y _ _ (by omega), hlastx]
  omega
end Go.Proofs.YtjdmmhcogmepaaaGreatDoor.V
namespace Go.Proofs.YtjdmmhcogmepaaaGreatDoor.V
open Go.RowKit
set_option linter.unusedVariables false
set_option linter.unusedSimpArgs false
set_option linter.constructorNameAsVariable false
theorem take_succI {H : List Int} {i : Nat} (h : i < H.length) : H.take (i + 1) = H.take i ++ [intAt H i] := by
 rw [List.take_add_one]
 simp [intAt, List.getD_eq_getElem?_getD, h]
theorem intAt_take {H : List Int} {i j : Nat} (h : j < i) : intAt (H.take i) j = intAt H j := by
 simp [intAt, List.getD_eq_getElem?_getD, h]
set_option maxRecDepth 100000 in
theorem c_l3Height (T : List PNode) (H : List Int) (hT : 0 < T.length ∧ T.length ≤ 3000000) (ok : HOk T H) : VFun Tryz.prog 48 [.agg [.sl 4 T.length (nodCells T)]] (fun av obs => obs = [] ∧ av = .lit (.int .i64 (intAt H (T.length - 1)))) := by
 have clt : ∀ (i : Nat) (c : AV), i < T.length → c ∈ nodCells T i → Closed c := fun i c _ h => nodClosed T i c h
 obtain ⟨hl, hs⟩ := ok
 refine vfun_start Tryz.func48 (by kernel_rfl) rfl (by simp [Tryz.ntmps48]) ?_; simp only [Tryz.ntmps48, Tryz.results48]; simp [go_sem]
 refine vc_loopE (fun i : Nat => i ≤ T.length) (fun i => T.length - i) (fun i => .of [(1, .ptr 0 1 0 0), (3, .own 1), (4, .lit (.int .i64 i))] [some ⟨37, 1, 1, fun _ => [.sl 4 T.length (nodCells T)]⟩, some ⟨3, 1, i, intCells (H.take i)⟩]) ⟨0, by omega, ?_⟩ (fun i hi => ?_)
 ·refine ent_ks [0, 1] (by simp) (by simp) (by simp) (by simp) trivial ?_ ?_
  ·simp [go_sem]
  ·simp [go_sem]
   exact clt
 ·have hlen : (H.take i).length = i := by simp; omega
  simp [go_sem, nodCells_at]
  refine ⟨by omega, fun h => ⟨h, vcall_pure (c_l3Kids (nodAt T i).kind) ?_ ?_⟩, fun h => ?_⟩
  ·simp [go_sem]
  ·obtain ⟨sa, sb, sh, slo⟩ := hs i h
   have next : ∀ (mm : Int) (f : Nat → List AV), mm = below T H i → (f 0 = [.lit (.int .i64 (IntKind.i64.wrap (mm + 1)))]) → ∀ j, j < i + 1 → joinF i (intCells (H.take i)) f j = intCells (H.take (i + 1)) j := fun mm f h1 h2 j hj => by
    rw [take_succI (by omega), ← int_app1 (H.take i) (intAt H i) j (by omega), hlen]
    unfold joinF
    split
    ·rfl
    ·have : j - i = 0 := by omega
     rw [this, h2, h1, sh]
     rw [wrap_i64 (by omega)]
     rfl
   rcases kids_012 (nodAt T i).kind with e | e | e
   ·simp [go_sem, e]
    refine vcall_pure (c_l3Kids (nodAt T i).kind) ?_ ?_
    ·simp [go_sem]
    ·simp [go_sem, e]
     refine ⟨by omega, by omega, i + 1, by omega, by omega, ?_⟩
     ·refine ent_ks [0, 4] (by simp) (by simp) (by simp) (by simp) trivial ?_ ?_
      ·simp [go_sem]
       exact wrap_succ (by omega)
      ·simp [go_sem]
       exact ⟨clt, .inl fun j hj => ⟨next 0 _ (by simp [below, e]) rfl j hj, intClosed _ _⟩⟩
   ·have ha := sa (by omega)
    have ia : intAt (H.take i) (nodAt T i).a.toNat = intAt H (nodAt T i).a.toNat := intAt_take (by omega)
    simp [go_sem, e, intCells_at]
    refine ⟨ha.1, ha.2, by omega, vcall_pure (c_l3Kids (nodAt T i).kind) ?_ ?_⟩
    ·simp [go_sem]
    ·simp [go_sem, e]
     refine ⟨by omega, by omega, i + 1, by omega, by omega, ?_⟩
     ·refine ent_ks [0, 4] (by simp) (by simp) (by simp) (by simp) trivial ?_ ?_
      ·simp [go_sem]
       exact wrap_succ (by omega)
      ·simp [go_sem]
       exact ⟨clt, .inl fun j hj => ⟨next _ _ (by simp [below, e, ia]) rfl j hj, intClosed _ _⟩⟩
   ·have ha := sa (by omega)
    have hb := sb e
    have ia : intAt (H.take i) (nodAt T i).a.toNat = intAt H (nodAt T i).a.toNat := intAt_take (by omega)
    have ib : intAt (H.take i) (nodAt T i).b.toNat = intAt H (nodAt T i).b.toNat := intAt_take (by omega)
    simp [go_sem, e, intCells_at]
    refine ⟨ha.1, ha.2, by omega, vcall_pure (c_l3Kids (nodAt T i).kind) ?_ ?_⟩
    ·simp [go_sem]
    ·simp [go_sem, e, intCells_at]
     refine ⟨hb.1, hb.2, by omega, fun hc => ⟨hb.1, hb.2, by omega, by omega, by omega, i + 1, by omega, by omega, ?_⟩, fun hc => ⟨by omega, by omega, i + 1, by omega, by omega, ?_⟩⟩
     ·refine ent_ks [0, 4] (by simp) (by simp) (by simp) (by simp) trivial ?_ ?_
      ·simp [go_sem]
       exact wrap_succ (by omega)
      ·simp [go_sem]
       exact ⟨clt, .inl fun j hj => ⟨next _ _ (by rw [ia, ib] at hc; simp [below, e, ib]; omega) rfl j hj, intClosed _ _⟩⟩
     ·refine ent_ks [0, 4] (by simp) (by simp) (by simp) (by simp) trivial ?_ ?_
      ·simp [go_sem]
       exact wrap_succ (by omega)
      ·simp [go_sem]
       exact ⟨clt, .inl fun j hj => ⟨next _ _ (by rw [ia, ib] at hc; simp [below, e, ia]; omega) rfl j hj, intClosed _ _⟩⟩
  ·obtain rfl : i = T.length := by omega
   have w : IntKind.i64.wrap ((T.length : Int) - 1) = ((T.length - 1 : Nat) : Int) := by rw [wrap_i64 (by omega)]; omega
   rw [w]
   simp only [Int.toNat_natCast]
   simp [go_sem, intCells_at, intAt_take (H := H) (i := T.length) (j := T.length - 1) (by omega)]
   omega
end Go.Proofs.YtjdmmhcogmepaaaGreatDoor.V
namespace Go.Proofs.YtjdmmhcogmepaaaGreatDoor.V
open Go.RowKit
set_option linter.unusedVariables false
set_option linter.unusedSimpArgs false
set_option linter.constructorNameAsVariable false
theorem ext_app (z : ByteArray) {f i k : Nat} (h1 : f ≤ i) (h2 : i ≤ k) : z.extract f i ++ z.extract i k = z.extract f k := by
 apply ByteArray.ext
 simp only [ByteArray.data_append, ByteArray.data_extract]
 rw [Array.extract_append_extract]
 congr 1 <;> omega
theorem rend_cons (o : PTok) (l : List PTok) : rend (o :: l) = o.gap ++ o.text ++ rend l := by
 have gen : ∀ (l : List PTok) (b : ByteArray), l.foldl (fun b o => b ++ o.gap ++ o.text) b = b ++ l.foldl (fun b o => b ++ o.gap ++ o.text) ByteArray.empty := by
  intro l
  induction l with
  | nil => intro b; simp
  | cons o l ih =>
   intro b
   simp only [List.foldl_cons]
   rw [ih (b ++ o.gap ++ o.text), ih (ByteArray.empty ++ o.gap ++ o.text)]
   simp [ByteArray.append_assoc]
 unfold rend
 simp only [List.foldl_cons]
 rw [gen]
 simp
theorem rend_lexFrom (l : List POp) (z : ByteArray) (f : Nat) (hf : f ≤ z.size) : rend (lexFrom l z f) = z.extract f z.size := by
 generalize hn : z.size - f = n
 induction n using Nat.strongRecOn generalizing f with
 | ind n ih =>
  have hr := run_le isBl z f hf
  by_cases h : f + run isBl z f < z.size
  ·rw [lexFrom_go rfl h, rend_cons]
   have hg := longest_ge l z (f + run isBl z f)
   have hl := longest_le l z (f + run isBl z f) h
   obtain ⟨i, hi⟩ : ∃ i, i = f + run isBl z f := ⟨_, rfl⟩
   rw [← hi] at hg hl h hr ⊢
   have hfi : f ≤ i := by omega
   obtain ⟨j, hj⟩ : ∃ j, j = i + longest l z i := ⟨_, rfl⟩
   rw [← hj] at hl ⊢
   simp only
   rw [ih (z.size - j) (by omega) j hl rfl, ext_app z hfi (by omega), ext_app z (by omega) hl]
  ·have e : f + run isBl z f = z.size := by omega
   rw [lexFrom_end rfl h, rend_cons, e]
   simp only [rend, List.foldl_nil]
   rw [show (⟨#[]⟩ : ByteArray) = ByteArray.empty from rfl, ByteArray.append_empty, ByteArray.append_empty]
theorem ext_size_leZ (z : ByteArray) (a b : Nat) : (z.extract a b).size ≤ z.size := by
 rw [ByteArray.size_extract]; omega
theorem lexZ_texts {l : List POp} {z : ByteArray} (hz : z.size ≤ 200000) : (lexZ l z).length ≤ 200001 ∧ tokSum (lexZ l z) ≤ 200000 := by
 unfold lexZ
 split
 ·rename_i h
  have h1 := lexFrom_len l z 0 (by omega)
  have h2 := rend_lexFrom l z 0 (by omega)
  have h3 := rend_size (lexFrom l z 0)
  rw [h2] at h3
  have h4 := ext_size_leZ z 0 z.size
  exact ⟨by omega, by omega⟩
 ·exact ⟨by simp, by simp [tokSum]⟩
theorem tok_le {l : List PTok} {i : Nat} (hi : i < l.length) : tokSize (tokAt l i) ≤ tokSum l := by
 induction l generalizing i with
 | nil => simp at hi
 | cons o l ih =>
  unfold tokSum at *
  cases i with
  | zero => simp [tokAt]
  | succ i =>
   have := ih (i := i) (by simpa using hi)
   simp only [List.map_cons, List.sum_cons]
   have e : tokAt (o :: l) (i + 1) = tokAt l i := by simp [tokAt]
   rw [e]
   omega
end Go.Proofs.YtjdmmhcogmepaaaGreatDoor.V
namespace Go.Proofs.YtjdmmhcogmepaaaGreatDoor.V
open Go.RowKit
set_option linter.unusedVariables false
set_option linter.unusedSimpArgs false
set_option linter.constructorNameAsVariable false
def offZ (t : List PTok) (i : Nat) : Int := (tokSum (t.take i) + (tokAt t i).gap.size : Nat)
theorem argSl_eq {mem : List (Option Ob)} {sz n : Nat} {f f' : Nat → List AV} (hsz : 0 < sz) (h : ∀ i, i < n → f i = f' i ∧ ∀ c, c ∈ f' i → Closed c) : ArgSl mem (.sl sz n f) sz n f' :=
 ⟨hsz, f, by simp [contents], h⟩
theorem tokAt_take {t : List PTok} {i j : Nat} (h : j < i) : tokAt (t.take i) j = tokAt t j := by
 simp [tokAt, List.getD_eq_getElem?_getD, h]
theorem c_l3Offset (t : List PTok) (ht : t.length + tokSum t ≤ 1048576) (i : Nat) (hi : i < t.length) : VFun Tryz.prog 68 [.sl 3 t.length (tokCells t), .lit (.int .i64 i)] (fun av obs => obs = [] ∧ av = .lit (.int .i64 (offZ t i))) := by
 have clt : ∀ (i : Nat) (c : AV), i < t.length → c ∈ tokCells t i → Closed c := fun i c _ h => tokClosed t i c h
 have hle := tokSum_take_le t i
 have hsz := rend_size (t.take i)
 have htl : (t.take i).length = i := by simp; omega
 have hg := tok_le hi
 have cr := c_specRender (t.take i) (by omega)
 rw [htl] at cr
 unfold tokSize at hg
 refine vfun_start Tryz.func68 (by kernel_rfl) rfl (by simp [Tryz.ntmps68]) ?_; simp only [Tryz.ntmps68, Tryz.results68]; simp [go_sem]
 refine vc_drawn [] (.q 0 <| .q 1 <| .q 2 <| .q 5 <| .q 6 <| .q 7 <| .q 8 <| .q 9 <| .q 10 <| .or 3 (.q 4 <| .q 11 <| .q 12 <| .done) (.nil)) (by kernel_rfl) ?_
 simp [go_sem, tokCells_at]
 refine ⟨by omega, hi, vcallV_pure cr ?_ ?_⟩
 ·simp [go_sem]
  exact argSl_eq (by omega) fun j hj => ⟨by rw [tokCells_at, tokAt_take hj], fun c hc => tokClosed _ _ c hc⟩
 ·simp [go_sem, hsz]
  rw [wrap_i64 (by omega)]
  simp [offZ]
end Go.Proofs.YtjdmmhcogmepaaaGreatDoor.V
namespace Go.Proofs.YtjdmmhcogmepaaaGreatDoor.V
open Go.RowKit
set_option linter.unusedVariables false
set_option linter.unusedSimpArgs false
set_option linter.constructorNameAsVariable false
theorem VFun.adoptA {P : Program} {f : FuncId} {args : List AV} {R R' : AV → List Ob → Prop} (h : VFun P f args R) (ty sz : Nat) (hsz : 0 < sz) (g : Nat → List AV)
  (hr : ∀ av obs, R av obs → R' av obs ∨ ∃ xs : List Value, av = .tup (.agg [.lit (.slice none 0 0)] :: xs.map .lit) ∧ obs = [] ∧ R' (.tup (.agg [.own 0] :: xs.map .lit)) [⟨ty, sz, 0, g⟩]) : VFun P f args R' := by
 refine ⟨h.1, fun w vs hl hv => (h.2 w vs hl hv).mono fun e w' ⟨v, e1, gr, hd, av, obs, r, fl, hlit, hm, hrep⟩ => ?_⟩
 rcases hr av obs r with r' | ⟨xs, rfl, rfl, r'⟩
 ·exact ⟨v, e1, gr, hd, av, obs, r', fl, hlit, hm, hrep⟩
 ·refine ⟨v, e1, gr, fun _ => .slice none 0 0, _, _, r', ?_, fun ob ho i hi => ?_, ⟨fun k ob hk b hb => ?_, fun k ob hk => ?_, fun k hk => ⟨none, 0, 0, rfl⟩, fun k k' o o' hk hk' hne => .inl rfl⟩, ?_⟩
  ·simp [flatV, flat2, flat1]
  ·simp only [List.mem_singleton] at ho
   subst ho
   simp at hi
  ·simp [Value.ownBlock] at hb
  ·cases k with
   | zero =>
    simp only [List.map_cons, List.map_nil, List.getElem?_cons_zero, Option.some.injEq] at hk
    subst hk
    exact ⟨hsz, [], ⟨by simp, .inl ⟨rfl, rfl⟩⟩, fun i hi => by simp at hi⟩
   | succ k => simp at hk
  ·cases hrep with
   | tup _ us hl2 hr2 =>
    match us, hl2 with
    | u1 :: us, hl2 =>
     have q1 := hr2 0 _ u1 rfl rfl
     cases q1 with
     | agg _ ws hl3 hr3 =>
      match ws, hl3 with
      | [x], _ =>
       have q2 := hr3 0 _ x rfl rfl
       cases q2
       refine .tup _ (.agg #[.slice none 0 0] :: us) (by simpa using hl2) fun j a u ha hu => ?_
       cases j with
       | zero =>
        simp only [List.getElem?_cons_zero, Option.some.injEq] at ha hu
        subst ha; subst hu
        refine .agg _ [.slice none 0 0] rfl fun j a u ha hu => ?_
        cases j with
        | zero =>
         simp only [List.getElem?_cons_zero, Option.some.injEq] at ha hu
         subst ha; subst hu
         exact .own (hd := fun _ => .slice none 0 0) 0 (by simp)
        | succ j => simp at ha
       | succ j =>
        simp only [List.getElem?_cons_succ] at ha hu
        have := hr2 (j + 1) a u (by simpa using ha) (by simpa using hu)
        rw [List.getElem?_map, Option.map_eq_some_iff] at ha
        obtain ⟨y, hy, rfl⟩ := ha
        cases this
        exact .lit _
theorem Bel.weak {may may' : Nat → Prop} {w w' : World} (h : Bel may w w') (hh : ∀ b, may b → may' b) : Bel may' w w' := ⟨h.os, h.tape, h.output, h.size, fun k hk hm => h.block k hk fun e => hm (hh k e)⟩
theorem VProc.adoptNil {P : Program} {f : FuncId} {u : Value} {maps0 : List (Nat × Mp)} {R : AV → List (Option Ob) → List (Nat × Mp) → Prop} {ty sz : Nat} {g : Nat → List AV} (hsz : 0 < sz)
  (h : VProc P f [.lit u, .own 0] [some ⟨ty, sz, 0, g⟩] maps0 R) : VProc P f [.lit u, .lit (.slice none 0 0)] [] maps0 R := by
 refine ⟨h.1, fun w vs hd0 hl hv hm hmp htl => ?_⟩
 obtain ⟨HD, hHD⟩ : ∃ HD : Nat → Value, HD = fun k => if k = 0 then .slice none 0 0 else hd0 k := ⟨_, rfl⟩
 have h0 : HD 0 = .slice none 0 0 := by rw [hHD]; exact if_pos rfl
 have heqT : TailEq hd0 HD := ⟨1, fun k hk => by rw [hHD]; exact if_neg (by omega)⟩
 have hsh : ∀ b, Sh w HD [some ⟨ty, sz, 0, g⟩] maps0 b → Sh w hd0 [] maps0 b := by
  rintro b (q | ⟨k, o, hk, hb⟩ | q)
  ·exact .inl q
  ·have hkl := (List.getElem?_eq_some_iff.1 hk).1
   obtain rfl : k = 0 := by simpa using hkl
   rw [h0] at hb; simp [Value.ownBlock] at hb
  ·exact .inr (.inr q)
 have htl' : TailNot HD (Sh w HD [some ⟨ty, sz, 0, g⟩] maps0) := by
  obtain ⟨K, hK⟩ := htl
  obtain ⟨M, hM⟩ := heqT
  refine ⟨K + M, fun k hk b hb hs => ?_⟩
  rw [hM k (by omega)] at hb
  exact hK k (by omega) b hb (hsh b hs)
 have hmr : MemRel (fun _ => True) w HD [some ⟨ty, sz, 0, g⟩] := by
  refine ⟨fun _ _ _ _ _ => trivial, fun k ob hk => ?_, fun k hk => ?_, fun k k' o o' hk hk' hne => ?_⟩
  ·have hkl := (List.getElem?_eq_some_iff.1 hk).1
   obtain rfl : k = 0 := by simpa using hkl
   simp only [List.getElem?_cons_zero, Option.some.injEq] at hk
   subst hk
   rw [h0]
   exact ⟨hsz, [], ⟨by simp, .inl ⟨rfl, rfl⟩⟩, fun i hi => by simp at hi⟩
  ·obtain rfl : k = 0 := by simpa using hk
   exact ⟨none, 0, 0, h0⟩
  ·have hkl := (List.getElem?_eq_some_iff.1 hk).1
   have hkl' := (List.getElem?_eq_some_iff.1 hk').1
   simp at hkl hkl'
   omega
 refine (h.2 w vs HD (by simpa using hl) (fun j a x ha hx => ?_) hmr hmp htl').mono fun e w' ⟨v, e1, bel, hd, av, mm, maps, r, po, hfix, hmr, hmap, hrep⟩ => ?_
 ·match j, ha with
  | 0, ha =>
   have := hv 0 (.lit u) x rfl hx
   simp at ha
   subst ha
   cases this
   exact .lit _
  | 1, ha =>
   have := hv 1 (.lit (.slice none 0 0)) x rfl hx
   simp at ha
   subst ha
   cases this
   rw [← h0]
   exact .own 0 (by simp)
  | j + 2, ha => simp at ha
 ·refine ⟨v, e1, bel.weak hsh, hd, av, mm, maps, r, ⟨by simp, po.flat, po.cells, po.maps⟩, ⟨fun k hk => by simp at hk, heqT.trans hfix.2⟩, ⟨fun k o hk b hb => hsh b (hmr.alw k o hk b hb), hmr.obs, hmr.hds, hmr.apart⟩, fun b mp hb => ?_, hrep⟩
  obtain ⟨q1, q2⟩ := hmap b mp hb
  exact ⟨hsh b q1, q2⟩
end Go.Proofs.YtjdmmhcogmepaaaGreatDoor.V
namespace Go.Proofs.YtjdmmhcogmepaaaGreatDoor.V
open Go.RowKit
open Go.Proofs.YtjdmmhcogmepaaaGreatDoor.Ops (Tr Tk Lv Res Fit OF)
set_option linter.unusedVariables false
set_option linter.unusedSimpArgs false
def badAt (t : List PTok) : Option Nat := (List.range t.length).find? fun i => decide ((tokAt t i).kind = 6)
theorem badAt_some {t : List PTok} {i : Nat} (hi : i < t.length) (h : ∀ j, j < i → (tokAt t j).kind ≠ 6) (hb : (tokAt t i).kind = 6) : badAt t = some i := by
 unfold badAt
 rw [List.find?_range_eq_some]
 refine ⟨by simpa using hb, by simpa using hi, fun j hj => ?_⟩
 simpa using h j hj
theorem badAt_none {t : List PTok} (h : ∀ j, j < t.length → (tokAt t j).kind ≠ 6) : badAt t = none := by
 unfold badAt
 rw [List.find?_eq_none]
 intro j hj
 simpa using h j (by simpa using hj)
open Classical in
noncomputable def toksZ (l : List POp) (t : List PTok) : List TkP := if h : ∃ ts : List TkP, ToksAre l t 0 ts ∧ Fit true 0 ts then Classical.choose h else []
theorem toksZ_ok {l : List POp} {t : List PTok} (h : ∃ ts : List TkP, ToksAre l t 0 ts ∧ Fit true 0 ts) : ToksAre l t 0 (toksZ l t) ∧ Fit true 0 (toksZ l t) := by
 unfold toksZ
 rw [dif_pos h]
 exact Classical.choose_spec h
noncomputable def partT (l : List POp) (t : List PTok) : Option PT := Ops.build lvO (toksZ l t).length (toksZ l t)
noncomputable def parK (l : List POp) (t : List PTok) : List PNode × Int × Int := match badAt t with
 | some i => ([], 3, offZ t i)
 | none => if 0 ≤ (rolesZ l t).2 then ([], 4, offZ t (rolesZ l t).2.toNat) else match partT l t with
  | none => ([], 5, 0)
  | some e => if highT e ≤ 1000 then (lay e [], 0, 0) else ([], 6, 0)
noncomputable def parZ (l : List POp) (z : ByteArray) : List PNode × Int × Int :=
 if tblOk l ≠ 0 then ([], 1, 0) else if ¬ z.size ≤ 20000 then ([], 2, 0) else parK l (lexZ l z)
theorem parK_bad {l : List POp} {t : List PTok} {i : Nat} (h : badAt t = some i) : parK l t = ([], 3, offZ t i) := by unfold parK; rw [h]
theorem parK_roles {l : List POp} {t : List PTok} (h : badAt t = none) (hr : 0 ≤ (rolesZ l t).2) : parK l t = ([], 4, offZ t (rolesZ l t).2.toNat) := by unfold parK; rw [h]; simp only; rw [if_pos hr]
theorem parK_none {l : List POp} {t : List PTok} (h : badAt t = none) (hr : (rolesZ l t).2 = -1) (hp : partT l t = none) : parK l t = ([], 5, 0) := by unfold parK; rw [h]; simp only; rw [if_neg (by omega), hp]
theorem parK_high {l : List POp} {t : List PTok} {e : PT} (h : badAt t = none) (hr : (rolesZ l t).2 = -1) (hp : partT l t = some e) (he : ¬ highT e ≤ 1000) : parK l t = ([], 6, 0) := by unfold parK; rw [h]; simp only; rw [if_neg (by omega), hp]; simp only; rw [if_neg he]
theorem parK_ok {l : List POp} {t : List PTok} {e : PT} (h : badAt t = none) (hr : (rolesZ l t).2 = -1) (hp : partT l t = some e) (he : highT e ≤ 1000) : parK l t = (lay e [], 0, 0) := by unfold parK; rw [h]; simp only; rw [if_neg (by omega), hp]; simp only; rw [if_pos he]
theorem lexFrom_last {l : List POp} {z : ByteArray} (f : Nat) (hf : f ≤ z.size) : (lexFrom l z f).length ≠ 0 ∧ (tokAt (lexFrom l z f) ((lexFrom l z f).length - 1)).kind = 7 := by
 generalize hn : z.size - f = n
 induction n using Nat.strongRecOn generalizing f with
 | ind n ih =>
  have hr := run_le isBl z f hf
  by_cases h : f + run isBl z f < z.size
  ·have hg := longest_ge l z (f + run isBl z f)
   have hl := longest_le l z (f + run isBl z f) h
   obtain ⟨h1, h2⟩ := ih (z.size - (f + run isBl z f + longest l z (f + run isBl z f))) (by omega) (f + run isBl z f + longest l z (f + run isBl z f)) hl rfl
   rw [lexFrom_go rfl h]
   refine ⟨by simp, ?_⟩
   obtain ⟨q, hq⟩ : ∃ q, q = lexFrom l z (f + run isBl z f + longest l z (f + run isBl z f)) := ⟨_, rfl⟩
   rw [← hq] at h1 h2 ⊢
   rw [← h2]
   simp only [tokAt, List.getD_eq_getElem?_getD, List.length_cons, Nat.add_sub_cancel]
   rw [show q.length = (q.length - 1) + 1 by omega, List.getElem?_cons_succ]
   simp
  ·rw [lexFrom_end rfl h]
   simp [tokAt]
theorem lexZ_ends {l : List POp} {z : ByteArray} (h : lexOk l z = true) : endsOk (lexZ l z) = true := by
 obtain ⟨h1, h2⟩ := lexFrom_last (l := l) (z := z) 0 (by omega)
 rw [lexZ, if_pos h]
 simp only [endsOk, h1, h2, ne_eq, not_false_eq_true, decide_true, Bool.and_self]
theorem roles_two {l : List POp} {t : List PTok} (h0 : tblOk l = 0) (he : endsOk t = true) : ((rolesZ l t).2 = -1 ∧ (rolesZ l t).1 = rolesUp l t t.length) ∨ (0 ≤ (rolesZ l t).2 ∧ (rolesZ l t).2 < t.length) := by
 unfold rolesZ
 rw [if_neg (by omega)]
 split
 ·rename_i i hb
  unfold firstBad at hb
  rw [List.find?_range_eq_some] at hb
  have := hb.2.1
  simp only [List.mem_range] at this
  exact .inr ⟨by simp, by simp; omega⟩
 ·rw [if_pos he]
  exact .inl ⟨rfl, rfl⟩
structure Fits (l : List POp) (t : List PTok) : Prop where
 len : (toksZ l t).length + 1 = t.length
 toks : ToksAre l t 0 (toksZ l t)
 fit : Fit true 0 (toksZ l t)
 seg : SegIs l t (rolesUp l t t.length) 0 (toksZ l t)
 all : ∀ e : PT, e.yield = toksZ l t → e.All lvO (InL l)
theorem fits_of {l : List POp} {t : List PTok} (h0 : tblOk l = 0) (hr : (rolesZ l t).2 = -1) : Fits l t := by
 have hu := uniq_of_ok h0
 obtain ⟨h1, h2⟩ := toksZ_ok (toks_of hu hr)
 have hl := toksAre_len h1
 have hs := seg_of hu _ 0 0 h1 h2 rfl
 exact ⟨by omega, h1, h2, hs, fun e he => by rw [← he] at hs; exact (seg_ok e 0 hs).2.1⟩
theorem partT_ok {l : List POp} {t : List PTok} {e : PT} (F : Fits l t) (h : partT l t = some e) : e.Adm lvO ∧ e.yield = toksZ l t ∧ LeavesOk e ∧ e.All lvO (InL l) ∧ KindsOk e := by
 obtain ⟨h1, h2⟩ := Ops.build_sound lvO _ _ _ (OF.of_fit F.fit) h
 have hs := F.seg
 rw [← h2] at hs
 exact ⟨h1, h2, seg_ok e 0 hs⟩
theorem parZ_len (l : List POp) (z : ByteArray) : (parZ l z).1.length ≤ 300000 := by
 unfold parZ
 split
 ·simp
 ·rename_i h0
  have h0 : tblOk l = 0 := Decidable.byContradiction h0
  split
  ·simp
  ·rename_i h1
   have h1 : z.size ≤ 20000 := Decidable.byContradiction h1
   have hok : lexOk l z = true := by simp [lexOk, h0, h1]
   obtain ⟨hq1, hq2⟩ := lexZ_texts (l := l) (z := z) (by omega)
   cases hb : badAt (lexZ l z) with
   | some i => rw [parK_bad hb]; simp
   | none =>
    rcases roles_two h0 (lexZ_ends hok) with ⟨hr, _⟩ | ⟨hr, _⟩
    ·have F := fits_of h0 hr
     cases hp : partT l (lexZ l z) with
     | none => rw [parK_none hb hr hp]; simp
     | some e =>
      obtain ⟨e1, e2, e3, e4, e5⟩ := partT_ok F hp
      by_cases he : highT e ≤ 1000
      ·rw [parK_ok hb hr hp he]
       have := lay_yield e []
       have := F.len
       rw [e2] at *
       simp only [List.length_nil] at *
       omega
      ·rw [parK_high hb hr hp he]; simp
    ·rw [parK_roles hb hr]; simp
theorem run_of {l : List POp} {t : List PTok} (h0 : tblOk l = 0) (F : Fits l t) : ∃ r : Option (PT × List TkP), Ops.operand lvO (2 * (toksZ l t).length + 2) 0 (toksZ l t) = some r ∧
  (match r with
  | none => partT l t = none
  | some (e, rest) => t.length - 1 - rest.length < t.length ∧ ((partT l t = some e ∧ (tokAt t (t.length - 1 - rest.length)).kind = 7) ∨ (partT l t = none ∧ (tokAt t (t.length - 1 - rest.length)).kind ≠ 7))) := by
 have hof := OF.of_fit F.fit
 have hbe := Ops.build_eq_operand lvO (good_of_ok h0) (toksZ l t) hof F.all
 have hlen := F.len
 obtain ⟨r, hr⟩ := (Ops.fuel_all lvO (2 * (toksZ l t).length + 2)).1 0 (toksZ l t) (by omega)
 refine ⟨r, hr, ?_⟩
 have hno : (∀ e, r ≠ some (e, [])) → partT l t = none := fun h => by
  cases hp : partT l t with
  | none => rfl
  | some e =>
   have := (hbe e).1 hp
   rw [hr] at this
   exact absurd (Option.some.inj this) (h e)
 cases r with
 | none => exact hno fun e => by simp
 | some x =>
  obtain ⟨e, rest⟩ := x
  obtain ⟨h1, h2, _⟩ := (Ops.sound_all lvO _).1 _ _ _ _ hr
  have htk := F.toks
  rw [h1] at htk
  have hl := toksAre_len htk
  have hrest := toksAre_rest htk
  refine ⟨by omega, ?_⟩
  cases rest with
  | nil =>
   refine .inl ⟨(hbe e).2 hr, ?_⟩
   exact hrest.2
  | cons tk r =>
   refine .inr ⟨hno fun e' => by simp, ?_⟩
   have := hrest.1
   cases tk with
   | leaf b => have h := this.1; omega
   | opn => have h : _ = _ := this; omega
   | cls => have h : _ = _ := this; omega
   | pre o => have h := this.1; omega
   | inf o => have h := this.1; omega
   | post o => have h := this.1; omega
end Go.Proofs.YtjdmmhcogmepaaaGreatDoor.V
namespace Go.Proofs.YtjdmmhcogmepaaaGreatDoor.V
open Go.RowKit
open Go.Proofs.YtjdmmhcogmepaaaGreatDoor.Ops (Tr Tk Lv Res Fit OF)
set_option linter.unusedVariables false
set_option linter.unusedSimpArgs false
set_option linter.constructorNameAsVariable false
theorem noSl_one {ty sz n : Nat} {f : Nat → List AV} (h : ∀ i, (f i).all flat1 = true) : NoSl [some ⟨ty, sz, n, f⟩] := fun k ob hk i _ => by
 cases k with
 | zero =>
  simp only [List.getElem?_cons_zero, Option.some.injEq] at hk
  subst hk
  exact h i
 | succ k => simp at hk
def paR (l : List POp) (z : ByteArray) (av : AV) (obs : List Ob) : Prop := (av = .tup [.agg [.own 0], .lit (.int .i64 (parZ l z).2.1), .lit (.int .i64 (parZ l z).2.2)] ∧ obs = [⟨77, 4, (parZ l z).1.length, nodCells (parZ l z).1⟩]) ∨ ∃ x y : Int, parZ l z = ([], x, y) ∧ av = .tup [.agg [.lit (.slice none 0 0)], .lit (.int .i64 x), .lit (.int .i64 y)] ∧ obs = []
theorem paR_nil {l : List POp} {z : ByteArray} {x y : Int} (h : parZ l z = ([], x, y)) : paR l z (.tup [.agg [.lit (.slice none 0 0)], .lit (.int .i64 x), .lit (.int .i64 y)]) [] := .inr ⟨x, y, h, rfl, rfl⟩
theorem paR_own {l : List POp} {z : ByteArray} {av : AV} {obs : List Ob} (h : paR l z av obs) : (av = .tup [.agg [.own 0], .lit (.int .i64 (parZ l z).2.1), .lit (.int .i64 (parZ l z).2.2)] ∧ obs = [⟨77, 4, (parZ l z).1.length, nodCells (parZ l z).1⟩]) ∨ ∃ xs : List Value, av = .tup (.agg [.lit (.slice none 0 0)] :: xs.map .lit) ∧ obs = [] ∧
  (AV.tup (.agg [.own 0] :: xs.map .lit) = .tup [.agg [.own 0], .lit (.int .i64 (parZ l z).2.1), .lit (.int .i64 (parZ l z).2.2)] ∧ [(⟨77, 4, 0, nodCells []⟩ : Ob)] = [⟨77, 4, (parZ l z).1.length, nodCells (parZ l z).1⟩]) := by
 rcases h with h | ⟨x, y, h1, rfl, rfl⟩
 ·exact .inl h
 ·refine .inr ⟨[.int .i64 x, .int .i64 y], rfl, rfl, ?_⟩
  rw [h1]
  exact ⟨rfl, rfl⟩
set_option maxRecDepth 100000 in
theorem c_specParse1 (l : List POp) (hl : l.length ≤ 9223372036854775807) (hw : opsWf l) (z : ByteArray) (hz : z.size ≤ 1048576) : VFun Tryz.prog 31 [.agg [.sl 4 l.length (opCells l)], .lit (.string z)] (paR l z) := by
 have cl : ∀ (i : Nat) (c : AV), i < l.length → c ∈ opCells l i → Closed c := fun i c _ h => opClosed l i c h
 refine vfun_start Tryz.func31 (by kernel_rfl) rfl (by simp [Tryz.ntmps31]) ?_; simp only [Tryz.ntmps31, Tryz.results31]; simp [go_sem]
 refine vcall_pure (c_specTableOk l hl hw) ?_ ?_
 ·simp [go_sem]
  exact argSl_refl (by omega) cl
 ·simp [go_sem]
  refine ⟨fun h0 => paR_nil (by simp [parZ, h0]), fun h0 => ?_⟩
  have hu := uniq_of_ok h0
  refine vcall_use (c_specLex l hl hw z hz) ?_ ?_
  ·simp [go_sem]
   exact argSl_refl (by omega) cl
  ·rintro av obs ⟨rfl, rfl⟩
   simp [go_sem]
   refine ⟨fun h1 => paR_nil ?_, fun h1 => ?_⟩
   ·have : ¬ z.size ≤ 20000 := fun e => by simp [lexOk, h0, e] at h1
    simp [parZ, h0, this]
   have hz2 : z.size ≤ 20000 := by simp [lexOk] at h1; exact h1.2
   have hends := lexZ_ends h1
   obtain ⟨hq1, hq2⟩ := lexZ_texts (l := l) (z := z) (by omega)
   obtain ⟨t, ht⟩ : ∃ t, t = lexZ l z := ⟨_, rfl⟩
   have hpar : parZ l z = parK l t := by rw [parZ, if_neg (by omega), if_neg (by omega), ← ht]
   rw [← ht] at hends hq1 hq2 ⊢
   have clt : ∀ (i : Nat) (c : AV), i < t.length → c ∈ tokCells t i → Closed c := fun i c _ h => tokClosed t i c h
   have hto : t.length + tokSum t ≤ 1048576 := by omega
   refine vc_loop (fun i : Nat => i ≤ t.length ∧ ∀ j, j < i → (tokAt t j).kind ≠ 6) (fun i => t.length - i) (fun i => .of [(2, .ptr 0 1 0 0), (4, .ptr 1 1 0 0), (5, .lit (.int .i64 0)), (6, .lit (.int .i64 0)), (7, .own 2), (9, .lit (.int .i64 i))] [some ⟨30, 1, 1, fun _ => [.sl 4 l.length (opCells l)]⟩, some ⟨37, 1, 1, fun _ => [.lit (.slice none 0 0)]⟩, some ⟨88, 3, t.length, tokCells t⟩]) ⟨0, ⟨by omega, by simp⟩, ?_⟩ (fun i hi => ?_)
   ·simp [go_sem]
    exact ⟨cl, fun i hi c hc => .closed _ (clt i c hi hc)⟩
   ·simp [go_sem, tokCells_at]
    refine ⟨by omega, fun h => ⟨h, fun hk => ?_, fun hk => ?_⟩, fun h => ?_⟩
    ·have hb := badAt_some h hi.2 hk
     refine vcall_pure (c_l3Offset t hto i h) ?_ ?_
     ·simp [go_sem]
      exact argSl_own (k := 2) rfl (by omega) clt
     ·simp [go_sem]
      exact paR_nil (by rw [hpar, parK_bad hb])
    ·refine ⟨i + 1, ⟨by omega, fun j hj => ?_⟩, by omega, wrap_succ (by omega), cl⟩
     rcases Nat.lt_succ_iff_lt_or_eq.mp hj with hj | rfl
     ·exact hi.2 j hj
     ·exact hk
    ·obtain rfl : i = t.length := by omega
     have hnb := badAt_none hi.2
     refine vcall_use (c_specRoles l hl hw t (by omega)) ?_ ?_
     ·simp [go_sem]
      exact ⟨argSl_refl (by omega) cl, argSl_own (k := 2) rfl (by omega) clt⟩
     ·rintro av obs ⟨rfl, rfl⟩
      simp [go_sem]
      rcases roles_two h0 hends with ⟨hr, hR⟩ | ⟨hr, hlt⟩
      ·rw [hr, hR]
       simp [go_sem]
       have F := fits_of h0 hr
       have hpos : 0 < t.length := by have := F.len; omega
       have w1 : IntKind.i64.wrap ((t.length : Int) - 1) = ((t.length - 1 : Nat) : Int) := by rw [wrap_i64 (by omega)]; omega
       have clr : ∀ (i : Nat) (c : AV), i < (rolesUp l t t.length).length → c ∈ intCells (rolesUp l t t.length) i → Closed c := fun i c _ h => intClosed _ i c h
       have cb := c_build l hl hu hw (ok_of_ok h0) t (by omega) (rolesUp l t t.length) (rolesUp_len l t t.length) (toksZ l t).length (toksZ l t) 0 (t.length - 1) [] (Nat.le_refl _) (OF.of_fit F.fit) (by have := F.len; omega) (by omega) F.seg (by have := F.len; simp; omega)
       rw [w1]
       refine ⟨by omega, vcall_shareX [4] cb (by simp) ?_ ?_ trivial ?_⟩
       ·simp [go_sem]
        refine ⟨.inl ?_, .inr (.inl ⟨by simp, argSl_own (k := 2) rfl (by omega) clt, ?_⟩), .inr (.inl ⟨by simp, argSl_own (k := 3) rfl (by omega) clr, ?_⟩), .inl (.closed _ (.lit _)), .inl (.closed _ (.lit _)), .inl ?_⟩
        ·exact .closed _ (by simp only [closed_agg, List.mem_singleton]; rintro c rfl; simp only [closed_sl]; exact cl)
        ·exact fun i hi => tokLit _ i
        ·exact fun i hi => rfl
        ·exact .own 0 (by simp)
       ·simp [go_sem, nodRow]
       ·cases hp : partT l t with
        | none =>
         have hk := parK_none hnb hr hp
         rw [partT] at hp
         rw [hp]
         rintro av mem maps ⟨T, hT, ⟨rfl, rfl, rfl⟩ | ⟨rfl, rfl, rfl⟩⟩
         ·refine ⟨noSl_row fun i => rfl, ?_⟩
          simp [go_sem, nodRow]
          exact paR_nil (by rw [hpar, hk])
         ·refine ⟨noSl_one fun i => rfl, ?_⟩
          simp [go_sem, nodRow]
          exact paR_nil (by rw [hpar, hk])
        | some e =>
         obtain ⟨e1, e2, e3, e4, e5⟩ := partT_ok F hp
         have hp' := hp
         rw [partT] at hp
         rw [hp]
         rintro av mem maps ⟨rfl, rfl, rfl⟩
         refine ⟨noSl_row fun i => rfl, ?_⟩
         simp [go_sem, nodRow]
         have hly := lay_yield e []
         have hgr := lay_grows e []
         have hF := F.len
         rw [← e2] at hF
         simp only [List.length_nil, Nat.zero_add] at hly hgr
         have hH := hOk_lay e [] [] e3 e5 ⟨rfl, fun i hi => by simp at hi⟩
         have hlast := his_last e []
         rw [hH.1] at hlast
         have cle : ∀ (i : Nat) (c : AV), i < (lay e []).length → c ∈ nodCells (lay e []) i → Closed c := fun i c _ h => nodClosed _ i c h
         have ch := c_l3Height (lay e []) (his e []) (by omega) hH
         rw [hlast] at ch
         refine vcall_pure ch ?_ ?_
         ·simp [go_sem]
          exact argSl_own (k := 5) rfl (by omega) cle
         ·simp [go_sem]
          refine ⟨fun h6 => paR_nil (by rw [hpar, parK_high hnb hr hp' (by omega)]), fun h6 => ⟨_, obsSame_one.mpr ⟨⟨77, 4, (lay e []).length, nodCells (lay e [])⟩, ⟨rfl, rfl, rfl, fun j hj => ⟨rfl, nodLit _ j⟩⟩, rfl⟩, .inl ?_⟩⟩
          rw [hpar, parK_ok hnb hr hp' h6]
          exact ⟨rfl, rfl⟩
      ·obtain ⟨q, hq⟩ : ∃ q : Nat, (rolesZ l t).2 = q := ⟨(rolesZ l t).2.toNat, by omega⟩
       have hk := parK_roles hnb hr
       rw [hq] at hr hlt hk ⊢
       simp only [Int.toNat_natCast] at hk
       simp [go_sem, hr]
       have hq' : q < t.length := by omega
       refine ⟨vcall_pure (c_l3Offset t hto q hq') ?_ ?_, fun h => by omega⟩
       ·simp [go_sem]
        exact argSl_own (k := 2) rfl (by omega) clt
       ·simp [go_sem]
        exact paR_nil (by rw [hpar, hk])
theorem c_specParse (l : List POp) (hl : l.length ≤ 9223372036854775807) (hw : opsWf l) (z : ByteArray) (hz : z.size ≤ 1048576) : VFun Tryz.prog 31 [.agg [.sl 4 l.length (opCells l)], .lit (.string z)] (fun av obs => av = .tup [.agg [.own 0], .lit (.int .i64 (parZ l z).2.1), .lit (.int .i64 (parZ l z).2.2)] ∧ obs = [⟨77, 4, (parZ l z).1.length, nodCells (parZ l z).1⟩]) :=
 (c_specParse1 l hl hw z hz).adoptA 77 4 (by omega) (nodCells []) fun av obs h => paR_own h
end Go.Proofs.YtjdmmhcogmepaaaGreatDoor.V
namespace Go.Proofs.YtjdmmhcogmepaaaGreatDoor.V
open Go.RowKit
set_option linter.unusedVariables false
set_option linter.unusedSimpArgs false
section
variable {P : Program} {n : Nat} {base : Fr} {w0 w : World} {hd : Nat → Value} {s : VS} {a : Act}
theorem lk_map {ts : List Nat} {x : AV} {r : List (Nat × AV)} {u : Nat} : lk (ts.map (fun t => (t, x)) ++ r) u = if u ∈ ts then x else lk r u := by
 induction ts with
 | nil => simp
 | cons t ts ih =>
  simp only [List.map_cons, List.cons_append, lk]
  by_cases e : t = u
  ·subst e; simp
  ·rw [if_neg e, ih]
   have e' : ¬ u = t := fun h => e h.symm
   simp [e']
theorem RelH.rowSl (h : RelH n base w0 hd s a w) {k : Nat} {ob : Ob} (hk : s.mem[k]? = some (some ob)) (hc : ∀ i, i < ob.n → ∀ c, c ∈ ob.f i → Closed c) : Rep w (okOf (s.mem.set k none) hd) hd (s.mem.set k none).length (.sl ob.sz ob.n ob.f) (hd k) := by
 obtain ⟨hs, vals, ho, hr⟩ := h.me.obs k ob hk
 have hok : ∀ ad u, okOf s.mem hd ad.block → w.cell? ad = some u → w.cell? ad = some u ∧ okOf (s.mem.set k none) hd ad.block := fun ad u ho hcell => ⟨hcell, free_ok _ _ _ _ ho⟩
 rcases ho.2 with ⟨e, h0⟩ | ⟨g, cap, cur, e, h3, h1, h2, h4⟩
 ·rw [e, show Value.slice none 0 0 = Value.slice none ob.n 0 by rw [h0]]
  exact .sl _ _ _ none 0 (fun _ _ => undef) (by omega) (by omega) hs (fun i hi => (hr i hi).1) (fun hp => by omega) (fun i j av hi => by omega)
 ·have hcells := fun i hi => h.cells_ hk e (i := i) hi
  have hown : (hd k).ownBlock = some g := by rw [e]; rfl
  rw [e]
  refine .sl _ _ _ _ _ (fun i j => (w.cell? ((⟨g, i * ob.sz, none⟩ : Addr).add j)).getD undef) (by omega) (by simp only [maxLen] at h2; omega) hs (fun i hi => (hr i hi).1) (fun hp => ⟨_, rfl, ⟨fun q ob' hq e' => ?_, h.ownTail (h.me.alw k ob hk g hown)⟩, fun i j hi hj => ?_⟩) fun i j av hi hj => ?_
  ·obtain ⟨hq1, hq2⟩ := free_get hq
   rcases h.me.apart q k ob' ob hq1 hk hq2 with e2 | e2
   ·rw [e'] at e2; cases e2
   ·exact e2 (by rw [e', hown])
  ·obtain ⟨u, h1, _⟩ := hcells i hi j _ (List.getElem?_eq_getElem (by rw [(hr i hi).1]; exact hj))
   have e3 : ((⟨g, 0, none⟩ : Addr).add (i * ob.sz + j)) = (⟨g, i * ob.sz, none⟩ : Addr).add j := by
    by_cases hj0 : j = 0
    ·subst hj0
     by_cases hi0 : i * ob.sz = 0
     ·simp [Addr.add, hi0]
     ·simp only [Addr.add, Nat.add_zero]; rw [if_neg hi0]; simp
    ·have hne : ¬ (i * ob.sz + j = 0) := by omega
     simp only [Addr.add]; rw [if_neg hne, if_neg hj0]; simp
   rw [e3, h1]; rfl
  ·obtain ⟨u, h1, h2⟩ := hcells i hi j av hj
   simp only [h1]
   exact Rep.closed (hc i hi av (List.mem_of_getElem? hj)) (fun ad u' g1 g2 => ⟨g2, free_ok _ _ _ _ g1⟩) h2
end
theorem Ent.give {s : VS} (ts : List Nat) (k : Nat) {ob : Ob} (hk : s.mem[k]? = some (some ob)) (hc : ∀ i, i < ob.n → ∀ c, c ∈ ob.f i → Closed c) (ht : ∀ t, t ∈ ts → lk s.tmps t = .own k) :
  Ent s { s with tmps := ts.map (fun t => (t, .sl ob.sz ob.n ob.f)) ++ s.tmps, mem := s.mem.set k none } := by
 intro n base w0 hd a w h
 have hf := h.free k
 have hr := h.rowSl hk hc
 refine ⟨hd, hf.defers, hf.size, hf.below, hf.le, hf.fixl, hf.fix, hf.mp, fun u => ?_, hf.me⟩
 simp only [lk_map]
 split
 ·rename_i hu
  have := h.tm u
  rw [ht u hu] at this
  generalize a.tmps.getD u undef = v at this
  cases this
  exact hr
 ·exact hf.tm u
end Go.Proofs.YtjdmmhcogmepaaaGreatDoor.V
namespace Go.Proofs.YtjdmmhcogmepaaaGreatDoor.V
open Go.RowKit
open Go.Maps (Keyed)
open Go.Proofs.YtjdmmhcogmepaaaGreatDoor.Ops (Tr Tk Lv Res Fit)
set_option linter.unusedVariables false
set_option linter.unusedSimpArgs false
set_option linter.constructorNameAsVariable false
theorem zeroNud : zeroIs Tryz.prog 165 .nilFunc := fun w => Tryz.zeroValue165 w
theorem toks_at {E : PEnv} {i : Nat} {tk : TkP} {r : List TkP} (h : ToksAre E.l E.t i (tk :: r)) : i < E.t.length ∧ E.at_ r = i + 1 ∧ E.at_ (tk :: r) = i := by
 have := toksAre_len h
 simp only [List.length_cons] at this
 unfold PEnv.at_
 simp only [List.length_cons]
 omega
theorem fi_leaf (E : PEnv) (i : Nat) (hi : i < E.t.length) (rest : List TkP) (hr : E.at_ rest = i + 1) (hk : (tokAt E.t i).kind = 1 ∨ (tokAt E.t i).kind = 2) : E.Ans 125 [.ptr 0 6 0 0] i (some (.leaf ((tokAt E.t i).kind, (tokAt E.t i).text), rest)) := by
 refine .mk ?_
 have cn := c_pnext E.b1 E.b2 E.b3 E.b4 E.t E.len i hi
 rw [hr]
 simp only [PEnv.ob, pOb, PEnv.mps, mapsP, PTok.cells] at cn ⊢
 refine vprocG_start Tryz.func125 (by kernel_rfl) rfl (by simp [Tryz.ntmps125]) ?_; simp only [Tryz.ntmps125, Tryz.results125]; simp [go_sem]
 refine vcall_share [0] cn (by simp) ?_ ?_ ?_ ?_
 ·simp [go_sem]
 ·simp [go_sem]
  exact fun i c _ h => tokClosed E.t i c h
 ·simp [go_sem]
 ·rintro av mem maps ⟨rfl, rfl, rfl⟩
  simp only [pOb]
  simp [go_sem]
  rcases hk with hk | hk
  ·simp [hk, go_sem]
   exact E.fin_ [] (by simp only [partP, hk]) rfl
  ·simp [hk, go_sem]
   exact E.fin_ [] (by simp only [partP, hk]) rfl
theorem fi_open (E : PEnv) (i : Nat) (hi : i < E.t.length) (j : Nat) (hj : j < E.t.length) (e : PT) (r0 rest : List TkP) (h0 : E.at_ r0 = j) (hr : E.at_ rest = j + 1) (hk : (tokAt E.t i).kind = 4) (hk2 : (tokAt E.t j).kind = 5) (hl : highT e < 2 ^ 62) (ho : E.Ans 95 [.ptr 0 6 0 0, .lit (.int .i64 0)] (i + 1) (some (e, r0))) : E.Ans 125 [.ptr 0 6 0 0] i (some (.grp e, rest)) := by
 refine .mk ?_
 obtain ⟨T, u, hT, _, fh, hh, ch⟩ := partIs e
 have ew : IntKind.i64.wrap (1 + highT e) = 1 + highT e := wrap_i64 (by have := highT_pos e; omega)
 have cn := c_pnext E.b1 E.b2 E.b3 E.b4 E.t E.len i hi
 have cn2 := c_pnext E.b1 E.b2 E.b3 E.b4 E.t E.len j hj
 rw [hr]
 simp only [PEnv.ob, pOb, PEnv.mps, mapsP, PTok.cells] at cn cn2 ⊢
 refine vprocG_start Tryz.func125 (by kernel_rfl) rfl (by simp [Tryz.ntmps125]) ?_; simp only [Tryz.ntmps125, Tryz.results125]; simp [go_sem]
 refine vcall_share [0] cn (by simp) ?_ ?_ ?_ ?_
 ·simp [go_sem]
 ·simp [go_sem]
  exact fun i c _ h => tokClosed E.t i c h
 ·simp [go_sem]
 ·rintro av mem maps ⟨rfl, rfl, rfl⟩
  simp only [pOb]
  simp [hk, go_sem]
  refine vcall_tell [0] 48 ho (by simp) rfl (fun i _ => rnP E.lo i) ?_ ?_ ?_ ?_
  ·simp [go_sem]
  ·simp [go_sem, PEnv.ob, pOb]
   exact fun i c _ h => tokClosed E.t i c h
  ·exact E.mpsLe []
  ·rintro av mem maps ⟨⟨rfl, rfl⟩, rfl⟩
   rw [h0]
   simp only [PEnv.ob, pOb, PEnv.mps, mapsP]
   simp [go_sem]
   refine vcall_share [0] cn2 (by simp) ?_ ?_ ?_ ?_
   ·simp [go_sem]
   ·simp [go_sem]
    exact fun i c _ h => tokClosed E.t i c h
   ·simp [go_sem]
   ·rintro av mem maps ⟨rfl, rfl, rfl⟩
    simp only [pOb]
    simp [hk2, go_sem]
    rw [hT]
    simp [go_sem, hh]
    refine vcall_pure ch ?_ ?_
    ·simp [go_sem]
    ·simp [go_sem, ew]
     exact E.fin_ E.mps (by simp only [partP, hT]) rfl
theorem fi_open_dies (E : PEnv) (i : Nat) (hi : i < E.t.length) (hk : (tokAt E.t i).kind = 4) (ho : E.Ans 95 [.ptr 0 6 0 0, .lit (.int .i64 0)] (i + 1) none) : E.Ans 125 [.ptr 0 6 0 0] i none := by
 have cn := c_pnext E.b1 E.b2 E.b3 E.b4 E.t E.len i hi
 simp only [PEnv.Ans, PEnv.ob, pOb, PEnv.mps, mapsP, PTok.cells] at cn ho ⊢
 refine vdies_start Tryz.func125 (by kernel_rfl) rfl (by simp [Tryz.ntmps125]) ?_; simp only [Tryz.ntmps125, startG, startP, List.length_cons, List.length_nil, List.length_singleton]
 refine vd_snd ?_
 simp [go_sem]
 refine vd_snd ?_
 simp [go_sem]
 refine vcall_share [0] cn (by simp) ?_ ?_ ?_ ?_
 ·simp [go_sem]
 ·simp [go_sem]
  exact fun i c _ h => tokClosed E.t i c h
 ·simp [go_sem]
 ·rintro av mem maps ⟨rfl, rfl, rfl⟩
  simp only [pOb]
  simp [hk, go_sem]
  refine vd_fst ?_
  refine vd_snd ?_
  simp [hk, go_sem]
  refine vd_snd ?_
  simp [hk, go_sem]
  refine vd_snd ?_
  simp [hk, go_sem]
  refine vd_snd ?_
  simp [hk, go_sem]
  refine vd_fst ?_
  refine vd_at 1 ?_
  simp [go_sem]
  refine vdcall_tell [0] 48 ho (by simp) rfl (fun i _ => rnP E.lo i) ?_ ?_ (E.mpsLe []) (E.mpsLe [])
  ·simp [go_sem]
  ·simp [go_sem, PEnv.ob, pOb]
   exact fun i c _ h => tokClosed E.t i c h
theorem fi_open_end (E : PEnv) (i : Nat) (hi : i < E.t.length) (j : Nat) (hj : j < E.t.length) (e : PT) (r0 : List TkP) (h0 : E.at_ r0 = j) (hk : (tokAt E.t i).kind = 4) (hk2 : (tokAt E.t j).kind ≠ 5) (ho : E.Ans 95 [.ptr 0 6 0 0, .lit (.int .i64 0)] (i + 1) (some (e, r0))) : E.Ans 125 [.ptr 0 6 0 0] i none := by
 have cn := c_pnext E.b1 E.b2 E.b3 E.b4 E.t E.len i hi
 have cn2 := c_pnext E.b1 E.b2 E.b3 E.b4 E.t E.len j hj
 simp only [PEnv.Ans, PEnv.ob, pOb, PEnv.mps, mapsP, PTok.cells] at cn cn2 ⊢
 refine vdies_start Tryz.func125 (by kernel_rfl) rfl (by simp [Tryz.ntmps125]) ?_; simp only [Tryz.ntmps125, startG, startP, List.length_cons, List.length_nil, List.length_singleton]
 refine vd_snd ?_
 simp [go_sem]
 refine vd_snd ?_
 simp [go_sem]
 refine vcall_share [0] cn (by simp) ?_ ?_ ?_ ?_
 ·simp [go_sem]
 ·simp [go_sem]
  exact fun i c _ h => tokClosed E.t i c h
 ·simp [go_sem]
 ·rintro av mem maps ⟨rfl, rfl, rfl⟩
  simp only [pOb]
  simp [hk, go_sem]
  refine vd_fst ?_
  refine vd_snd ?_
  simp [hk, go_sem]
  refine vd_snd ?_
  simp [hk, go_sem]
  refine vd_snd ?_
  simp [hk, go_sem]
  refine vd_snd ?_
  simp [hk, go_sem]
  refine vd_snd ?_
  simp [hk, go_sem]
  refine vcall_tell [0] 48 ho (by simp) rfl (fun i _ => rnP E.lo i) ?_ ?_ ?_ ?_
  ·simp [go_sem]
  ·simp [go_sem, PEnv.ob, pOb]
   exact fun i c _ h => tokClosed E.t i c h
  ·exact E.mpsLe []
  ·rintro av mem maps ⟨⟨rfl, rfl⟩, rfl⟩
   rw [h0]
   simp only [PEnv.ob, pOb, PEnv.mps, mapsP]
   simp [go_sem]
   refine vd_fst ?_
   refine vd_snd ?_
   simp [go_sem]
   refine vcall_share [0] cn2 (by simp) ?_ ?_ ?_ ?_
   ·simp [go_sem]
   ·simp [go_sem]
    exact fun i c _ h => tokClosed E.t i c h
   ·simp [go_sem]
   ·rintro av mem maps ⟨rfl, rfl, rfl⟩
    simp only [pOb]
    simp [hk2, go_sem]
    refine vd_at 2 ?_
    simp [go_sem, noTreeV, E.n13, E.n14, E.n34]
theorem fi_pre (E : PEnv) (i : Nat) (hi : i < E.t.length) (q : Nat) (hk : (tokAt E.t i).kind = 3) (hz : (tokAt E.t i).text.size ≤ maxLen) (hm : mget E.esN (.string (tokAt E.t i).text) = some (.func (.func 94) #[] #[vsP E.bp E.bo 0, vsP E.bp E.bo (q + 1)])) (e : PT) (rest : List TkP)
  (ho : E.Ans 94 [.agg (tokAt E.t i).cells, .lit (vsP E.bp E.bo 0), .lit (vsP E.bp E.bo (q + 1))] (i + 1) (some (e, rest))) : E.Ans 125 [.ptr 0 6 0 0] i (some (e, rest)) := by
 refine .mk ?_
 have cn := c_pnext E.b1 E.b2 E.b3 E.b4 E.t E.len i hi
 have h13 := E.n13
 have h14 := E.n14
 have h34 := E.n34
 simp only [PEnv.ob, pOb, PEnv.mps, mapsP, PTok.cells, vsP] at cn ho hm ⊢
 refine vprocG_start Tryz.func125 (by kernel_rfl) rfl (by simp [Tryz.ntmps125]) ?_; simp only [Tryz.ntmps125, Tryz.results125]; simp [go_sem]
 refine vcall_share [0] cn (by simp) ?_ ?_ ?_ ?_
 ·simp [go_sem]
 ·simp [go_sem]
  exact fun i c _ h => tokClosed E.t i c h
 ·simp [go_sem]
 ·rintro av mem maps ⟨rfl, rfl, rfl⟩
  simp only [pOb]
  simp [hk, go_sem]
  refine vc_drawn [8] (.q 0 <| .q 1 <| .q 2 <| .q 3 <| .q 4 <| .q 5 <| .q 6 <| .q 7 <| .or 8 (.q 9 <| .done) (.nil)) (by kernel_rfl) ?_
  simp [hk, go_sem, h13, h14, h34]
  refine vlookK_use keyedString (keyString hz) _ zeroNud ?_
  rw [hm]
  simp [go_sem]
  refine vcall_tell [0] 48 ho (by simp) rfl (fun i _ => rnP E.lo i) ?_ ?_ ?_ ?_
  ·simp [go_sem, hk]
  ·simp [go_sem, PEnv.ob, pOb]
   exact fun i c _ h => tokClosed E.t i c h
  ·exact E.mpsLe []
  ·rintro av mem maps ⟨⟨rfl, rfl⟩, rfl⟩
   simp only [PEnv.ob, pOb, PEnv.mps, mapsP]
   simp [go_sem]
   exact E.fin_ E.mps rfl rfl
theorem fi_pre_dies (E : PEnv) (i : Nat) (hi : i < E.t.length) (q : Nat) (hk : (tokAt E.t i).kind = 3) (hz : (tokAt E.t i).text.size ≤ maxLen) (hm : mget E.esN (.string (tokAt E.t i).text) = some (.func (.func 94) #[] #[vsP E.bp E.bo 0, vsP E.bp E.bo (q + 1)]))
  (ho : E.Ans 94 [.agg (tokAt E.t i).cells, .lit (vsP E.bp E.bo 0), .lit (vsP E.bp E.bo (q + 1))] (i + 1) none) : E.Ans 125 [.ptr 0 6 0 0] i none := by
 have cn := c_pnext E.b1 E.b2 E.b3 E.b4 E.t E.len i hi
 have h13 := E.n13
 have h14 := E.n14
 have h34 := E.n34
 simp only [PEnv.Ans, PEnv.ob, pOb, PEnv.mps, mapsP, PTok.cells, vsP] at cn ho hm ⊢
 refine vdies_start Tryz.func125 (by kernel_rfl) rfl (by simp [Tryz.ntmps125]) ?_; simp only [Tryz.ntmps125, startG, startP, List.length_cons, List.length_nil, List.length_singleton]
 refine vd_snd ?_
 simp [go_sem]
 refine vd_snd ?_
 simp [go_sem]
 refine vcall_share [0] cn (by simp) ?_ ?_ ?_ ?_
 ·simp [go_sem]
 ·simp [go_sem]
  exact fun i c _ h => tokClosed E.t i c h
 ·simp [go_sem]
 ·rintro av mem maps ⟨rfl, rfl, rfl⟩
  simp only [pOb]
  simp [hk, go_sem]
  refine vd_snd ?_
  simp [hk, go_sem]
  refine vd_fst (vd_drawn [8] (.q 0 <| .q 1 <| .q 2 <| .q 3 <| .q 4 <| .q 5 <| .q 6 <| .q 7 <| .or 8 (.q 9 <| .done) (.nil)) (by kernel_rfl) ?_)
  simp [hk, go_sem, h13, h14, h34]
  refine vlookK_use keyedString (keyString hz) _ zeroNud ?_
  rw [hm]
  simp [go_sem]
  refine vdcall_tell [0] 48 ho (by simp) rfl (fun i _ => rnP E.lo i) ?_ ?_ (E.mpsLe []) (E.mpsLe [])
  ·simp [go_sem, hk]
  ·simp [go_sem, PEnv.ob, pOb]
   exact fun i c _ h => tokClosed E.t i c h
theorem tok_kind {l : List POp} {k : PTok} {tk : TkP} (h : TokIs l k tk) : k.kind = 5 → tk = .cls := by
 cases tk <;> simp only [TokIs] at h <;> intro h5 <;> first | rfl | (exfalso; omega) | skip
theorem c_first (E : PEnv) (n : Nat) (hO : ∀ i m d ts res, ToksAre E.l E.t i ts → Fit true d ts → Ops.operand lvO n m ts = some res → E.Ans 95 [.ptr 0 6 0 0, .lit (.int .i64 m)] i res)
  (i d : Nat) (ts : List TkP) (res : Option (PT × List TkP)) (ht : ToksAre E.l E.t i ts) (hf : Fit true d ts) (h : Ops.firstF lvO (Ops.operand lvO n) ts = some res) : E.Ans 125 [.ptr 0 6 0 0] i res := by
 cases ts with
 | nil => exact absurd hf (by simp [Fit])
 | cons tk r =>
  obtain ⟨hi, h1, _⟩ := toks_at ht
  obtain ⟨ht1, ht2⟩ := ht
  have big : ∀ {m : Int} {u : List TkP} {e : PT} {rest : List TkP}, u.length ≤ E.t.length → Ops.operand lvO n m u = some (some (e, rest)) → highT e ≤ 1048576 := @fun _ _ e _ hu hq => by
   have := ((Ops.sound_all lvO n).1 _ _ _ _ hq).1
   have h2 := highT_yield e
   have h3 := congrArg List.length this
   rw [List.length_append] at h3
   have := E.len
   omega
  have hlen := toksAre_len ht2
  cases tk with
  | leaf b =>
   simp only [Ops.firstF, Option.some.injEq] at h
   subst h
   simp only [TokIs] at ht1
   have := fi_leaf E i hi r h1 ht1.1
   rw [ht1.2]; exact this
  | opn =>
   simp only [TokIs] at ht1
   simp only [Fit] at hf
   cases hq : Ops.operand lvO n 0 r with
   | none => simp [Ops.firstF, hq] at h
   | some x =>
    have ho := hO (i + 1) 0 (d + 1) r x ht2 hf hq
    cases x with
    | none =>
     simp [Ops.firstF, hq] at h
     subst h
     exact fi_open_dies E i hi ht1 ho
    | some y =>
     obtain ⟨e, r0⟩ := y
     have hs := ((Ops.sound_all lvO n).1 _ _ _ _ hq).1
     have ht3 := ht2
     rw [hs] at ht3
     have ht4 := toksAre_rest ht3
     have hj : E.t.length - 1 - r0.length < E.t.length := by omega
     have hb := big (by omega) hq
     simp only [Ops.firstF, hq] at h
     cases r0 with
     | nil =>
      simp at h; subst h
      exact fi_open_end E i hi (E.at_ []) hj e [] rfl ht1 (by
       have := ht4.2
       show (tokAt E.t (E.t.length - 1 - 0)).kind ≠ 5
       simp only [List.length_nil] at this
       omega) ho
     | cons tk2 r1 =>
      obtain ⟨_, h6, h7⟩ := toks_at ht4
      by_cases hc : tk2 = .cls
      ·subst hc
       simp at h; subst h
       have hk5 := ht4.1
       simp only [TokIs] at hk5
       exact fi_open E i hi (E.at_ (.cls :: r1)) hj e _ r1 rfl h6 ht1 hk5 (by omega) ho
      ·have hn : res = none := by cases tk2 <;> first | exact absurd rfl hc | (simp at h; exact h.symm)
       subst hn
       exact fi_open_end E i hi (E.at_ (tk2 :: r1)) hj e _ rfl ht1 (fun h5 => hc (tok_kind ht4.1 h5)) ho
  | pre o =>
   simp only [TokIs] at ht1
   simp only [Fit] at hf
   obtain ⟨k1, k2, k3, j, hj, rfl⟩ := ht1
   obtain ⟨q, hq0, hq1, hq2⟩ := E.maps.nud j hj k3
   have hok := E.maps.ok j hj
   have hh : hole (opAt E.lo q) false = (lvO (opAt E.l j)).h2 := by rw [hq1]; exact hole_h2p hok k3
   have hw : (opAt E.lo q).wf := by rw [hq1]; exact E.maps.wf j hj
   rw [k2] at hq2
   cases hq : Ops.operand lvO n (lvO (opAt E.l j)).h2 r with
   | none => simp [Ops.firstF, hq] at h
   | some x =>
    have ho := hO (i + 1) _ d r x ht2 hf hq
    rw [← hh] at ho
    simp only [Ops.firstF, hq] at h
    cases x with
    | none =>
     simp at h; subst h
     exact fi_pre_dies E i hi q k1 (E.txt i hi) hq2 (an_pre_dies E _ q hq0 hw _ ho)
    | some y =>
     obtain ⟨e, r0⟩ := y
     simp at h; subst h
     have hb := big (by omega) hq
     have := fi_pre E i hi q k1 (E.txt i hi) hq2 _ _ (an_pre E (tokAt E.t i) q hq0 hw _ e r0 (by omega) ho)
     rw [hq1] at this; exact this
  | cls => exact absurd hf (by simp [Fit])
  | inf o => exact absurd hf (by simp [Fit])
  | post o => exact absurd hf (by simp [Fit])
end Go.Proofs.YtjdmmhcogmepaaaGreatDoor.V
namespace Go.Proofs.YtjdmmhcogmepaaaGreatDoor.V
open Go.RowKit
open Go.Maps (Keyed)
open Go.Proofs.YtjdmmhcogmepaaaGreatDoor.Ops (Tr Tk Lv Res Fit)
set_option linter.unusedVariables false
set_option linter.unusedSimpArgs false
set_option linter.constructorNameAsVariable false
theorem PEnv.mpsLe1 (E : PEnv) (M : List (Nat × Mp)) : MapsLe ((E.b1, ⟨151, E.esA⟩) :: (E.mps ++ M)) E.mps := by
 have h1 := E.n13
 have h2 := E.n14
 have h3 := E.n34
 simp [PEnv.mps, mapsP, MapsLe, lkm, h1, h2, h3, Ne.symm h1, Ne.symm h2, Ne.symm h3]
theorem PEnv.fin2 (E : PEnv) {u v : Value} {i j : Nat} {M : List (Nat × Mp)} (hM : MapsLe M E.mps) {r : List (Option Ob)} {tm : List (Nat × AV)} (hv : v = u) (hij : i = j) : vendP E.mps (E.Rt u j) ⟨tm, E.ob i :: r, M, 1⟩ (.lit v) := by
 subst hv; subst hij
 refine ⟨rfl, [], [E.ob i], by simp, by simp, by simp [go_sem], ?_, fun b hb => ?_, ⟨⟨rfl, rfl⟩, hM⟩⟩
 ·simp only [PEnv.ob, pOb]
  simp [go_sem]
  exact pOut
 ·cases hq : lkm E.mps b with
  | none => rw [hq] at hb; simp at hb
  | some mp => rw [mapsLe_get hM (b, mp) (lkm_mem hq)]; rfl
theorem zeroLed : zeroIs Tryz.prog 166 .nilFunc := fun w => Tryz.zeroValue166 w
structure AtLoop (E : PEnv) (n : Nat) (m : Int) (res : Option (PT × List TkP)) (x : PT × List TkP) : Prop where
 run : ∃ k, k ≤ n ∧ Ops.loop lvO k m x.1 x.2 = some res
 toks : ToksAre E.l E.t (E.at_ x.2) x.2
 fit : ∃ d, Fit false d x.2
 len : x.1.yield.length + x.2.length + 1 ≤ E.t.length
def atLoopS (E : PEnv) (m : Int) (x : PT × List TkP) : VS := ⟨[(62, .fam (E.lo.length + 1) (vsP E.bp E.bo) (asP E.lo)), (0, .ptr 0 6 0 0), (1, .lit (.int .i64 m)), (4, .lit .nilIface), (5, .lit (partP x.1))], [E.ob (E.at_ x.2)], E.mps, 1⟩
theorem op_some (E : PEnv) (n : Nat) (hO : ∀ i m d ts res, ToksAre E.l E.t i ts → Fit true d ts → Ops.operand lvO n m ts = some res → E.Ans 95 [.ptr 0 6 0 0, .lit (.int .i64 m)] i res)
  (i : Nat) (m : Int) (e : PT) (ts : List TkP) (er : PT) (rest : List TkP) (hf : E.Ans 125 [.ptr 0 6 0 0] i (some (e, ts))) (hm : m ≤ e.level lvO) (hl : AtLoop E n m (some (er, rest)) (e, ts)) : E.Ans 95 [.ptr 0 6 0 0, .lit (.int .i64 m)] i (some (er, rest)) := by
 refine .mk ?_
 obtain ⟨T, u, hT, ⟨fl, hfl, cl⟩, _⟩ := partIs e
 have h13 := E.n13
 have h14 := E.n14
 have h34 := E.n34
 simp only [PEnv.ob, pOb, PEnv.mps, mapsP]
 refine vprocG_start Tryz.func95 (by kernel_rfl) rfl (by simp [Tryz.ntmps95]) ?_; simp only [Tryz.ntmps95, Tryz.results95]; simp [go_sem]
 refine vcall_tell [0] 62 hf (by simp) rfl (fun i _ => rnP E.lo i) ?_ ?_ ?_ ?_
 ·simp [go_sem]
 ·simp [go_sem, PEnv.ob, pOb]
  exact fun i c _ h => tokClosed E.t i c h
 ·exact E.mpsLe []
 ·rintro av mem maps ⟨⟨rfl, rfl⟩, rfl⟩
  simp only [PEnv.ob, pOb, PEnv.mps, mapsP]
  simp [go_sem]
  rw [hT]
  simp [go_sem, hfl]
  refine vcall_pure cl ?_ ?_
  ·simp [go_sem]
  ·rw [← lvlP_eq] at hm
   simp [go_sem, show ¬ lvlP e < m by omega]
   refine vc_loopE (AtLoop E n m (some (er, rest))) (fun x => x.2.length) (atLoopS E m) ⟨(e, ts), hl, ?_⟩ (fun x hx => ?_)
   ·refine ent_ks [0] (by simp) (by simp) (by simp) (by simp) (E.mpsLe _) ?_ ?_
    ·simp [go_sem]
     exact ⟨.fam _ _ _ _ fun i _ => rnP E.lo i, hT.symm⟩
    ·simp [go_sem, PEnv.ob, pOb]
     exact fun i c _ h => tokClosed E.t i c h
   ·obtain ⟨e, ts⟩ := x
    obtain ⟨⟨k, hk, hrun⟩, htk, ⟨d, hfit⟩, hlen⟩ := hx
    have hlt : E.at_ ts < E.t.length := by unfold PEnv.at_; omega
    simp only [atLoopS, PEnv.ob, pOb, PEnv.mps, mapsP]
    simp [go_sem]
    refine vc_drawn [11] (.q 0 <| .q 1 <| .q 2 <| .q 3 <| .q 4 <| .q 5 <| .q 6 <| .q 7 <| .q 8 <| .q 9 <| .or 10 (.or 11 (.done) (.nil)) (.nil)) (by kernel_rfl) ?_
    simp [go_sem, tokCells_at, hlt, PTok.cells]
    cases ts with
    | nil =>
     have hk7 := htk.2
     simp [go_sem, hk7]
     cases k with
     | zero => simp [Ops.loop] at hrun
     | succ k =>
      simp [Ops.loop, Ops.loopF] at hrun
      obtain ⟨rfl, rfl⟩ := hrun
      exact E.fin_ [] rfl rfl
    | cons tk r =>
     obtain ⟨hi, hi1, hi2⟩ := toks_at htk
     obtain ⟨ht1, ht2⟩ := htk
     have hi2' : E.at_ (tk :: r) < E.t.length := hlt
     by_cases hc : tk = .cls
     ·subst hc
      simp only [TokIs] at ht1
      simp [go_sem, ht1]
      cases k with
      | zero => simp [Ops.loop] at hrun
      | succ k =>
       simp [Ops.loop, Ops.loopF] at hrun
       obtain ⟨rfl, rfl⟩ := hrun
       exact E.fin_ [] rfl rfl
     ·obtain ⟨o, hk3, htx, hko, ⟨j, hj, hjo⟩, htk⟩ : ∃ o, (tokAt E.t (E.at_ (tk :: r))).kind = 3 ∧ o.text = (tokAt E.t (E.at_ (tk :: r))).text ∧ o.kind ≠ 1 ∧ (∃ j, j < E.l.length ∧ opAt E.l j = o) ∧ ((tk = .inf o ∧ o.kind = 2) ∨ (tk = .post o ∧ o.kind = 3)) := by
       cases tk with
       | cls => exact absurd rfl hc
       | inf o => exact ⟨o, ht1.1, ht1.2.1, by have := ht1.2.2.1; omega, ht1.2.2.2, .inl ⟨rfl, ht1.2.2.1⟩⟩
       | post o => exact ⟨o, ht1.1, ht1.2.1, by have := ht1.2.2.1; omega, ht1.2.2.2, .inr ⟨rfl, ht1.2.2.1⟩⟩
       | leaf b => exact absurd hfit (by simp [Fit])
       | opn => exact absurd hfit (by simp [Fit])
       | pre o => exact absurd hfit (by simp [Fit])
      have hw : o.wf := by rw [← hjo]; exact E.maps.wf j hj
      have hok : opOk o = true := by rw [← hjo]; exact E.maps.ok j hj
      have hh1 := hole_h1 hok hko
      have cH := c_Hole o hw false
      rw [hh1] at cH
      have cb := c_behind E.l E.b1 E.b2 E.b3 E.b4 E.t (E.at_ (tk :: r)) E.maps.uniq E.esA E.maps.at_ j hj (by rw [hjo]; exact hko) (by rw [hjo]; exact hw)
      rw [hjo, htx] at cb
      simp only [POp.cells, pOb] at cb cH
      simp [go_sem, hk3]
      refine vcall_share [0] cb (by simp) ?_ ?_ ?_ ?_
      ·simp [go_sem]
      ·simp [go_sem]
       exact fun i c _ h => tokClosed E.t i c h
      ·simp [go_sem]
      ·rintro av mem maps ⟨rfl, rfl, rfl⟩
       simp only [pOb]
       simp [go_sem]
       have hrun' : ∃ k', k = k' + 1 ∧ ((o.level < m ∨ e.level lvO < (lvO o).h1) → er = e ∧ rest = tk :: r) := by
        cases k with
        | zero => simp [Ops.loop] at hrun
        | succ k =>
         refine ⟨k, rfl, fun hor => ?_⟩
         rw [Ops.loop] at hrun
         rcases htk with ⟨rfl, _⟩ | ⟨rfl, _⟩ <;>
         ·simp only [Ops.loopF] at hrun
          have hl : (lvO o).lev = o.level := rfl
          rw [hl] at hrun
          by_cases hlm : o.level < m
          ·rw [if_pos hlm] at hrun; simp at hrun; exact ⟨hrun.1.symm, hrun.2.symm⟩
          ·rcases hor with hor | hor
           ·exact absurd hor hlm
           ·rw [if_neg hlm, if_pos hor] at hrun; simp at hrun; exact ⟨hrun.1.symm, hrun.2.symm⟩
       obtain ⟨k, rfl, hstop⟩ := hrun'
       refine ⟨fun hlm => ?_, fun hlm => ?_⟩
       ·obtain ⟨rfl, rfl⟩ := hstop (.inl hlm)
        exact E.fin2 (E.mpsLe1 []) rfl rfl
       ·refine vc_drawn [] (.q 0 <| .q 2 <| .or 1 (.or 3 (.q 4 <| .done) (.nil)) (.nil)) (by kernel_rfl) ?_
        simp [go_sem]
        obtain ⟨T, u, hT, ⟨fl, hfl, cl⟩, _⟩ := partIs e
        rw [hT]
        simp [go_sem, hfl]
        refine vcallV_pure cl ?_ ?_
        ·simp [go_sem]
        ·simp [go_sem]
         refine vcallV_pure cH ?_ ?_
         ·simp [go_sem]
         ·simp [go_sem]
          rw [← hT]
          rw [lvlP_eq]
          refine ⟨fun hlh => ?_, fun hlh => ?_⟩
          ·obtain ⟨rfl, rfl⟩ := hstop (.inr hlh)
           exact E.fin2 (E.mpsLe1 []) rfl rfl
          ·have ew : IntKind.i64.wrap ((E.at_ (tk :: r) : Int) + 1) = ((E.at_ r : Nat) : Int) := by rw [hi1, hi2]; exact wrap_succ (by have := E.len; omega)
           simp [go_sem, ew]
           refine vc_drawn [9] (.q 0 <| .q 1 <| .q 2 <| .q 3 <| .q 4 <| .q 5 <| .q 6 <| .q 7 <| .q 8 <| .or 9 (.q 10 <| .done) (.nil)) (by kernel_rfl) ?_
           simp [go_sem, h13, h14, h34, Ne.symm h13, Ne.symm h14, Ne.symm h34]
           refine vlookK_use keyedString (keyString (E.txt _ hi2')) _ zeroLed ?_
           have hye := highT_yield e
           have hEl := E.len
           simp only [List.length_cons] at hlen
           rcases htk with ⟨rfl, ho2⟩ | ⟨rfl, ho3⟩
           ·have hm2 := E.maps.led2 j hj (by rw [hjo]; exact ho2)
            rw [hjo, htx] at hm2
            rw [hm2]
            simp [go_sem]
            simp only [Fit] at hfit
            have hh2 := hole_h2i hok ho2
            rw [Ops.loop, Ops.loopF, if_neg (show ¬ (lvO o).lev < m by show ¬ o.level < m; omega), if_neg (show ¬ e.level lvO < (lvO o).h1 by omega)] at hrun
            cases hq : Ops.operand lvO k (lvO o).h2 r with
            | none => rw [hq] at hrun; simp at hrun
            | some y =>
             rw [hq] at hrun
             cases y with
             | none => simp at hrun
             | some y =>
              obtain ⟨e2, r2⟩ := y
              simp only at hrun
              have hq' := Ops.operand_le lvO (show k ≤ n by omega) hq
              have hs := ((Ops.sound_all lvO n).1 _ _ _ _ hq').1
              have ht2' : ToksAre E.l E.t (E.at_ r) r := by rw [hi1, ← hi2]; exact ht2
              have ho := hO (E.at_ r) _ d r _ ht2' hfit hq'
              rw [← hh2] at ho
              have hy2 := highT_yield e2
              have hl2 := congrArg List.length hs
              rw [List.length_append] at hl2
              have ha := an_inf E o hw (E.at_ r) e e2 r2 (by omega) (by omega) ho
              refine vcall_tell [0] 62 ha (by simp) rfl (fun i _ => rnP E.lo i) ?_ ?_ ?_ ?_
              ·simp [go_sem, POp.cells, vsP]
              ·simp [go_sem, PEnv.ob, pOb]
               exact fun i c _ h => tokClosed E.t i c h
              ·exact E.mpsLe1 []
              ·rintro av mem maps ⟨⟨rfl, rfl⟩, rfl⟩
               simp only [PEnv.ob, pOb]
               simp [go_sem]
               refine ⟨.inf o e e2, r2, ⟨⟨k, by omega, hrun⟩, ?_, ⟨d, ?_⟩, ?_⟩, ?_, ?_⟩
               ·rw [hs] at ht2'; exact toksAre_rest ht2'
               ·rw [hs] at hfit; exact fit_yield _ _ _ hfit
               ·simp [Tr.yield]; omega
               ·try simp only [List.length_cons]
                omega
               ·refine ent_ks [0] (by simp) (by simp) (by simp) (by simp) (E.mpsLe _) ?_ ?_
                ·simp [go_sem]
                 exact .fam _ _ _ _ fun i _ => rnP E.lo i
                ·simp [go_sem, PEnv.ob, pOb]
                 exact fun i c _ h => tokClosed E.t i c h
           ·have hm3 := E.maps.led3 j hj (by rw [hjo]; exact ho3)
            rw [hjo, htx] at hm3
            rw [hm3]
            simp [go_sem]
            simp only [Fit] at hfit
            rw [Ops.loop, Ops.loopF, if_neg (show ¬ (lvO o).lev < m by show ¬ o.level < m; omega), if_neg (show ¬ e.level lvO < (lvO o).h1 by omega)] at hrun
            have ha := an_post E e o r (by omega)
            have ht2' : ToksAre E.l E.t (E.at_ r) r := by rw [hi1, ← hi2]; exact ht2
            refine vcall_tell [0] 62 ha (by simp) rfl (fun i _ => rnP E.lo i) ?_ ?_ ?_ ?_
            ·simp [go_sem, POp.cells, vsP]
            ·simp [go_sem, PEnv.ob, pOb]
             exact fun i c _ h => tokClosed E.t i c h
            ·exact E.mpsLe1 []
            ·rintro av mem maps ⟨⟨rfl, rfl⟩, rfl⟩
             simp only [PEnv.ob, pOb]
             simp [go_sem]
             refine ⟨.post o e, r, ⟨⟨k, by omega, hrun⟩, ht2', ⟨d, hfit⟩, ?_⟩, ?_, ?_⟩
             ·simp [Tr.yield]; omega
             ·try simp only [List.length_cons]
              omega
             ·refine ent_ks [0] (by simp) (by simp) (by simp) (by simp) (E.mpsLe _) ?_ ?_
              ·simp [go_sem]
               exact .fam _ _ _ _ fun i _ => rnP E.lo i
              ·simp [go_sem, PEnv.ob, pOb]
               exact fun i c _ h => tokClosed E.t i c h
theorem op_none1 (E : PEnv) (i : Nat) (m : Int) (hf : E.Ans 125 [.ptr 0 6 0 0] i none) : E.Ans 95 [.ptr 0 6 0 0, .lit (.int .i64 m)] i none := by
 simp only [PEnv.Ans, PEnv.ob, pOb, PEnv.mps, mapsP] at hf ⊢
 refine vdies_start Tryz.func95 (by kernel_rfl) rfl (by simp [Tryz.ntmps95]) ?_; simp only [Tryz.ntmps95, startG, startP, List.length_cons, List.length_nil, List.length_singleton]
 refine vd_snd ?_
 simp [go_sem]
 refine vd_fst ?_
 refine vd_at 1 ?_
 simp [go_sem]
 refine vdcall_tell [0] 62 hf (by simp) rfl (fun i _ => rnP E.lo i) ?_ ?_ (E.mpsLe []) (E.mpsLe [])
 ·simp [go_sem]
 ·simp [go_sem, PEnv.ob, pOb]
  exact fun i c _ h => tokClosed E.t i c h
theorem op_none2 (E : PEnv) (i : Nat) (m : Int) (e : PT) (ts : List TkP) (hf : E.Ans 125 [.ptr 0 6 0 0] i (some (e, ts))) (hm : e.level lvO < m) : E.Ans 95 [.ptr 0 6 0 0, .lit (.int .i64 m)] i none := by
 obtain ⟨T, u, hT, ⟨fl, hfl, cl⟩, _⟩ := partIs e
 simp only [PEnv.Ans, PEnv.ob, pOb, PEnv.mps, mapsP]
 refine vdies_start Tryz.func95 (by kernel_rfl) rfl (by simp [Tryz.ntmps95]) ?_; simp only [Tryz.ntmps95, startG, startP, List.length_cons, List.length_nil, List.length_singleton]
 refine vd_snd ?_
 simp [go_sem]
 refine vd_snd ?_
 simp [go_sem]
 refine vcall_tell [0] 62 hf (by simp) rfl (fun i _ => rnP E.lo i) ?_ ?_ ?_ ?_
 ·simp [go_sem]
 ·simp [go_sem, PEnv.ob, pOb]
  exact fun i c _ h => tokClosed E.t i c h
 ·exact E.mpsLe []
 ·rintro av mem maps ⟨⟨rfl, rfl⟩, rfl⟩
  simp only [PEnv.ob, pOb, PEnv.mps, mapsP]
  simp [go_sem]
  rw [hT]
  refine vd_fst ?_
  refine vd_snd ?_
  simp [go_sem, hfl]
  refine vcall_pure cl ?_ ?_
  ·simp [go_sem]
  ·rw [← lvlP_eq] at hm
   simp [go_sem, hm]
   refine vd_at 2 ?_
   simp [go_sem, noTreeV, E.n13, E.n14, E.n34]
theorem op_none3 (E : PEnv) (n : Nat) (hO : ∀ i m d ts res, ToksAre E.l E.t i ts → Fit true d ts → Ops.operand lvO n m ts = some res → E.Ans 95 [.ptr 0 6 0 0, .lit (.int .i64 m)] i res)
  (i : Nat) (m : Int) (e : PT) (ts : List TkP) (hf : E.Ans 125 [.ptr 0 6 0 0] i (some (e, ts))) (hm : m ≤ e.level lvO) (hl : AtLoop E n m none (e, ts)) : E.Ans 95 [.ptr 0 6 0 0, .lit (.int .i64 m)] i none := by
 obtain ⟨T, u, hT, ⟨fl, hfl, cl⟩, _⟩ := partIs e
 have h13 := E.n13
 have h14 := E.n14
 have h34 := E.n34
 simp only [PEnv.Ans, PEnv.ob, pOb, PEnv.mps, mapsP]
 refine vdies_start Tryz.func95 (by kernel_rfl) rfl (by simp [Tryz.ntmps95]) ?_; simp only [Tryz.ntmps95, startG, startP, List.length_cons, List.length_nil, List.length_singleton]
 refine vd_snd ?_
 simp [go_sem]
 refine vd_snd ?_
 simp [go_sem]
 refine vcall_tell [0] 62 hf (by simp) rfl (fun i _ => rnP E.lo i) ?_ ?_ ?_ ?_
 ·simp [go_sem]
 ·simp [go_sem, PEnv.ob, pOb]
  exact fun i c _ h => tokClosed E.t i c h
 ·exact E.mpsLe []
 ·rintro av mem maps ⟨⟨rfl, rfl⟩, rfl⟩
  simp only [PEnv.ob, pOb, PEnv.mps, mapsP]
  simp [go_sem]
  rw [hT]
  refine vd_snd ?_
  simp [go_sem, hfl]
  refine vcall_pure cl ?_ ?_
  ·simp [go_sem]
  ·rw [← lvlP_eq] at hm
   simp [go_sem, show ¬ lvlP e < m by omega]
   refine vd_loopE (AtLoop E n m none) (fun x => x.2.length) (atLoopS E m) ⟨(e, ts), hl, ?_⟩ (fun x hx => ?_)
   ·refine ent_ks [0] (by simp) (by simp) (by simp) (by simp) (E.mpsLe _) ?_ ?_
    ·simp [go_sem]
     exact ⟨.fam _ _ _ _ fun i _ => rnP E.lo i, hT.symm⟩
    ·simp [go_sem, PEnv.ob, pOb]
     exact fun i c _ h => tokClosed E.t i c h
   ·obtain ⟨e, ts⟩ := x
    obtain ⟨⟨k, hk, hrun⟩, htk, ⟨d, hfit⟩, hlen⟩ := hx
    have hlt : E.at_ ts < E.t.length := by unfold PEnv.at_; omega
    cases k with
    | zero => simp [Ops.loop] at hrun
    | succ k =>
     rw [Ops.loop] at hrun
     cases ts with
     | nil => simp [Ops.loopF] at hrun
     | cons tk r =>
      obtain ⟨hi, hi1, hi2⟩ := toks_at htk
      obtain ⟨ht1, ht2⟩ := htk
      have hi2' : E.at_ (tk :: r) < E.t.length := hlt
      obtain ⟨o, hk3, htx, hko, ⟨j, hj, hjo⟩, htk⟩ : ∃ o, (tokAt E.t (E.at_ (tk :: r))).kind = 3 ∧ o.text = (tokAt E.t (E.at_ (tk :: r))).text ∧ o.kind ≠ 1 ∧ (∃ j, j < E.l.length ∧ opAt E.l j = o) ∧ ((tk = .inf o ∧ o.kind = 2) ∨ (tk = .post o ∧ o.kind = 3)) := by
       cases tk with
       | cls => simp [Ops.loopF] at hrun
       | inf o => exact ⟨o, ht1.1, ht1.2.1, by have := ht1.2.2.1; omega, ht1.2.2.2, .inl ⟨rfl, ht1.2.2.1⟩⟩
       | post o => exact ⟨o, ht1.1, ht1.2.1, by have := ht1.2.2.1; omega, ht1.2.2.2, .inr ⟨rfl, ht1.2.2.1⟩⟩
       | leaf b => exact absurd hfit (by simp [Fit])
       | opn => exact absurd hfit (by simp [Fit])
       | pre o => exact absurd hfit (by simp [Fit])
      have hlm : ¬ o.level < m := fun hlm => by
       rcases htk with ⟨rfl, _⟩ | ⟨rfl, _⟩ <;>
       ·simp only [Ops.loopF] at hrun
        rw [if_pos (show (lvO o).lev < m from hlm)] at hrun
        simp at hrun
      have hlh : ¬ e.level lvO < (lvO o).h1 := fun hlh => by
       rcases htk with ⟨rfl, _⟩ | ⟨rfl, _⟩ <;>
       ·simp only [Ops.loopF] at hrun
        rw [if_neg (show ¬ (lvO o).lev < m from hlm), if_pos hlh] at hrun
        simp at hrun
      have hw : o.wf := by rw [← hjo]; exact E.maps.wf j hj
      have hok : opOk o = true := by rw [← hjo]; exact E.maps.ok j hj
      have hh1 := hole_h1 hok hko
      have cH := c_Hole o hw false
      rw [hh1] at cH
      have cb := c_behind E.l E.b1 E.b2 E.b3 E.b4 E.t (E.at_ (tk :: r)) E.maps.uniq E.esA E.maps.at_ j hj (by rw [hjo]; exact hko) (by rw [hjo]; exact hw)
      rw [hjo, htx] at cb
      have ew : IntKind.i64.wrap ((E.at_ (tk :: r) : Int) + 1) = ((E.at_ r : Nat) : Int) := by rw [hi1, hi2]; exact wrap_succ (by have := E.len; omega)
      obtain ⟨T, u, hT, ⟨fl, hfl, cl⟩, _⟩ := partIs e
      have hye := highT_yield e
      have hEl := E.len
      simp only [List.length_cons] at hlen
      have ht2' : ToksAre E.l E.t (E.at_ r) r := by rw [hi1, ← hi2]; exact ht2
      simp only [POp.cells, pOb] at cb cH
      -- the walk to the call of the closure, throwing or not
      by_cases hdie : tk = .inf o ∧ Ops.operand lvO k (lvO o).h2 r = some none
      ·refine .inl ?_
       obtain ⟨rfl, hdq⟩ := hdie
       have ho2 : o.kind = 2 := by
        rcases htk with ⟨_, h⟩ | ⟨h, _⟩
        ·exact h
        ·simp at h
       simp only [Fit] at hfit
       have hh2 := hole_h2i hok ho2
       have ho := hO (E.at_ r) _ d r _ ht2' hfit (Ops.operand_le lvO (show k ≤ n by omega) hdq)
       rw [← hh2] at ho
       have ha := an_inf_dies E o hw (E.at_ r) e ho
       have hm2 := E.maps.led2 j hj (by rw [hjo]; exact ho2)
       rw [hjo, htx] at hm2
       simp only [atLoopS, PEnv.ob, pOb, PEnv.mps, mapsP]
       simp [go_sem]
       refine vd_snd ?_
       refine vc_drawn [11] (.q 0 <| .q 1 <| .q 2 <| .q 3 <| .q 4 <| .q 5 <| .q 6 <| .q 7 <| .q 8 <| .q 9 <| .or 10 (.or 11 (.done) (.nil)) (.nil)) (by kernel_rfl) ?_
       simp [go_sem, tokCells_at, hlt, PTok.cells]
       refine vd_snd ?_
       simp [go_sem, hk3]
       refine vd_snd ?_
       simp [go_sem]
       refine vcall_share [0] cb (by simp) ?_ ?_ ?_ ?_
       ·simp [go_sem]
       ·simp [go_sem]
        exact fun i c _ h => tokClosed E.t i c h
       ·simp [go_sem]
       ·rintro av mem maps ⟨rfl, rfl, rfl⟩
        simp only [pOb]
        simp [go_sem]
        refine vd_snd ?_
        simp [go_sem, hlm]
        refine vd_snd ?_
        simp [go_sem]
        refine vc_drawn [] (.q 0 <| .q 2 <| .or 1 (.or 3 (.q 4 <| .done) (.nil)) (.nil)) (by kernel_rfl) ?_
        simp [go_sem]
        rw [hT]
        simp [go_sem, hfl]
        refine vcallV_pure cl ?_ ?_
        ·simp [go_sem]
        ·simp [go_sem]
         refine vcallV_pure cH ?_ ?_
         ·simp [go_sem]
         ·rw [← hT, lvlP_eq]
          simp [go_sem, hlh]
          refine vd_snd ?_
          simp [go_sem, ew]
          refine vd_drawn [9] (.q 0 <| .q 1 <| .q 2 <| .q 3 <| .q 4 <| .q 5 <| .q 6 <| .q 7 <| .q 8 <| .or 9 (.q 10 <| .done) (.nil)) (by kernel_rfl) ?_
          simp [go_sem, h13, h14, h34, Ne.symm h13, Ne.symm h14, Ne.symm h34]
          refine vlookK_use keyedString (keyString (E.txt _ hi2')) _ zeroLed ?_
          rw [hm2]
          simp [go_sem]
          refine vdcall_tell [0] 62 ha (by simp) rfl (fun i _ => rnP E.lo i) ?_ ?_ (E.mpsLe1 []) (E.mpsLe [])
          ·simp [go_sem, POp.cells, vsP]
          ·simp [go_sem, PEnv.ob, pOb]
           exact fun i c _ h => tokClosed E.t i c h
      ·refine .inr ?_
       simp only [atLoopS, PEnv.ob, pOb, PEnv.mps, mapsP]
       simp [go_sem]
       refine vc_drawn [11] (.q 0 <| .q 1 <| .q 2 <| .q 3 <| .q 4 <| .q 5 <| .q 6 <| .q 7 <| .q 8 <| .q 9 <| .or 10 (.or 11 (.done) (.nil)) (.nil)) (by kernel_rfl) ?_
       simp [go_sem, tokCells_at, hlt, PTok.cells]
       simp [go_sem, hk3]
       refine vcall_share [0] cb (by simp) ?_ ?_ ?_ ?_
       ·simp [go_sem]
       ·simp [go_sem]
        exact fun i c _ h => tokClosed E.t i c h
       ·simp [go_sem]
       ·rintro av mem maps ⟨rfl, rfl, rfl⟩
        simp only [pOb]
        simp [go_sem, hlm]
        refine vc_drawn [] (.q 0 <| .q 2 <| .or 1 (.or 3 (.q 4 <| .done) (.nil)) (.nil)) (by kernel_rfl) ?_
        simp [go_sem]
        rw [hT]
        simp [go_sem, hfl]
        refine vcallV_pure cl ?_ ?_
        ·simp [go_sem]
        ·simp [go_sem]
         refine vcallV_pure cH ?_ ?_
         ·simp [go_sem]
         ·rw [← hT, lvlP_eq]
          simp [go_sem, hlh]
          simp [go_sem, ew]
          refine vc_drawn [9] (.q 0 <| .q 1 <| .q 2 <| .q 3 <| .q 4 <| .q 5 <| .q 6 <| .q 7 <| .q 8 <| .or 9 (.q 10 <| .done) (.nil)) (by kernel_rfl) ?_
          simp [go_sem, h13, h14, h34, Ne.symm h13, Ne.symm h14, Ne.symm h34]
          refine vlookK_use keyedString (keyString (E.txt _ hi2')) _ zeroLed ?_
          rcases htk with ⟨rfl, ho2⟩ | ⟨rfl, ho3⟩
          ·have hm2 := E.maps.led2 j hj (by rw [hjo]; exact ho2)
           rw [hjo, htx] at hm2
           rw [hm2]
           simp [go_sem]
           simp only [Fit] at hfit
           have hh2 := hole_h2i hok ho2
           rw [Ops.loopF, if_neg (show ¬ (lvO o).lev < m by show ¬ o.level < m; omega), if_neg (show ¬ e.level lvO < (lvO o).h1 by omega)] at hrun
           cases hq : Ops.operand lvO k (lvO o).h2 r with
           | none => rw [hq] at hrun; simp at hrun
           | some y =>
            rw [hq] at hrun
            cases y with
            | none => exact absurd ⟨rfl, hq⟩ hdie
            | some y =>
             obtain ⟨e2, r2⟩ := y
             simp only at hrun
             have hq' := Ops.operand_le lvO (show k ≤ n by omega) hq
             have hs := ((Ops.sound_all lvO n).1 _ _ _ _ hq').1
             have ht2' : ToksAre E.l E.t (E.at_ r) r := by rw [hi1, ← hi2]; exact ht2
             have ho := hO (E.at_ r) _ d r _ ht2' hfit hq'
             rw [← hh2] at ho
             have hy2 := highT_yield e2
             have hl2 := congrArg List.length hs
             rw [List.length_append] at hl2
             have ha := an_inf E o hw (E.at_ r) e e2 r2 (by omega) (by omega) ho
             refine vcall_tell [0] 62 ha (by simp) rfl (fun i _ => rnP E.lo i) ?_ ?_ ?_ ?_
             ·simp [go_sem, POp.cells, vsP]
             ·simp [go_sem, PEnv.ob, pOb]
              exact fun i c _ h => tokClosed E.t i c h
             ·exact E.mpsLe1 []
             ·rintro av mem maps ⟨⟨rfl, rfl⟩, rfl⟩
              simp only [PEnv.ob, pOb]
              simp [go_sem]
              refine ⟨.inf o e e2, r2, ⟨⟨k, by omega, hrun⟩, ?_, ⟨d, ?_⟩, ?_⟩, ?_, ?_⟩
              ·rw [hs] at ht2'; exact toksAre_rest ht2'
              ·rw [hs] at hfit; exact fit_yield _ _ _ hfit
              ·simp [Tr.yield]; omega
              ·try simp only [List.length_cons]
               omega
              ·refine ent_ks [0] (by simp) (by simp) (by simp) (by simp) (E.mpsLe _) ?_ ?_
               ·simp [go_sem]
                exact .fam _ _ _ _ fun i _ => rnP E.lo i
               ·simp [go_sem, PEnv.ob, pOb]
                exact fun i c _ h => tokClosed E.t i c h
          ·have hm3 := E.maps.led3 j hj (by rw [hjo]; exact ho3)
           rw [hjo, htx] at hm3
           rw [hm3]
           simp [go_sem]
           simp only [Fit] at hfit
           rw [Ops.loopF, if_neg (show ¬ (lvO o).lev < m by show ¬ o.level < m; omega), if_neg (show ¬ e.level lvO < (lvO o).h1 by omega)] at hrun
           have ha := an_post E e o r (by omega)
           have ht2' : ToksAre E.l E.t (E.at_ r) r := by rw [hi1, ← hi2]; exact ht2
           refine vcall_tell [0] 62 ha (by simp) rfl (fun i _ => rnP E.lo i) ?_ ?_ ?_ ?_
           ·simp [go_sem, POp.cells, vsP]
           ·simp [go_sem, PEnv.ob, pOb]
            exact fun i c _ h => tokClosed E.t i c h
           ·exact E.mpsLe1 []
           ·rintro av mem maps ⟨⟨rfl, rfl⟩, rfl⟩
            simp only [PEnv.ob, pOb]
            simp [go_sem]
            refine ⟨.post o e, r, ⟨⟨k, by omega, hrun⟩, ht2', ⟨d, hfit⟩, ?_⟩, ?_, ?_⟩
            ·simp [Tr.yield]; omega
            ·try simp only [List.length_cons]
             omega
            ·refine ent_ks [0] (by simp) (by simp) (by simp) (by simp) (E.mpsLe _) ?_ ?_
             ·simp [go_sem]
              exact .fam _ _ _ _ fun i _ => rnP E.lo i
             ·simp [go_sem, PEnv.ob, pOb]
              exact fun i c _ h => tokClosed E.t i c h
theorem c_operand (E : PEnv) : ∀ (n i : Nat) (m : Int) (d : Nat) (ts : List TkP) (res : Option (PT × List TkP)), ToksAre E.l E.t i ts → Fit true d ts → Ops.operand lvO n m ts = some res → E.Ans 95 [.ptr 0 6 0 0, .lit (.int .i64 m)] i res := by
 intro n
 induction n with
 | zero => intro i m d ts res _ _ h; simp [Ops.operand] at h
 | succ n ih =>
  intro i m d ts res ht hf h
  rw [Ops.operand] at h
  cases hx : Ops.first lvO n ts with
  | none => rw [hx] at h; simp at h
  | some x =>
   rw [hx] at h
   have h1 := Ops.first_le lvO (Nat.le_succ n) hx
   rw [Ops.first] at h1
   have ha := c_first E n ih i d ts x ht hf h1
   cases x with
   | none =>
    simp at h; subst h
    exact op_none1 E i m ha
   | some y =>
    obtain ⟨e, rest⟩ := y
    simp only at h
    by_cases hlm : e.level lvO < m
    ·rw [if_pos hlm] at h
     simp at h; subst h
     exact op_none2 E i m e rest ha hlm
    ·rw [if_neg hlm] at h
     have hs := ((Ops.sound_all lvO n).2.1 _ _ _ hx).1
     have hl : AtLoop E n m res (e, rest) := by
      have hlen := toksAre_len ht
      rw [hs] at ht hf
      rw [hs, List.length_append] at hlen
      exact ⟨⟨n, Nat.le_refl _, h⟩, toksAre_rest ht, ⟨d, fit_yield _ _ _ hf⟩, by simp only; omega⟩
     cases res with
     | none => exact op_none3 E n ih i m e rest ha (by omega) hl
     | some z => exact op_some E n ih i m e rest z.1 z.2 ha (by omega) hl
end Go.Proofs.YtjdmmhcogmepaaaGreatDoor.V
namespace Go.Proofs.YtjdmmhcogmepaaaGreatDoor.V
open Go.RowKit
set_option linter.unusedVariables false
set_option linter.unusedSimpArgs false
theorem catch_idle (p q : Addr) (w : World) : CallsD Tryz.prog 98 #[.pointer (some p), .pointer (some q)] .returning w fun e u' w' => e = .returned (.tuple #[]) ∧ u' = .returning ∧ w' = w := by
 refine callsD_of_wpS Tryz.func98 rfl fun c₀ cs hu => ?_
 apply wpS_seq
 apply wpS_region
 simp [wpOpsS, go_sem, recoverD, hu, Tryz.ntmps98, Exit.thenS]
 apply wpS_seq
 apply wpS_region
 simp [wpOpsS, go_sem, recoverD, hu, Exit.thenS]
 refine wpS_cond (t := false) (by simp [Act.eval, Array.replicate]) ?_
 simp only [Bool.false_eq_true, if_false]
 refine wpS_of_wp (wp_skip ?_)
 cases c₀
 simp_all [bodyPostS, results, Tryz.results98]
theorem assert_noTree (w : World) : (Instr.typeAssert (.iface 168 (.agg #[])) 20 168 true).run Tryz.prog w = .ok (.tuple #[.agg #[], .bool true]) w := by
 obtain ⟨d, h4, h5⟩ := ifaceT_run (P := Tryz.prog) (T := 168) (by kernel_rfl)
 unfold Instr.typeAssert
 simp only [Sem.run_bind, und_run h4, Result.andThen_ok]
 cases d <;> first | exact absurd rfl (h5 _) | simp [Sem.run_pure]
theorem catch_dead (p q : Addr) (x y : Value) (u : TypeId) (older : List PanicEntry) (w : World) (hc : w.cell? p = some x) (hz : w.frozen? p = false) (hc2 : w.cell? q = some y) (hz2 : w.frozen? q = false) (hpq : p.block ≠ q.block) :
  CallsD Tryz.prog 98 #[.pointer (some p), .pointer (some q)] (.panicking ({ v := .iface 168 (.agg #[]), recovered := false } :: older)) w fun e u' w' => e = .returned (.tuple #[]) ∧ u' = .panicking ({ v := .iface 168 (.agg #[]), recovered := true } :: older) ∧ w' = ((w.alloc (.cells #[] 168)).setCell p .nilIface).setCell q (.bool false) := by
 refine callsD_of_wpS Tryz.func98 rfl fun c₀ cs hu => ?_
 apply wpS_seq
 apply wpS_region
 simp [wpOpsS, go_sem, recoverD, hu, Tryz.ntmps98, Exit.thenS]
 apply wpS_seq
 apply wpS_region
 simp [wpOpsS, go_sem, recoverD, hu, Exit.thenS]
 refine wpS_cond (t := true) (by simp [Act.eval, Array.replicate]) ?_
 simp only [if_true]
 apply wpS_seq
 apply wpS_seq
 apply wpS_region
 simp [wpOpsS, go_sem, recoverD, hu, Exit.thenS, assert_noTree]
 apply wpS_seq
 apply wpS_region
 simp [wpOpsS, go_sem, recoverD, hu, Exit.thenS]
 refine wpS_cond (t := false) (by simp [Act.eval, Array.replicate]) ?_
 simp only [Bool.false_eq_true, if_false]
 refine wpS_of_wp (wp_skip ?_)
 simp only [Exit.thenS]
 apply wpS_region
 have h1 : (w.alloc (.cells #[] 168)).cell? p = some x := (World.cell?_alloc_lt _ _ _ (World.block_lt_of_cell? w _ hc)).trans hc
 have h2 : (w.alloc (.cells #[] 168)).frozen? p = false := (World.frozen?_alloc_old _ _ _ (by have := World.block_lt_of_cell? w _ hc; omega)).trans hz
 have h3 : ((w.alloc (.cells #[] 168)).setCell p .nilIface).cell? q = some y := by
  rw [World.cell?_setCell_other _ _ _ _ (fun e => hpq (by rw [e]))]
  exact (World.cell?_alloc_lt _ _ _ (World.block_lt_of_cell? w _ hc2)).trans hc2
 have h4 : ((w.alloc (.cells #[] 168)).setCell p .nilIface).frozen? q = false := by
  rw [World.frozen?_setCell]
  exact (World.frozen?_alloc_old _ _ _ (by have := World.block_lt_of_cell? w _ hc2; omega)).trans hz2
 simp [wpOpsS, go_sem, h1, h2, h3, h4, bodyPostS, results, Tryz.results98]
end Go.Proofs.YtjdmmhcogmepaaaGreatDoor.V
namespace Go.Proofs.YtjdmmhcogmepaaaGreatDoor.V
open Go.RowKit
open Go.Maps (Keyed)
open Go.Proofs.YtjdmmhcogmepaaaGreatDoor.Ops (Tr Tk Lv Res Fit)
set_option linter.unusedVariables false
set_option linter.unusedSimpArgs false
set_option linter.constructorNameAsVariable false
def wholeS (E : PEnv) (i : Nat) : VS := ⟨[(3, .ptr 2 1 0 0), (2, .ptr 1 1 0 0), (20, .fam (E.lo.length + 1) (vsP E.bp E.bo) (asP E.lo)), (0, .ptr 0 6 0 0)], [E.ob i, some ⟨92, 1, 1, fun _ => [.lit .nilIface]⟩, some ⟨4, 1, 1, fun _ => [.lit (.bool false)]⟩], E.mps, 1⟩
def PEnv.Rw (E : PEnv) (u : Value) (b : Bool) (j : Nat) (av : AV) (mem : List (Option Ob)) (maps : List (Nat × Mp)) : Prop := (av = .tup [.lit u, .lit (.bool b)] ∧ mem = [E.ob j]) ∧ MapsLe maps E.mps
theorem PEnv.finw (E : PEnv) {u v : Value} {b c : Bool} {i j : Nat} {M : List (Nat × Mp)} (hM : MapsLe M E.mps) {r : List (Option Ob)} {tm : List (Nat × AV)} (hv : v = u) (hb : c = b) (hij : i = j) : vendP E.mps (E.Rw u b j) ⟨tm, E.ob i :: r, M, 1⟩ (.tup [.lit v, .lit (.bool c)]) := by
 subst hv; subst hij; subst hb
 refine ⟨rfl, [], [E.ob i], by simp, by simp, by simp [go_sem], ?_, fun b hb => ?_, ⟨⟨rfl, rfl⟩, hM⟩⟩
 ·simp only [PEnv.ob, pOb]
  simp [go_sem]
  exact pOut
 ·cases hq : lkm E.mps b with
  | none => rw [hq] at hb; simp at hb
  | some mp => rw [mapsLe_get hM (b, mp) (lkm_mem hq)]; rfl
theorem c_whole_some (E : PEnv) (i : Nat) (e : PT) (rest : List TkP) (hi : E.at_ rest < E.t.length) (ho : E.Ans 95 [.ptr 0 6 0 0, .lit (.int .i64 0)] i (some (e, rest))) :
  VProcG Tryz.prog 52 [.ptr 0 6 0 0] (E.lo.length + 1) (vsP E.bp E.bo) (asP E.lo) [E.ob i] E.mps (E.Rw (partP e) (decide ((tokAt E.t (E.at_ rest)).kind = 7)) (E.at_ rest)) := by
 refine ⟨⟨_, Tryz.func52, by kernel_rfl, rfl⟩, fun w vs hd0 hlen hrep hfam hm hmp htl => ?_⟩
 have hrel := (startP_rel (P := Tryz.prog) (fn := Tryz.f52) (by simp [Tryz.ntmps52]) hlen hrep hm hmp htl).tell 20 hfam
 suffices hX : ∀ (X : Value → World → Prop), (∀ v w', (Bel (Sh w hd0 [E.ob i] E.mps) w w' ∧ ∃ hd av mem maps, E.Rw (partP e) (decide ((tokAt E.t (E.at_ rest)).kind = 7)) (E.at_ rest) av mem maps ∧ PostOk [E.ob i] E.mps av mem maps ∧ ((∀ k, k < [E.ob i].length → hd k = hd0 k) ∧ TailEq hd0 hd) ∧ MemRel (Sh w hd0 [E.ob i] E.mps) w' hd mem ∧ MapRel Tryz.prog (Sh w hd0 [E.ob i] E.mps) w' maps ∧ Rep w' (okOf mem hd) hd mem.length av v) → X v w') → Calls Tryz.prog 52 vs.toArray w (fun e w' => ∃ v, e = .returned v ∧ X v w') from hX _ fun v w' h => h
 intro X hX
 refine calls_of_wp_defers Tryz.func52 rfl ?_
 refine wp_seq (vc_sound rfl _ hrel (K := fun e s => e = .normal ∧ s = wholeS E i) ?_ fun x hd' s' a' w' h' hk => ?_)
 ·simp only [Tryz.ntmps52, PEnv.ob, pOb, PEnv.mps, mapsP, startP]
  simp [go_sem]
  rfl
 ·obtain ⟨rfl, rfl⟩ := hk
  simp only [VX.out, Exit.then]
  refine wp_seq (wp_region_list ?_)
  have hmf : ∀ (fn : Fn) (first cap : Array Value) (w : World), (Instr.makeFunc fn first cap).run Tryz.prog w = .ok (.func fn first cap) w := fun _ _ _ _ => rfl
  have hsz : a'.tmps.size = 20 := h'.size
  have hds : a'.defers = [] := h'.defers
  obtain ⟨b2, n2, c2, hb2, hp2⟩ := rep_ptr (h'.tm 2)
  obtain ⟨b3, n3, c3, hb3, hp3⟩ := rep_ptr (h'.tm 3)
  simp [hsz] at hp2 hp3
  simp [wpList, Region.wanted, Oper.wp, Oper.upon, go_sem, hmf, hsz, hds, hp2, hp3, Exit.then]
  refine .inl (.inl ?_)
  have h2 : RelH 20 ⟨Tryz.prog, Sh w hd0 [E.ob i] E.mps, hd0, [⟨.fn (.func 98) #[.pointer (some ⟨b2, 0, none⟩), .pointer (some ⟨b3, 0, none⟩)], #[]⟩]⟩ w hd' (wholeS E i) ⟨a'.tmps.setIfInBounds 4 (.func (.func 98) #[] #[.pointer (some ⟨b2, 0, none⟩), .pointer (some ⟨b3, 0, none⟩)]), [⟨.fn (.func 98) #[.pointer (some ⟨b2, 0, none⟩), .pointer (some ⟨b3, 0, none⟩)], #[]⟩]⟩ w' := by
   refine ⟨rfl, by simp [hsz], h'.below, h'.le, h'.fixl, h'.fix, h'.mp, fun t => ?_, h'.me⟩
   by_cases ht : t = 4
   ·subst ht
    exact .undef _
   ·have := h'.tm t
    rwa [show (a'.tmps.setIfInBounds 4 (.func (.func 98) #[] #[.pointer (some ⟨b2, 0, none⟩), .pointer (some ⟨b3, 0, none⟩)])).getD t undef = a'.tmps.getD t undef by
     simp only [Array.getD_eq_getD_getElem?]; rw [Array.getElem?_setIfInBounds_ne (by omega)]]
  refine vc_sound rfl _ h2 (K := KfinP Tryz.prog 1 E.mps Tryz.f52.results.toList (E.Rw (partP e) (decide ((tokAt E.t (E.at_ rest)).kind = 7)) (E.at_ rest))) ?_ fun x hd3 s3 a3 w3 h3 hk => ?_
  ·simp only [wholeS, PEnv.ob, pOb, PEnv.mps, mapsP]
   simp [go_sem]
   refine vcall_tell [0] 20 ho (by simp) rfl (fun i _ => rnP E.lo i) ?_ ?_ ?_ ?_
   ·simp [go_sem]
   ·simp [go_sem, PEnv.ob, pOb]
    exact fun i c _ h => tokClosed E.t i c h
   ·exact E.mpsLe []
   ·rintro av mem maps ⟨⟨rfl, rfl⟩, rfl⟩
    simp only [PEnv.ob, pOb, PEnv.mps, mapsP]
    obtain ⟨T, u, hT⟩ := partP_iface e
    rw [hT]
    simp [go_sem]
    refine vc_drawn [13,14] (.q 0 <| .q 1 <| .q 2 <| .q 3 <| .q 5 <| .q 6 <| .q 7 <| .or 4 (.or 8 (.or 9 (.q 10 <| .or 11 (.or 12 (.or 13 (.or 14 (.done) (.nil)) (.nil)) (.or 13 (.q 12 <| .or 14 (.done) (.nil)) (.nil))) (.or 13 (.q 11 <| .q 12 <| .or 14 (.done) (.nil)) (.nil))) (.or 13 (.q 9 <| .q 10 <| .q 11 <| .q 12 <| .or 14 (.done) (.nil)) (.nil))) (.or 13 (.q 8 <| .q 9 <| .q 10 <| .q 11 <| .q 12 <| .or 14 (.done) (.nil)) (.nil))) (.or 8 (.or 4 (.or 9 (.q 10 <| .or 11 (.or 12 (.or 13 (.or 14 (.done) (.nil)) (.nil)) (.or 13 (.q 12 <| .or 14 (.done) (.nil)) (.nil))) (.or 13 (.q 11 <| .q 12 <| .or 14 (.done) (.nil)) (.nil))) (.or 13 (.q 9 <| .q 10 <| .q 11 <| .q 12 <| .or 14 (.done) (.nil)) (.nil))) (.or 13 (.q 4 <| .q 9 <| .q 10 <| .q 11 <| .q 12 <| .or 14 (.done) (.nil)) (.nil))) (.or 13 (.q 4 <| .q 8 <| .q 9 <| .q 10 <| .q 11 <| .q 12 <| .or 14 (.done) (.nil)) (.nil)))) (by kernel_rfl) ?_
    simp [go_sem, tokCells_at, hi, PTok.cells]
    repeat' first
    | exact E.finw (E.mpsLe _) rfl (int_beq _ _) rfl
    | refine And.intro (E.finw (E.mpsLe _) rfl (int_beq _ _) rfl) ?_
  ·have fin : ∀ (R' : Ending → World → Prop) v, (results Tryz.f52 a3.tmps).run Tryz.prog w3 = .ok v w3 → R' (.returned v) w3 → Leaves Tryz.prog Tryz.f52 a3.tmps R' a3.defers .returning w3 := fun R' v h1 h4 => by
    rw [show a3.defers = _ from h3.defers]
    refine leaves_cons (f := 98) (args := #[.pointer (some ⟨b2, 0, none⟩), .pointer (some ⟨b3, 0, none⟩)]) (by simp) (by simp [go_sem]) ?_
    refine (catch_idle _ _ _).mono ?_
    rintro e u' w'' ⟨rfl, rfl, rfl⟩
    exact ⟨v, h1, h4⟩
   cases x with
   | exit id => exact hk.elim
   | normal =>
    obtain ⟨v, h1, h4⟩ := vretP_sound h3 hk.1 hk.2
    exact fin _ v h1 ⟨v, rfl, hX _ _ h4⟩
   | ret =>
    obtain ⟨v, h1, h4⟩ := vretP_sound h3 hk.1 hk.2
    exact fin _ v h1 ⟨v, rfl, hX _ _ h4⟩
end Go.Proofs.YtjdmmhcogmepaaaGreatDoor.V
namespace Go.Proofs.YtjdmmhcogmepaaaGreatDoor.V
open Go.RowKit
open Go.Maps (Keyed)
open Go.Proofs.YtjdmmhcogmepaaaGreatDoor.Ops (Tr Tk Lv Res Fit)
set_option linter.unusedVariables false
set_option linter.unusedSimpArgs false
set_option linter.constructorNameAsVariable false
section
variable {P : Program} {n : Nat} {base : Fr} {w0 w : World} {hd : Nat → Value} {s : VS} {a : Act}
theorem own_one (h : RelH n base w0 hd s a w) {k ty : Nat} {f : Nat → List AV} (hk : s.mem[k]? = some (some ⟨ty, 1, 1, f⟩)) (ht : ty < tagged) : ∃ g cap cur, hd k = .slice (some ⟨g, 0, none⟩) 1 cap ∧ w.heap[g]? = some (.cells cur ty (0, 0)) ∧ 0 < cur.size := by
 obtain ⟨_, vals, ho, hr⟩ := h.me.obs k _ hk
 rcases (ho.row ht).2 with ⟨_, h0⟩ | ⟨g, cap, cur, e, _, hg, h1, _, h2, _⟩
 ·simp at h0
 ·exact ⟨g, cap, cur, e, hg, by have h1' : 1 ≤ cap := h1; have h2' : cur.size = cap * 1 := h2; omega⟩
theorem cells_cell {g : Nat} {cur : Array Value} {t : TypeId} (hg : w.heap[g]? = some (.cells cur t (0, 0))) (hp : 0 < cur.size) : ∃ x, w.cell? ⟨g, 0, none⟩ = some x ∧ w.frozen? ⟨g, 0, none⟩ = false := by
 refine ⟨cur[0], ?_, ?_⟩
 ·simp [World.cell?, hg, hp]
 ·simp [World.frozen?, hg]
theorem dcall_sound (h : RelH n base w0 hd s a w) (hP : base.P = P) {o : Oper} {f : FuncId} {xs : List Operand} (hcall : callD P s o.op = some (f, xs)) {pv : Value} {ks : List Nat} {args' : List AV} {mem0 : List (Option Ob)} {maps0 : List (Nat × Mp)} {t N : Nat} {vs0 : Nat → Value} {as0 as1 : Nat → AV}
  (hnd : ks.Nodup) (hargs : CellsRn (fun j => ks.getD j 0) ks.length (xs.map (ev s)) args') (hgt : lk s.tmps t = .fam N vs0 as0) (hg : ∀ i, i < N → Rn (fun j => ks.getD j 0) ks.length (as0 i) (as1 i)) (hsh : ShMem (fun j => ks.getD j 0) ks.length s.mem ks mem0) (hmaps : MapsLe s.maps maps0) (hd1 : VDies P f pv args' N vs0 as1 mem0 maps0)
  {K : Act → World → Prop} {Q : Exit → Act → World → Prop} (hQ : ∀ w', Bel (Sh w (hdF hd ks s.mem false) mem0 maps0) w w' → MapRel P (Sh w (hdF hd ks s.mem false) mem0 maps0) w' maps0 → Q (.panic [{ v := pv, recovered := false }]) a w') : o.wp P a w K Q := by
 have hrun : (execOp a.eval o).run P w = .ok (.enter f (xs.map a.eval).toArray) w := (call_run h hcall).trans (run_call_of hd1.1 _ w)
 obtain ⟨hlen, _, hrep, hfam, hm0, hmp0, htl0⟩ := callG_pre h hP hnd hargs hgt hg hsh (mapsLe_get hmaps)
 have hcalls := hd1.2 w (xs.map a.eval) (hdF hd ks s.mem false) hlen hrep hfam hm0 hmp0 htl0
 unfold Oper.wp
 rw [hrun]
 simp only [Oper.upon]
 refine hcalls.mono ?_
 rintro e w' ⟨rfl, hb, hm⟩
 exact hQ w' hb hm
end
theorem setCell_bel {may : Nat → Prop} {w w' : World} (h : Bel may w w') {a : Addr} (ha : may a.block) (v : Value) : Bel may w (w'.setCell a v) := by
 refine ⟨h.os, h.tape, h.output, by simpa [World.setCell] using h.size, fun k hk hk2 => ?_⟩
 rw [Below.heap_setCell _ _ _ k (fun e => hk2 (by rw [e]; exact ha))]
 exact h.block k hk hk2
theorem alloc_bel {may : Nat → Prop} {w w' : World} (h : Bel may w w') (o : Obj) : Bel may w (w'.alloc o) := by
 refine ⟨h.os, h.tape, h.output, by rw [World.size_alloc]; have := h.size; omega, fun k hk hk2 => ?_⟩
 have hlt : k < w'.heap.size := Nat.lt_of_lt_of_le hk h.size
 rw [Below.heap_alloc _ _ _ hlt]
 exact h.block k hk hk2
set_option maxRecDepth 20000 in
theorem c_whole_none (E : PEnv) (i : Nat) (ho : E.Ans 95 [.ptr 0 6 0 0, .lit (.int .i64 0)] i none) :
  VProcG Tryz.prog 52 [.ptr 0 6 0 0] (E.lo.length + 1) (vsP E.bp E.bo) (asP E.lo) [E.ob i] E.mps (fun av mem maps => (av = .tup [.lit .nilIface, .lit (.bool false)] ∧ mem = [none]) ∧ maps = E.mps) := by
 refine ⟨⟨_, Tryz.func52, by kernel_rfl, rfl⟩, fun w vs hd0 hlen hrep hfam hm hmp htl => ?_⟩
 have hrel := (startP_rel (P := Tryz.prog) (fn := Tryz.f52) (by simp [Tryz.ntmps52]) hlen hrep hm hmp htl).tell 20 hfam
 suffices hX : ∀ (X : Value → World → Prop), (∀ v w', (Bel (Sh w hd0 [E.ob i] E.mps) w w' ∧ MapRel Tryz.prog (Sh w hd0 [E.ob i] E.mps) w' E.mps ∧ v = .tuple #[.nilIface, .bool false]) → X v w') → Calls Tryz.prog 52 vs.toArray w (fun e w' => ∃ v, e = .returned v ∧ X v w') from hX _ fun v w' ⟨h1, h2, h3⟩ => by
  subst h3
  refine ⟨h1, hd0, _, [none], E.mps, ⟨⟨rfl, rfl⟩, rfl⟩, ⟨Nat.le_refl _, rfl, fun k ob hk => ?_, fun b hb => hb⟩, ⟨fun _ _ => rfl, TailEq.refl _⟩, ⟨fun k ob hk => ?_, fun k ob hk => ?_, fun k hk => hm.hds k hk, fun k k' ob ob' hk => ?_⟩, h2, .tup _ [.nilIface, .bool false] rfl fun j a q g1 g2 => ?_⟩
  ·cases k <;> simp at hk
  ·cases k <;> simp at hk
  ·cases k <;> simp at hk
  ·cases k <;> simp at hk
  ·rcases j with _ | _ | j
   ·simp at g1 g2; subst g1; subst g2; exact .lit _
   ·simp at g1 g2; subst g1; subst g2; exact .lit _
   ·simp at g1
 intro X hX
 refine calls_of_wp_defers Tryz.func52 rfl ?_
 refine wp_seq (vc_sound rfl _ hrel (K := fun e s => e = .normal ∧ s = wholeS E i) ?_ fun x hd' s' a' w' h' hk => ?_)
 ·simp only [Tryz.ntmps52, PEnv.ob, pOb, PEnv.mps, mapsP, startP]
  simp [go_sem]
  rfl
 ·obtain ⟨rfl, rfl⟩ := hk
  simp only [VX.out, Exit.then]
  refine wp_seq (wp_region_list ?_)
  have hmf : ∀ (fn : Fn) (first cap : Array Value) (w : World), (Instr.makeFunc fn first cap).run Tryz.prog w = .ok (.func fn first cap) w := fun _ _ _ _ => rfl
  have hsz : a'.tmps.size = 20 := h'.size
  have hds : a'.defers = [] := h'.defers
  obtain ⟨b2, n2, c2, hb2, hp2⟩ := rep_ptr (h'.tm 2)
  obtain ⟨b3, n3, c3, hb3, hp3⟩ := rep_ptr (h'.tm 3)
  simp [hsz] at hp2 hp3
  simp [wpList, Region.wanted, Oper.wp, Oper.upon, go_sem, hmf, hsz, hds, hp2, hp3, Exit.then]
  refine .inl (.inl ?_)
  have h2 : RelH 20 ⟨Tryz.prog, Sh w hd0 [E.ob i] E.mps, hd0, [⟨.fn (.func 98) #[.pointer (some ⟨b2, 0, none⟩), .pointer (some ⟨b3, 0, none⟩)], #[]⟩]⟩ w hd' (wholeS E i) ⟨a'.tmps.setIfInBounds 4 (.func (.func 98) #[] #[.pointer (some ⟨b2, 0, none⟩), .pointer (some ⟨b3, 0, none⟩)]), [⟨.fn (.func 98) #[.pointer (some ⟨b2, 0, none⟩), .pointer (some ⟨b3, 0, none⟩)], #[]⟩]⟩ w' := by
   refine ⟨rfl, by simp [hsz], h'.below, h'.le, h'.fixl, h'.fix, h'.mp, fun t => ?_, h'.me⟩
   by_cases ht : t = 4
   ·subst ht
    exact .undef _
   ·have := h'.tm t
    rwa [show (a'.tmps.setIfInBounds 4 (.func (.func 98) #[] #[.pointer (some ⟨b2, 0, none⟩), .pointer (some ⟨b3, 0, none⟩)])).getD t undef = a'.tmps.getD t undef by
     simp only [Array.getD_eq_getD_getElem?]; rw [Array.getElem?_setIfInBounds_ne (by omega)]]
  refine wp_seq (wp_region_list ?_)
  unfold wpList
  rw [if_pos (by simp [Region.wanted])]
  refine .inl ?_
  have hmove : ∀ (o : Oper) (a : Act) (w : World) {K : Act → World → Prop} {Q : Exit → Act → World → Prop}, o.op = .move (.tmp 0) → K (a.put o.dst (a.eval (.tmp 0))) w → o.wp Tryz.prog a w K Q := fun o a w K Q ho hK => by
   unfold Oper.wp
   rw [show (execOp a.eval o).run Tryz.prog w = .ok (.value (a.eval (.tmp 0))) w by unfold execOp; simp only [ho]; rfl]
   exact hK
  refine hmove _ _ _ rfl ?_
  have h3 := h2.put (t := 5) (by omega) (h2.ev_ (.tmp 0))
  generalize hw3 : w' = w3 at h3 ⊢
  generalize ha3 : Act.put _ (some 5) _ = a3 at h3 ⊢
  unfold wpList
  rw [if_pos (by simp [Region.wanted])]
  refine .inl ?_
  have ho' : VDies Tryz.prog 95 noTreeV [.ptr 0 6 0 0, .lit (.int .i64 0)] (E.lo.length + 1) (vsP E.bp E.bo) (asP E.lo) [E.ob i] E.mps := ho
  refine dcall_sound (s := { wholeS E i with tmps := (5, .ptr 0 6 0 0) :: (wholeS E i).tmps }) (f := 95) (xs := [.tmp 5, .const (.int .i64 0)]) (ks := [0]) (t := 20) h3 rfl ?_ (by simp) ?_ (N := E.lo.length + 1) (vs0 := vsP E.bp E.bo) (as0 := asP E.lo) (as1 := asP E.lo) ?_ (fun i _ => rnP E.lo i) ?_ ?_ ho' fun w4 hb4 hm4 => ?_
  ·simp [callD, callOf]
  ·simp [go_sem]
  ·rfl
  ·simp [go_sem, wholeS, PEnv.ob, pOb]
   exact fun i c _ h => tokClosed E.t i c h
  ·exact E.mpsLe []
  ·simp only [Exit.then, bodyPostD]
   have hmay : ∀ b, Sh w3 (hdF hd' [0] (wholeS E i).mem false) [E.ob i] E.mps b → Sh w hd0 [E.ob i] E.mps b := by
    rintro b (h1 | ⟨j, ob', h1, h2⟩ | h1)
    ·exact h3.le _ (Nat.le_trans h3.below.size h1)
    ·cases j with
     | zero =>
      rw [hdF_lt (by simp)] at h2
      exact h3.me.alw 0 _ rfl b h2
     | succ j => simp at h1
    ·exact .inr (.inr h1)
   obtain ⟨g2, cap2, cur2, e2, hg2, hq2⟩ := own_one h3 (k := 1) rfl (by decide)
   obtain ⟨g3, cap3, cur3, e3, hg3, hq3⟩ := own_one h3 (k := 2) rfl (by decide)
   have ev2 : g2 = b2 := by rw [hb2] at e2; simp at e2; exact e2.1.symm
   have ev3 : g3 = b3 := by rw [hb3] at e3; simp at e3; exact e3.1.symm
   subst ev2; subst ev3
   have o2 : (hd' 1).ownBlock = some g2 := by rw [e2]; rfl
   have o3 : (hd' 2).ownBlock = some g3 := by rw [e3]; rfl
   have m2 := h3.me.alw 1 _ rfl g2 o2
   have m3 := h3.me.alw 2 _ rfl g3 o3
   have h23 : g2 ≠ g3 := fun e => by
    rcases h3.me.apart 1 2 _ _ rfl rfl (by omega) with h | h
    ·rw [o2] at h; simp at h
    ·exact h (by rw [o2, o3, e])
   have notSh : ∀ (k : Nat) (ob : Ob) (g : Nat), k ≠ 0 → (wholeS E i).mem[k]? = some (some ob) → (hd' k).ownBlock = some g → g < w3.heap.size → ¬ Sh w3 (hdF hd' [0] (wholeS E i).mem false) [E.ob i] E.mps g := by
    intro k ob g hk hm hg hlt
    rintro (h1 | ⟨j, ob', h1, h2⟩ | h1)
    ·omega
    ·cases j with
     | zero =>
      rw [hdF_lt (by simp)] at h2
      rcases h3.me.apart k 0 ob _ hm rfl hk with h | h
      ·rw [hg] at h; simp at h
      ·exact h (by rw [hg]; exact h2.symm)
     | succ j => simp at h1
    ·cases hq : lkm E.mps g with
     | none => rw [hq] at h1; simp at h1
     | some mp => exact (cells_not_map h3 (b := g) (mp := mp) hq).2 k ob hm hg
   have l2 : g2 < w3.heap.size := (Array.getElem?_eq_some_iff.1 hg2).1
   have l3 : g3 < w3.heap.size := (Array.getElem?_eq_some_iff.1 hg3).1
   have k2 : w4.heap[g2]? = some (.cells cur2 92 (0, 0)) := (hb4.block g2 l2 (notSh 1 _ g2 (by omega) rfl o2 l2)).trans hg2
   have k3 : w4.heap[g3]? = some (.cells cur3 4 (0, 0)) := (hb4.block g3 l3 (notSh 2 _ g3 (by omega) rfl o3 l3)).trans hg3
   obtain ⟨x, hx, hfx⟩ := cells_cell k2 hq2
   obtain ⟨y, hy, hfy⟩ := cells_cell k3 hq3
   have hbel : Bel (Sh w hd0 [E.ob i] E.mps) w w4 := ⟨hb4.os.trans h3.below.os, hb4.tape.trans h3.below.tape, hb4.output.trans h3.below.output, Nat.le_trans h3.below.size hb4.size, fun k hk hk2 => (hb4.block k (Nat.lt_of_lt_of_le hk h3.below.size) (fun e => hk2 (hmay k e))).trans (h3.below.block k hk hk2)⟩
   obtain ⟨b2', _, _, hb2', ht2⟩ := rep_ptr (h3.tm 2)
   obtain ⟨b3', _, _, hb3', ht3⟩ := rep_ptr (h3.tm 3)
   have ev2 : b2' = g2 := by rw [hb2'] at e2; simp at e2; exact e2.1
   have ev3 : b3' = g3 := by rw [hb3'] at e3; simp at e3; exact e3.1
   subst ev2; subst ev3
   have hs3 : a3.tmps.size = 20 := h3.size
   rw [show a3.defers = _ from h3.defers]
   refine leaves_cons (f := 98) (args := #[.pointer (some ⟨b2', 0, none⟩), .pointer (some ⟨b3', 0, none⟩)]) (by simp) (by simp [go_sem]) ?_
   refine (catch_dead ⟨b2', 0, none⟩ ⟨b3', 0, none⟩ x y 0 [] w4 hx hfx hy hfy h23).mono ?_
   rintro e u' w'' ⟨rfl, rfl, rfl⟩
   have c2 : (((w4.alloc (.cells #[] 168)).setCell ⟨b2', 0, none⟩ .nilIface).setCell ⟨b3', 0, none⟩ (.bool false)).cell? ⟨b2', 0, none⟩ = some .nilIface := by
    rw [World.cell?_setCell_other _ _ _ _ (fun e => h23 (by simpa using e.symm))]
    exact World.cell?_setCell_same _ _ _ ((World.cell?_alloc_lt _ _ _ (World.block_lt_of_cell? w4 _ hx)).trans hx)
   have c3 : (((w4.alloc (.cells #[] 168)).setCell ⟨b2', 0, none⟩ .nilIface).setCell ⟨b3', 0, none⟩ (.bool false)).cell? ⟨b3', 0, none⟩ = some (.bool false) := by
    refine World.cell?_setCell_same (u := y) _ _ _ ?_
    rw [World.cell?_setCell_other _ _ _ _ (fun e => h23 (by simp at e))]
    exact (World.cell?_alloc_lt _ _ _ (World.block_lt_of_cell? w4 _ hy)).trans hy
   refine ⟨.tuple #[.nilIface, .bool false], ?_, _, rfl, hX _ _ ⟨setCell_bel (setCell_bel (alloc_bel hbel _) m2 _) m3 _, fun b mp hb => ?_, rfl⟩⟩
   ·generalize ((w4.alloc (.cells #[] 168)).setCell ⟨b2', 0, none⟩ .nilIface).setCell ⟨b3', 0, none⟩ (.bool false) = W at c2 c3
    simp [hs3] at ht2 ht3
    simp [results, Tryz.results52, go_sem, hs3, ht2, ht3, c2, c3]
   ·obtain ⟨hb1, es, clock, hh, hmi⟩ := hm4 b mp hb
    refine ⟨hmay b hb1, es, clock, ?_, hmi⟩
    have hlt : b < w4.heap.size := (Array.getElem?_eq_some_iff.1 hh).1
    rw [Below.heap_setCell _ _ _ _ (fun e => by rw [e, k3] at hh; simp at hh), Below.heap_setCell _ _ _ _ (fun e => by rw [e, k2] at hh; simp at hh), Below.heap_alloc _ _ _ hlt]
    exact hh
end Go.Proofs.YtjdmmhcogmepaaaGreatDoor.V
