import Derived.Test.YtjdmmhcogmepaaaGreatDoorME
import Derived.Test.YtjdmmhcogmepaaaGreatDoorMC
import Derived.Test.YtjdmmhcogmepaaaGreatDoorMD
import Derived.Test.YtjdmmhcogmepaaaGreatDoorMB
set_option linter.unusedVariables false
set_option linter.unusedSimpArgs false
set_option linter.constructorNameAsVariable false
namespace Go.Proofs.YtjdmmhcogmepaaaGreatDoor.V
open Go.RowKit
open Go.Maps (Keyed)
open Go.Proofs.YtjdmmhcogmepaaaGreatDoor.Ops (Tr Tk Lv Res Fit)
section
variable {P : Program} {n : Nat} {base : Fr} {w0 w : World} {hd : Nat → Value} {s : VS} {a : Act}
theorem own_one (h : RelH n base w0 hd s a w) {k ty : Nat} {f : Nat → List AV} (hk : s.mem[k]? = some (some ⟨ty, 1, 1, f⟩)) (ht : ty < tagged) : ∃ g cap cur, hd k = .slice (some ⟨g, 0, none⟩) 1 cap ∧ w.heap[g]? = some (.cells cur ty (0, 0)) ∧ 0 < cur.size := by
 obtain ⟨_, vals, ho, hr⟩ := h.me.obs k _ hk
 rcases (ho.row ht).2 with ⟨_, h0⟩ | ⟨g, cap, cur, e, _, hg, h1, _, h2, _⟩
 ·simp at h0
 ·exact ⟨g, cap, cur, e, hg, by have h1' : 1 ≤ cap := h1; have h2' : cur.size = cap * 1 := h2; omega⟩
theorem cells_cell {g : Nat} {cur : Array Value} {t : TypeId} (hg : w.heap[g]? = some (.cells cur t (0, 0))) (hp : 0 < cur.size) : ∃ x, w.cell? ⟨g, 0, none⟩ = some x ∧ w.frozen? ⟨g, 0, none⟩ = false := by
 refine ⟨cur[0], ?_, ?_⟩
 ·simp [World.cell?, hg, hp]
 ·simp [World.frozen?, hg]
theorem dcall_sound (h : RelH n base w0 hd s a w) (hP : base.P = P) {o : Oper} {f : FuncId} {xs : List Operand} (hcall : callD P s o.op = some (f, xs)) {pv : Value} {ks : List Nat} {args' : List AV} {mem0 : List (Option Ob)} {maps0 : List (Nat × Mp)} {t N : Nat} {vs0 : Nat → Value} {as0 as1 : Nat → AV}
  (hnd : ks.Nodup) (hargs : CellsRn (fun j => ks.getD j 0) ks.length (xs.map (ev s)) args') (hgt : lk s.tmps t = .fam N vs0 as0) (hg : ∀ i, i < N → Rn (fun j => ks.getD j 0) ks.length (as0 i) (as1 i)) (hsh : ShMem (fun j => ks.getD j 0) ks.length s.mem ks mem0) (hmaps : MapsLe s.maps maps0) (hd1 : VDies P f pv args' N vs0 as1 mem0 maps0)
  {K : Act → World → Prop} {Q : Exit → Act → World → Prop} (hQ : ∀ w', Bel (Sh w (hdF hd ks s.mem false) mem0 maps0) w w' → MapRel P (Sh w (hdF hd ks s.mem false) mem0 maps0) w' maps0 → Q (.panic [{ v := pv, recovered := false }]) a w') : o.wp P a w K Q := by
 have hrun : (execOp a.eval o).run P w = .ok (.enter f (xs.map a.eval).toArray) w := (call_run h hcall).trans (run_call_of hd1.1 _ w)
 obtain ⟨hlen, _, hrep, hfam, hm0, hmp0, htl0⟩ := callG_pre h hP hnd hargs hgt hg hsh (mapsLe_get hmaps)
 have hcalls := hd1.2 w (xs.map a.eval) (hdF hd ks s.mem false) hlen hrep hfam hm0 hmp0 htl0
 unfold Oper.wp
 rw [hrun]
 simp only [Oper.upon]
 refine hcalls.mono ?_
 rintro e w' ⟨rfl, hb, hm⟩
 exact hQ w' hb hm
end
theorem setCell_bel {may : Nat → Prop} {w w' : World} (h : Bel may w w') {a : Addr} (ha : may a.block) (v : Value) : Bel may w (w'.setCell a v) := by
 refine ⟨h.os, h.tape, h.output, by simpa [World.setCell] using h.size, fun k hk hk2 => ?_⟩
 rw [Below.heap_setCell _ _ _ k (fun e => hk2 (by rw [e]; exact ha))]
 exact h.block k hk hk2
theorem alloc_bel {may : Nat → Prop} {w w' : World} (h : Bel may w w') (o : Obj) : Bel may w (w'.alloc o) := by
 refine ⟨h.os, h.tape, h.output, by rw [World.size_alloc]; have := h.size; omega, fun k hk hk2 => ?_⟩
 have hlt : k < w'.heap.size := Nat.lt_of_lt_of_le hk h.size
 rw [Below.heap_alloc _ _ _ hlt]
 exact h.block k hk hk2
set_option maxRecDepth 20000 in
theorem c_whole_none (E : PEnv) (i : Nat) (ho : E.Ans 95 [.ptr 0 6 0 0, .lit (.int .i64 0)] i none) :
  VProcG Tryz.prog 52 [.ptr 0 6 0 0] (E.lo.length + 1) (vsP E.bp E.bo) (asP E.lo) [E.ob i] E.mps (fun av mem maps => (av = .tup [.lit .nilIface, .lit (.bool false)] ∧ mem = [none]) ∧ maps = E.mps) := by
 refine ⟨⟨_, Tryz.func52, by kernel_rfl, rfl⟩, fun w vs hd0 hlen hrep hfam hm hmp htl => ?_⟩
 have hrel := (startP_rel (P := Tryz.prog) (fn := Tryz.f52) (by simp [Tryz.ntmps52]) hlen hrep hm hmp htl).tell 20 hfam
 suffices hX : ∀ (X : Value → World → Prop), (∀ v w', (Bel (Sh w hd0 [E.ob i] E.mps) w w' ∧ MapRel Tryz.prog (Sh w hd0 [E.ob i] E.mps) w' E.mps ∧ v = .tuple #[.nilIface, .bool false]) → X v w') → Calls Tryz.prog 52 vs.toArray w (fun e w' => ∃ v, e = .returned v ∧ X v w') from hX _ fun v w' ⟨h1, h2, h3⟩ => by
  subst h3
  refine ⟨h1, hd0, _, [none], E.mps, ⟨⟨rfl, rfl⟩, rfl⟩, ⟨Nat.le_refl _, rfl, fun k ob hk => ?_, fun b hb => hb⟩, ⟨fun _ _ => rfl, TailEq.refl _⟩, ⟨fun k ob hk => ?_, fun k ob hk => ?_, fun k hk => hm.hds k hk, fun k k' ob ob' hk => ?_⟩, h2, .tup _ [.nilIface, .bool false] rfl fun j a q g1 g2 => ?_⟩
  ·cases k <;> simp at hk
  ·cases k <;> simp at hk
  ·cases k <;> simp at hk
  ·cases k <;> simp at hk
  ·rcases j with _ | _ | j
   ·simp at g1 g2; subst g1; subst g2; exact .lit _
   ·simp at g1 g2; subst g1; subst g2; exact .lit _
   ·simp at g1
 intro X hX
 refine calls_of_wp_defers Tryz.func52 rfl ?_
 refine wp_seq (vc_sound rfl _ hrel (K := fun e s => e = .normal ∧ s = wholeS E i) ?_ fun x hd' s' a' w' h' hk => ?_)
 ·simp only [Tryz.ntmps52, PEnv.ob, pOb, PEnv.mps, mapsP, startP]
  simp [go_sem]
  rfl
 ·obtain ⟨rfl, rfl⟩ := hk
  simp only [VX.out, Exit.then]
  refine wp_seq (wp_region_list ?_)
  have hmf : ∀ (fn : Fn) (first cap : Array Value) (w : World), (Instr.makeFunc fn first cap).run Tryz.prog w = .ok (.func fn first cap) w := fun _ _ _ _ => rfl
  have hsz : a'.tmps.size = 20 := h'.size
  have hds : a'.defers = [] := h'.defers
  obtain ⟨b2, n2, c2, hb2, hp2⟩ := rep_ptr (h'.tm 2)
  obtain ⟨b3, n3, c3, hb3, hp3⟩ := rep_ptr (h'.tm 3)
  simp [hsz] at hp2 hp3
  simp [wpList, Region.wanted, Oper.wp, Oper.upon, go_sem, hmf, hsz, hds, hp2, hp3, Exit.then]
  refine .inl (.inl ?_)
  have h2 : RelH 20 ⟨Tryz.prog, Sh w hd0 [E.ob i] E.mps, hd0, [⟨.fn (.func 98) #[.pointer (some ⟨b2, 0, none⟩), .pointer (some ⟨b3, 0, none⟩)], #[]⟩]⟩ w hd' (wholeS E i) ⟨a'.tmps.setIfInBounds 4 (.func (.func 98) #[] #[.pointer (some ⟨b2, 0, none⟩), .pointer (some ⟨b3, 0, none⟩)]), [⟨.fn (.func 98) #[.pointer (some ⟨b2, 0, none⟩), .pointer (some ⟨b3, 0, none⟩)], #[]⟩]⟩ w' := by
   refine ⟨rfl, by simp [hsz], h'.below, h'.le, h'.fixl, h'.fix, h'.mp, fun t => ?_, h'.me⟩
   by_cases ht : t = 4
   ·subst ht
    exact .undef _
   ·have := h'.tm t
    rwa [show (a'.tmps.setIfInBounds 4 (.func (.func 98) #[] #[.pointer (some ⟨b2, 0, none⟩), .pointer (some ⟨b3, 0, none⟩)])).getD t undef = a'.tmps.getD t undef by
     simp only [Array.getD_eq_getD_getElem?]; rw [Array.getElem?_setIfInBounds_ne (by omega)]]
  refine wp_seq (wp_region_list ?_)
  unfold wpList
  rw [if_pos (by simp [Region.wanted])]
  refine .inl ?_
  have hmove : ∀ (o : Oper) (a : Act) (w : World) {K : Act → World → Prop} {Q : Exit → Act → World → Prop}, o.op = .move (.tmp 0) → K (a.put o.dst (a.eval (.tmp 0))) w → o.wp Tryz.prog a w K Q := fun o a w K Q ho hK => by
   unfold Oper.wp
   rw [show (execOp a.eval o).run Tryz.prog w = .ok (.value (a.eval (.tmp 0))) w by unfold execOp; simp only [ho]; rfl]
   exact hK
  refine hmove _ _ _ rfl ?_
  have h3 := h2.put (t := 5) (by omega) (h2.ev_ (.tmp 0))
  generalize hw3 : w' = w3 at h3 ⊢
  generalize ha3 : Act.put _ (some 5) _ = a3 at h3 ⊢
  unfold wpList
  rw [if_pos (by simp [Region.wanted])]
  refine .inl ?_
  have ho' : VDies Tryz.prog 95 noTreeV [.ptr 0 6 0 0, .lit (.int .i64 0)] (E.lo.length + 1) (vsP E.bp E.bo) (asP E.lo) [E.ob i] E.mps := ho
  refine dcall_sound (s := { wholeS E i with tmps := (5, .ptr 0 6 0 0) :: (wholeS E i).tmps }) (f := 95) (xs := [.tmp 5, .const (.int .i64 0)]) (ks := [0]) (t := 20) h3 rfl ?_ (by simp) ?_ (N := E.lo.length + 1) (vs0 := vsP E.bp E.bo) (as0 := asP E.lo) (as1 := asP E.lo) ?_ (fun i _ => rnP E.lo i) ?_ ?_ ho' fun w4 hb4 hm4 => ?_
  ·simp [callD, callOf]
  ·simp [go_sem]
  ·rfl
  ·simp [go_sem, wholeS, PEnv.ob, pOb]
   exact fun i c _ h => tokClosed E.t i c h
  ·exact E.mpsLe []
  ·simp only [Exit.then, bodyPostD]
   have hmay : ∀ b, Sh w3 (hdF hd' [0] (wholeS E i).mem false) [E.ob i] E.mps b → Sh w hd0 [E.ob i] E.mps b := by
    rintro b (h1 | ⟨j, ob', h1, h2⟩ | h1)
    ·exact h3.le _ (Nat.le_trans h3.below.size h1)
    ·cases j with
     | zero =>
      rw [hdF_lt (by simp)] at h2
      exact h3.me.alw 0 _ rfl b h2
     | succ j => simp at h1
    ·exact .inr (.inr h1)
   obtain ⟨g2, cap2, cur2, e2, hg2, hq2⟩ := own_one h3 (k := 1) rfl (by decide)
   obtain ⟨g3, cap3, cur3, e3, hg3, hq3⟩ := own_one h3 (k := 2) rfl (by decide)
   have ev2 : g2 = b2 := by rw [hb2] at e2; simp at e2; exact e2.1.symm
   have ev3 : g3 = b3 := by rw [hb3] at e3; simp at e3; exact e3.1.symm
   subst ev2; subst ev3
   have o2 : (hd' 1).ownBlock = some g2 := by rw [e2]; rfl
   have o3 : (hd' 2).ownBlock = some g3 := by rw [e3]; rfl
   have m2 := h3.me.alw 1 _ rfl g2 o2
   have m3 := h3.me.alw 2 _ rfl g3 o3
   have h23 : g2 ≠ g3 := fun e => by
    rcases h3.me.apart 1 2 _ _ rfl rfl (by omega) with h | h
    ·rw [o2] at h; simp at h
    ·exact h (by rw [o2, o3, e])
   have notSh : ∀ (k : Nat) (ob : Ob) (g : Nat), k ≠ 0 → (wholeS E i).mem[k]? = some (some ob) → (hd' k).ownBlock = some g → g < w3.heap.size → ¬ Sh w3 (hdF hd' [0] (wholeS E i).mem false) [E.ob i] E.mps g := by
    intro k ob g hk hm hg hlt
    rintro (h1 | ⟨j, ob', h1, h2⟩ | h1)
    ·omega
    ·cases j with
     | zero =>
      rw [hdF_lt (by simp)] at h2
      rcases h3.me.apart k 0 ob _ hm rfl hk with h | h
      ·rw [hg] at h; simp at h
      ·exact h (by rw [hg]; exact h2.symm)
     | succ j => simp at h1
    ·cases hq : lkm E.mps g with
     | none => rw [hq] at h1; simp at h1
     | some mp => exact (cells_not_map h3 (b := g) (mp := mp) hq).2 k ob hm hg
   have l2 : g2 < w3.heap.size := (Array.getElem?_eq_some_iff.1 hg2).1
   have l3 : g3 < w3.heap.size := (Array.getElem?_eq_some_iff.1 hg3).1
   have k2 : w4.heap[g2]? = some (.cells cur2 92 (0, 0)) := (hb4.block g2 l2 (notSh 1 _ g2 (by omega) rfl o2 l2)).trans hg2
   have k3 : w4.heap[g3]? = some (.cells cur3 4 (0, 0)) := (hb4.block g3 l3 (notSh 2 _ g3 (by omega) rfl o3 l3)).trans hg3
   obtain ⟨x, hx, hfx⟩ := cells_cell k2 hq2
   obtain ⟨y, hy, hfy⟩ := cells_cell k3 hq3
   have hbel : Bel (Sh w hd0 [E.ob i] E.mps) w w4 := ⟨hb4.os.trans h3.below.os, hb4.tape.trans h3.below.tape, hb4.output.trans h3.below.output, Nat.le_trans h3.below.size hb4.size, fun k hk hk2 => (hb4.block k (Nat.lt_of_lt_of_le hk h3.below.size) (fun e => hk2 (hmay k e))).trans (h3.below.block k hk hk2)⟩
   obtain ⟨b2', _, _, hb2', ht2⟩ := rep_ptr (h3.tm 2)
   obtain ⟨b3', _, _, hb3', ht3⟩ := rep_ptr (h3.tm 3)
   have ev2 : b2' = g2 := by rw [hb2'] at e2; simp at e2; exact e2.1
   have ev3 : b3' = g3 := by rw [hb3'] at e3; simp at e3; exact e3.1
   subst ev2; subst ev3
   have hs3 : a3.tmps.size = 20 := h3.size
   rw [show a3.defers = _ from h3.defers]
   refine leaves_cons (f := 98) (args := #[.pointer (some ⟨b2', 0, none⟩), .pointer (some ⟨b3', 0, none⟩)]) (by simp) (by simp [go_sem]) ?_
   refine (catch_dead ⟨b2', 0, none⟩ ⟨b3', 0, none⟩ x y 0 [] w4 hx hfx hy hfy h23).mono ?_
   rintro e u' w'' ⟨rfl, rfl, rfl⟩
   have c2 : (((w4.alloc (.cells #[] 168)).setCell ⟨b2', 0, none⟩ .nilIface).setCell ⟨b3', 0, none⟩ (.bool false)).cell? ⟨b2', 0, none⟩ = some .nilIface := by
    rw [World.cell?_setCell_other _ _ _ _ (fun e => h23 (by simpa using e.symm))]
    exact World.cell?_setCell_same _ _ _ ((World.cell?_alloc_lt _ _ _ (World.block_lt_of_cell? w4 _ hx)).trans hx)
   have c3 : (((w4.alloc (.cells #[] 168)).setCell ⟨b2', 0, none⟩ .nilIface).setCell ⟨b3', 0, none⟩ (.bool false)).cell? ⟨b3', 0, none⟩ = some (.bool false) := by
    refine World.cell?_setCell_same (u := y) _ _ _ ?_
    rw [World.cell?_setCell_other _ _ _ _ (fun e => h23 (by simp at e))]
    exact (World.cell?_alloc_lt _ _ _ (World.block_lt_of_cell? w4 _ hy)).trans hy
   refine ⟨.tuple #[.nilIface, .bool false], ?_, _, rfl, hX _ _ ⟨setCell_bel (setCell_bel (alloc_bel hbel _) m2 _) m3 _, fun b mp hb => ?_, rfl⟩⟩
   ·generalize ((w4.alloc (.cells #[] 168)).setCell ⟨b2', 0, none⟩ .nilIface).setCell ⟨b3', 0, none⟩ (.bool false) = W at c2 c3
    simp [hs3] at ht2 ht3
    simp [results, Tryz.results52, go_sem, hs3, ht2, ht3, c2, c3]
   ·obtain ⟨hb1, es, clock, hh, hmi⟩ := hm4 b mp hb
    refine ⟨hmay b hb1, es, clock, ?_, hmi⟩
    have hlt : b < w4.heap.size := (Array.getElem?_eq_some_iff.1 hh).1
    rw [Below.heap_setCell _ _ _ _ (fun e => by rw [e, k3] at hh; simp at hh), Below.heap_setCell _ _ _ _ (fun e => by rw [e, k2] at hh; simp at hh), Below.heap_alloc _ _ _ hlt]
    exact hh
end Go.Proofs.YtjdmmhcogmepaaaGreatDoor.V
namespace Go.Proofs.YtjdmmhcogmepaaaGreatDoor.V
open Go.RowKit
open Go.Proofs.YtjdmmhcogmepaaaGreatDoor.Ops (Tr Tk Lv Res Fit OF)
def offFill (t : List PTok) (i j : Nat) : List AV := [.lit (.int .i64 (if j < i then offZ t j else 0))]
theorem offFill_at (t : List PTok) (i j : Nat) : offFill t i j = [.lit (.int .i64 (if j < i then offZ t j else 0))] := rfl
theorem offClosed (t : List PTok) (i j : Nat) (c : AV) (h : c ∈ offFill t i j) : Closed c := by
 simp only [offFill, List.mem_singleton] at h
 subst h; exact .lit _
set_option maxRecDepth 100000 in
theorem c_Parse1 (l : List POp) (hl : l.length ≤ 9223372036854775807) (hw : opsWf l) (z : ByteArray) (hz : z.size ≤ 1048576) : VFun Tryz.prog 19 [.agg [.sl 4 l.length (opCells l)], .lit (.string z)] (paR l z) := by
 have cl : ∀ (i : Nat) (c : AV), i < l.length → c ∈ opCells l i → Closed c := fun i c _ h => opClosed l i c h
 refine vfun_start Tryz.func19 (by kernel_rfl) rfl (by simp [Tryz.ntmps19]) ?_; simp only [Tryz.ntmps19, Tryz.results19]; simp [go_sem]
 refine vcall_pure (c_TableOk l hl hw) ?_ ?_
 ·simp [go_sem]
  exact argSl_refl (by omega) cl
 ·simp [go_sem]
  refine ⟨fun h0 => paR_nil (by simp [parZ, h0]), fun h0 => ?_⟩
  have hu := uniq_of_ok h0
  refine ⟨fun h1 => paR_nil ?_, fun h1 => ?_⟩
  ·have : ¬ z.size ≤ 20000 := by omega
   simp [parZ, h0, this]
  have hz2 : z.size ≤ 20000 := by omega
  have h1 : lexOk l z = true := by simp [lexOk, h0, hz2]
  refine vcall_use (c_Lex l hl hw z hz) ?_ ?_
  ·simp [go_sem]
   exact argSl_refl (by omega) cl
  ·rintro av obs (⟨h2, _⟩ | ⟨_, rfl, rfl⟩)
   ·rw [h1] at h2; cases h2
   simp [go_sem]
   have hends := lexZ_ends h1
   obtain ⟨hq1, hq2⟩ := lexZ_texts (l := l) (z := z) (by omega)
   obtain ⟨t, ht⟩ : ∃ t, t = lexZ l z := ⟨_, rfl⟩
   have hpar : parZ l z = parK l t := by rw [parZ, if_neg (by omega), if_neg (by omega), ← ht]
   rw [← ht] at hends hq1 hq2 ⊢
   have clt : ∀ (i : Nat) (c : AV), i < t.length → c ∈ tokCells t i → Closed c := fun i c _ h => tokClosed t i c h
   have hto : t.length + tokSum t ≤ 1048576 := by omega
   refine ⟨by omega, by omega, by omega, by omega, ?_⟩
   refine vc_loop (fun i : Nat => i ≤ t.length) (fun i => t.length - i) (fun i => .of [(2, .ptr 0 1 0 0), (4, .ptr 1 1 0 0), (5, .lit (.int .i64 0)), (6, .lit (.int .i64 0)), (7, .own 2), (9, .own 3), (10, .lit (.int .i64 (tokSum (t.take i)))), (36, .own 2), (37, .lit (.int .i64 t.length)), (38, .lit (.int .i64 i))] [some ⟨30, 1, 1, fun _ => [.sl 4 l.length (opCells l)]⟩, some ⟨37, 1, 1, fun _ => [.lit (.slice none 0 0)]⟩, some ⟨88, 3, t.length, tokCells t⟩, some ⟨3, 1, t.length, offFill t i⟩]) ⟨0, by omega, ?_⟩ (fun i hi => ?_)
   ·simp [go_sem, offFill, tokSum]
    exact ⟨cl, fun i hi c hc => .closed _ (clt i c hi hc)⟩
   ·by_cases h : i < t.length
    ·have hup : ∀ x : AV, updF t.length (offFill t i) i 0 [x] i = [x] := fun x => by
      rw [updF_at h h, if_pos rfl]; rfl
     have htk := tokSum_take t i h
     have htl := tokSum_take_le t (i + 1)
     have hsz : tokSize (t.getD i default) = (tokAt t i).gap.size + (tokAt t i).text.size := rfl
     have ew : IntKind.i64.wrap (((tokSum (t.take i) : Nat) : Int) + (tokAt t i).gap.size) = offZ t i := by rw [wrap_i64 (by omega)]; simp [offZ]
     have ew2 : IntKind.i64.wrap (offZ t i + (tokAt t i).text.size) = ((tokSum (t.take (i + 1)) : Nat) : Int) := by unfold offZ; rw [wrap_i64 (by omega), htk, hsz]; omega
     simp [go_sem, tokCells_at, h, ew]
     refine vc_drawn [] (.q 0 <| .q 1 <| .q 2 <| .q 3 <| .q 4 <| .q 5 <| .q 6 <| .q 7 <| .q 8 <| .done) (by kernel_rfl) ?_
     simp [go_sem, tokCells_at, h, hup, ew2]
     refine ⟨i + 1, by omega, by omega, ⟨rfl, wrap_succ (by omega)⟩, cl, fun j hj => ⟨?_, fun c hc => .closed _ (offClosed _ _ _ c hc)⟩⟩
     rw [updF_at h hj]
     by_cases hji : j = i
     ·subst hji
      simp [offFill, splice]
     ·rw [if_neg hji]
      simp only [offFill]
      by_cases h2 : j < i
      ·rw [if_pos h2, if_pos (by omega)]
      ·rw [if_neg h2, if_neg (by omega)]
    ·obtain rfl : i = t.length := by omega
     simp [go_sem]
     refine ⟨by omega, ?_⟩
     refine vc_loopE (fun i : Nat => i ≤ t.length ∧ ∀ j, j < i → (tokAt t j).kind ≠ 6) (fun i => t.length - i) (fun i => .of [(2, .ptr 0 1 0 0), (4, .ptr 1 1 0 0), (5, .lit (.int .i64 0)), (6, .lit (.int .i64 0)), (7, .sl 3 t.length (tokCells t)), (9, .own 3), (60, .sl 3 t.length (tokCells t)), (61, .lit (.int .i64 t.length)), (62, .lit (.int .i64 i))] [some ⟨30, 1, 1, fun _ => [.sl 4 l.length (opCells l)]⟩, some ⟨37, 1, 1, fun _ => [.lit (.slice none 0 0)]⟩, none, some ⟨3, 1, t.length, offFill t t.length⟩]) ⟨0, ⟨by omega, by simp⟩, ?_⟩ (fun i hi => ?_)
     ·refine (Ent.give [7, 60] 2 rfl (fun i hi c hc => clt i c hi hc) (by simp [lk])).trans (Ent.of_le ?_)
      simp [go_sem]
      exact ⟨clt, cl, fun i hi c hc => .closed _ (offClosed _ _ _ c hc)⟩
     ·by_cases h : i < t.length
      ·by_cases hk : (tokAt t i).kind = 6
       ·simp [go_sem, tokCells_at, h, hk]
        refine vc_drawn [5] (.q 0 <| .or 1 (.or 2 (.or 3 (.or 4 (.or 5 (.q 6 <| .q 7 <| .done) (.nil)) (.or 5 (.q 4 <| .q 6 <| .q 7 <| .done) (.nil))) (.or 5 (.q 3 <| .q 4 <| .q 6 <| .q 7 <| .done) (.nil))) (.or 5 (.q 2 <| .q 3 <| .q 4 <| .q 6 <| .q 7 <| .done) (.nil))) (.or 2 (.or 1 (.or 3 (.or 4 (.or 5 (.q 6 <| .q 7 <| .done) (.nil)) (.or 5 (.q 4 <| .q 6 <| .q 7 <| .done) (.nil))) (.or 5 (.q 3 <| .q 4 <| .q 6 <| .q 7 <| .done) (.nil))) (.or 5 (.q 1 <| .q 3 <| .q 4 <| .q 6 <| .q 7 <| .done) (.nil))) (.or 5 (.q 1 <| .q 2 <| .q 3 <| .q 4 <| .q 6 <| .q 7 <| .done) (.nil)))) (by kernel_rfl) ?_
        simp [go_sem, offFill_at, h]
        exact paR_nil (by rw [hpar, parK_bad (badAt_some h hi.2 hk)])
       ·simp [go_sem, tokCells_at, h, hk]
        refine ⟨i + 1, ⟨by omega, fun j hj => ?_⟩, by omega, Ent.of_le ?_⟩
        ·rcases Nat.lt_succ_iff_lt_or_eq.mp hj with hj | rfl
         ·exact hi.2 j hj
         ·exact hk
        ·simp [go_sem]
         exact ⟨⟨clt, wrap_succ (by omega)⟩, cl, fun i hi c hc => .closed _ (offClosed _ _ _ c hc)⟩
      ·obtain rfl : i = t.length := by omega
       have hnb := badAt_none hi.2
       simp [go_sem]
       refine vcall_use (c_RolesO l hl hw t (by omega) (fun i hi => by have := tok_le hi; unfold tokSize at this; simp only [maxLen]; omega)) ?_ ?_
       ·simp [go_sem]
        exact ⟨argSl_refl (by omega) cl, argSl_refl (by omega) clt⟩
       ·rintro av obs ⟨rfl, rfl⟩
        simp [go_sem]
        rcases roles_two h0 hends with ⟨hr, hR⟩ | ⟨hr, hlt⟩
        ·rw [hr, hR]
         simp [go_sem]
         have F := fits_of h0 hr
         refine vcall_share [] (c_indexOf l hl hw) (by simp) ?_ ?_ trivial ?_
         ·simp [go_sem]
          exact cl
         ·simp [go_sem]
         ·rintro av mem maps ⟨b1, b2, esA, esT, rfl, rfl, rfl, hb, hat, _⟩
          simp [go_sem]
          refine vcall_told [] 109 (c_newParser l t b1 b2 esA hu (ok_of_ok h0) hw hat) (by simp) ?_ ?_ ?_ ?_
          ·simp [go_sem]
           exact clt
          ·simp [go_sem]
          ·simp [go_sem]
           exact fun e => hb e.symm
          ·rintro av mem' maps' N vs as1 ⟨lo, bp, bo, b3, b4, esN, esL, ⟨n13, n14, n34⟩, rfl, rfl, rfl, rfl, rfl, rfl, hP⟩
           simp [go_sem]
           obtain ⟨E, hE⟩ : ∃ E : PEnv, E = ⟨l, lo, t, bp, bo, b1, b2, b3, b4, esA, esN, esL, hP, by omega, fun i hi => by have := tok_le hi; unfold tokSize at this; simp only [maxLen]; omega, n13, n14, n34⟩ := ⟨_, rfl⟩
           obtain ⟨r, hrun, hcase⟩ := run_of h0 F
           have ho := c_operand E _ 0 0 0 (toksZ l t) r (by rw [hE]; exact F.toks) F.fit hrun
           have hfam : ∀ i, i < lo.length + 1 → Rn (fun j => [5].getD j 0) 1 (renB (backN [] 5) (asP lo i)) (asP lo i) := fun i _ => by
            cases i with
            | zero =>
             refine .bptr _ _ (by simp) fun j a b h1 h2 => ?_
             match j with
             | 0 =>
              simp [backN, ren1] at h1 h2
              subst h1; subst h2
              exact .ptr (f := fun j => [5].getD j 0) 0 6 0 0 (by omega)
             | j + 1 => simp at h1
            | succ j => 
             have e : renB (backN [] 5) (asP lo (j + 1)) = asP lo (j + 1) := by simp [asP, renB, POp.cells, ren1]
             rw [e]
             exact .closed _ (.bptr _ fun c hc => by
              simp [POp.cells] at hc
              rcases hc with rfl | rfl | rfl | rfl <;> exact .lit _)
           have hob : Option.map (renOb (backN [] 5)) (pOb b1 b2 b3 b4 t 0) = pOb b1 b2 b3 b4 t 0 := by simp [pOb, renOb, ren1]
           rw [hob]
           have hml := E.mpsLe [(b2, ⟨9, esT⟩), (b1, ⟨151, esA⟩)]
           rw [hE] at hml
           cases r with
           | none =>
            simp only at hcase
            have cw := c_whole_none E 0 ho
            rw [hE] at cw
            refine vcall_tell [5] 109 cw (by simp) rfl hfam ?_ ?_ ?_ ?_
            ·simp [go_sem]
            ·simp [go_sem, PEnv.ob, pOb]
             exact clt
            ·exact hml
            ·rintro av mem maps ⟨⟨rfl, rfl⟩, rfl⟩
             simp [go_sem]
             exact paR_nil (by rw [hpar, parK_none hnb hr hcase])
           | some x =>
            obtain ⟨e, rest⟩ := x
            simp only at hcase
            obtain ⟨hat7, hcase⟩ := hcase
            have ea : E.at_ rest = t.length - 1 - rest.length := by rw [hE]; rfl
            have eT : E.t = t := by rw [hE]
            have cw := c_whole_some E 0 e rest (by rw [ea, eT]; exact hat7) ho
            rw [ea, eT] at cw
            rcases hcase with ⟨hp, hk7⟩ | ⟨hp, hk7⟩
            ·rw [hk7, hE] at cw
             obtain ⟨e1, e2, e3, e4, e5⟩ := partT_ok F hp
             obtain ⟨T, u, hT, _, fh, hmh, ch⟩ := partIs e
             obtain ⟨T', u', hT', fn, hmn, cn⟩ := nodesAre e [] e5 (by have := lay_yield e []; have := F.len; rw [e2] at *; simp only [List.length_nil] at *; omega)
             rw [hT] at cw hT'
             simp only [Value.iface.injEq] at hT'
             obtain ⟨rfl, rfl⟩ := hT'
             refine vcall_tell [5] 109 cw (by simp) rfl hfam ?_ ?_ ?_ ?_
             ·simp [go_sem]
             ·simp [go_sem, PEnv.ob, pOb]
              exact clt
             ·exact hml
             ·rintro av mem maps ⟨⟨rfl, rfl⟩, hM⟩
              simp [go_sem, hmh]
              refine vcall_pure ch ?_ ?_
              ·simp [go_sem]
              ·simp [go_sem, hmn]
               refine ⟨fun h6 => paR_nil (by rw [hpar, parK_high hnb hr hp (by omega)]), fun h6 => ?_⟩
               refine vcall_share [] (VProc.adoptNil (by omega) cn) (by simp) ?_ ?_ trivial ?_
               ·simp [go_sem]
               ·simp [go_sem]
               ·rintro av mem maps ⟨rfl, rfl, rfl⟩
                simp [go_sem, nodRow]
                refine ⟨_, obsSame_one.mpr ⟨⟨77, 4, (lay e []).length, nodCells (lay e [])⟩, ⟨rfl, rfl, rfl, fun j hj => ⟨rfl, nodLit _ j⟩⟩, rfl⟩, .inl ?_⟩
                rw [hpar, parK_ok hnb hr hp h6]
                exact ⟨rfl, rfl⟩
            ·have hk7' : decide ((tokAt t (t.length - 1 - rest.length)).kind = 7) = false := decide_eq_false hk7
             rw [hk7', hE] at cw
             refine vcall_tell [5] 109 cw (by simp) rfl hfam ?_ ?_ ?_ ?_
             ·simp [go_sem]
             ·simp [go_sem, PEnv.ob, pOb]
              exact clt
             ·exact hml
             ·rintro av mem maps ⟨⟨rfl, rfl⟩, hM⟩
              simp [go_sem]
              exact paR_nil (by rw [hpar, parK_none hnb hr hp])
        ·obtain ⟨q, hq⟩ : ∃ q : Nat, (rolesZ l t).2 = q := ⟨(rolesZ l t).2.toNat, by omega⟩
         have hk := parK_roles hnb hr
         rw [hq] at hr hlt hk ⊢
         simp only [Int.toNat_natCast] at hk
         have hq' : q < t.length := by omega
         refine ⟨fun _ => vc_drawn [5] (.q 0 <| .or 1 (.or 2 (.or 3 (.or 4 (.or 5 (.q 6 <| .q 7 <| .done) (.nil)) (.or 5 (.q 4 <| .q 6 <| .q 7 <| .done) (.nil))) (.or 5 (.q 3 <| .q 4 <| .q 6 <| .q 7 <| .done) (.nil))) (.or 5 (.q 2 <| .q 3 <| .q 4 <| .q 6 <| .q 7 <| .done) (.nil))) (.or 2 (.or 1 (.or 3 (.or 4 (.or 5 (.q 6 <| .q 7 <| .done) (.nil)) (.or 5 (.q 4 <| .q 6 <| .q 7 <| .done) (.nil))) (.or 5 (.q 3 <| .q 4 <| .q 6 <| .q 7 <| .done) (.nil))) (.or 5 (.q 1 <| .q 3 <| .q 4 <| .q 6 <| .q 7 <| .done) (.nil))) (.or 5 (.q 1 <| .q 2 <| .q 3 <| .q 4 <| .q 6 <| .q 7 <| .done) (.nil)))) (by kernel_rfl) ?_, fun h => by omega⟩
         simp [go_sem, offFill_at, hq']
         exact paR_nil (by rw [hpar, hk])
theorem c_Parse (l : List POp) (hl : l.length ≤ 9223372036854775807) (hw : opsWf l) (z : ByteArray) (hz : z.size ≤ 1048576) : VFun Tryz.prog 19 [.agg [.sl 4 l.length (opCells l)], .lit (.string z)] (fun av obs => av = .tup [.agg [.own 0], .lit (.int .i64 (parZ l z).2.1), .lit (.int .i64 (parZ l z).2.2)] ∧ obs = [⟨77, 4, (parZ l z).1.length, nodCells (parZ l z).1⟩]) :=
 (c_Parse1 l hl hw z hz).adoptA 77 4 (by omega) (nodCells []) fun av obs h => paR_own h
theorem seg_txt {l : List POp} {t : List PTok} {rs : List Int} {B : Nat} (hB : ∀ j, (tokAt t j).text.size ≤ B) : ∀ (e : PT) (i : Nat) (out : List PNode), SegIs l t rs i e.yield → NodTx B out → NodTx B (lay e out)
 | .leaf b, i, out, h, ho => by
  simp only [Tr.yield, SegIs, TokIs] at h
  refine nodTx_app ho ?_
  have := h.1.2
  simp only [this]
  exact hB i
 | .grp e, i, out, h, ho => by
  simp only [Tr.yield, SegIs] at h
  exact nodTx_app (seg_txt hB e _ out (seg_append.1 h.2.2).1 ho) (Nat.zero_le _)
 | .pre o e, i, out, h, ho => by
  simp only [Tr.yield, SegIs, TokIs] at h
  obtain ⟨⟨_, ht, _⟩, _, h2⟩ := h
  exact nodTx_app (seg_txt hB e _ out h2 ho) (by simp only [ht]; exact hB i)
 | .post o e, i, out, h, ho => by
  simp only [Tr.yield] at h
  obtain ⟨h1, h3⟩ := seg_append.1 h
  simp only [SegIs, TokIs] at h3
  obtain ⟨⟨_, ht, _⟩, _⟩ := h3
  exact nodTx_app (seg_txt hB e _ out h1 ho) (by simp only [ht]; exact hB _)
 | .inf o x y, i, out, h, ho => by
  simp only [Tr.yield] at h
  obtain ⟨h1, h3⟩ := seg_append.1 h
  simp only [SegIs, TokIs] at h3
  obtain ⟨⟨_, ht, _⟩, _, h4⟩ := h3
  exact nodTx_app (seg_txt hB y _ _ h4 (seg_txt hB x _ out h1 ho)) (by simp only [ht]; exact hB _)
theorem parZ_txt (l : List POp) (z : ByteArray) : NodTx 200000 (parZ l z).1 := by
 have nil : NodTx 200000 ([] : List PNode) := fun i hi => by simp at hi
 unfold parZ
 split
 ·exact nil
 ·rename_i h0
  have h0 : tblOk l = 0 := Decidable.byContradiction h0
  split
  ·exact nil
  ·rename_i h1
   have h1 : z.size ≤ 20000 := Decidable.byContradiction h1
   have hok : lexOk l z = true := by simp [lexOk, h0, h1]
   obtain ⟨hq1, hq2⟩ := lexZ_texts (l := l) (z := z) (by omega)
   cases hb : badAt (lexZ l z) with
   | some i => rw [parK_bad hb]; exact nil
   | none =>
    rcases roles_two h0 (lexZ_ends hok) with ⟨hr, _⟩ | ⟨hr, _⟩
    ·have F := fits_of h0 hr
     cases hp : partT l (lexZ l z) with
     | none => rw [parK_none hb hr hp]; exact nil
     | some e =>
      obtain ⟨e1, e2, e3, e4, e5⟩ := partT_ok F hp
      by_cases he : highT e ≤ 1000
      ·rw [parK_ok hb hr hp he]
       have hs := F.seg
       rw [← e2] at hs
       refine seg_txt (fun j => ?_) e 0 [] hs nil
       by_cases hj : j < (lexZ l z).length
       ·have := tok_le hj
        unfold tokSize at this
        omega
       ·have : tokAt (lexZ l z) j = default := by unfold tokAt; rw [List.getD_eq_getElem?_getD, List.getElem?_eq_none (by omega)]; rfl
        rw [this]; decide
      ·rw [parK_high hb hr hp he]; exact nil
    ·rw [parK_roles hb hr]; exact nil
theorem parZ_wf (l : List POp) (z : ByteArray) : nodsWf (parZ l z).1 := fun i hi => by
 have := parZ_txt l z i hi
 unfold PNode.wf
 simp only [maxLen]
 omega
theorem out_count (st : Nat → Bool) : ∀ (e : PT) (g : Nat), (outE st e g).2 + sizeE (bare e) = g + sizeE e
 | .leaf b, g => rfl
 | .grp e, g => by have := out_count st e g; simp only [outE, bare, sizeE]; omega
 | .pre o e, g => by have := out_count st e g; simp only [outE, bare, sizeE]; omega
 | .post o e, g => by have := out_count st e g; simp only [outE, bare, sizeE]; omega
 | .inf o x y, g => by
  have := out_count st x g
  have := out_count st y (outE st x g).2
  simp only [outE, bare, sizeE]; omega
def isOpn : TkP → Bool
 | .opn => true
 | _ => false
theorem size_yield : ∀ e : PT, sizeE e = nW e.yield + e.yield.countP isOpn
 | .leaf b => rfl
 | .grp e => by
  have := size_yield e
  simp only [nW] at this
  simp [Tr.yield, nW, sizeE, List.countP_cons, List.countP_append, isWord, isOpn]; omega
 | .pre o e => by
  have := size_yield e
  simp only [nW] at this
  simp [Tr.yield, nW, sizeE, List.countP_cons, List.countP_append, isWord, isOpn]; omega
 | .post o e => by
  have := size_yield e
  simp only [nW] at this
  simp [Tr.yield, nW, sizeE, List.countP_cons, List.countP_append, isWord, isOpn]; omega
 | .inf o x y => by
  have := size_yield x
  have := size_yield y
  simp only [nW] at *
  simp [Tr.yield, nW, sizeE, List.countP_cons, List.countP_append, isWord, isOpn]; omega
theorem tks_yield {l : List POp} : ∀ {e : PT}, (∀ tk, tk ∈ e.yield → TkOk l tk) → TksOk l e
 | .leaf b, h => h _ (by simp [Tr.yield])
 | .grp e, h => tks_yield (e := e) fun tk ht => h tk (by simp [Tr.yield, ht])
 | .pre o e, h => ⟨h _ (by simp [Tr.yield]), tks_yield fun tk ht => h tk (by simp [Tr.yield, ht])⟩
 | .post o e, h => ⟨h _ (by simp [Tr.yield]), tks_yield fun tk ht => h tk (by simp [Tr.yield, ht])⟩
 | .inf o x y, h => ⟨h _ (by simp [Tr.yield]), tks_yield fun tk ht => h tk (by simp [Tr.yield, ht]), tks_yield fun tk ht => h tk (by simp [Tr.yield, ht])⟩
theorem tx_yield {B : Nat} : ∀ {e : PT}, (∀ tk, tk ∈ e.yield → (tkW tk).size ≤ B) → ETx B e
 | .leaf b, h => h (.leaf b) (by simp [Tr.yield])
 | .grp e, h => tx_yield (e := e) fun tk ht => h tk (by simp [Tr.yield, ht])
 | .pre o e, h => ⟨h (.pre o) (by simp [Tr.yield]), tx_yield fun tk ht => h tk (by simp [Tr.yield, ht])⟩
 | .post o e, h => ⟨h (.post o) (by simp [Tr.yield]), tx_yield fun tk ht => h tk (by simp [Tr.yield, ht])⟩
 | .inf o x y, h => ⟨h (.inf o) (by simp [Tr.yield]), tx_yield fun tk ht => h tk (by simp [Tr.yield, ht]), tx_yield fun tk ht => h tk (by simp [Tr.yield, ht])⟩
theorem yield_tx {B : Nat} (hB : 1 ≤ B) : ∀ {e : PT}, ETx B e → ∀ tk, tk ∈ e.yield → (tkW tk).size ≤ B
 | .leaf b, h, tk, hm => by simp only [Tr.yield, List.mem_singleton] at hm; subst hm; exact h
 | .grp e, h, tk, hm => by
  simp only [Tr.yield, List.mem_cons, List.mem_append, List.mem_nil_iff, or_false] at hm
  rcases hm with rfl | hm | rfl
  ·exact hB
  ·exact yield_tx hB (e := e) h tk hm
  ·exact hB
 | .pre o e, h, tk, hm => by
  simp only [Tr.yield, List.mem_cons] at hm
  rcases hm with rfl | hm
  ·exact h.1
  ·exact yield_tx hB h.2 tk hm
 | .post o e, h, tk, hm => by
  simp only [Tr.yield, List.mem_append, List.mem_singleton] at hm
  rcases hm with hm | rfl
  ·exact yield_tx hB h.2 tk hm
  ·exact h.1
 | .inf o x y, h, tk, hm => by
  simp only [Tr.yield, List.mem_cons, List.mem_append] at hm
  rcases hm with hm | rfl | hm
  ·exact yield_tx hB h.2.1 tk hm
  ·exact h.1
  ·exact yield_tx hB h.2.2 tk hm
theorem etx_le {B C : Nat} : ∀ {e : PT}, ETx B e → B ≤ C → ETx C e
 | .leaf b, h, hc => Nat.le_trans h hc
 | .grp e, h, hc => etx_le (e := e) h hc
 | .pre o e, h, hc => ⟨Nat.le_trans h.1 hc, etx_le h.2 hc⟩
 | .post o e, h, hc => ⟨Nat.le_trans h.1 hc, etx_le h.2 hc⟩
 | .inf o x y, h, hc => ⟨Nat.le_trans h.1 hc, etx_le h.2.1 hc, etx_le h.2.2 hc⟩
theorem stF_some (T : List PNode) (b : Nat → Bool) (h : 0 < (stR T b T.length).length) : ∃ i, i < (stR T b T.length).length ∧ blAt (stF T b) i = false := by
 unfold stF
 generalize stR T b T.length = S at *
 by_cases h0 : ouN S = 0
 ·rw [if_pos ⟨h0, h⟩]
  refine ⟨S.length - 1, by omega, ?_⟩
  simp [blAt, List.getD_eq_getElem?_getD, List.getElem?_set, show S.length - 1 < S.length by omega]
 ·rw [if_neg (fun q => h0 q.1)]
  have h1 : 0 < S.countP (· = false) := by unfold ouN at h0; omega
  obtain ⟨x, hx, hf⟩ := List.countP_pos_iff.1 h1
  obtain ⟨i, hi, rfl⟩ := List.getElem_of_mem hx
  refine ⟨i, hi, ?_⟩
  simp only [decide_eq_true_eq] at hf
  simp [blAt, List.getD_eq_getElem?_getD, hi, hf]
theorem minimal_facts {l : List POp} {T : List PNode} (hx : NodTx 17 T) (h : groupOk l T = true) (b : Nat → Bool) (hne : ¬ (groupZ l T).length = (erased T).length) :
  ∃ e : PT, WfTree l (woR (blAt (stF (groupZ l T) b)) (groupZ l T) (groupZ l T).length).nds e ∧ ETx 17 e ∧ sizeE e ≤ 20000 ∧ treeOk l (woR (blAt (stF (groupZ l T) b)) (groupZ l T) (groupZ l T).length).nds = 3 ∧
   ((parZ l (spcW (yieldW e) (yieldW e).length)).2.1 ≠ 0 ∨ nodsEq (erased (parZ l (spcW (yieldW e) (yieldW e).length)).1) (erased T) = false) := by
 obtain ⟨g1, g2, g3, g4, g5, g6, g7⟩ := group_facts h
 have hg := groupZ_tx (l := l) hx
 have hw : wellF l T = true := by simp only [groupOk, Bool.and_eq_true] at h; exact h.1
 obtain ⟨_, _, b3, _, b5, _⟩ := bare_facts hw
 have hbb := bare_bare (rootE l T)
 have hbi := InTab_bare b3
 have hge : groupE l T = grpd (bare (rootE l T)) 0 := rfl
 simp only [groupZ, if_pos h] at hg hne ⊢
 rw [b5, ← g6] at hne
 rw [b5, ← g6]
 generalize hE : groupE l T = g at *
 have hx' := (tx_layN g [] hg).1
 have hl1 := lay_len g []
 have hl2 := lay_len (bare g) []
 simp only [List.length_nil, Nat.zero_add] at hl1 hl2
 have hS := stF_some (lay g []) b
 have hwg := wo_g (blAt (stF (lay g []) b)) (lay g []) b (lay g []).length
 have hwa := wo_all (blAt (stF (lay g []) b)) g g2
 generalize stF (lay g []) b = Q at *
 generalize stR (lay g []) b (lay g []).length = S at *
 have hoc := out_count (blAt Q) g 0
 obtain ⟨i, hi, hf⟩ := hS (by omega)
 rw [hwa.1]
 have o1 := out_bare (blAt Q) g 0
 have o2 := out_inTab (blAt Q) g 0 g2
 have o3 := out_tks (blAt Q) g 0 g3
 have o4 := out_tx (blAt Q) g 0 hx'
 have o5 := out_size (blAt Q) g 0
 have hok := ok_of_ok g1
 have hlow : ∀ {e : PT}, InTab l e → 1 ≤ e.level lvO := fun he => Ops.level_low lvO (good_of_ok g1) ((inTab_facts he).2.2 hok)
 have hmin : ¬ (outE (blAt Q) g 0).1.Adm lvO := fun ha => by
  have hlv := hlow o2
  have hn : i < (outE (blAt Q) g 0).2 := by rw [← hwa.2, hwg]; exact hi
  rw [hge] at ha hn hlv
  have := out_min hok (blAt Q) hbb hbi 0 0 (by omega) ha (by omega) i (by omega) hn
  rw [hf] at this
  cases this
 generalize (outE (blAt Q) g 0).1 = e at *
 have hs : sizeE e ≤ 20000 := by omega
 have hwe := lay_wf g1 o2 o3 (etx_le o4 (by omega)) hs
 have W : WfTree l (lay e []) e := by
  have := wf_tree hwe
  rwa [lay_root o2] at this
 refine ⟨e, W, o4, hs, ?_, ?_⟩
 ·rcases treeOk_cases l (lay e []) with h1 | h1 | ⟨_, h1 | h1⟩
  ·simp only [treeOk] at h1
   rw [if_neg (by omega), hwe] at h1
   simp at h1
   split at h1 <;> omega
  ·simp only [treeOk] at h1
   rw [if_neg (by omega), hwe] at h1
   simp at h1
   split at h1 <;> omega
  ·rw [lay_root o2] at h1
   exact absurd h1.2 hmin
  ·exact h1.1
 ·by_cases hz : (spcW (yieldW e) (yieldW e).length).size ≤ 20000
  ·have R := W.spaced hz
   by_cases hc : (parZ l (spcW (yieldW e) (yieldW e).length)).2.1 = 0
   ·obtain ⟨e2, a1, a2, a3, a4, a5, _, a7⟩ := R.only g1 hc
    refine .inr ?_
    rw [a7]
    cases hq : nodsEq (erased (lay e2 [])) (lay (bare g) []) with
    | false => rfl
    | true =>
     have hq2 := nodsEq_eq hq
     have i2 := inTab_of (uniq_of_ok g1) a3 a5 a4
     have t2 : TksOk l e2 := tks_yield (by rw [a2]; exact tksOk_all o3)
     have x2 : ETx 17 e2 := tx_yield (by rw [a2]; exact yield_tx (by omega) o4)
     have s2 : sizeE e2 ≤ 20000 := by rw [size_yield, a2, ← size_yield]; exact hs
     have w2 := lay_wf g1 i2 t2 (etx_le x2 (by omega)) s2
     rw [(lay_erased w2 i2).2, ← o1] at hq2
     have hb := lay_inj (InTab_bare i2) (InTab_bare o2) hq2
     have := (bare_yield e2 e [] [] hb (by rw [a2])).1
     exact absurd (this ▸ a1) hmin
   ·exact .inl hc
  ·refine .inl ?_
   rw [parZ, if_neg (by omega), if_pos (by omega)]
   simp
end Go.Proofs.YtjdmmhcogmepaaaGreatDoor.V
namespace Go.Proofs.YtjdmmhcogmepaaaGreatDoor.V
open Go.RowKit
theorem yieldW_sz {B : Nat} (hB : 1 ≤ B) {l : List POp} {T : List PNode} {e : ET} (h : WfTree l T e) (hT : NodTx B T) (i : Nat) : (wdAt (yieldW e) i).text.size ≤ B := by
 have hx : TxB B e := lay_tx e [] fun n hn => nodTx_mem.1 hT n (by rw [h.lay]; exact hn)
 unfold wdAt
 rw [List.getD_eq_getElem?_getD]
 cases hw : (yieldW e)[i]? with
 | none => exact Nat.zero_le _
 | some w => exact yieldW_tx hB hx w (List.mem_of_getElem? hw)
set_option maxHeartbeats 4000000 in
set_option maxRecDepth 100000 in
theorem c_FnMinimal (N : Nat) (f : Nat → Nat) (hN : N ≤ maxLen) (hf : ∀ i, f i < 256) (M : Nat) (q : Nat → Nat) (hM : M ≤ maxLen) (hq : ∀ i, q i < 256) : VFun Tryz.prog 5 [.sl 1 N (rdCells f), .sl 1 M (rdCells q)] (fun av _ => av = .lit (.bool true)) := by
 have clf : ∀ (i : Nat) (c : AV), i < N → c ∈ rdCells f i → Closed c := fun i c _ h => rdClosed f i c h
 have clq : ∀ (i : Nat) (c : AV), i < M → c ∈ rdCells q i → Closed c := fun i c _ h => rdClosed q i c h
 have hN' : N ≤ 9223372036854775807 := by simpa [maxLen] using hN
 have hM' : M ≤ 9223372036854775807 := by simpa [maxLen] using hM
 have hO := drGrp_ok (N := N) hf
 have cd := c_DrawGroup N f hN' hf
 generalize drGrp N f = o at *
 have htx := hO.tx
 have hrow := hO.row
 have htab := hO.tab
 have htxt := hO.txt
 have hcut := hO.cut
 obtain ⟨L, R, cut, rd⟩ := o
 simp only [Over.tree] at htx hrow htab htxt hcut
 have clL : ∀ (i : Nat) (c : AV), i < L.length → c ∈ opCells L i → Closed c := fun i c _ h => opClosed L i c h
 have hwf : opsWf L := fun i hi => by show (opAt L i).wf; have := htxt _ (opAt_mem hi); simp only [POp.wf, maxLen]; omega
 cases cut with
 | none =>
  have hTL : R.length = R.length := rfl
  have hwn : nodsWf R := fun i hi => Nat.le_trans (htx i hi) (by simp [maxLen])
  have c1 := c_specGroup L (by omega) hwf R (by omega) hwn
  have c2 := c_Group L (by omega) hwf R (by omega) hwn
  have c3 := c_lwBare R (by omega) hwn
  have hpf := printed_facts (l := L) (nodTx_le htx (by omega : 17 ≤ 20000))
  have hmf := fun h b => minimal_facts (l := L) htx h b
  have hge : groupOk L R = false → groupZ L R = [] := fun h => by unfold groupZ; rw [if_neg (by rw [h]; simp)]
  have hgw : groupOk L R = true → wellF L R = true := fun h => by simp only [groupOk, Bool.and_eq_true] at h; exact h.1
  have hgl := groupZ_len2 L R
  have hgx := groupZ_tx (l := L) htx
  cases hG : groupOk L R with
  | false =>
   rw [hG, hge hG] at c1 c2
   refine vfun_start Tryz.func5 (by kernel_rfl) rfl (by simp [Tryz.ntmps5]) ?_; simp only [Tryz.ntmps5, Tryz.results5]; simp [go_sem]
   refine ⟨by omega, fun hbig => ⟨by omega, fun hbig2 => ?_⟩⟩
   refine vcall_use cd ?_ ?_
   ·simp [go_sem]
    exact argSl_refl (by omega) clf
   rintro av obs ⟨rfl, rfl⟩
   simp [go_sem, Over.treeA]
   refine vcall_use c1 ?_ ?_
   ·simp [go_sem]
    exact ⟨argSl_own rfl (by omega) clL, argSl_own rfl (by omega) (fun i c _ hc => nodClosed _ i c hc)⟩
   rintro av obs ⟨rfl, rfl⟩
   simp [go_sem]
   refine vcall_use cd ?_ ?_
   ·simp [go_sem]
    exact argSl_refl (by omega) clf
   rintro av obs ⟨rfl, rfl⟩
   simp [go_sem, Over.treeA]
   refine vcall_use c2 ?_ ?_
   ·simp [go_sem]
    exact ⟨argSl_own rfl (by omega) clL, argSl_own rfl (by omega) (fun i c _ hc => nodClosed _ i c hc)⟩
   rintro av obs ⟨rfl, rfl⟩
   simp [go_sem]
  | true =>
   obtain ⟨_, _, p3, p4, p5⟩ := hpf hG
   have hmf2 := hmf hG (bitOf M q)
   clear hmf hpf
   have W := wf_bare (hgw hG)
   have hle := W.len
   rw [hG] at c1 c2
   generalize groupZ L R = G at *
   have hwg : nodsWf G := fun i hi => Nat.le_trans (hgx i hi) (by simp [maxLen])
   have ct := c_specTreeOk L (by omega) hwf G (by omega) hwg
   have cb := c_lwBare G (by omega) hwg
   have hkid : ∀ i, i < G.length → (kidsN (nodAt G i).kind ≠ 0 → 0 ≤ (nodAt G i).a ∧ (nodAt G i).a < i) ∧ (kidsN (nodAt G i).kind = 2 → 0 ≤ (nodAt G i).b ∧ (nodAt G i).b < i) := fun i hi => (inOrd_kid p4 hi).2.2
   have cw := c_Without G (by omega) hkid M q hM' hq
   have hgen : (fun g => blAt (stF G (bitOf M q)) g) = blAt (stF G (bitOf M q)) := rfl
   rw [hgen] at cw
   generalize (woR (blAt (stF G (bitOf M q))) G G.length).nds = Z at *
   rw [p3] at ct
   rw [p5] at cb
   have cq := c_lwSameTree (erased R) (erased R) (by omega) (by omega)
   rw [nodsEq_refl] at cq
   have clG : ∀ (i : Nat) (c : AV), i < G.length → c ∈ nodCells G i → Closed c := fun i c _ h => nodClosed G i c h
   generalize erased R = E at *
   have clE : ∀ (i : Nat) (c : AV), i < E.length → c ∈ nodCells E i → Closed c := fun i c _ h => nodClosed E i c h
   have clZ : ∀ (i : Nat) (c : AV), i < Z.length → c ∈ nodCells Z i → Closed c := fun i c _ h => nodClosed Z i c h
   refine vfun_start Tryz.func5 (by kernel_rfl) rfl (by simp [Tryz.ntmps5]) ?_; simp only [Tryz.ntmps5, Tryz.results5]; simp [go_sem]
   refine ⟨by omega, fun hbig => ⟨by omega, fun hbig2 => ?_⟩⟩
   refine vcall_use cd ?_ ?_
   ·simp [go_sem]
    exact argSl_refl (by omega) clf
   rintro av obs ⟨rfl, rfl⟩
   simp [go_sem, Over.treeA]
   refine vcall_use c1 ?_ ?_
   ·simp [go_sem]
    exact ⟨argSl_own rfl (by omega) clL, argSl_own rfl (by omega) (fun i c _ hc => nodClosed _ i c hc)⟩
   rintro av obs ⟨rfl, rfl⟩
   simp [go_sem]
   refine vcall_use cd ?_ ?_
   ·simp [go_sem]
    exact argSl_refl (by omega) clf
   rintro av obs ⟨rfl, rfl⟩
   simp [go_sem, Over.treeA]
   refine vcall_use c2 ?_ ?_
   ·simp [go_sem]
    exact ⟨argSl_own rfl (by omega) clL, argSl_own rfl (by omega) (fun i c _ hc => nodClosed _ i c hc)⟩
   rintro av obs ⟨rfl, rfl⟩
   simp [go_sem]
   refine vcall_use c3 ?_ ?_
   ·simp [go_sem]
    exact argSl_own rfl (by omega) (fun i c _ hc => nodClosed _ i c hc)
   rintro av obs ⟨rfl, rfl⟩
   simp [go_sem]
   refine vc_drawn [] (.q 0 <| .q 1 <| .or 2 (.q 3 <| .q 4 <| .q 5 <| .q 7 <| .or 6 (.or 8 (.q 9 <| .q 10 <| .done) (.nil)) (.nil)) (.nil)) (by kernel_rfl) ?_
   simp [go_sem]
   refine vcallV_pure ct ?_ ?_
   ·simp [go_sem]
    exact ⟨argSl_own rfl (by omega) clL, argSl_own rfl (by omega) clG⟩
   simp [go_sem]
   refine vcallV_use cb ?_ ?_
   ·simp [go_sem]
    exact argSl_own rfl (by omega) clG
   rintro av obs ⟨rfl, rfl⟩
   simp [go_sem]
   refine vcallV_pure cq ?_ ?_
   ·simp [go_sem]
    exact ⟨argSl_own rfl (by omega) clE, argSl_own rfl (by omega) clE⟩
   simp [go_sem]
   refine ⟨by omega, by omega, fun hne => ?_⟩
   obtain ⟨e, W2, x2, s2, tk3, par⟩ := hmf2 (by omega)
   have hle2 := W2.len
   have htz : NodTx 17 Z := by rw [W2.lay]; exact lay_txN e [] x2 (nodTx_nil _)
   have hwz : nodsWf Z := fun i hi => Nat.le_trans (htz i hi) (by simp [maxLen])
   have ct3 := c_TreeOk L (by omega) hwf Z (by omega) hwz
   rw [tk3] at ct3
   have hyz := yieldW_sz (B := 17) (by omega) W2 htz
   have cy := c_YieldText (l := L) e W2.inT (by rw [← W2.lay]; omega) (fun i => by have := hyz i; omega)
   rw [← W2.lay] at cy
   have hzl : (spcW (yieldW e) (yieldW e).length).size ≤ 1048576 := by
    have h1 := spcW_size hyz (yieldW e).length
    have h2 := yieldW_len e
    have h4 : (yieldW e).length * (17 + 1) ≤ 40000 * 18 := Nat.mul_le_mul (by omega) (by omega)
    omega
   generalize spcW (yieldW e) (yieldW e).length = z at *
   have cp := c_Parse L (by omega) hwf z (by omega)
   have hpl := parZ_len L z
   have hpw := parZ_wf L z
   generalize parZ L z = p at *
   have cb2 := c_lwBare p.1 (by omega) hpw
   have hel : (erased p.1).length ≤ 300000 := by
    unfold erased
    split
    ·exact Nat.le_trans (erT_len _ _) hpl
    ·simp
   have clp : ∀ (i : Nat) (c : AV), i < p.1.length → c ∈ nodCells p.1 i → Closed c := fun i c _ h => nodClosed p.1 i c h
   have cq2 := c_lwSameTree (erased p.1) E (by omega) (by omega)
   have clep : ∀ (i : Nat) (c : AV), i < (erased p.1).length → c ∈ nodCells (erased p.1) i → Closed c := fun i c _ h => nodClosed _ i c h
   refine vcall_use cw ?_ ?_
   ·simp [go_sem]
    exact ⟨argSl_own rfl (by omega) clG, argSl_refl (by omega) clq⟩
   rintro av obs ⟨rfl, rfl⟩
   simp [go_sem]
   refine vcall_pure ct3 ?_ ?_
   ·simp [go_sem]
    exact ⟨argSl_own rfl (by omega) clL, argSl_own rfl (by omega) clZ⟩
   simp [go_sem]
   refine vc_drawnE ((.of [(13, .ptr 0 1 0 0), (15, .ptr 1 1 0 0), (16, .lit (.int .i64 p.2.1))] [some ⟨37, 1, 1, fun _ => [.own 2]⟩, some ⟨37, 1, 1, fun _ => [.own 3]⟩, some ⟨77, 4, E.length, nodCells E⟩, some ⟨77, 4, p.1.length, nodCells p.1⟩])) [9,2,3] (.q 1 <| .or 0 (.or 2 (.or 3 (.q 4 <| .q 5 <| .q 6 <| .q 7 <| .or 8 (.or 9 (.q 10 <| .q 11 <| .done) (.nil)) (.nil)) (.or 8 (.or 3 (.q 4 <| .q 5 <| .q 6 <| .q 7 <| .or 9 (.q 10 <| .q 11 <| .done) (.nil)) (.nil)) (.nil))) (.or 8 (.or 2 (.or 3 (.q 4 <| .q 5 <| .q 6 <| .q 7 <| .or 9 (.q 10 <| .q 11 <| .done) (.nil)) (.nil)) (.nil)) (.nil))) (.or 2 (.q 0 <| .or 3 (.q 4 <| .q 5 <| .q 6 <| .q 7 <| .or 8 (.or 9 (.q 10 <| .q 11 <| .done) (.nil)) (.nil)) (.or 8 (.or 3 (.q 4 <| .q 5 <| .q 6 <| .q 7 <| .or 9 (.q 10 <| .q 11 <| .done) (.nil)) (.nil)) (.nil))) (.or 8 (.or 0 (.or 2 (.or 3 (.q 4 <| .q 5 <| .q 6 <| .q 7 <| .or 9 (.q 10 <| .q 11 <| .done) (.nil)) (.nil)) (.nil)) (.or 2 (.q 0 <| .or 3 (.q 4 <| .q 5 <| .q 6 <| .q 7 <| .or 9 (.q 10 <| .q 11 <| .done) (.nil)) (.nil)) (.nil))) (.nil)))) (by kernel_rfl) ?_ ?_
   ·simp [go_sem]
    refine ⟨?_, ?_, ?_⟩
    ·refine ⟨?_, ?_⟩
     ·refine vcall_pure cy ?_ ?_
      ·simp [go_sem]
       exact argSl_own rfl (by omega) clZ
      simp [go_sem]
      refine ⟨?_, ?_⟩
      ·refine vcall_use cp ?_ ?_
       ·simp [go_sem]
        exact argSl_own rfl (by omega) clL
       rintro av obs ⟨rfl, rfl⟩
       simp [go_sem]
       refine ent_ks [13, 18, 12, 17] (by simp) (by simp) (by simp) (by simp) trivial ?_ ?_
       ·simp [go_sem]
       ·simp [go_sem]
        exact ⟨.inl fun j hj c hc => clE j c hj hc, .inl fun j hj c hc => clp j c hj hc⟩
      ·refine vcall_use cp ?_ ?_
       ·simp [go_sem]
        exact argSl_own rfl (by omega) clL
       rintro av obs ⟨rfl, rfl⟩
       simp [go_sem]
       refine ent_ks [13, 17, 12, 18] (by simp) (by simp) (by simp) (by simp) trivial ?_ ?_
       ·simp [go_sem]
       ·simp [go_sem]
        exact ⟨.inl fun j hj c hc => clE j c hj hc, .inl fun j hj c hc => clp j c hj hc⟩
     ·refine vcall_pure cy ?_ ?_
      ·simp [go_sem]
       exact argSl_own rfl (by omega) clZ
      simp [go_sem]
      refine vcall_use cp ?_ ?_
      ·simp [go_sem]
       exact argSl_own rfl (by omega) clL
      rintro av obs ⟨rfl, rfl⟩
      simp [go_sem]
      refine ent_ks [13, 17, 12, 18] (by simp) (by simp) (by simp) (by simp) trivial ?_ ?_
      ·simp [go_sem]
      ·simp [go_sem]
       exact ⟨.inl fun j hj c hc => clE j c hj hc, .inl fun j hj c hc => clp j c hj hc⟩
    ·refine vcall_pure cy ?_ ?_
     ·simp [go_sem]
      exact argSl_own rfl (by omega) clZ
     simp [go_sem]
     refine ⟨?_, ?_⟩
     ·refine vcall_use cp ?_ ?_
      ·simp [go_sem]
       exact argSl_own rfl (by omega) clL
      rintro av obs ⟨rfl, rfl⟩
      simp [go_sem]
      refine ent_ks [13, 18, 12, 17] (by simp) (by simp) (by simp) (by simp) trivial ?_ ?_
      ·simp [go_sem]
      ·simp [go_sem]
       exact ⟨.inl fun j hj c hc => clE j c hj hc, .inl fun j hj c hc => clp j c hj hc⟩
     ·refine vcall_use cp ?_ ?_
      ·simp [go_sem]
       exact argSl_own rfl (by omega) clL
      rintro av obs ⟨rfl, rfl⟩
      simp [go_sem]
      refine ent_ks [13, 17, 12, 18] (by simp) (by simp) (by simp) (by simp) trivial ?_ ?_
      ·simp [go_sem]
      ·simp [go_sem]
       exact ⟨.inl fun j hj c hc => clE j c hj hc, .inl fun j hj c hc => clp j c hj hc⟩
    ·refine ⟨?_, ?_⟩
     ·refine vcall_pure cy ?_ ?_
      ·simp [go_sem]
       exact argSl_own rfl (by omega) clZ
      simp [go_sem]
      refine vcall_use cp ?_ ?_
      ·simp [go_sem]
       exact argSl_own rfl (by omega) clL
      rintro av obs ⟨rfl, rfl⟩
      simp [go_sem]
      refine ent_ks [13, 17, 12, 18] (by simp) (by simp) (by simp) (by simp) trivial ?_ ?_
      ·simp [go_sem]
      ·simp [go_sem]
       exact ⟨.inl fun j hj c hc => clE j c hj hc, .inl fun j hj c hc => clp j c hj hc⟩
     ·refine vcall_pure cy ?_ ?_
      ·simp [go_sem]
       exact argSl_own rfl (by omega) clZ
      simp [go_sem]
      refine vcall_use cp ?_ ?_
      ·simp [go_sem]
       exact argSl_own rfl (by omega) clL
      rintro av obs ⟨rfl, rfl⟩
      simp [go_sem]
      refine ent_ks [13, 17, 12, 18] (by simp) (by simp) (by simp) (by simp) trivial ?_ ?_
      ·simp [go_sem]
      ·simp [go_sem]
       exact ⟨.inl fun j hj c hc => clE j c hj hc, .inl fun j hj c hc => clp j c hj hc⟩
   ·simp [go_sem]
    refine vc_drawn [] (.q 0 <| .q 1 <| .q 2 <| .q 3 <| .q 5 <| .or 4 (.or 6 (.q 7 <| .q 8 <| .q 9 <| .done) (.nil)) (.nil)) (by kernel_rfl) ?_
    simp [go_sem]
    intro hc
    have hfalse : nodsEq (erased p.1) E = false := by
     rcases par with h | h
     ·exact absurd hc h
     ·exact h
    rw [hfalse] at cq2
    refine vcallV_use cb2 ?_ ?_
    ·simp [go_sem]
     exact argSl_own rfl (by omega) clp
    rintro av obs ⟨rfl, rfl⟩
    simp [go_sem]
    refine vcallV_pure cq2 ?_ ?_
    ·simp [go_sem]
     exact ⟨argSl_own rfl (by omega) clep, argSl_own rfl (by omega) clE⟩
    simp [go_sem]
 | some n =>
  have hn := hcut n rfl
  have hTL : (R.take n).length = n := by simp; omega
  have hwn : nodsWf (R.take n) := fun i hi => Nat.le_trans (htx i hi) (by simp [maxLen])
  have c1 := c_specGroup L (by omega) hwf (R.take n) (by omega) hwn
  have c2 := c_Group L (by omega) hwf (R.take n) (by omega) hwn
  have c3 := c_lwBare (R.take n) (by omega) hwn
  have hpf := printed_facts (l := L) (nodTx_le htx (by omega : 17 ≤ 20000))
  have hmf := fun h b => minimal_facts (l := L) htx h b
  have hge : groupOk L (R.take n) = false → groupZ L (R.take n) = [] := fun h => by unfold groupZ; rw [if_neg (by rw [h]; simp)]
  have hgw : groupOk L (R.take n) = true → wellF L (R.take n) = true := fun h => by simp only [groupOk, Bool.and_eq_true] at h; exact h.1
  have hgl := groupZ_len2 L (R.take n)
  have hgx := groupZ_tx (l := L) htx
  rw [hTL] at c1 c2 c3
  cases hG : groupOk L (R.take n) with
  | false =>
   rw [hG, hge hG] at c1 c2
   refine vfun_start Tryz.func5 (by kernel_rfl) rfl (by simp [Tryz.ntmps5]) ?_; simp only [Tryz.ntmps5, Tryz.results5]; simp [go_sem]
   refine ⟨by omega, fun hbig => ⟨by omega, fun hbig2 => ?_⟩⟩
   refine vcall_use cd ?_ ?_
   ·simp [go_sem]
    exact argSl_refl (by omega) clf
   rintro av obs ⟨rfl, rfl⟩
   simp [go_sem, Over.treeA]
   refine vcall_use c1 ?_ ?_
   ·simp [go_sem]
    exact ⟨argSl_own rfl (by omega) clL, argSl_sub rfl (by omega) (by omega) fun i hi => ⟨by rw [Nat.zero_add, nodCells_take hi], fun c hc => nodClosed _ i c hc⟩⟩
   rintro av obs ⟨rfl, rfl⟩
   simp [go_sem]
   refine vcall_use cd ?_ ?_
   ·simp [go_sem]
    exact argSl_refl (by omega) clf
   rintro av obs ⟨rfl, rfl⟩
   simp [go_sem, Over.treeA]
   refine vcall_use c2 ?_ ?_
   ·simp [go_sem]
    exact ⟨argSl_own rfl (by omega) clL, argSl_sub rfl (by omega) (by omega) fun i hi => ⟨by rw [Nat.zero_add, nodCells_take hi], fun c hc => nodClosed _ i c hc⟩⟩
   rintro av obs ⟨rfl, rfl⟩
   simp [go_sem]
  | true =>
   obtain ⟨_, _, p3, p4, p5⟩ := hpf hG
   have hmf2 := hmf hG (bitOf M q)
   clear hmf hpf
   have W := wf_bare (hgw hG)
   have hle := W.len
   rw [hG] at c1 c2
   generalize groupZ L (R.take n) = G at *
   have hwg : nodsWf G := fun i hi => Nat.le_trans (hgx i hi) (by simp [maxLen])
   have ct := c_specTreeOk L (by omega) hwf G (by omega) hwg
   have cb := c_lwBare G (by omega) hwg
   have hkid : ∀ i, i < G.length → (kidsN (nodAt G i).kind ≠ 0 → 0 ≤ (nodAt G i).a ∧ (nodAt G i).a < i) ∧ (kidsN (nodAt G i).kind = 2 → 0 ≤ (nodAt G i).b ∧ (nodAt G i).b < i) := fun i hi => (inOrd_kid p4 hi).2.2
   have cw := c_Without G (by omega) hkid M q hM' hq
   have hgen : (fun g => blAt (stF G (bitOf M q)) g) = blAt (stF G (bitOf M q)) := rfl
   rw [hgen] at cw
   generalize (woR (blAt (stF G (bitOf M q))) G G.length).nds = Z at *
   rw [p3] at ct
   rw [p5] at cb
   have cq := c_lwSameTree (erased (R.take n)) (erased (R.take n)) (by omega) (by omega)
   rw [nodsEq_refl] at cq
   have clG : ∀ (i : Nat) (c : AV), i < G.length → c ∈ nodCells G i → Closed c := fun i c _ h => nodClosed G i c h
   generalize erased (R.take n) = E at *
   have clE : ∀ (i : Nat) (c : AV), i < E.length → c ∈ nodCells E i → Closed c := fun i c _ h => nodClosed E i c h
   have clZ : ∀ (i : Nat) (c : AV), i < Z.length → c ∈ nodCells Z i → Closed c := fun i c _ h => nodClosed Z i c h
   refine vfun_start Tryz.func5 (by kernel_rfl) rfl (by simp [Tryz.ntmps5]) ?_; simp only [Tryz.ntmps5, Tryz.results5]; simp [go_sem]
   refine ⟨by omega, fun hbig => ⟨by omega, fun hbig2 => ?_⟩⟩
   refine vcall_use cd ?_ ?_
   ·simp [go_sem]
    exact argSl_refl (by omega) clf
   rintro av obs ⟨rfl, rfl⟩
   simp [go_sem, Over.treeA]
   refine vcall_use c1 ?_ ?_
   ·simp [go_sem]
    exact ⟨argSl_own rfl (by omega) clL, argSl_sub rfl (by omega) (by omega) fun i hi => ⟨by rw [Nat.zero_add, nodCells_take hi], fun c hc => nodClosed _ i c hc⟩⟩
   rintro av obs ⟨rfl, rfl⟩
   simp [go_sem]
   refine vcall_use cd ?_ ?_
   ·simp [go_sem]
    exact argSl_refl (by omega) clf
   rintro av obs ⟨rfl, rfl⟩
   simp [go_sem, Over.treeA]
   refine vcall_use c2 ?_ ?_
   ·simp [go_sem]
    exact ⟨argSl_own rfl (by omega) clL, argSl_sub rfl (by omega) (by omega) fun i hi => ⟨by rw [Nat.zero_add, nodCells_take hi], fun c hc => nodClosed _ i c hc⟩⟩
   rintro av obs ⟨rfl, rfl⟩
   simp [go_sem]
   refine vcall_use c3 ?_ ?_
   ·simp [go_sem]
    exact argSl_sub rfl (by omega) (by omega) fun i hi => ⟨by rw [Nat.zero_add, nodCells_take hi], fun c hc => nodClosed _ i c hc⟩
   rintro av obs ⟨rfl, rfl⟩
   simp [go_sem]
   refine vc_drawn [] (.q 0 <| .q 1 <| .or 2 (.q 3 <| .q 4 <| .q 5 <| .q 7 <| .or 6 (.or 8 (.q 9 <| .q 10 <| .done) (.nil)) (.nil)) (.nil)) (by kernel_rfl) ?_
   simp [go_sem]
   refine vcallV_pure ct ?_ ?_
   ·simp [go_sem]
    exact ⟨argSl_own rfl (by omega) clL, argSl_own rfl (by omega) clG⟩
   simp [go_sem]
   refine vcallV_use cb ?_ ?_
   ·simp [go_sem]
    exact argSl_own rfl (by omega) clG
   rintro av obs ⟨rfl, rfl⟩
   simp [go_sem]
   refine vcallV_pure cq ?_ ?_
   ·simp [go_sem]
    exact ⟨argSl_own rfl (by omega) clE, argSl_own rfl (by omega) clE⟩
   simp [go_sem]
   refine ⟨by omega, by omega, fun hne => ?_⟩
   obtain ⟨e, W2, x2, s2, tk3, par⟩ := hmf2 (by omega)
   have hle2 := W2.len
   have htz : NodTx 17 Z := by rw [W2.lay]; exact lay_txN e [] x2 (nodTx_nil _)
   have hwz : nodsWf Z := fun i hi => Nat.le_trans (htz i hi) (by simp [maxLen])
   have ct3 := c_TreeOk L (by omega) hwf Z (by omega) hwz
   rw [tk3] at ct3
   have hyz := yieldW_sz (B := 17) (by omega) W2 htz
   have cy := c_YieldText (l := L) e W2.inT (by rw [← W2.lay]; omega) (fun i => by have := hyz i; omega)
   rw [← W2.lay] at cy
   have hzl : (spcW (yieldW e) (yieldW e).length).size ≤ 1048576 := by
    have h1 := spcW_size hyz (yieldW e).length
    have h2 := yieldW_len e
    have h4 : (yieldW e).length * (17 + 1) ≤ 40000 * 18 := Nat.mul_le_mul (by omega) (by omega)
    omega
   generalize spcW (yieldW e) (yieldW e).length = z at *
   have cp := c_Parse L (by omega) hwf z (by omega)
   have hpl := parZ_len L z
   have hpw := parZ_wf L z
   generalize parZ L z = p at *
   have cb2 := c_lwBare p.1 (by omega) hpw
   have hel : (erased p.1).length ≤ 300000 := by
    unfold erased
    split
    ·exact Nat.le_trans (erT_len _ _) hpl
    ·simp
   have clp : ∀ (i : Nat) (c : AV), i < p.1.length → c ∈ nodCells p.1 i → Closed c := fun i c _ h => nodClosed p.1 i c h
   have cq2 := c_lwSameTree (erased p.1) E (by omega) (by omega)
   have clep : ∀ (i : Nat) (c : AV), i < (erased p.1).length → c ∈ nodCells (erased p.1) i → Closed c := fun i c _ h => nodClosed _ i c h
   refine vcall_use cw ?_ ?_
   ·simp [go_sem]
    exact ⟨argSl_own rfl (by omega) clG, argSl_refl (by omega) clq⟩
   rintro av obs ⟨rfl, rfl⟩
   simp [go_sem]
   refine vcall_pure ct3 ?_ ?_
   ·simp [go_sem]
    exact ⟨argSl_own rfl (by omega) clL, argSl_own rfl (by omega) clZ⟩
   simp [go_sem]
   refine vc_drawnE ((.of [(13, .ptr 0 1 0 0), (15, .ptr 1 1 0 0), (16, .lit (.int .i64 p.2.1))] [some ⟨37, 1, 1, fun _ => [.own 2]⟩, some ⟨37, 1, 1, fun _ => [.own 3]⟩, some ⟨77, 4, E.length, nodCells E⟩, some ⟨77, 4, p.1.length, nodCells p.1⟩])) [9,2,3] (.q 1 <| .or 0 (.or 2 (.or 3 (.q 4 <| .q 5 <| .q 6 <| .q 7 <| .or 8 (.or 9 (.q 10 <| .q 11 <| .done) (.nil)) (.nil)) (.or 8 (.or 3 (.q 4 <| .q 5 <| .q 6 <| .q 7 <| .or 9 (.q 10 <| .q 11 <| .done) (.nil)) (.nil)) (.nil))) (.or 8 (.or 2 (.or 3 (.q 4 <| .q 5 <| .q 6 <| .q 7 <| .or 9 (.q 10 <| .q 11 <| .done) (.nil)) (.nil)) (.nil)) (.nil))) (.or 2 (.q 0 <| .or 3 (.q 4 <| .q 5 <| .q 6 <| .q 7 <| .or 8 (.or 9 (.q 10 <| .q 11 <| .done) (.nil)) (.nil)) (.or 8 (.or 3 (.q 4 <| .q 5 <| .q 6 <| .q 7 <| .or 9 (.q 10 <| .q 11 <| .done) (.nil)) (.nil)) (.nil))) (.or 8 (.or 0 (.or 2 (.or 3 (.q 4 <| .q 5 <| .q 6 <| .q 7 <| .or 9 (.q 10 <| .q 11 <| .done) (.nil)) (.nil)) (.nil)) (.or 2 (.q 0 <| .or 3 (.q 4 <| .q 5 <| .q 6 <| .q 7 <| .or 9 (.q 10 <| .q 11 <| .done) (.nil)) (.nil)) (.nil))) (.nil)))) (by kernel_rfl) ?_ ?_
   ·simp [go_sem]
    refine ⟨?_, ?_, ?_⟩
    ·refine ⟨?_, ?_⟩
     ·refine vcall_pure cy ?_ ?_
      ·simp [go_sem]
       exact argSl_own rfl (by omega) clZ
      simp [go_sem]
      refine ⟨?_, ?_⟩
      ·refine vcall_use cp ?_ ?_
       ·simp [go_sem]
        exact argSl_own rfl (by omega) clL
       rintro av obs ⟨rfl, rfl⟩
       simp [go_sem]
       refine ent_ks [13, 18, 12, 17] (by simp) (by simp) (by simp) (by simp) trivial ?_ ?_
       ·simp [go_sem]
       ·simp [go_sem]
        exact ⟨.inl fun j hj c hc => clE j c hj hc, .inl fun j hj c hc => clp j c hj hc⟩
      ·refine vcall_use cp ?_ ?_
       ·simp [go_sem]
        exact argSl_own rfl (by omega) clL
       rintro av obs ⟨rfl, rfl⟩
       simp [go_sem]
       refine ent_ks [13, 17, 12, 18] (by simp) (by simp) (by simp) (by simp) trivial ?_ ?_
       ·simp [go_sem]
       ·simp [go_sem]
        exact ⟨.inl fun j hj c hc => clE j c hj hc, .inl fun j hj c hc => clp j c hj hc⟩
     ·refine vcall_pure cy ?_ ?_
      ·simp [go_sem]
       exact argSl_own rfl (by omega) clZ
      simp [go_sem]
      refine vcall_use cp ?_ ?_
      ·simp [go_sem]
       exact argSl_own rfl (by omega) clL
      rintro av obs ⟨rfl, rfl⟩
      simp [go_sem]
      refine ent_ks [13, 17, 12, 18] (by simp) (by simp) (by simp) (by simp) trivial ?_ ?_
      ·simp [go_sem]
      ·simp [go_sem]
       exact ⟨.inl fun j hj c hc => clE j c hj hc, .inl fun j hj c hc => clp j c hj hc⟩
    ·refine vcall_pure cy ?_ ?_
     ·simp [go_sem]
      exact argSl_own rfl (by omega) clZ
     simp [go_sem]
     refine ⟨?_, ?_⟩
     ·refine vcall_use cp ?_ ?_
      ·simp [go_sem]
       exact argSl_own rfl (by omega) clL
      rintro av obs ⟨rfl, rfl⟩
      simp [go_sem]
      refine ent_ks [13, 18, 12, 17] (by simp) (by simp) (by simp) (by simp) trivial ?_ ?_
      ·simp [go_sem]
      ·simp [go_sem]
       exact ⟨.inl fun j hj c hc => clE j c hj hc, .inl fun j hj c hc => clp j c hj hc⟩
     ·refine vcall_use cp ?_ ?_
      ·simp [go_sem]
       exact argSl_own rfl (by omega) clL
      rintro av obs ⟨rfl, rfl⟩
      simp [go_sem]
      refine ent_ks [13, 17, 12, 18] (by simp) (by simp) (by simp) (by simp) trivial ?_ ?_
      ·simp [go_sem]
      ·simp [go_sem]
       exact ⟨.inl fun j hj c hc => clE j c hj hc, .inl fun j hj c hc => clp j c hj hc⟩
    ·refine ⟨?_, ?_⟩
     ·refine vcall_pure cy ?_ ?_
      ·simp [go_sem]
       exact argSl_own rfl (by omega) clZ
      simp [go_sem]
      refine vcall_use cp ?_ ?_
      ·simp [go_sem]
       exact argSl_own rfl (by omega) clL
      rintro av obs ⟨rfl, rfl⟩
      simp [go_sem]
      refine ent_ks [13, 17, 12, 18] (by simp) (by simp) (by simp) (by simp) trivial ?_ ?_
      ·simp [go_sem]
      ·simp [go_sem]
       exact ⟨.inl fun j hj c hc => clE j c hj hc, .inl fun j hj c hc => clp j c hj hc⟩
     ·refine vcall_pure cy ?_ ?_
      ·simp [go_sem]
       exact argSl_own rfl (by omega) clZ
      simp [go_sem]
      refine vcall_use cp ?_ ?_
      ·simp [go_sem]
       exact argSl_own rfl (by omega) clL
      rintro av obs ⟨rfl, rfl⟩
      simp [go_sem]
      refine ent_ks [13, 17, 12, 18] (by simp) (by simp) (by simp) (by simp) trivial ?_ ?_
      ·simp [go_sem]
      ·simp [go_sem]
       exact ⟨.inl fun j hj c hc => clE j c hj hc, .inl fun j hj c hc => clp j c hj hc⟩
   ·simp [go_sem]
    refine vc_drawn [] (.q 0 <| .q 1 <| .q 2 <| .q 3 <| .q 5 <| .or 4 (.or 6 (.q 7 <| .q 8 <| .q 9 <| .done) (.nil)) (.nil)) (by kernel_rfl) ?_
    simp [go_sem]
    intro hc
    have hfalse : nodsEq (erased p.1) E = false := by
     rcases par with h | h
     ·exact absurd hc h
     ·exact h
    rw [hfalse] at cq2
    refine vcallV_use cb2 ?_ ?_
    ·simp [go_sem]
     exact argSl_own rfl (by omega) clp
    rintro av obs ⟨rfl, rfl⟩
    simp [go_sem]
    refine vcallV_pure cq2 ?_ ?_
    ·simp [go_sem]
     exact ⟨argSl_own rfl (by omega) clep, argSl_own rfl (by omega) clE⟩
    simp [go_sem]
set_option maxRecDepth 100000 in
theorem shape_bytes (n : Nat) (xs : List AV) (h : Shape Tryz.prog (n + 2) 34 xs) : ∃ (m : Nat) (g : Nat → Nat), m ≤ maxLen ∧ (∀ i, g i < 256) ∧ ∃ f, xs = [.sl 1 m f] ∧ ∀ i, i < m → f i = rdCells g i := by
 obtain ⟨m, f, rfl, hm, hf⟩ := shape_slice Tryz.underlying34 h
 have each : ∀ i, i < m → ∃ b : Nat, b < 256 ∧ f i = [.lit (.int .u8 b)] := by
  intro i hi
  obtain ⟨b, e, hb⟩ := shape_int Tryz.underlying5 (hf i hi).2
  have h8 : IntKind.u8.bits = 8 := rfl
  simp [Lit.wf, IntKind.min, IntKind.max, IntKind.signed, h8] at hb
  refine ⟨b.toNat, by omega, ?_⟩
  rw [e, Int.toNat_of_nonneg (by omega)]
 refine ⟨m, fun i => if h : i < m then (each i h).choose else 0, hm, fun i => ?_, f, rfl, fun i hi => ?_⟩
 ·by_cases h : i < m
  ·simp only [dif_pos h]; exact (each i h).choose_spec.1
  ·simp only [dif_neg h]; omega
 ·simp only [rdCells, dif_pos hi]
  exact (each i hi).choose_spec.2
end Go.Proofs.YtjdmmhcogmepaaaGreatDoor.V
