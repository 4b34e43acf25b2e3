import Derived.Test.YtadghlfkddkelaaGreatDoorLC
import Derived.Test.YtadghlfkddkelaaGreatDoorCards
import Derived.Test.YtadghlfkddkelaaGreatDoorTie
import Derived.Test.YtadghlfkddkelaaGreatDoorLB
import Derived.LaidMore
import Derived.Lay
import Derived.SevenTiedAt
import Derived.Stop.Joined
import Derived.HandedShaped
import Derived.Lib.LaidTab
import Derived.LaidSub
set_option linter.unusedVariables false
set_option linter.unusedSimpArgs false
set_option linter.constructorNameAsVariable false
namespace Go.Proofs.YtadghlfkddkelaaGreatDoor.V
open Go.RowKit
theorem Ent.asSub {s : VS} (t : Nat) {k : Nat} {ob : Ob} (hk : s.mem[k]? = some (some ob)) (ht : lk s.tmps t = .own k) : Ent s { s with tmps := (t, .sub k ob.sz 0 ob.n) :: s.tmps } := by
 intro n base w0 hd a w h
 refine ⟨hd, h.defers, h.size, h.below, h.le, h.fixl, h.fix, h.mp, fun u => ?_, h.me⟩
 simp only [lk]
 split
 ·rename_i e; subst e
  have := h.tm t
  rw [ht] at this
  generalize a.tmps.getD t undef = v at this
  cases this with
  | own _ hlt =>
   obtain ⟨hs, vals, ho, _⟩ := h.me.obs k ob hk
   rcases ho.2 with ⟨e, h0⟩ | ⟨g, cap, cur, e, _, h1, _⟩
   ·rw [e, h0]
    exact .sub _ _ _ _ _ _ hlt (Nat.le_refl _) fun hp => absurd hp (Nat.lt_irrefl 0)
   ·rw [e]
    exact .sub _ _ _ _ _ _ hlt h1 fun _ => ⟨g, ob.n, cap, e, by rw [Nat.zero_mul], by omega⟩
 ·exact h.tm u
theorem VProc.fewMaps {P : Program} {f : FuncId} {args : List AV} {mem0 : List (Option Ob)} {maps0 : List (Nat × Mp)} {R R' : AV → List (Option Ob) → List (Nat × Mp) → Prop} (h : VProc P f args mem0 maps0 R)
  (hr : ∀ av mem maps, R av mem maps → ∃ maps', (∀ b mp, lkm maps' b = some mp → lkm maps b = some mp) ∧ (∀ b, (lkm maps0 b).isSome = true → (lkm maps' b).isSome = true) ∧ R' av mem maps') : VProc P f args mem0 maps0 R' :=
 ⟨h.1, fun w vs hd0 hl hv hm hmp ht => (h.2 w vs hd0 hl hv hm hmp ht).mono fun e w' ⟨v, e1, g, hd, av, mem, maps, r, po, hx, me, mp, rp⟩ => by
  obtain ⟨maps', h1, h2, r'⟩ := hr av mem maps r
  exact ⟨v, e1, g, hd, av, mem, maps', r', ⟨po.len, po.flat, po.cells, h2⟩, hx, me, fun b m hb => mp b m (h1 b m hb), rp⟩⟩
noncomputable def addEsS (es : List (Value × Value)) (x : ByteArray) : List (Value × Value) := if (mget es (.string x)).isSome then es else mput es (.string x) (.int .i64 es.length)
theorem c_addS (b : Nat) (es : List (Value × Value)) (x : ByteArray) (hx : x.size ≤ maxLen) : VProc Tryz.prog 92 [.lit (.map (some b)), .lit (.string x)] [] [(b, ⟨9, es⟩)] (fun av mem maps => av = .lit (.bool !(mget es (.string x)).isSome) ∧ mem = [] ∧ maps = [(b, ⟨9, addEsS es x⟩)]) := by
 have hk := keyString hx
 refine vproc_start Tryz.func92 (by kernel_rfl) rfl (by simp [Tryz.ntmps92]) ?_; simp only [Tryz.ntmps92, Tryz.results92]; simp [go_sem]
 refine vlookK_use keyedString hk _ zeroInt ?_
 cases hm : mget es (.string x) with
 | some v =>
  simp [go_sem]
  exact uF [] [] (hR := by simp [go_sem, addEsS, hm])
 | none =>
  simp [go_sem]
  refine vmsetK_use keyedString hk ?_
  simp [go_sem]
  exact uF [] [] (hR := by simp [go_sem, addEsS, hm])
@[go_sem] theorem rn_sub {f : Nat → Nat} {m : Nat} {x : AV} {k sz lo n : Nat} : Rn f m x (.sub k sz lo n) = (k < m ∧ x = .sub (f k) sz lo n) := propext ⟨fun h => by cases h with
 | sub _ _ _ _ h => exact ⟨h, rfl⟩
 | closed _ h => (cases h), fun h => by rw [h.2]; exact .sub k sz lo n h.1⟩
theorem KP : (∀ f m L S (b1 b2 : Nat), Rn f m (.bptr [.sl 2 L.length (modCells L), .sl 1 L.length (srcCells S), .lit (.map (some b1)), .lit (.map (some b2))]) (.bptr [.sl 2 L.length (modCells L), .sl 1 L.length (srcCells S), .lit (.map (some b1)), .lit (.map (some b2))]) = True) ∧ (∀ f m S i, Rn f m (.bptr (srcAt S i).cells) (.bptr (srcAt S i).cells) = True) ∧ (∀ L S b1 b2, progCells L S b1 b2 = [.sl 2 L.length (modCells L), .sl 1 L.length (srcCells S), .lit (.map (some b1)), .lit (.map (some b2))]) ∧ (∀ S i c, (c ∈ srcCells S i → Closed c) = True) ∧ (∀ L i c, (c ∈ modCells L i → Closed c) = True) :=
 ⟨fun _ _ _ _ _ _ => eq_true (.closed _ (progClosed _ _ _ _)), fun _ _ S i => eq_true (.closed _ (srcAt S i).closed), fun _ _ _ _ => rfl, fun _ _ _ => eq_true (srcClosed _ _ _), fun _ _ _ => eq_true (modClosed _ _ _)⟩
theorem KP1 : (∀ f m L S b1 b2, Rn f m (.bptr (progCells L S b1 b2)) (.bptr (progCells L S b1 b2)) = True) ∧ (∀ f m S i, Rn f m (.bptr (srcAt S i).cells) (.bptr (srcAt S i).cells) = True) := ⟨KP.1, KP.2.1⟩
def nmOf (L : List PMod) (q : Nat) : ByteArray := (modAt L q).name
structure Todo (L : List PMod) (Q : List Nat) (p : Nat) (row : List ByteArray) (lo : Nat) : Prop where
 eq : row.drop lo = (Q.drop p).map (nmOf L)
 lo : lo ≤ row.length
 le : row.length ≤ Q.length
 p : p ≤ Q.length
theorem Todo.len {L : List PMod} {Q : List Nat} {p lo : Nat} {row : List ByteArray} (h : Todo L Q p row lo) : row.length - lo = Q.length - p := by
 have := congrArg List.length h.eq
 simpa using this
theorem Todo.fst {L : List PMod} {Q : List Nat} {p lo : Nat} {row : List ByteArray} (h : Todo L Q p row lo) (hp : p < Q.length) : txAt row lo = nmOf L (Q.getD p 0) := by
 have h1 := congrArg (fun l => l[0]?) h.eq
 simp only [List.getElem?_drop, List.getElem?_map, Nat.add_zero] at h1
 unfold txAt
 rw [List.getD_eq_getElem?_getD, h1, List.getD_eq_getElem?_getD, List.getElem?_eq_getElem hp]
 rfl
theorem Todo.pop {L : List PMod} {Q : List Nat} {p lo : Nat} {row : List ByteArray} (h : Todo L Q p row lo) (hp : p < Q.length) : Todo L Q (p + 1) row (lo + 1) := by
 have := h.len
 have := h.lo
 refine ⟨?_, by omega, h.le, hp⟩
 rw [← List.drop_drop, ← List.drop_drop, h.eq, List.map_drop, List.map_drop, List.map_drop]
theorem Todo.app {L : List PMod} {Q : List Nat} {p lo u : Nat} {row : List ByteArray} (h : Todo L Q p row lo) : Todo L (Q ++ [u]) p (row ++ [nmOf L u]) lo := by
 refine ⟨?_, by have := h.lo; simp; omega, by have := h.le; simp; omega, by have := h.p; simp; omega⟩
 rw [List.drop_append_of_le_length h.lo, List.drop_append_of_le_length h.p, h.eq, List.map_append]; rfl
theorem Todo.new {L : List PMod} {Q : List Nat} {p lo u : Nat} {row : List ByteArray} (h : Todo L Q p row lo) : Todo L (Q ++ [u]) p (row.drop lo ++ [nmOf L u]) 0 := by
 refine ⟨?_, Nat.zero_le _, by have := h.le; simp; omega, by have := h.p; simp; omega⟩
 rw [List.drop_zero, List.drop_append_of_le_length h.p, h.eq, List.map_append]; rfl
set_option maxRecDepth 100000 in
set_option maxHeartbeats 1000000 in
theorem c_loops1 (L : List PMod) (S : List PSrc) (b1 b2 : Nat) (hS : SrcIs L S) (hL : L.length ≤ 100) (hn : ∀ i u, u ∈ usI L i → u < L.length) (hN : NamesOk L) (hz : ∀ i, (modAt L i).name.size ≤ 1048576) (i0 : Nat) (h0 : i0 < L.length) :
  VProc Tryz.prog 67 [.bptr (progCells L S b1 b2), .lit (.string (modAt L i0).name)] [] [(b1, ⟨9, atEs L L.length⟩)] (fun av mem maps => av = .lit (.bool (warR (relR L) L.length i0 i0)) ∧ mem = [] ∧ lkm maps b1 = some ⟨9, atEs L L.length⟩) := by
 have hSl := hS.len
 refine vproc_start Tryz.func67 (by kernel_rfl) rfl (by simp [Tryz.ntmps67]) ?_; simp only [Tryz.ntmps67, Tryz.results67]; simp [go_sem]
 intro bs hbs
 have hbs : ¬ b1 = bs := hbs
 have hbs' : ¬ bs = b1 := fun e => hbs e.symm
 refine vc_loopE (fun x : List Nat × Nat × List (Value × Value) × List ByteArray × Nat => Srch L i0 x.1 x.2.1 x.2.2.1 ∧ Todo L (i0 :: x.1) x.2.1 x.2.2.2.1 x.2.2.2.2) (fun x => L.length - x.2.1)
  (fun x => ⟨[(0, .bptr (progCells L S b1 b2)), (1, .lit (.string (modAt L i0).name)), (5, .lit (.map (some bs))), (6, .sub 0 1 x.2.2.2.2 (x.2.2.2.1.length - x.2.2.2.2))], [txRow x.2.2.2.1], [(bs, ⟨9, x.2.2.1⟩), (b1, ⟨9, atEs L L.length⟩)], 0⟩) ⟨([], 0, [], [(modAt L i0).name], 0), ⟨.start h0, ⟨rfl, by simp, by simp, by simp⟩⟩, ?_⟩ (fun x hx => ?_)
 ·refine (Ent.asSub 6 rfl rfl).trans ?_
  exact uE [0] (h1 := by simp [go_sem, KP1]) (h4 := by simp [go_sem, K5]; exact .inl rfl) (hM := by simp [go_sem, hbs'])
 obtain ⟨T, p, es, row, lo⟩ := x
 simp only at hx
 obtain ⟨hs, ht⟩ := hx
 have hTl := hs.len
 have htl := ht.len
 have hlo := ht.lo
 have hle := ht.le
 simp only [List.length_cons] at htl hle
 simp [go_sem, K5]
 refine ⟨by omega, fun hpos => ?_, fun hz0 => ?_⟩
 ·have hp : p < T.length + 1 := by omega
  have hq := hs.at_lt hp
  have hfst := ht.fst (by simpa using hp)
  have hname : nameAt L (nmOf L ((i0 :: T).getD p 0)) = (i0 :: T).getD p 0 := hN _ hq
  have hpop := ht.pop (by simpa using hp)
  have hfrom := fun u => hs.at_from (u := u) hp
  generalize hqe : (i0 :: T).getD p 0 = q at *
  have hky : ∃ l, keyOf Tryz.prog 9 (.string (txAt row lo)) = some l := keyString (by rw [hfst]; have := hz q; unfold nmOf; simp only [maxLen]; omega)
  have hget : mget (atEs L L.length) (.string (txAt row lo)) = some (.int .i64 q) := by rw [hfst, mget_at_lt (by rw [hname]; exact hq) (Nat.le_refl _), hname]
  refine vc_drawn [] (.q 0 <| .q 1 <| .q 2 <| .q 3 <| .q 4 <| .q 5 <| .q 6 <| .q 7 <| .q 8 <| .q 9 <| .q 10 <| .q 11 <| .q 12 <| .q 13 <| .q 14 <| .done) (by kernel_rfl) ?_
  simp [go_sem, K5, KP, txCells_at, hbs']
  refine ⟨hpos, by omega, vlookK_use keyedString hky _ zeroInt ?_⟩
  rw [hget]
  simp [go_sem, K5, KP, hSl, srcCells_at, hS.unt q hq]
  have hul := usI_len L q
  obtain ⟨hul2, hua⟩ := usI_at (L := L) hq
  refine ⟨hq, by omega, by omega, ?_⟩
  refine vc_loopE (fun x : List Nat × List (Value × Value) × List ByteArray × Nat × Nat => Srch L i0 x.1 p x.2.1 ∧ Todo L (i0 :: x.1) (p + 1) x.2.2.1 x.2.2.2.1 ∧ x.2.2.2.2 ≤ (untAt L q).uses.length ∧ (∀ j, j < x.2.2.2.2 → (usI L q).getD j 0 ∈ x.1) ∧ (i0 :: x.1).getD p 0 = q) (fun x => (untAt L q).uses.length - x.2.2.2.2)
   (fun x => ⟨[(0, .bptr (progCells L S b1 b2)), (1, .lit (.string (modAt L i0).name)), (5, .lit (.map (some bs))), (6, .sub 0 1 x.2.2.2.1 (x.2.2.1.length - x.2.2.2.1)), (36, .sl 1 (untAt L q).uses.length (txCells (untAt L q).uses)), (37, .lit (.int .i64 (untAt L q).uses.length)), (38, .lit (.int .i64 x.2.2.2.2))], [txRow x.2.2.1], [(bs, ⟨9, x.2.1⟩), (b1, ⟨9, atEs L L.length⟩)], 0⟩) ⟨(T, es, row, lo + 1, 0), ⟨hs, hpop, Nat.zero_le _, fun j hj => absurd hj (Nat.not_lt_zero j), hqe⟩, ?_⟩ (fun x hx => ?_)
  ·exact uE [0] (h1 := by simp [go_sem, KP, K5, Nat.sub_sub]) (h4 := by simp [go_sem, K5]) (hM := by simp [go_sem, hbs'])
  clear hs ht hTl htl hlo hle hpop hfrom hqe hfst hky hget hpos
  obtain ⟨T, es, row, lo, k⟩ := x
  simp only at hx
  obtain ⟨hs, ht, hk, hdn, hqe⟩ := hx
  have hTl := hs.len
  have htl := ht.len
  have hlo := ht.lo
  have hle := ht.le
  have htp := ht.p
  simp only [List.length_cons] at htl hle htp
  simp [go_sem, KP, K5, txCells_at]
  have wrk : IntKind.i64.wrap ((k : Int) + 1) = (k : Int) + 1 := wrap_i64 (by omega)
  refine ⟨fun hk2 => ⟨hk2, ?_⟩, fun hk2 => ?_⟩
  ·have hx := hua k hk2
   have hm : (usI L q).getD k 0 ∈ usI L q := by
    rw [List.getD_eq_getElem?_getD, List.getElem?_eq_getElem (by omega)]
    exact List.getElem_mem _
   have hlt := hn q _ hm
   have hnm : txAt (untAt L q).uses k = nmOf L ((usI L q).getD k 0) := by rw [hx] at hlt ⊢; exact (nameAt_name hlt).symm
   have hfr := hs.at_from (j := p) (u := (usI L q).getD k 0) (by omega) (by rw [hqe]; exact hm)
   generalize hw : (usI L q).getD k 0 = w at *
   simp [go_sem, KP, K5, txCells_at, ba_toList]
   refine ⟨fun e => ?_, fun e => ?_⟩
   ·have e2 : w = i0 := hN.inj hlt h0 (by rw [← e, hnm]; rfl)
    have e3 : warR (relR L) L.length i0 i0 = true := (warR_pth _ _ _).2 (by rw [e2] at hfr; exact hfr)
    exact uF [] [] (hR := by simp [go_sem, e3, hbs']) (hM := by simp [go_sem, hbs'])
   ·have hw0 : w ≠ i0 := fun e2 => e (by rw [hnm, e2]; rfl)
    have hxs : (txAt (untAt L q).uses k).size ≤ maxLen := by rw [hnm]; have := hz w; unfold nmOf; simp only [maxLen]; omega
    have hkeys := hs.keys (txAt (untAt L q).uses k)
    refine uS [] (c_addS bs es (txAt (untAt L q).uses k) hxs) ?_ (hm := by simp [go_sem])
    rintro av mem maps ⟨rfl, rfl, rfl⟩
    simp [go_sem, KP, K5, txCells_at]
    have hdn2 : ∀ T' : List Nat, (∀ x, x ∈ T → x ∈ T') → w ∈ T' → ∀ j, j < k + 1 → (usI L q).getD j 0 ∈ T' := fun T' h1 h2 j hj => by
     by_cases e3 : j = k
     ·rw [e3, hw]; exact h2
     ·exact h1 _ (hdn j (by omega))
    refine ⟨fun e2 => ?_, fun e2 => ?_⟩
    ·have hw2 : w ∉ T := fun h => by
      have := hkeys.2 ⟨w, h, hnm⟩
      rw [e2] at this; cases this
     have hes : addEsS es (txAt (untAt L q).uses k) = mput es (.string (modAt L w).name) (.int .i64 es.length) := by
      unfold addEsS
      rw [if_neg (by rw [e2]; simp), hnm]; rfl
     have hs2 := hs.add (by omega) hlt hw0 hw2 hfr (v := .int .i64 es.length)
     have hq2 : (i0 :: (T ++ [w])).getD p 0 = q := by
      rw [← hqe, ← List.cons_append, List.getD_eq_getElem?_getD, List.getD_eq_getElem?_getD, List.getElem?_append_left (by simp; omega)]
     have hd2 := hdn2 (T ++ [w]) (fun x hx => by simp [hx]) (by simp)
     have tA : Todo L (i0 :: (T ++ [w])) (p + 1) (row ++ [txAt (untAt L q).uses k]) lo := by rw [hnm]; exact ht.app
     have tB : Todo L (i0 :: (T ++ [w])) (p + 1) (row.drop lo ++ [txAt (untAt L q).uses k]) 0 := by rw [hnm]; exact ht.new
     have l1 : row.length + 1 - lo = row.length - lo + 1 := by omega
     have rB : RowIs (joinF (row.length - lo) (fun i => [.lit (.string (txAt row (lo + i)))]) fun i => [[.lit (.string (txAt (untAt L q).uses k))]][i]?.getD []) (row.drop lo ++ [txAt (untAt L q).uses k]) := by
      refine RowIs.join (fun i hi => ?_) RowIs.one (by simp)
      unfold txCells txAt
      rw [List.getD_eq_getElem?_getD, List.getD_eq_getElem?_getD, List.getElem?_drop]
     rw [hes]
     refine ⟨by omega, by omega, by omega, ⟨T ++ [w], _, row ++ [txAt (untAt L q).uses k], lo, k + 1, ⟨hs2, tA, hk2, hd2, hq2⟩, by omega, ?_⟩, T ++ [w], _, row.drop lo ++ [txAt (untAt L q).uses k], 0, k + 1, ⟨hs2, tB, hk2, hd2, hq2⟩, by omega, ?_⟩
     ·exact uE [2] (h1 := by simp [go_sem, KP, K5, wrk, l1]) (h4 := by simp [go_sem, K5, tx_new]) (hM := by simp [go_sem, hbs'])
     ·refine uE [2] (h1 := by simp [go_sem, KP, K5, wrk]) (h4 := ?_) (hM := by simp [go_sem, hbs'])
      simp only [MemS, memAt_s, List.getElem?_cons_succ, List.getElem?_cons_zero, and_true]
      refine .inl ⟨rfl, rfl, by simp, fun i hi => ⟨rB i (by simpa using hi), fun c hc => txClosed _ i c hc⟩⟩
    ·have hw2 : w ∈ T := by
      obtain ⟨v, hv, e4⟩ := hkeys.1 e2
      have : w = v := hN.inj hlt (hs.lt v hv) (by rw [← e4, hnm]; rfl)
      rw [this]; exact hv
     have hes : addEsS es (txAt (untAt L q).uses k) = es := by unfold addEsS; rw [if_pos e2]
     refine ⟨T, es, row, lo, k + 1, ⟨hs, ht, hk2, hdn2 T (fun _ h => h) hw2, hqe⟩, by omega, ?_⟩
     exact uE [0] (h1 := by simp [go_sem, KP, K5, wrk]) (h4 := by simp [go_sem, K5]) (hM := by simp [go_sem, hbs', hes])
  ·obtain rfl : k = (untAt L q).uses.length := by omega
   have hall : ∀ u, u ∈ usI L ((i0 :: T).getD p 0) → u ∈ T := fun u hu => by
    rw [hqe] at hu
    obtain ⟨j, hj, rfl⟩ := List.getElem_of_mem hu
    have := hdn j (by omega)
    rwa [List.getD_eq_getElem?_getD, List.getElem?_eq_getElem hj] at this
   refine ⟨T, p + 1, es, row, lo, ⟨hs.next hall, ht⟩, by omega, ?_⟩
   exact uE [0] (h1 := by simp [go_sem, KP, K5]) (h4 := by simp [go_sem, K5]) (hM := by simp [go_sem, hbs'])
 ·have hf := hs.fin (by omega)
  exact uF [] [] (hR := by simp [go_sem, hf, hbs']) (hM := by simp [go_sem, hbs'])
theorem c_loops (L : List PMod) (S : List PSrc) (b1 b2 : Nat) (hS : SrcIs L S) (hL : L.length ≤ 100) (hn : ∀ i u, u ∈ usI L i → u < L.length) (hN : NamesOk L) (hz : ∀ i, (modAt L i).name.size ≤ 1048576) (i0 : Nat) (h0 : i0 < L.length) :
  VProc Tryz.prog 67 [.bptr (progCells L S b1 b2), .lit (.string (modAt L i0).name)] [] [(b1, ⟨9, atEs L L.length⟩)] (fun av mem maps => av = .lit (.bool (warR (relR L) L.length i0 i0)) ∧ mem = [] ∧ maps = [(b1, ⟨9, atEs L L.length⟩)]) :=
 (c_loops1 L S b1 b2 hS hL hn hN hz i0 h0).fewMaps fun av mem maps h => by
  obtain ⟨rfl, rfl, h⟩ := h
  refine ⟨[(b1, ⟨9, atEs L L.length⟩)], fun b mp hb => ?_, fun b hb => hb, rfl, rfl, rfl⟩
  simp only [lkm] at hb
  split at hb
  ·rename_i e; subst e; rw [← hb]; exact h
  ·cases hb
def namI (L : List PMod) (x : ByteArray) : Int := if nameAt L x < L.length then nameAt L x else -1
theorem namI_is {L : List PMod} {x : ByteArray} (h : nameAt L x < L.length) : namI L x = nameAt L x := if_pos h
set_option maxRecDepth 100000 in
theorem c_l5Named (L : List PMod) (x : ByteArray) (hL : L.length ≤ 1048576) : VFun Tryz.prog 31 [.sl 2 L.length (modCells L), .lit (.string x)] (fun av obs => obs = [] ∧ av = .lit (.int .i64 (namI L x))) := by
 have cl : ∀ (i : Nat) (c : AV), i < L.length → c ∈ modCells L i → Closed c := fun i c _ h => modClosed L i c h
 refine vfun_start Tryz.func31 (by kernel_rfl) rfl (by simp [Tryz.ntmps31]) ?_; simp only [Tryz.ntmps31, Tryz.results31]; simp [go_sem]
 refine vc_loop (fun i : Nat => i ≤ L.length ∧ ∀ j, j < i → ¬ (modAt L j).name = x) (fun i => L.length - i) (fun i => .of [(0, .sl 2 L.length (modCells L)), (1, .lit (.string x)), (5, .lit (.int .i64 i))] []) ⟨0, ⟨by omega, fun j h => by omega⟩, ?_⟩ (fun i hi => ?_)
 ·simp [go_sem]
  exact cl
 ·obtain ⟨hi, hb⟩ := hi
  simp [go_sem]
  refine ⟨by omega, fun h => ⟨h, ?_⟩, fun h => ?_⟩
  ·simp [go_sem, modCells_at, ba_toList]
   refine ⟨fun e => ?_, fun e => ⟨i + 1, ⟨h, fun j hj => ?_⟩, by omega, ⟨?_, wrap_succ (by omega)⟩⟩⟩
   ·have := nameAt_is h e hb
    rw [namI_is (by omega), this]
   ·by_cases e2 : j = i
    ·rw [e2]; exact e
    ·exact hb j (by omega)
   ·simpa [modCells_at] using cl
  ·have : nameAt L x = L.length := nameAt_none fun j hj => hb j (by omega)
   unfold namI
   rw [if_neg (by omega)]
instance : Inhabited Unt := ⟨⟨[], [], ⟨#[]⟩⟩⟩
def untsP (L : List PMod) : List Unt := L.map fun m => (unitZ m.text).1
def unsAt (U : List Unt) (i : Nat) : Unt := U.getD i default
def unsCells (U : List Unt) (i : Nat) : List AV := [.sl 1 (unsAt U i).uses.length (txCells (unsAt U i).uses), .sl 4 (unsAt U i).ops.length (opCells (unsAt U i).ops), .lit (.string (unsAt U i).body)]
theorem unsCells_at (U : List Unt) (i : Nat) : unsCells U i = [.sl 1 (unsAt U i).uses.length (txCells (unsAt U i).uses), .sl 4 (unsAt U i).ops.length (opCells (unsAt U i).ops), .lit (.string (unsAt U i).body)] := rfl
theorem unsClosed (U : List Unt) (i : Nat) (c : AV) (h : c ∈ unsCells U i) : Closed c := by
 rw [unsCells_at] at h
 simp at h
 rcases h with rfl | rfl | rfl
 ·exact .sl _ _ _ fun i c _ h => txClosed _ i c h
 ·exact .sl _ _ _ fun i c _ h => opClosed _ i c h
 ·exact .lit _
@[go_sem] theorem unsCells_ren (f : Nat → Nat) (U : List Unt) (i : Nat) : (unsCells U i).map (ren1 f) = unsCells U i := rfl
@[go_sem] theorem unsCells_one (U : List Unt) (i : Nat) : (unsCells U i).all oneAV = true := rfl
def unsRow (U : List Unt) : Option Ob := some ⟨44, 3, U.length, unsCells U⟩
theorem unsOut {g : Nat → Nat} {ks : List Nat} {ty n : Nat} {U : List Unt} : OutAt g ks ⟨ty, 3, n, unsCells U⟩ (some (some ⟨ty, 3, n, unsCells U⟩)) :=
 ⟨rfl, rfl, rfl, fun i hi => ⟨rfl, fun c hc => by
  have hc : c ∈ unsCells U i := hc
  have hcl := unsClosed U i c hc
  rw [unsCells_at] at hc
  simp at hc
  rcases hc with rfl | rfl | rfl
  ·exact .inr ⟨⟨_, _, _, rfl⟩, hcl⟩
  ·exact .inr ⟨⟨_, _, _, rfl⟩, hcl⟩
  ·exact .inl rfl, fun c hc q hq => by
  have hc : c ∈ unsCells U i := hc
  rw [unsCells_at] at hc
  simp at hc
  rcases hc with rfl | rfl | rfl <;> simp [owns1] at hq⟩⟩
theorem KU : (∀ U, unsRow U = some ⟨44, 3, U.length, unsCells U⟩) ∧ (∀ U i c, (c ∈ unsCells U i → Closed c) = True) ∧ (∀ g m U i, CellsRn g m (unsCells U i) (unsCells U i) = True) ∧ (∀ (g : Nat → Nat) ks ty n U, OutAt g ks ⟨ty, 3, n, unsCells U⟩ (some (some ⟨ty, 3, n, unsCells U⟩)) = True) ∧ (∀ L i c, (c ∈ modCells L i → Closed c) = True) :=
 ⟨fun _ => rfl, fun _ _ _ => eq_true (unsClosed _ _ _), fun _ _ U i => eq_true (cellsRn_closed fun c h => unsClosed U i c h), fun _ _ _ _ _ => eq_true unsOut, fun _ _ _ => eq_true (modClosed _ _ _)⟩
theorem unsAt_app (T : List Unt) (x : Unt) (i : Nat) (hi : i < T.length + 1) : unsAt (T ++ [x]) i = if i = T.length then x else unsAt T i := by
 unfold unsAt
 by_cases h : i = T.length
 ·subst h
  rw [if_pos rfl, List.getD_eq_getElem?_getD, List.getElem?_append_right (Nat.le_refl _)]; simp
 ·rw [if_neg h, List.getD_eq_getElem?_getD, List.getD_eq_getElem?_getD, List.getElem?_append_left (by omega)]
theorem uns_new {g : Nat → Nat} {m k k2 N : Nat} (T : List Unt) (x : Unt) (hN : N = T.length) : (∀ i, i < N + 1 → CellsRn g m (if i = N then (if i = N then (joinF N (unsCells T) (fun q => [[AV.own k, AV.own k2, AV.lit (.string x.body)]][q]?.getD []) i).set 0 (.sl 1 x.uses.length (txCells x.uses)) else joinF N (unsCells T) (fun q => [[AV.own k, AV.own k2, AV.lit (.string x.body)]][q]?.getD []) i).set 1 (.sl 4 x.ops.length (opCells x.ops)) else if i = N then (joinF N (unsCells T) (fun q => [[AV.own k, AV.own k2, AV.lit (.string x.body)]][q]?.getD []) i).set 0 (.sl 1 x.uses.length (txCells x.uses)) else joinF N (unsCells T) (fun q => [[AV.own k, AV.own k2, AV.lit (.string x.body)]][q]?.getD []) i) (unsCells (T ++ [x]) i)) := fun i hi => by
 subst hN
 have e : (if i = T.length then (if i = T.length then (joinF T.length (unsCells T) (fun q => [[AV.own k, AV.own k2, AV.lit (.string x.body)]][q]?.getD []) i).set 0 (.sl 1 x.uses.length (txCells x.uses)) else joinF T.length (unsCells T) (fun q => [[AV.own k, AV.own k2, AV.lit (.string x.body)]][q]?.getD []) i).set 1 (.sl 4 x.ops.length (opCells x.ops)) else if i = T.length then (joinF T.length (unsCells T) (fun q => [[AV.own k, AV.own k2, AV.lit (.string x.body)]][q]?.getD []) i).set 0 (.sl 1 x.uses.length (txCells x.uses)) else joinF T.length (unsCells T) (fun q => [[AV.own k, AV.own k2, AV.lit (.string x.body)]][q]?.getD []) i) = unsCells (T ++ [x]) i := by
  rw [unsCells_at, unsAt_app T x i hi]
  by_cases h : i = T.length
  ·subst h
   simp [joinF]
  ·rw [if_neg h, if_neg h, if_neg h]
   unfold joinF
   rw [if_pos (by omega)]
   rfl
 rw [e]
 exact cellsRn_closed fun c h => unsClosed _ i c h
theorem untsP_len (L : List PMod) : (untsP L).length = L.length := by simp [untsP]
theorem untsP_at (L : List PMod) {i : Nat} (h : i < L.length) : unsAt (untsP L) i = untAt L i := by
 unfold unsAt untsP untAt modAt
 rw [List.getD_eq_getElem?_getD, List.getElem?_map, List.getElem?_eq_getElem h, List.getD_eq_getElem?_getD, List.getElem?_eq_getElem h]
 rfl
set_option maxRecDepth 100000 in
theorem c_l5Units (L : List PMod) (hL : L.length ≤ 1048576) (hz : ∀ i, (modAt L i).text.size ≤ 1048576) : VProc Tryz.prog 32 [.sl 2 L.length (modCells L)] [] [] (fun av mem maps => av = .own 0 ∧ mem = [unsRow (untsP L)] ∧ maps = []) := by
 refine vproc_start Tryz.func32 (by kernel_rfl) rfl (by simp [Tryz.ntmps32]) ?_; simp only [Tryz.ntmps32, Tryz.results32]; simp [go_sem]
 refine vc_loopE (fun i : Nat => i ≤ L.length) (fun i => L.length - i) (fun i => .of [(0, .sl 2 L.length (modCells L)), (3, .own 0), (4, .lit (.int .i64 i))] [unsRow ((untsP L).take i)]) ⟨0, by omega, ?_⟩ (fun i hi => ?_)
 ·exact uE [0] (h1 := by simp [go_sem, KU]) (h4 := by simp [go_sem, KU])
 ·have hmin : min i (untsP L).length = i := by rw [untsP_len]; omega
  have h1 := c_specReadUnit (modAt L i).text (hz i)
  simp [go_sem, KU, hmin]
  refine ⟨by omega, fun h => ⟨h, ?_⟩, fun h => ?_⟩
  ·simp [go_sem, modCells_at]
   refine vcall_use h1 (by simp [go_sem]) ?_
   rintro av obs ⟨rfl, rfl⟩
   have wr : IntKind.i64.wrap ((i : Int) + 1) = (i : Int) + 1 := wrap_i64 (by omega)
   have hT : (untsP L).take (i + 1) = (untsP L).take i ++ [untAt L i] := by
    rw [List.take_succ_eq_append_getElem (by rw [untsP_len]; exact h)]
    congr 2
    rw [← untsP_at L h]
    unfold unsAt
    rw [List.getD_eq_getElem?_getD, List.getElem?_eq_getElem (by rw [untsP_len]; exact h)]; rfl
   have hu : (unitZ (modAt L i).text).1 = untAt L i := rfl
   rw [hu]
   simp [go_sem, KU, hmin]
   refine ⟨by omega, by omega, i + 1, h, by omega, ?_⟩
   have hm2 : min (i + 1) (untsP L).length = i + 1 := by rw [untsP_len]; omega
   have hl : i = ((untsP L).take i).length := by rw [List.length_take, hmin]
   refine (Ent.giveAt 5 1 i 0 rfl (fun q _ c h => txClosed _ q c h) rfl (by decide) (by simp [joinF])).trans ?_
   refine (Ent.giveAt 5 2 i 1 rfl (fun q _ c h => opClosed _ q c h) rfl (by decide) (by simp [joinF])).trans ?_
   simp only [List.set_cons_succ, List.set_cons_zero]
   exact uE [5] (h1 := by simp [go_sem, KU, wr]) (h4 := by simp [go_sem, KU, hm2, hT]; exact .inr (uns_new _ _ hl))
  ·obtain rfl : i = L.length := by omega
   have e : (untsP L).take L.length = untsP L := by rw [← untsP_len, List.take_length]
   rw [e]
   exact uF [0] [unsRow (untsP L)] (hm := by simp [go_sem, KU, untsP_len]) (hR := by simp [go_sem, KU])
def intAt (l : List Int) (i : Nat) : Int := l.getD i 0
def intCells (l : List Int) (i : Nat) : List AV := [.lit (.int .i64 (intAt l i))]
@[go_sem] theorem tokOne (l : List PTok) (i : Nat) : (tokCells l i).all oneAV = true := rfl
def boolCells (f : Nat → Bool) (i : Nat) : List AV := [.lit (.bool (f i))]
theorem boolCells_at (f : Nat → Bool) (i : Nat) : boolCells f i = [.lit (.bool (f i))] := rfl
theorem boolClosed (f : Nat → Bool) (i : Nat) (c : AV) (h : c ∈ boolCells f i) : Closed c := by
 simp [boolCells] at h
 subst h
 exact .lit _
@[go_sem] theorem boolOne (f : Nat → Bool) (i : Nat) : (boolCells f i).all oneAV = true := rfl
@[go_sem] theorem intOne (a : List Int) (i : Nat) : (intCells a i).all oneAV = true := rfl
theorem c_l5UnitsB (L : List PMod) (hL : L.length ≤ 1048576) (hz : ∀ i, (modAt L i).text.size ≤ 1048576) : VProc Tryz.prog 32 [.sl 2 L.length (modCells L)] [] [] (fun av mem maps => av = .sl 3 L.length (unsCells (untsP L)) ∧ mem = [] ∧ maps = []) :=
 (c_l5Units L hL hz).giveR fun av mem maps h => by
  obtain ⟨rfl, rfl, rfl⟩ := h
  exact ⟨⟨44, 3, (untsP L).length, unsCells (untsP L)⟩, (untsP L).length, unsCells (untsP L), fun _ _ => rfl, rfl, rfl, Nat.le_refl _, fun i _ c hc => unsClosed _ i c hc, .inl ⟨rfl, rfl⟩, by rw [untsP_len], rfl, rfl⟩
def bRow (n : Nat) (f : Nat → Bool) : Ob := ⟨4, 1, n, boolCells f⟩
def rowK (L : List PMod) (i k j : Nat) : Bool := ((usI L i).take k).any fun u => u == j
theorem rowK_step {L : List PMod} {i k : Nat} (hk : k < (usI L i).length) (j : Nat) : rowK L i (k + 1) j = if j = (usI L i).getD k 0 then true else rowK L i k j := by
 unfold rowK
 rw [List.take_succ_eq_append_getElem hk, List.any_append, List.getD_eq_getElem?_getD, List.getElem?_eq_getElem hk]
 simp only [List.any_cons, List.any_nil, Bool.or_false, Option.getD_some]
 split
 ·rename_i e; subst e; simp
 ·rename_i e
  have : ((usI L i)[k] == j) = false := by simpa using fun e2 => e e2.symm
  rw [this, Bool.or_false]
theorem rowK_full (L : List PMod) (i : Nat) : rowK L i (usI L i).length = relR L i := by
 funext j; unfold rowK relR; rw [List.take_length]
def reachG (L : List PMod) (i k a : Nat) : Ob := bRow L.length (if a = i then rowK L i k else relR L a)
def ownRow (n : Nat) : Option Ob := some ⟨65, 1, n, fun a => [.own (a + 1)]⟩
theorem KO : ∀ n, ownRow n = some ⟨65, 1, n, fun a => [.own (a + 1)]⟩ := fun _ => rfl
theorem reachG_at (L : List PMod) (i k : Nat) : reachG L i k i = ⟨4, 1, L.length, boolCells (rowK L i k)⟩ := by unfold reachG bRow; rw [if_pos rfl]
theorem argSl_mod {mem : List (Option Ob)} {L : List PMod} : ArgSl mem (.sl 2 L.length (modCells L)) 2 L.length (modCells L) := argSl_refl (Nat.succ_pos 1) fun i c _ h => modClosed L i c h
theorem ent_b {t t' : List (Nat × AV)} {g g' : Nat → Nat → Bool} {n : Nat} (h1 : TmpsR (offF 0 1) (n + 1) t t') (h : ∀ a, a < n → ∀ b, b < n → g a b = g' a b) :
  Ent ⟨t, ownRow n :: Rw (fun a => bRow n (g a)) n, [], 0⟩ ⟨t', ownRow n :: Rw (fun a => bRow n (g' a)) n, [], 0⟩ := by
 refine ent_rw 0 1 h1 rfl ?_ fun a ha => ⟨by omega, ?_⟩
 ·simp [go_sem]
 ·rw [List.getElem?_cons_succ, Rw_at _ ha]
  refine ⟨_, rfl, .inl (obRn_of (fun b hb => ?_) (boolClosed _))⟩
  unfold boolCells
  rw [h a ha b hb]
set_option maxRecDepth 100000 in
theorem c_l5Reach (L : List PMod) (hL : L.length ≤ 100) (hn : ∀ i u, u ∈ usI L i → u < L.length) : VProc Tryz.prog 33 [.sl 2 L.length (modCells L), .sl 3 L.length (unsCells (untsP L))] [] []
  (fun av mem maps => av = .own 0 ∧ mem = ownRow L.length :: Rw (fun a => bRow L.length (fun b => warR (relR L) L.length a b)) L.length ∧ maps = []) := by
 refine vproc_start Tryz.func33 (by kernel_rfl) rfl (by simp [Tryz.ntmps33]) ?_; simp only [Tryz.ntmps33, Tryz.results33]; simp [go_sem]
 refine ⟨by omega, ?_⟩
 refine vc_loopE (fun i : Nat => i ≤ L.length) (fun i => L.length - i) (fun i => .of [(0, .sl 2 L.length (modCells L)), (1, .sl 3 L.length (unsCells (untsP L))), (5, .lit (.int .i64 L.length)), (6, .own 0), (7, .lit (.int .i64 i))] (ownRow i :: Rw (fun a => bRow L.length (relR L a)) i)) ⟨0, by omega, ?_⟩ (fun i hi => ?_)
 ·exact uE [0] (h1 := by simp [go_sem, KU]) (h4 := by simp [go_sem, KO, Rw])
 ·simp [go_sem, KU, KO]
  refine ⟨fun h => ?_, fun h => ?_⟩
  ·refine ⟨by omega, by omega, ?_⟩
   have hU := untsP_at L h
   obtain ⟨hl, hua⟩ := usI_at (L := L) h
   have hul := usI_len L i
   refine vc_loopE (fun k : Nat => k ≤ (untAt L i).uses.length) (fun k => (untAt L i).uses.length - k) (fun k => .of [(0, .sl 2 L.length (modCells L)), (1, .sl 3 L.length (unsCells (untsP L))), (5, .lit (.int .i64 L.length)), (6, .own 0), (7, .lit (.int .i64 i)), (8, .own (i + 1)), (9, .lit (.int .i64 k))] (ownRow i :: Rw (reachG L i k) (i + 1))) ⟨0, by omega, ?_⟩ (fun k hk => ?_)
   ·refine ent_rw 0 1 (by simp [go_sem, KU]) rfl ?_ fun a ha => ⟨by omega, ?_⟩
    ·simp [go_sem]; omega
    ·rw [List.getElem?_cons_succ, Rw_snoc _ _ ha]
     refine ⟨_, rfl, .inl ?_⟩
     unfold reachG
     split
     ·exact obRn_of (fun _ _ => rfl) (boolClosed _)
     ·exact obRn_of (fun _ _ => rfl) (boolClosed _)
   ·have r2 := Rw_set (reachG L i k) (Nat.lt_succ_self i)
    simp [go_sem, KU, KO, unsCells_at, hU, txCells_at]
    refine ⟨h, by omega, fun hk2 => ⟨h, hk2, ?_⟩, fun hk2 => ?_⟩
    ·have hx := hua k hk2
     have hm : (usI L i).getD k 0 ∈ usI L i := by
      rw [List.getD_eq_getElem?_getD, List.getElem?_eq_getElem (by omega)]
      exact List.getElem_mem _
     have hlt := hn i _ hm
     rw [hx] at hlt
     have hI := namI_is hlt
     refine vcall_pure (c_l5Named L (txAt (untAt L i).uses k) (by omega)) (by simp [go_sem, argSl_mod]) ?_
     rw [hI]
     simp [go_sem, reachG_at, r2, KU, KO, unsCells_at]
     refine ⟨hlt, k + 1, by omega, by omega, ?_⟩
     have wr : IntKind.i64.wrap ((k : Int) + 1) = (k : Int) + 1 := wrap_i64 (by omega)
     refine ent_rw 0 1 (by simp [go_sem, KU, wr]) rfl ?_ fun a ha => ⟨by omega, ?_⟩
     ·simp [go_sem]; omega
     ·rw [List.getElem?_cons_succ, Rw_at _ ha]
      refine ⟨_, rfl, .inl ?_⟩
      unfold reachG bRow
      split
      ·refine obRn_of (fun j hj => ?_) (boolClosed _)
       rw [updF_at hlt hj]
       unfold boolCells
       rw [rowK_step (by omega), hx]
       split
       ·rfl
       ·rfl
      ·exact obRn_of (fun _ _ => rfl) (boolClosed _)
    ·obtain rfl : k = (untAt L i).uses.length := by omega
     refine ⟨by omega, by omega, i + 1, h, by omega, ?_⟩
     have wr : IntKind.i64.wrap ((i : Int) + 1) = (i : Int) + 1 := wrap_i64 (by omega)
     refine ent_rw (i + 1 + 1 + 1) 1 (by simp [go_sem, KU, wr]) (by rw [List.getElem?_cons_succ]; exact Rw_app_atk _ (i + 1) 1 _) ?_ fun a ha => ⟨by omega, ?_⟩
     ·refine ⟨rfl, rfl, rfl, fun a ha => ?_⟩
      simp only [joinF]
      split
      ·simp [go_sem]; omega
      ·obtain rfl : a = i := by simp only at ha; omega
       simp [go_sem]
     ·rw [List.getElem?_cons_succ, Rw_app_lt _ _ ha]
      refine ⟨_, rfl, .inl ?_⟩
      unfold reachG
      split
      ·rename_i e; subst e; rw [← hl, rowK_full]; exact obRn_of (fun _ _ => rfl) (boolClosed _)
      ·exact obRn_of (fun _ _ => rfl) (boolClosed _)
  ·obtain rfl : i = L.length := by omega
   refine vc_loopE (fun m : Nat => m ≤ L.length) (fun m => L.length - m) (fun m => .of [(5, .lit (.int .i64 L.length)), (6, .own 0), (10, .lit (.int .i64 m))] (ownRow L.length :: Rw (fun a => bRow L.length (warR (relR L) m a)) L.length)) ⟨0, by omega, ?_⟩ (fun m hm => ?_)
   ·exact ent_same (by simp [go_sem])
   ·simp [go_sem, KO]
    refine ⟨fun h => ?_, fun h => ?_⟩
    ·refine vc_loopE (fun i : Nat => i ≤ L.length) (fun i => L.length - i) (fun i => .of [(5, .lit (.int .i64 L.length)), (6, .own 0), (10, .lit (.int .i64 m)), (11, .lit (.int .i64 i))] (ownRow L.length :: Rw (fun a => bRow L.length (warM (relR L) m i 0 a)) L.length)) ⟨0, by omega, ?_⟩ (fun i hi => ?_)
     ·have e : (fun a => bRow L.length (warM (relR L) m 0 0 a)) = fun a => bRow L.length (warR (relR L) m a) := by
       funext a; congr 1; funext b; unfold warM; rw [if_neg (by omega)]
      simp only [e]
      exact ent_same (by simp [go_sem])
     ·simp [go_sem, KO]
      refine ⟨fun h2 => ?_, fun h2 => ?_⟩
      ·refine vc_loopE (fun j : Nat => j ≤ L.length) (fun j => L.length - j) (fun j => .of [(5, .lit (.int .i64 L.length)), (6, .own 0), (10, .lit (.int .i64 m)), (11, .lit (.int .i64 i)), (12, .lit (.int .i64 j))] (ownRow L.length :: Rw (fun a => bRow L.length (warM (relR L) m i j a)) L.length)) ⟨0, by omega, ?_⟩ (fun j hj => ?_)
       ·exact ent_same (by simp [go_sem])
       ·have r3 := fun x => Rw_set (fun a => bRow L.length (warM (relR L) m i j a)) h2 x
        have r1 := Rw_at (fun a => bRow L.length (warM (relR L) m i j a)) h2
        have r2 := Rw_at (fun a => bRow L.length (warM (relR L) m i j a)) h
        simp [go_sem, KO, bRow, boolCells_at] at r1 r2 r3 ⊢
        simp [go_sem, KO, bRow, boolCells_at, r1, r2, r3]
        have same : (warM (relR L) m i j i m && warM (relR L) m i j m j) = false → ∀ a b, warM (relR L) m i j a b = warM (relR L) m i (j + 1) a b := fun e a b => by
         rw [warM_step]
         split
         ·rename_i e2; rw [e, Bool.or_false, e2.1, e2.2]
         ·rfl
        have wr : IntKind.i64.wrap ((i : Int) + 1) = (i : Int) + 1 := wrap_i64 (by omega)
        have wrj : IntKind.i64.wrap ((j : Int) + 1) = (j : Int) + 1 := wrap_i64 (by omega)
        refine ⟨fun h3 => ⟨h2, h, fun e1 => ⟨h, h3, fun e2 => ⟨h2, h3, j + 1, h3, by omega, ?_⟩, fun e2 => ⟨j + 1, h3, by omega, ?_⟩⟩, fun e1 => ⟨j + 1, h3, by omega, ?_⟩⟩, fun h3 => ⟨i + 1, h2, by omega, ?_⟩⟩
        ·refine ent_rw 0 1 (by simp [go_sem, wrj]) rfl ?_ fun a ha => ⟨by omega, ?_⟩
         ·simp [go_sem]
         ·rw [List.getElem?_cons_succ, Rw_at _ ha]
          refine ⟨_, rfl, .inl ?_⟩
          split
          ·rename_i e; subst e
           refine obRn_of (fun b hb => ?_) (boolClosed _)
           rw [updF_at h3 hb]
           unfold boolCells
           rw [warM_step]
           by_cases e : b = j
           ·subst e; rw [if_pos rfl, if_pos ⟨rfl, rfl⟩, e1, e2]; simp [splice]
           ·rw [if_neg e, if_neg (fun h => e h.2)]
          ·rename_i e
           refine obRn_of (fun b hb => ?_) (boolClosed _)
           unfold boolCells
           rw [warM_step, if_neg (fun h => e h.1)]
        ·exact ent_b (by simp [go_sem, wrj]) fun a _ b _ => same (by rw [e2, Bool.and_false]) a b
        ·exact ent_b (by simp [go_sem, wrj]) fun a _ b _ => same (by rw [e1, Bool.false_and]) a b
        ·exact ent_b (by simp [go_sem, wr]) fun a _ b hb => by
          unfold warM
          by_cases e : a < i
          ·rw [if_pos (.inl e), if_pos (by omega)]
          ·by_cases e2 : a = i
           ·rw [if_pos (.inr ⟨e2, by omega⟩), if_pos (by omega)]
           ·rw [if_neg (by omega), if_neg (by omega)]
      ·have wr : IntKind.i64.wrap ((m : Int) + 1) = (m : Int) + 1 := wrap_i64 (by omega)
       refine ⟨m + 1, h, by omega, ent_b (by simp [go_sem, wr]) fun a ha b hb => ?_⟩
       unfold warM
       rw [if_pos (by omega)]
    ·obtain rfl : m = L.length := by omega
     exact uFR 0 1 L.length 65 (fun a => bRow L.length (warR (relR L) L.length a)) rfl (fun a ha => by rw [List.getElem?_cons_succ]; exact Rw_at _ ha) (fun a _ i => rfl) (by omega) (by simp [go_sem]) (by simp [go_sem, idxOut, exRw])
def matCells (n : Nat) (g : Nat → Nat → Bool) (a : Nat) : List AV := [.sl 1 n (boolCells (g a))]
theorem matClosed (n : Nat) (g : Nat → Nat → Bool) (a : Nat) (c : AV) (h : c ∈ matCells n g a) : Closed c := by
 simp [matCells] at h; subst h
 exact .sl _ _ _ fun i c _ h => boolClosed _ i c h
theorem c_l5ReachB (L : List PMod) (hL : L.length ≤ 100) (hn : ∀ i u, u ∈ usI L i → u < L.length) : VProc Tryz.prog 33 [.sl 2 L.length (modCells L), .sl 3 L.length (unsCells (untsP L))] [] []
  (fun av mem maps => av = .sl 1 L.length (matCells L.length fun a b => warR (relR L) L.length a b) ∧ mem = [] ∧ maps = []) :=
 (c_l5Reach L hL hn).giveRR fun av mem maps h => by
  obtain ⟨rfl, rfl, rfl⟩ := h
  exact .inr ⟨65, L.length, fun a => bRow L.length (fun b => warR (relR L) L.length a b), [], fun a _ i _ c hc => boolClosed _ i c hc, rfl, rfl, .inl ⟨rfl, rfl, rfl, rfl⟩⟩
def tabD (L : List PMod) (d : Nat → Bool) (a : Nat) : List AV := if d a = true then [.sl 4 (scL L a).length (opCells (scL L a))] else [.lit (.slice none 0 0)]
theorem tabDClosed (L : List PMod) (d : Nat → Bool) (a : Nat) (c : AV) (h : c ∈ tabD L d a) : Closed c := by
 unfold tabD at h
 split at h
 ·rw [List.mem_singleton] at h; subst h; exact .sl _ _ _ fun i c _ h => opClosed _ i c h
 ·rw [List.mem_singleton] at h; subst h; exact .lit _
def tabDRow (L : List PMod) (d : Nat → Bool) : Option Ob := some ⟨55, 1, L.length, tabD L d⟩
def doneRow (n : Nat) (d : Nat → Bool) : Option Ob := some ⟨4, 1, n, boolCells d⟩
theorem KD1 : (∀ L d, tabDRow L d = some ⟨55, 1, L.length, tabD L d⟩) ∧ (∀ n d, doneRow n d = some ⟨4, 1, n, boolCells d⟩) ∧ (∀ L d a c, (c ∈ tabD L d a → Closed c) = True) ∧ (∀ f a c, (c ∈ boolCells f a → Closed c) = True) ∧ (∀ g m L d a, CellsRn g m (tabD L d a) (tabD L d a) = True) ∧ (∀ g m f a, CellsRn g m (boolCells f a) (boolCells f a) = True) :=
 ⟨fun _ _ => rfl, fun _ _ => rfl, fun _ _ _ _ => eq_true (tabDClosed _ _ _ _), fun _ _ _ => eq_true (boolClosed _ _ _), fun _ _ L d a => eq_true (cellsRn_closed fun c h => tabDClosed L d a c h), fun _ _ f a => eq_true (cellsRn_closed fun c h => boolClosed f a c h)⟩
def tblCells (S : Nat → List POp) (a : Nat) : List AV := [.sl 4 (S a).length (opCells (S a))]
theorem tblClosed (S : Nat → List POp) (a : Nat) (c : AV) (h : c ∈ tblCells S a) : Closed c := by
 unfold tblCells at h
 rw [List.mem_singleton] at h; subst h; exact .sl _ _ _ fun i c _ h => opClosed _ i c h
theorem tblOut {g : Nat → Nat} {ks : List Nat} {ty n : Nat} {S : Nat → List POp} {f : Nat → List AV} (h : ∀ a, a < n → f a = tblCells S a) : OutAt g ks ⟨ty, 1, n, tblCells S⟩ (some (some ⟨ty, 1, n, f⟩)) :=
 ⟨rfl, rfl, rfl, fun i hi => by
  have hi : i < n := hi
  simp only [h i hi]
  refine ⟨rfl, fun c hc => .inr ⟨?_, tblClosed S i c hc⟩, fun c hc q hq => ?_⟩
  ·unfold tblCells at hc; rw [List.mem_singleton] at hc; exact ⟨_, _, _, hc⟩
  ·unfold tblCells at hc; rw [List.mem_singleton] at hc; subst hc; simp [owns1] at hq⟩
def rdyK (L : List PMod) (d : Nat → Bool) (i k : Nat) : Bool := !d i && ((usI L i).take k).all d
theorem rdyK_step {L : List PMod} {d : Nat → Bool} {i k : Nat} (hk : k < (usI L i).length) : rdyK L d i (k + 1) = (rdyK L d i k && d ((usI L i).getD k 0)) := by
 unfold rdyK
 rw [List.take_succ_eq_append_getElem hk, List.all_append, List.getD_eq_getElem?_getD, List.getElem?_eq_getElem hk]
 simp [Bool.and_assoc]
theorem argSl_nil5 {mem : List (Option Ob)} {sz : Nat} {f : Nat → List AV} (h : 0 < sz) : ArgSl mem (.lit (.slice none 0 0)) sz 0 f := ⟨h, _, rfl, fun i hi => absurd hi (Nat.not_lt_zero i)⟩
theorem scJ_0 (L : List PMod) (i : Nat) : scJ L i 0 = union (opI L i) [] := rfl
theorem rdyK_full {L : List PMod} {d : Nat → Bool} {i : Nat} : rdyK L d i (usI L i).length = (!d i && (usI L i).all d) := by unfold rdyK; rw [List.take_length]
theorem rdD_next {U : Nat → List Nat} {d0 d : Nat → Bool} {i : Nat} (hd : rdD U d0 i = d) (a : Nat) : rdD U d0 (i + 1) a = if a = i then d i || (U i).all d else d a := by
 show (if a = i then _ else _) = _
 rw [hd]
set_option maxRecDepth 100000 in
theorem c_l5Scopes (L : List PMod) (hok : LoadOk L) : VProc Tryz.prog 34 [.sl 2 L.length (modCells L), .sl 3 L.length (unsCells (untsP L))] [] []
  (fun av mem maps => av = .own 0 ∧ mem = [some ⟨55, 1, L.length, tblCells (scL L)⟩] ∧ maps = []) := by
 have hL := hok.few
 refine vproc_start Tryz.func34 (by kernel_rfl) rfl (by simp [Tryz.ntmps34]) ?_; simp only [Tryz.ntmps34, Tryz.results34]; simp [go_sem]
 refine ⟨by omega, by omega, by omega, by omega, by omega, ?_⟩
 refine vc_loopE (fun r : Nat => r ≤ L.length) (fun r => L.length - r) (fun r => .of [(0, .sl 2 L.length (modCells L)), (1, .sl 3 L.length (unsCells (untsP L))), (5, .lit (.int .i64 L.length)), (6, .own 0), (7, .own 1), (8, .lit (.int .i64 r))] [tabDRow L (rnD (usI L) L.length r), doneRow L.length (rnD (usI L) L.length r)]) ⟨0, by omega, ?_⟩ (fun r hr => ?_)
 ·exact uE [0, 1] (h1 := by simp [go_sem, KU]) (h4 := by simp [go_sem, KD1]; exact ⟨.inl fun _ _ => rfl, .inl fun _ _ => rfl⟩)
 ·simp [go_sem, KU, KD1]
  refine ⟨fun h => ?_, fun h => ?_⟩
  ·refine vc_loopE (fun i : Nat => i ≤ L.length) (fun i => L.length - i) (fun i => .of [(0, .sl 2 L.length (modCells L)), (1, .sl 3 L.length (unsCells (untsP L))), (5, .lit (.int .i64 L.length)), (6, .own 0), (7, .own 1), (8, .lit (.int .i64 r)), (9, .lit (.int .i64 i))] [tabDRow L (rdD (usI L) (rnD (usI L) L.length r) i), doneRow L.length (rdD (usI L) (rnD (usI L) L.length r) i)]) ⟨0, by omega, ?_⟩ (fun i hi => ?_)
   ·exact ent_same (by simp [go_sem])
   ·generalize hd : rdD (usI L) (rnD (usI L) L.length r) i = d
    simp [go_sem, KU, KD1, boolCells_at]
    refine ⟨fun h2 => ?_, fun h2 => ?_⟩
    ·refine ⟨h2, ?_⟩
     have hU := untsP_at L h2
     obtain ⟨hl, hua⟩ := usI_at (L := L) h2
     have hul := usI_len L i
     refine vc_loopE (fun k : Nat => k ≤ (untAt L i).uses.length) (fun k => (untAt L i).uses.length - k) (fun k => .of [(0, .sl 2 L.length (modCells L)), (1, .sl 3 L.length (unsCells (untsP L))), (5, .lit (.int .i64 L.length)), (6, .own 0), (7, .own 1), (8, .lit (.int .i64 r)), (9, .lit (.int .i64 i)), (10, .lit (.bool (rdyK L d i k))), (11, .lit (.int .i64 k))] [tabDRow L d, doneRow L.length d]) ⟨0, by omega, ?_⟩ (fun k hk => ?_)
     ·exact ent_same (by simp [go_sem, rdyK])
     ·simp [go_sem, KU, KD1, unsCells_at, hU, txCells_at, boolCells_at]
      have wrk : IntKind.i64.wrap ((k : Int) + 1) = (k : Int) + 1 := wrap_i64 (by omega)
      refine ⟨h2, by omega, fun hk2 => ⟨fun e => ⟨h2, hk2, ?_⟩, fun e => ⟨k + 1, hk2, by omega, ?_⟩⟩, fun hk2 => ?_⟩
      ·have hx := hua k hk2
       have hm : (usI L i).getD k 0 ∈ usI L i := by
        rw [List.getD_eq_getElem?_getD, List.getElem?_eq_getElem (by omega)]
        exact List.getElem_mem _
       have hlt := hok.named i _ hm
       have hs := rdyK_step (d := d) (show k < (usI L i).length by omega)
       rw [hx] at hlt hs
       have hI := namI_is hlt
       refine vcall_pure (c_l5Named L (txAt (untAt L i).uses k) (by omega)) (by simp [go_sem, argSl_mod]) ?_
       rw [hI]
       simp [go_sem, KU, KD1, boolCells_at]
       refine ⟨hlt, k + 1, hk2, by omega, ?_⟩
       exact uE [0, 1] (h1 := by simp [go_sem, KU, wrk, hs, e]) (h4 := by simp [go_sem, KD1])
      ·have hs := rdyK_step (d := d) (show k < (usI L i).length by omega)
       exact uE [0, 1] (h1 := by simp [go_sem, KU, wrk, hs, e]) (h4 := by simp [go_sem, KD1])
      ·obtain rfl : k = (untAt L i).uses.length := by omega
       have wri : IntKind.i64.wrap ((i : Int) + 1) = (i : Int) + 1 := wrap_i64 (by omega)
       refine ⟨fun e => ⟨h2, ?_⟩, fun e => ⟨i + 1, h2, by omega, ?_⟩⟩
       ·have e2 := e
        rw [← hl, rdyK_full, Bool.and_eq_true] at e2
        obtain ⟨e3, e4⟩ := e2
        have hdn : ∀ u, u ∈ usI L i → d u = true := fun u hu => List.all_eq_true.1 e4 u hu
        have hO : (untAt L i).ops = opI L i := rfl
        rw [hO]
        have hol := opI_len L i
        refine vcall_use (c_specUnion (opI L i) [] (by simp; omega)) (by simp [go_sem]; exact ⟨argSl_refl (by omega) fun i c _ h => opClosed _ i c h, argSl_nil5 (by omega)⟩) ?_
        rintro av obs ⟨rfl, rfl⟩
        simp [go_sem, KU, KD1]
        refine vc_loopE (fun k : Nat => k ≤ (untAt L i).uses.length) (fun k => (untAt L i).uses.length - k) (fun k => .of [(0, .sl 2 L.length (modCells L)), (1, .sl 3 L.length (unsCells (untsP L))), (5, .lit (.int .i64 L.length)), (6, .own 0), (7, .own 1), (8, .lit (.int .i64 r)), (9, .lit (.int .i64 i)), (12, .ptr 2 1 0 0), (13, .lit (.int .i64 k))] [tabDRow L d, doneRow L.length d, some ⟨55, 1, 1, fun _ => [.own 3]⟩, opRow5 (scJ L i k)]) ⟨0, by omega, ?_⟩ (fun k hk => ?_)
        ·exact uE [0, 1, 3, 2] (h1 := by simp [go_sem, KU]) (h4 := by simp [go_sem, KD1, K5, opRow5, scJ_0])
        ·simp [go_sem, KU, KD1, unsCells_at, hU, txCells_at, opRow5]
         have wrk : IntKind.i64.wrap ((k : Int) + 1) = (k : Int) + 1 := wrap_i64 (by omega)
         refine ⟨h2, by omega, fun hk2 => ?_, fun hk2 => ?_⟩
         ·have hx := hua k hk2
          have hm : (usI L i).getD k 0 ∈ usI L i := by
           rw [List.getD_eq_getElem?_getD, List.getElem?_eq_getElem (by omega)]
           exact List.getElem_mem _
          have hlt := hok.named i _ hm
          have hdu := hdn _ hm
          have hst := scJ_step (L := L) (i := i) (j := k) (by omega)
          rw [hx] at hlt hst hdu
          have hI := namI_is hlt
          have hn1 := c_l5Named L (txAt (untAt L i).uses k) (by omega)
          rw [hI] at hn1
          have htd : tabD L d (nameAt L (txAt (untAt L i).uses k)) = [.sl 4 (scL L (nameAt L (txAt (untAt L i).uses k))).length (opCells (scL L (nameAt L (txAt (untAt L i).uses k))))] := if_pos hdu
          have l1 := scJ_len hok i k h2
          have l2 : (scL L (nameAt L (txAt (untAt L i).uses k))).length ≤ 2000100 := hok.scl_len _ _ hlt
          refine vc_drawn [15] (.q 0 <| .q 1 <| .q 2 <| .q 3 <| .q 4 <| .q 5 <| .q 6 <| .q 7 <| .q 8 <| .q 9 <| .q 10 <| .or 11 (.q 12 <| .q 13 <| .or 14 (.or 15 (.done) (.nil)) (.nil)) (.nil)) (by kernel_rfl) ?_
          simp [go_sem, KU, KD1, unsCells_at, hU, txCells_at]
          refine ⟨h2, hk2, vcallV_pure hn1 (by simp [go_sem, argSl_mod]) ?_⟩
          simp [go_sem, htd, KU, KD1]
          refine ⟨hlt, vcallV_use (c_specUnion (scJ L i k) (scL L (nameAt L (txAt (untAt L i).uses k))) (by omega)) (by simp [go_sem]; exact ⟨argSl_own5 (k := 3) rfl (by omega) rfl (fun _ _ => rfl) fun i c _ h => opClosed _ i c h, argSl_refl (by omega) fun i c _ h => opClosed _ i c h⟩) ?_⟩
          rintro av obs ⟨rfl, rfl⟩
          simp [go_sem, KU, KD1]
          refine ⟨k + 1, hk2, by omega, ?_⟩
          exact uE [0, 1, 2, 4] (h1 := by simp [go_sem, KU, wrk]) (h4 := by simp [go_sem, KD1, K5, opRow5, hst])
         ·obtain rfl : k = (untAt L i).uses.length := by omega
          refine ⟨h2, i + 1, h2, by omega, ?_⟩
          have hfull : scJ L i (untAt L i).uses.length = scL L i := by rw [← hl]; exact scJ_full hok h2
          have hnx : ∀ a, rdD (usI L) (rnD (usI L) L.length r) (i + 1) a = if a = i then true else d a := fun a => by
           rw [rdD_next hd]
           split
           ·rename_i e5; subst e5; rw [e4, Bool.or_true]
           ·rfl
          refine (Ent.giveAt 0 3 i 0 rfl (fun q _ c h => opClosed _ q c h) rfl (by decide) (by simp [updF_at h2 h2, splice])).trans ?_
          simp only [List.set_cons_succ, List.set_cons_zero]
          have hA : ∀ (g : Nat → Nat) m a, a < L.length → CellsRn g m (if a = i then (updF L.length (tabD L d) i 0 [.own 3] a).set 0 (.sl 4 (scJ L i (untAt L i).uses.length).length (opCells (scJ L i (untAt L i).uses.length))) else updF L.length (tabD L d) i 0 [.own 3] a) (tabD L (rdD (usI L) (rnD (usI L) L.length r) (i + 1)) a) := fun g m a ha => by
           have e6 : (if a = i then (updF L.length (tabD L d) i 0 [.own 3] a).set 0 (.sl 4 (scJ L i (untAt L i).uses.length).length (opCells (scJ L i (untAt L i).uses.length))) else updF L.length (tabD L d) i 0 [.own 3] a) = tabD L (rdD (usI L) (rnD (usI L) L.length r) (i + 1)) a := by
            rw [updF_at h2 ha, hfull]
            by_cases e7 : a = i
            ·subst e7
             rw [if_pos rfl, if_pos rfl]
             have : tabD L (rdD (usI L) (rnD (usI L) L.length r) (a + 1)) a = [.sl 4 (scL L a).length (opCells (scL L a))] := if_pos (by rw [hnx, if_pos rfl])
             rw [this]
             have hda : tabD L d a = [.lit (.slice none 0 0)] := if_neg (by
              intro h; rw [h] at e3; cases e3)
             rw [hda]; rfl
            ·rw [if_neg e7, if_neg e7]
             unfold tabD
             rw [hnx, if_neg e7]
           rw [e6]
           exact cellsRn_closed fun c h => tabDClosed _ _ a c h
          have hB : ∀ a, a < L.length → updF L.length (boolCells d) i 0 [.lit (.bool true)] a = boolCells (rdD (usI L) (rnD (usI L) L.length r) (i + 1)) a := fun a ha => by
           rw [updF_at h2 ha]
           unfold boolCells
           rw [hnx]
           split
           ·rfl
           ·rfl
          exact uE [0, 1] (h1 := by simp [go_sem, KU, wri]) (h4 := by simp [go_sem, KD1]; exact ⟨.inr fun a ha => hA _ _ a ha, .inl fun a ha => hB a ha⟩)
       ·have e2 := e
        rw [← hl, rdyK_full] at e2
        have hsame : rdD (usI L) (rnD (usI L) L.length r) (i + 1) = d := by
         funext a
         rw [rdD_next hd]
         split
         ·rename_i e3; subst e3
          revert e2
          cases d a <;> cases (usI L a).all d <;> simp
         ·rfl
        exact uE [0, 1] (h1 := by simp [go_sem, KU, wri]) (h4 := by simp [go_sem, KD1, hsame])
    ·obtain rfl : i = L.length := by omega
     have wrr : IntKind.i64.wrap ((r : Int) + 1) = (r : Int) + 1 := wrap_i64 (by omega)
     have e : rnD (usI L) L.length (r + 1) = d := hd
     refine ⟨r + 1, h, by omega, ?_⟩
     exact uE [0, 1] (h1 := by simp [go_sem, KU, wrr]) (h4 := by simp [go_sem, KD1, e])
  ·obtain rfl : r = L.length := by omega
   exact uF [0] [some ⟨55, 1, L.length, tblCells (scL L)⟩] (hm := by
    simp [go_sem]
    refine tblOut fun a ha => ?_
    unfold tabD
    rw [if_pos (hok.fin a ha)]; rfl) (hR := by simp [go_sem])
def jAt (js : List Nat) (q : Nat) : Nat := js.getD q 0
def memoEs (L : List PMod) (js : List Nat) (vs : Nat → Value) : List (Value × Value) := (List.range js.length).map fun q => (.string (modAt L (jAt js q)).name, vs q)
def tblAV (S : List POp) : AV := .agg [.sl 4 S.length (opCells S)]
def memoAs (L : List PMod) (js : List Nat) (q : Nat) : AV := tblAV (scL L (jAt js q))
theorem tblAV_closed (S : List POp) : Closed (tblAV S) := .agg _ fun c h => by
 rw [List.mem_singleton] at h; subst h
 exact .sl _ _ _ fun i c _ h => opClosed _ i c h
structure MemoOk (L : List PMod) (js : List Nat) : Prop where
 lt : ∀ j, j ∈ js → j < L.length
 nodup : js.Nodup
theorem jAt_mem {js : List Nat} {q : Nat} (h : q < js.length) : jAt js q ∈ js := by
 unfold jAt
 rw [List.getD_eq_getElem?_getD, List.getElem?_eq_getElem h]
 exact List.getElem_mem _
theorem jAt_inj {js : List Nat} (hn : js.Nodup) {q r : Nat} (hq : q < js.length) (hr : r < js.length) (e : jAt js q = jAt js r) : q = r := by
 unfold jAt at e
 rw [List.getD_eq_getElem?_getD, List.getD_eq_getElem?_getD, List.getElem?_eq_getElem hq, List.getElem?_eq_getElem hr] at e
 exact (List.getElem_inj hn).1 e
theorem memoEs_get {L : List PMod} {js : List Nat} {vs : Nat → Value} {i : Nat} {p : Value × Value} (h : (memoEs L js vs)[i]? = some p) : i < js.length ∧ p = (.string (modAt L (jAt js i)).name, vs i) := by
 have hi : i < js.length := by
  have := (List.getElem?_eq_some_iff.1 h).1
  unfold memoEs at this
  simpa using this
 unfold memoEs at h
 rw [List.getElem?_map, List.getElem?_range hi] at h
 exact ⟨hi, (Option.some.inj h).symm⟩
theorem memo_get {L : List PMod} {js : List Nat} {vs : Nat → Value} (hN : NamesOk L) (hm : MemoOk L js) {q : Nat} (hq : q < js.length) : mget (memoEs L js vs) (.string (modAt L (jAt js q)).name) = some (vs q) := by
 refine mget_at (j := q) ?_ fun i p hi hp => ?_
 ·unfold memoEs
  rw [List.getElem?_map, List.getElem?_range hq]; rfl
 ·obtain ⟨h1, rfl⟩ := memoEs_get hp
  simp only [ne_eq, Value.string.injEq]
  intro e
  have := jAt_inj hm.nodup h1 hq (hN.inj (hm.lt _ (jAt_mem h1)) (hm.lt _ (jAt_mem hq)) e)
  omega
theorem memo_none {L : List PMod} {js : List Nat} {vs : Nat → Value} (hN : NamesOk L) (hm : MemoOk L js) {i : Nat} (hi : i < L.length) (h : i ∉ js) : mget (memoEs L js vs) (.string (modAt L i).name) = none := by
 refine mget_not fun p hp => ?_
 obtain ⟨q, hq⟩ := List.getElem?_of_mem hp
 obtain ⟨h1, rfl⟩ := memoEs_get hq
 simp only [ne_eq, Value.string.injEq]
 intro e
 rw [← hN.inj (hm.lt _ (jAt_mem h1)) hi e] at h
 exact h (jAt_mem h1)
theorem memo_put {L : List PMod} {js : List Nat} {vs : Nat → Value} (hN : NamesOk L) (hm : MemoOk L js) {i : Nat} (hi : i < L.length) (h : i ∉ js) (u : Value) : mput (memoEs L js vs) (.string (modAt L i).name) u = memoEs L (js ++ [i]) (fun q => if q = js.length then u else vs q) := by
 rw [mput_not fun p hp => by
  obtain ⟨q, hq⟩ := List.getElem?_of_mem hp
  obtain ⟨h1, rfl⟩ := memoEs_get hq
  simp only [ne_eq, Value.string.injEq]
  intro e
  rw [← hN.inj (hm.lt _ (jAt_mem h1)) hi e] at h
  exact h (jAt_mem h1)]
 unfold memoEs
 rw [List.length_append, List.length_singleton, List.range_succ, List.map_append]
 congr 1
 ·refine List.map_congr_left fun q hq => ?_
  rw [List.mem_range] at hq
  have e : jAt (js ++ [i]) q = jAt js q := by
   unfold jAt
   rw [List.getD_eq_getElem?_getD, List.getD_eq_getElem?_getD, List.getElem?_append_left hq]
  have e2 : ¬ q = js.length := by omega
  simp only [e, if_neg e2]
 ·have e : jAt (js ++ [i]) js.length = i := by
   unfold jAt
   rw [List.getD_eq_getElem?_getD, List.getElem?_append_right (Nat.le_refl _)]; simp
  simp [e]
theorem MemoOk.add {L : List PMod} {js : List Nat} (hm : MemoOk L js) {i : Nat} (hi : i < L.length) (h : i ∉ js) : MemoOk L (js ++ [i]) := by
 refine ⟨fun j hj => ?_, ?_⟩
 ·rcases List.mem_append.1 hj with hj | hj
  ·exact hm.lt j hj
  ·rw [List.mem_singleton] at hj; subst hj; exact hi
 ·rw [List.nodup_append]
  refine ⟨hm.nodup, by simp, fun a ha b hb e => ?_⟩
  rw [List.mem_singleton] at hb
  subst hb; subst e; exact h ha
theorem zeroTable : zeroIs Tryz.prog 55 (.agg #[.slice none 0 0]) := fun w => Tryz.zeroValue55 w
def scopeR (L : List PMod) (b1 b2 i : Nat) (js : List Nat) (av : AV) (mem : List (Option Ob)) (maps : List (Nat × Mp)) (N : Nat) (vs : Nat → Value) («as» : Nat → AV) : Prop :=
 ∃ js', MemoOk L js' ∧ (∀ j, j ∈ js' → j ∈ js ∨ rankR (relR L) L.length j ≤ rankR (relR L) L.length i) ∧ N = js'.length ∧ (∀ q, q < N → «as» q = memoAs L js' q) ∧ av = tblAV (scL L i) ∧ mem = [] ∧ maps = [(b1, ⟨9, atEs L L.length⟩), (b2, ⟨9, memoEs L js' vs⟩)]
theorem rn_memo (f : Nat → Nat) (m n : Nat) (vs : Nat → Value) (L : List PMod) (js : List Nat) : Rn f m (.fam n vs (memoAs L js)) (.fam n vs (memoAs L js)) = True := eq_true (.fam _ _ _ _ fun q _ => .closed _ (tblAV_closed _))
set_option maxRecDepth 100000 in
set_option maxHeartbeats 1000000 in
theorem c_scope (L : List PMod) (S : List PSrc) (b1 b2 : Nat) (hb : ¬ b1 = b2) (hS : SrcIs L S) (hok : LoadOk L) (hN : NamesOk L) (hz : ∀ i, (modAt L i).name.size ≤ 1048576) : ∀ (f i : Nat), i < L.length → rankR (relR L) L.length i < f → ∀ (js : List Nat) (vs : Nat → Value), MemoOk L js →
  VProcGT Tryz.prog 39 [.bptr (progCells L S b1 b2), .lit (.string (modAt L i).name)] js.length vs (memoAs L js) [] [(b1, ⟨9, atEs L L.length⟩), (b2, ⟨9, memoEs L js vs⟩)] (scopeR L b1 b2 i js) := by
 intro f
 induction f with
 | zero => exact fun i _ h => absurd h (Nat.not_lt_zero _)
 | succ f ih =>
  intro i hi hrk js vs hm
  have hky : ∃ l, keyOf Tryz.prog 9 (.string (modAt L i).name) = some l := keyString (by have := hz i; simp only [maxLen]; omega)
  refine vprocGT_start Tryz.func39 (by kernel_rfl) rfl (by simp [Tryz.ntmps39]) ?_; simp only [Tryz.ntmps39, Tryz.results39]; simp [go_sem]
  simp [go_sem, KP, hb]
  by_cases hin : i ∈ js
  ·obtain ⟨q, hq, hqi⟩ := List.getElem_of_mem hin
   have hji : jAt js q = i := by unfold jAt; rw [List.getD_eq_getElem?_getD, List.getElem?_eq_getElem hq]; exact hqi
   have hget := memo_get (vs := vs) hN hm hq
   rw [hji] at hget
   refine vlookK_told keyedString hky _ zeroTable 65 rfl q hq hget ?_
   have hma : memoAs L js q = .agg [.sl 4 (scL L i).length (opCells (scL L i))] := by unfold memoAs tblAV; rw [hji]
   simp [go_sem, KP, hb, hma]
   refine ⟨fun q _ => tblAV_closed _, ?_⟩
   exact uF [] [] (hq := by simp [go_sem]; exact fun i c _ h => opClosed _ i c h) (hR := ⟨js, hm, fun _ h => .inl h, rfl, fun _ _ => rfl, rfl, rfl, rfl⟩)
  ·have hget := memo_none (vs := vs) hN hm hi hin
   refine vlookK_use keyedString hky _ zeroTable ?_
   rw [hget]
   simp [go_sem, KP, hb]
   have hga : mget (atEs L L.length) (.string (modAt L i).name) = some (.int .i64 i) := by rw [mget_at_lt (by rw [hN i hi]; exact hi) (Nat.le_refl _), hN i hi]
   refine vc_drawn [] (.q 0 <| .q 1 <| .q 2 <| .q 3 <| .q 4 <| .q 5 <| .q 6 <| .q 7 <| .q 8 <| .q 9 <| .q 10 <| .q 11 <| .q 12 <| .done) (by kernel_rfl) ?_
   simp [go_sem, KP, hb]
   refine vlookK_use keyedString hky _ zeroInt ?_
   rw [hga]
   simp [go_sem, KP, srcCells_at, hS.unt i hi]
   have hol := opI_len L i
   obtain ⟨hl, hua⟩ := usI_at (L := L) hi
   have hul := usI_len L i
   have hO : (untAt L i).ops = opI L i := rfl
   rw [hO]
   refine ⟨hi, vcall_use (c_Union (opI L i) [] (by simp; omega) (opI_fit L i).1 (fun q hq => absurd hq (Nat.not_lt_zero q)) (opI_fit L i).2 (fun q hq => absurd hq (Nat.not_lt_zero q))) (by simp [go_sem]; exact ⟨argSl_refl (by omega) fun i c _ h => opClosed _ i c h, argSl_nil5 (by omega)⟩) ?_⟩
   rintro av obs ⟨rfl, rfl⟩
   simp [go_sem, KP, K5]
   refine ⟨by omega, ?_⟩
   refine vc_loopE (fun x : Nat × List Nat × (Nat → Value) => x.1 ≤ (untAt L i).uses.length ∧ MemoOk L x.2.1 ∧ ∀ j, j ∈ x.2.1 → j ∈ js ∨ rankR (relR L) L.length j < rankR (relR L) L.length i) (fun x => (untAt L i).uses.length - x.1)
    (fun x => ⟨[(0, .bptr (progCells L S b1 b2)), (1, .lit (.string (modAt L i).name)), (4, .ptr 0 1 0 0), (8, .ptr 1 1 0 0), (46, .sl 1 (untAt L i).uses.length (txCells (untAt L i).uses)), (47, .lit (.int .i64 (untAt L i).uses.length)), (48, .lit (.int .i64 x.1)), (65, .fam x.2.1.length x.2.2 (memoAs L x.2.1))],
     [some ⟨55, 1, 1, fun _ => [.lit (.slice none 0 0)]⟩, some ⟨55, 1, 1, fun _ => [.sl 4 (scJ L i x.1).length (opCells (scJ L i x.1))]⟩], [(b1, ⟨9, atEs L L.length⟩), (b2, ⟨9, memoEs L x.2.1 x.2.2⟩)], 0⟩) ⟨(0, js, vs), ⟨Nat.zero_le _, hm, fun _ h => .inl h⟩, ?_⟩ (fun x hx => ?_)
   ·refine (Ent.giveIn 3 2 0 rfl (fun q _ c h => opClosed _ q c h) rfl (by decide) (fun _ _ => rfl)).trans ?_
    simp only [List.set_cons_succ, List.set_cons_zero]
    exact uE [0, 3] (h1 := by simp [go_sem, KP, K5, rn_memo]) (h4 := by simp [go_sem, K5, scJ_0]) (hM := by simp [go_sem, hb])
   obtain ⟨k, ks, ws⟩ := x
   simp only at hx
   obtain ⟨hk, hmk, hik⟩ := hx
   have hink : i ∉ ks := fun h => by
    rcases hik i h with h | h
    ·exact hin h
    ·omega
   simp [go_sem, KP, K5, txCells_at, hb]
   have wrk : IntKind.i64.wrap ((k : Int) + 1) = (k : Int) + 1 := wrap_i64 (by omega)
   refine ⟨fun hk2 => ⟨hk2, ?_⟩, fun hk2 => ?_⟩
   ·have hx := hua k hk2
    have hmm : (usI L i).getD k 0 ∈ usI L i := by
     rw [List.getD_eq_getElem?_getD, List.getElem?_eq_getElem (by omega)]
     exact List.getElem_mem _
    have hlt := hok.named i _ hmm
    have hrk2 := hok.rank i _ hmm
    have hst := scJ_step (L := L) (i := i) (j := k) (by omega)
    have hnm : txAt (untAt L i).uses k = (modAt L ((usI L i).getD k 0)).name := by rw [hx] at hlt ⊢; exact (nameAt_name hlt).symm
    generalize hw : (usI L i).getD k 0 = w at *
    have hcall := ih w hlt (by omega) ks ws hmk
    rw [← hnm] at hcall
    have l1 := scJ_len hok i k hi
    have l2 : (scL L w).length ≤ 2000100 := hok.scl_len _ _ hlt
    have f1 := scJ_fit hok i k hi
    have f2 := scL_fit hok w hlt
    have hun := c_Union (scJ L i k) (scL L w) (by omega) f1.1 f2.1 f1.2 f2.2
    refine vc_drawn [5,3,4] (.q 1 <| .q 2 <| .or 0 (.or 3 (.or 4 (.or 5 (.done) (.nil)) (.nil)) (.nil)) (.or 3 (.q 0 <| .or 4 (.or 5 (.done) (.nil)) (.nil)) (.nil))) (by kernel_rfl) ?_
    simp [go_sem, KP, K5, txCells_at, hb]
    refine ⟨vcall_gt [] 65 65 hcall (by simp) rfl (fun q _ => .closed _ (tblAV_closed _)) (by simp [go_sem, KP]) trivial (by simp [go_sem, hb]) ?_, vcall_gt [] 65 65 hcall (by simp) rfl (fun q _ => .closed _ (tblAV_closed _)) (by simp [go_sem, KP]) trivial (by simp [go_sem, hb]) ?_⟩
    all_goals
     rintro av mem maps N' vs' as' ⟨js', hm', hr', rfl, has, rfl, rfl, rfl⟩
     simp [go_sem, KP, K5, txCells_at, hb, tblAV]
     refine vcall_use hun (by simp [go_sem]; exact ⟨argSl_refl (by omega) fun i c _ h => opClosed _ i c h, argSl_refl (by omega) fun i c _ h => opClosed _ i c h⟩) ?_
     rintro av obs ⟨rfl, rfl⟩
     simp [go_sem, KP, K5, txCells_at, hb, tblAV]
     refine ⟨k + 1, js', ⟨hk2, hm', fun j hj => ?_⟩, by omega, vs', ?_⟩
     ·rcases hr' j hj with h | h
      ·exact hik j h
      ·exact .inr (by omega)
     ·refine (Ent.giveIn 1 2 0 rfl (fun q _ c h => opClosed _ q c h) rfl (by decide) (fun _ _ => rfl)).trans ?_
      simp only [List.set_cons_succ, List.set_cons_zero]
      exact uE [0, 1] (h1 := by simp [go_sem, KP, K5, wrk]; exact .fam _ _ _ _ fun q hq => by rw [has q hq]; exact .closed _ (tblAV_closed _)) (h4 := by simp [go_sem, K5, hst]) (hM := by simp [go_sem, hb])
   ·obtain rfl : k = (untAt L i).uses.length := by omega
    refine vc_drawn [6] (.q 0 <| .q 1 <| .q 2 <| .q 3 <| .q 4 <| .q 5 <| .or 6 (.done) (.nil)) (by kernel_rfl) ?_
    simp [go_sem, KP, K5, txCells_at, hb]
    have hfull : scJ L i (untAt L i).uses.length = scL L i := by rw [← hl]; exact scJ_full hok hi
    rw [hfull]
    refine vmsetK_told keyedString hky 65 rfl fun u => ?_
    rw [memo_put hN hmk hi hink u]
    simp [go_sem, KP, K5, hb]
    refine ⟨fun q hq => ?_, ?_⟩
    ·split
     ·exact tblAV_closed _
     ·exact tblAV_closed _
    ·refine uF [] [] (hq := by simp [go_sem]; exact fun i c _ h => opClosed _ i c h) (hR := ⟨ks ++ [i], hmk.add hi hink, fun j hj => ?_, by simp, fun q hq => ?_, rfl, rfl, rfl⟩) (hM := fun b h => by
      simp only [lkm] at h ⊢
      split
      ·rfl
      ·rename_i e1
       rw [if_neg e1] at h
       split
       ·rfl
       ·rename_i e2; rw [if_neg e2] at h; exact h)
     ·rcases List.mem_append.1 hj with hj | hj
      ·rcases hik j hj with h | h
       ·exact .inl h
       ·exact .inr (by omega)
      ·rw [List.mem_singleton] at hj; subst hj; exact .inr (Nat.le_refl _)
     ·unfold memoAs jAt
      simp only
      by_cases e : q = ks.length
      ·subst e
       rw [if_pos rfl, List.getD_eq_getElem?_getD, List.getElem?_append_right (Nat.le_refl _), Nat.sub_self]; rfl
      ·rw [if_neg e, List.getD_eq_getElem?_getD, List.getD_eq_getElem?_getD, List.getElem?_append_left (by omega)]
theorem VFun.adopt1 {P : Program} {f : FuncId} {args : List AV} {R R' : AV → List Ob → Prop} (h : VFun P f args R) (ty sz : Nat) (hsz : 0 < sz) (g : Nat → List AV)
  (hr : ∀ av obs, R av obs → R' av obs ∨ (av = .lit (.slice none 0 0) ∧ obs = [] ∧ R' (.own 0) [⟨ty, sz, 0, g⟩])) : VFun P f args R' := by
 refine ⟨h.1, fun w vs hl hv => (h.2 w vs hl hv).mono fun e w' ⟨v, e1, gr, hd, av, obs, r, fl, hlit, hm, hrep⟩ => ?_⟩
 rcases hr av obs r with r' | ⟨rfl, rfl, r'⟩
 ·exact ⟨v, e1, gr, hd, av, obs, r', fl, hlit, hm, hrep⟩
 ·refine ⟨v, e1, gr, fun _ => .slice none 0 0, _, _, r', rfl, fun ob ho i hi => ?_, ⟨fun k ob hk b hb => ?_, fun k ob hk => ?_, fun k hk => ⟨none, 0, 0, rfl⟩, fun k k' o o' hk hk' hne => .inl rfl⟩, ?_⟩
  ·simp only [List.mem_singleton] at ho
   subst ho
   simp at hi
  ·simp [Value.ownBlock] at hb
  ·cases k with
   | zero =>
    simp only [List.map_cons, List.map_nil, List.getElem?_cons_zero, Option.some.injEq] at hk
    subst hk
    exact ⟨hsz, [], ⟨by simp, .inl ⟨rfl, rfl⟩⟩, fun i hi => by simp at hi⟩
   | succ k => simp at hk
  ·cases hrep
   exact .own (hd := fun _ => .slice none 0 0) 0 (by simp)
set_option maxRecDepth 100000 in
theorem c_clone1 (l : List POp) (hl : l.length ≤ 10000000) : VFun Tryz.prog 38 [.sl 4 l.length (opCells l)] (fun av obs => (av = .own 0 ∧ obs = [⟨73, 4, l.length, opCells l⟩]) ∨ (av = .lit (.slice none 0 0) ∧ obs = [] ∧ l = [])) := by
 refine vfun_start Tryz.func38 (by kernel_rfl) rfl (by simp [Tryz.ntmps38]) ?_; simp only [Tryz.ntmps38, Tryz.results38]; simp [go_sem]
 refine ⟨by omega, by omega, obsSame_one.mpr ⟨⟨73, 4, l.length, opCells l⟩, ⟨rfl, rfl, rfl, fun j hj => ⟨?_, opLit l j⟩⟩, rfl⟩⟩
 show joinF 0 (fun _ => []) (opCells l) j = opCells l j
 unfold joinF
 rw [if_neg (by omega), Nat.sub_zero]
theorem c_clone (l : List POp) (hl : l.length ≤ 10000000) : VFun Tryz.prog 38 [.sl 4 l.length (opCells l)] (fun av obs => av = .own 0 ∧ obs = [⟨73, 4, l.length, opCells l⟩]) :=
 (c_clone1 l hl).adopt1 73 4 (by omega) (opCells []) fun av obs h => by
  rcases h with h | ⟨rfl, rfl, rfl⟩
  ·exact .inl h
  ·exact .inr ⟨rfl, rfl, rfl, rfl⟩
theorem c_l5ScopesB (L : List PMod) (hok : LoadOk L) : VProc Tryz.prog 34 [.sl 2 L.length (modCells L), .sl 3 L.length (unsCells (untsP L))] [] [] (fun av mem maps => av = .sl 1 L.length (tblCells (scL L)) ∧ mem = [] ∧ maps = []) :=
 (c_l5Scopes L hok).giveR fun av mem maps h => by
  obtain ⟨rfl, rfl, rfl⟩ := h
  exact ⟨⟨55, 1, L.length, tblCells (scL L)⟩, L.length, tblCells (scL L), fun _ _ => rfl, rfl, rfl, Nat.le_refl _, fun i _ c hc => tblClosed _ i c hc, .inl ⟨rfl, rfl⟩, rfl, rfl, rfl⟩
def loadR (L : List PMod) (c : Int) (w : Nat) (av : AV) (mem : List (Option Ob)) (maps : List (Nat × Mp)) : Prop :=
 (¬ c = 0 ∧ av = .tup [.own 0, .lit (.int .i64 c), .lit (.int .i64 w)] ∧ mem = [some ⟨55, 1, 0, fun i => [.own (i + 1)]⟩] ∧ maps = []) ∨ (c = 0 ∧ av = .tup [.sl 1 L.length (tblCells (scL L)), .lit (.int .i64 0), .lit (.int .i64 0)] ∧ mem = [] ∧ maps = [])
theorem load_none {M : List (Nat × Mp)} {t : List (Nat × AV)} {m : List (Option Ob)} {f : Nat → List AV} {L : List PMod} {c : Int} {w : Nat} (hm : m[0]? = some (some ⟨55, 1, 0, f⟩)) (hc : ¬ c = 0) (h : loadC L = (c, w)) (hM : M = []) : vendP [] (loadR L (loadC L).1 (loadC L).2) ⟨t, m, M, 0⟩ (.tup [.own 0, .lit (.int .i64 c), .lit (.int .i64 w)]) := by
 subst hM
 have hl : 0 < m.length := (List.getElem?_eq_some_iff.1 hm).1
 exact uF [0] [some ⟨55, 1, 0, fun i => [.own (i + 1)]⟩] (he := by simp; omega) (hm := by simp [go_sem, hm, OutAt]) (hR := .inl ⟨by rw [h]; exact hc, by rw [h]; simp [go_sem, idxOut], rfl, rfl⟩)
theorem KM : (∀ L i c, (c ∈ modCells L i → Closed c) = True) ∧ (∀ S i c, (c ∈ tblCells S i → Closed c) = True) ∧ (∀ n g i c, (c ∈ matCells n g i → Closed c) = True) := ⟨fun _ _ _ => eq_true (modClosed _ _ _), fun _ _ _ => eq_true (tblClosed _ _ _), fun _ _ _ _ => eq_true (matClosed _ _ _ _)⟩
theorem all_next {p : Nat → Bool} {i : Nat} (hb : ∀ j, j < i → p j = false) (h : p i = false) : ∀ j, j < i + 1 → p j = false := fun j hj => by
 by_cases e : j = i
 ·rw [e]; exact h
 ·exact hb j (by omega)
theorem load_2 {L : List PMod} {i : Nat} (h1 : L.length ≤ 100) (h2 : firstI L.length (bad2 L) = some i) : loadC L = (2, i) := by unfold loadC; rw [if_neg (by omega), h2]
theorem load_3 {L : List PMod} {i : Nat} (h1 : L.length ≤ 100) (h2 : firstI L.length (bad2 L) = none) (h3 : firstI L.length (bad3 L) = some i) : loadC L = (3, i) := by unfold loadC; rw [if_neg (by omega), h2, h3]
theorem load_4 {L : List PMod} {i : Nat} (h1 : L.length ≤ 100) (h2 : firstI L.length (bad2 L) = none) (h3 : firstI L.length (bad3 L) = none) (h4 : firstI L.length (bad4 L) = some i) : loadC L = (4, i) := by unfold loadC; rw [if_neg (by omega), h2, h3, h4]
theorem load_5 {L : List PMod} {i : Nat} (h1 : L.length ≤ 100) (h2 : firstI L.length (bad2 L) = none) (h3 : firstI L.length (bad3 L) = none) (h4 : firstI L.length (bad4 L) = none) (h5 : firstI L.length (bad5 L) = some i) : loadC L = (5, i) := by unfold loadC; rw [if_neg (by omega), h2, h3, h4, h5]
theorem load_6 {L : List PMod} {i : Nat} (h1 : L.length ≤ 100) (h2 : firstI L.length (bad2 L) = none) (h3 : firstI L.length (bad3 L) = none) (h4 : firstI L.length (bad4 L) = none) (h5 : firstI L.length (bad5 L) = none) (h6 : firstI L.length (bad6 L) = some i) : loadC L = (6, i) := by unfold loadC; rw [if_neg (by omega), h2, h3, h4, h5, h6]
theorem load_0 {L : List PMod} (h1 : L.length ≤ 100) (h2 : firstI L.length (bad2 L) = none) (h3 : firstI L.length (bad3 L) = none) (h4 : firstI L.length (bad4 L) = none) (h5 : firstI L.length (bad5 L) = none) (h6 : firstI L.length (bad6 L) = none) : loadC L = (0, 0) := by unfold loadC; rw [if_neg (by omega), h2, h3, h4, h5, h6]
def bad4K (L : List PMod) (i k : Nat) : Bool := ((usI L i).take k).any fun u => u == L.length
theorem bad4K_step {L : List PMod} {i k : Nat} (hk : k < (usI L i).length) : bad4K L i (k + 1) = (bad4K L i k || (usI L i).getD k 0 == L.length) := by
 unfold bad4K
 rw [List.take_succ_eq_append_getElem hk, List.any_append, List.getD_eq_getElem?_getD, List.getElem?_eq_getElem hk]
 simp
theorem bad4K_full {L : List PMod} {i : Nat} : bad4K L i (usI L i).length = bad4 L i := by unfold bad4K bad4; rw [List.take_length]
theorem bad4K_le {L : List PMod} {i k : Nat} (h : bad4K L i k = true) : bad4 L i = true := by
 unfold bad4K at h
 rw [List.any_eq_true] at h
 obtain ⟨u, hu, e⟩ := h
 unfold bad4
 rw [List.any_eq_true]
 exact ⟨u, List.mem_of_mem_take hu, e⟩
set_option maxRecDepth 100000 in
theorem c_specLoad1 (L : List PMod) (hn : L.length ≤ 1048576) (hz : ∀ i, (modAt L i).name.size ≤ 1048576 ∧ (modAt L i).text.size ≤ 1048576) : VProc Tryz.prog 8 [.sl 2 L.length (modCells L)] [] [] (loadR L (loadC L).1 (loadC L).2) := by
 refine vproc_start Tryz.func8 (by kernel_rfl) rfl (by simp [Tryz.ntmps8]) ?_; simp only [Tryz.ntmps8, Tryz.results8]; simp [go_sem]
 refine ⟨by omega, fun hbig => ?_, fun hsm => ?_⟩
 ·exact load_none rfl (by decide) (by unfold loadC; rw [if_pos (by omega)]) rfl
 have hsm : L.length ≤ 100 := by omega
 refine vc_loopE (fun i : Nat => i ≤ L.length ∧ ∀ j, j < i → bad2 L j = false) (fun i => L.length - i) (fun i => .of [(0, .sl 2 L.length (modCells L)), (5, .own 0), (6, .lit (.int .i64 L.length)), (7, .lit (.int .i64 i))] [some ⟨55, 1, 0, fun _ => []⟩]) ⟨0, ⟨by omega, fun j h => by omega⟩, ?_⟩ (fun i hi => ?_)
 ·exact ent_same (by simp [go_sem])
 obtain ⟨hi, hb⟩ := hi
 simp [go_sem, KM]
 refine ⟨fun h => ?_, fun h => ?_⟩
 ·refine ⟨h, ?_⟩
  simp [go_sem, modCells_at]
  refine vcall_use (c_specReadUnit (modAt L i).text (hz i).2) (by simp [go_sem]) ?_
  rintro av obs ⟨rfl, rfl⟩
  simp [go_sem, KM, modCells_at]
  refine ⟨fun e => ⟨h, vcall_pure (c_l2IsName (modAt L i).name (by have := (hz i).1; omega)) (by simp [go_sem]) ?_⟩, fun e => ?_⟩
  ·simp [go_sem, KM, modCells_at]
   have wr : IntKind.i64.wrap ((i : Int) + 1) = (i : Int) + 1 := wrap_i64 (by omega)
   refine ⟨fun e2 => ⟨h, fun e3 => ?_, fun e3 => ⟨i + 1, ⟨h, all_next hb ?_⟩, by omega, ?_⟩⟩, fun e2 => ?_⟩
   ·exact load_none rfl (by decide) (load_2 hsm (first_some h (by simp [bad2, e2]; right; omega) hb)) rfl
   ·simp [bad2, e, e2]; omega
   ·exact uE [0] (h1 := by simp [go_sem, KM, wr]) (h4 := by simp [go_sem])
   ·exact load_none rfl (by decide) (load_2 hsm (first_some h (by simp [bad2, e2]) hb)) rfl
  ·exact load_none rfl (by decide) (load_2 hsm (first_some h (by simp [bad2, e]) hb)) rfl
 have hc2 : firstI L.length (bad2 L) = none := first_none fun j hj => hb j (by omega)
 refine vc_loopE (fun a : Nat => a ≤ L.length ∧ ∀ j, j < a → bad3 L j = false) (fun a => L.length - a) (fun a => .of [(0, .sl 2 L.length (modCells L)), (5, .own 0), (6, .lit (.int .i64 L.length)), (11, .lit (.int .i64 a))] [some ⟨55, 1, 0, fun _ => []⟩]) ⟨0, ⟨by omega, fun j h => by omega⟩, ?_⟩ (fun a ha => ?_)
 ·exact ent_same (by simp [go_sem])
 obtain ⟨ha, hb3⟩ := ha
 simp [go_sem, KM]
 refine ⟨fun h3 => ?_, fun h3 => ?_⟩
 ·refine ⟨h3, ?_⟩
  simp [go_sem, modCells_at]
  refine vcall_pure (c_l5Named L (modAt L a).name (by omega)) (by simp [go_sem, argSl_mod]) ?_
  simp [go_sem, KM, modCells_at]
  have hle : nameAt L (modAt L a).name ≤ a := by
   by_cases e : nameAt L (modAt L a).name ≤ a
   ·exact e
   ·exact absurd rfl (nameAt_not (show a < nameAt L (modAt L a).name by omega))
  have hI := namI_is (L := L) (x := (modAt L a).name) (by omega)
  have wr : IntKind.i64.wrap ((a : Int) + 1) = (a : Int) + 1 := wrap_i64 (by omega)
  rw [hI]
  refine ⟨fun e => ?_, fun e => ⟨a + 1, ⟨h3, all_next hb3 ?_⟩, by omega, ?_⟩⟩
  ·exact load_none rfl (by decide) (load_3 hsm hc2 (first_some h3 (by simp [bad3]; omega) hb3)) rfl
  ·simp [bad3]; omega
  ·exact uE [0] (h1 := by simp [go_sem, KM, wr]) (h4 := by simp [go_sem])
 have hc3 : firstI L.length (bad3 L) = none := first_none fun j hj => hb3 j (by omega)
 refine uS [] (c_l5UnitsB L hn fun i => (hz i).2) ?_ (ha := by simp [go_sem, KM])
 rintro av mem' maps' ⟨rfl, rfl, rfl⟩
 simp [go_sem, KM, KU]
 refine vc_loopE (fun b : Nat => b ≤ L.length ∧ ∀ j, j < b → bad4 L j = false) (fun b => L.length - b) (fun b => .of [(0, .sl 2 L.length (modCells L)), (5, .own 0), (6, .lit (.int .i64 L.length)), (12, .sl 3 L.length (unsCells (untsP L))), (13, .lit (.int .i64 b))] [some ⟨55, 1, 0, fun _ => []⟩]) ⟨0, ⟨by omega, fun j h => by omega⟩, ?_⟩ (fun b hb' => ?_)
 ·exact ent_same (by simp [go_sem])
 obtain ⟨hb1, hb4⟩ := hb'
 simp [go_sem, KM, KU]
 refine ⟨fun h4 => ?_, fun h4 => ?_⟩
 ·have hU := untsP_at L h4
  obtain ⟨hl, hua⟩ := usI_at (L := L) h4
  have hul := usI_len L b
  refine vc_loopE (fun k : Nat => k ≤ (untAt L b).uses.length ∧ bad4K L b k = false) (fun k => (untAt L b).uses.length - k) (fun k => .of [(0, .sl 2 L.length (modCells L)), (5, .own 0), (6, .lit (.int .i64 L.length)), (12, .sl 3 L.length (unsCells (untsP L))), (13, .lit (.int .i64 b)), (14, .lit (.int .i64 k))] [some ⟨55, 1, 0, fun _ => []⟩]) ⟨0, ⟨by omega, rfl⟩, ?_⟩ (fun k hk => ?_)
  ·exact ent_same (by simp [go_sem])
  obtain ⟨hk, hbk⟩ := hk
  simp [go_sem, KM, KU, unsCells_at, hU, txCells_at]
  refine ⟨h4, by omega, fun hk2 => ⟨h4, hk2, ?_⟩, fun hk2 => ?_⟩
  ·refine vcall_pure (c_l5Named L (txAt (untAt L b).uses k) (by omega)) (by simp [go_sem, argSl_mod]) ?_
   simp [go_sem, KM, KU]
   have hs := bad4K_step (L := L) (i := b) (k := k) (by omega)
   have hle := nameAt_le L (txAt (untAt L b).uses k)
   have wr : IntKind.i64.wrap ((k : Int) + 1) = (k : Int) + 1 := wrap_i64 (by omega)
   rw [hua k hk2, hbk, Bool.false_or] at hs
   by_cases e4 : nameAt L (txAt (untAt L b).uses k) = L.length
   ·have e5 : namI L (txAt (untAt L b).uses k) = -1 := by unfold namI; rw [if_neg (by omega)]
    rw [e5]
    refine ⟨fun _ => ?_, fun h => absurd h (by omega)⟩
    exact load_none rfl (by decide) (load_4 hsm hc2 hc3 (first_some h4 (bad4K_le (k := k + 1) (by rw [hs, e4]; simp)) hb4)) rfl
   ·rw [namI_is (by omega)]
    refine ⟨fun h => absurd h (by omega), fun _ => ⟨k + 1, ⟨hk2, by rw [hs]; simpa using e4⟩, by omega, ?_⟩⟩
    exact uE [0] (h1 := by simp [go_sem, KM, KU, wr]) (h4 := by simp [go_sem])
  ·obtain rfl : k = (untAt L b).uses.length := by omega
   have wr : IntKind.i64.wrap ((b : Int) + 1) = (b : Int) + 1 := wrap_i64 (by omega)
   refine ⟨b + 1, ⟨h4, all_next hb4 (by rw [← bad4K_full, hl]; exact hbk)⟩, by omega, ?_⟩
   exact uE [0] (h1 := by simp [go_sem, KM, KU, wr]) (h4 := by simp [go_sem])
 have hc4 : firstI L.length (bad4 L) = none := first_none fun j hj => hb4 j (by omega)
 have hnm : ∀ i u, u ∈ usI L i → u < L.length := fun i u hu => by
  by_cases hi : i < L.length
  ·have := hb4 i (by omega)
   unfold bad4 at this
   rw [List.any_eq_false] at this
   have h2 := this u hu
   unfold usI at hu
   rw [if_pos hi, List.mem_map] at hu
   obtain ⟨x, _, rfl⟩ := hu
   have := nameAt_le L x
   have : ¬ nameAt L x = L.length := by simpa using h2
   omega
  ·unfold usI at hu
   rw [if_neg hi] at hu
   simp at hu
 refine uS [] (c_l5ReachB L hsm hnm) ?_ (ha := by simp [go_sem, KM, KU])
 rintro av mem' maps' ⟨rfl, rfl, rfl⟩
 simp [go_sem, KM, KU]
 refine vc_loopE (fun c : Nat => c ≤ L.length ∧ ∀ j, j < c → bad5 L j = false) (fun c => L.length - c) (fun c => .of [(0, .sl 2 L.length (modCells L)), (5, .own 0), (6, .lit (.int .i64 L.length)), (12, .sl 3 L.length (unsCells (untsP L))), (15, .sl 1 L.length (matCells L.length fun a b => warR (relR L) L.length a b)), (16, .lit (.int .i64 c))] [some ⟨55, 1, 0, fun _ => []⟩]) ⟨0, ⟨by omega, fun j h => by omega⟩, ?_⟩ (fun c hc => ?_)
 ·exact ent_same (by simp [go_sem])
 obtain ⟨hc, hb5⟩ := hc
 simp [go_sem, KM, KU]
 refine ⟨fun h5 => ?_, fun h5 => ?_⟩
 ·refine ⟨h5, ?_⟩
  simp [go_sem, KM, KU, matCells, boolCells_at]
  have wr : IntKind.i64.wrap ((c : Int) + 1) = (c : Int) + 1 := wrap_i64 (by omega)
  refine ⟨h5, fun e => ?_, fun e => ⟨c + 1, ⟨h5, all_next hb5 e⟩, by omega, ?_⟩⟩
  ·exact load_none rfl (by decide) (load_5 hsm hc2 hc3 hc4 (first_some h5 e hb5)) rfl
  ·exact uE [0] (h1 := by simp [go_sem, KM, KU, wr]) (h4 := by simp [go_sem])
 have hc5 : firstI L.length (bad5 L) = none := first_none fun j hj => hb5 j (by omega)
 have hok : LoadOk L := ⟨hsm, hnm, fun j hj => hb5 j (by omega)⟩
 refine uS [] (c_l5ScopesB L hok) ?_ (ha := by simp [go_sem, KM, KU])
 rintro av mem' maps' ⟨rfl, rfl, rfl⟩
 simp [go_sem, KM, KU]
 refine vc_loopE (fun c : Nat => c ≤ L.length ∧ ∀ j, j < c → bad6 L j = false) (fun c => L.length - c) (fun c => .of [(0, .sl 2 L.length (modCells L)), (5, .own 0), (6, .lit (.int .i64 L.length)), (17, .sl 1 L.length (tblCells (scL L))), (18, .lit (.int .i64 c))] [some ⟨55, 1, 0, fun _ => []⟩]) ⟨0, ⟨by omega, fun j h => by omega⟩, ?_⟩ (fun d hd => ?_)
 ·exact ent_same (by simp [go_sem])
 obtain ⟨hd, hb6⟩ := hd
 simp [go_sem, KM, KU]
 refine ⟨fun h6 => ?_, fun h6 => ?_⟩
 ·refine ⟨h6, ?_⟩
  simp [go_sem, KM, KU, tblCells]
  have wr : IntKind.i64.wrap ((d : Int) + 1) = (d : Int) + 1 := wrap_i64 (by omega)
  have hsl : (scL L d).length ≤ 2000100 := hok.scl_len _ _ h6
  refine vcall_pure (c_specTableOk (scL L d) (by omega) (scL_fit hok d h6).1) (by simp [go_sem]; exact argSl_refl (by omega) fun i c _ h => opClosed _ i c h) ?_
  simp [go_sem, KM, KU]
  refine ⟨fun e => ?_, fun e => ⟨d + 1, ⟨h6, all_next hb6 ?_⟩, by omega, ?_⟩⟩
  ·exact load_none rfl (by decide) (load_6 hsm hc2 hc3 hc4 hc5 (first_some h6 (by simp [bad6, e]) hb6)) rfl
  ·simp [bad6, e]
  ·exact uE [0] (h1 := by simp [go_sem, KM, KU, wr]) (h4 := by simp [go_sem])
 ·have hc6 : firstI L.length (bad6 L) = none := first_none fun j hj => hb6 j (by omega)
  have hc := load_0 hsm hc2 hc3 hc4 hc5 hc6
  exact uF [] [] (hq := by simp [go_sem, KM]; exact .inr (.sl _ _ _ fun i c _ h => tblClosed _ i c h)) (hR := .inr ⟨by rw [hc], by simp [go_sem], rfl, rfl⟩)
def loadN (L : List PMod) : Nat := if (loadC L).1 = 0 then L.length else 0
theorem c_specLoad (L : List PMod) (hn : L.length ≤ 1048576) (hz : ∀ i, (modAt L i).name.size ≤ 1048576 ∧ (modAt L i).text.size ≤ 1048576) : VProc Tryz.prog 8 [.sl 2 L.length (modCells L)] [] []
  (fun av mem maps => av = .tup [.sl 1 (loadN L) (tblCells (scL L)), .lit (.int .i64 (loadC L).1), .lit (.int .i64 (loadC L).2)] ∧ mem = [] ∧ maps = []) :=
 (c_specLoad1 L hn hz).giveRR fun av mem maps h => by
  have h0 : ∀ {i w : Nat}, (loadC L).1 = 0 → (loadC L).2 = 0 := fun hc => by
   unfold loadC at hc ⊢
   split at hc
   ·simp at hc
   ·rename_i hh
    rw [if_neg hh]
    (repeat' split at hc) <;> simp_all
  rcases h with ⟨hc, rfl, rfl, rfl⟩ | ⟨hc, rfl, rfl, rfl⟩
  ·exact .inr ⟨55, 0, fun i => ⟨73, 4, (scL L i).length, opCells (scL L i)⟩, [.int .i64 (loadC L).1, .int .i64 (loadC L).2], fun a ha => absurd ha (Nat.not_lt_zero a), rfl, rfl, .inr ⟨rfl, by unfold loadN; rw [if_neg hc]; exact ⟨rfl, rfl, rfl⟩⟩⟩
  ·exact .inl ⟨by unfold loadN; rw [if_pos hc, hc, h0 (i := 0) (w := 0) hc]; rfl, rfl, rfl⟩
structure PNode where
 text : ByteArray
 kind : Int
 a : Int
 b : Int
def PNode.cells (o : PNode) : List AV := [.lit (.int .i64 o.kind), .lit (.string o.text), .lit (.int .i64 o.a), .lit (.int .i64 o.b)]
def PNode.wf (o : PNode) : Prop := o.text.size ≤ maxLen
instance : Inhabited PNode := ⟨⟨⟨#[]⟩, 0, 0, 0⟩⟩
theorem c_nameOk (z : ByteArray) (hz : z.size ≤ 9223372036854775807) : VFun Tryz.prog 66 [.lit (.string z)] (fun av obs => obs = [] ∧ av = .lit (.bool (namZ z))) := by
 refine vfun_start Tryz.func66 (by kernel_rfl) rfl (by simp [Tryz.ntmps66]) ?_; simp only [Tryz.ntmps66, Tryz.results66]; simp [go_sem]
 have emp : z.toList = [] → namZ z = false := fun h => by simp [namZ, ba_nil.mp h]
 refine ⟨fun h0 => ⟨by have := mt ba_nil.mpr h0; omega, vcall_pure (c_isLetter (byteAt z 0)) ?_ ?_⟩, emp⟩
 ·simp [go_sem]
 ·have hp : 0 < z.size := by have := mt ba_nil.mpr h0; omega
  simp [go_sem]
  refine ⟨fun e => by simp only [namZ, all_false (p := fun i => namAt z i) hp (by simp [namAt, e]), Bool.false_and], fun e => ?_⟩
  refine vc_loop (fun i : Nat => i ≤ z.size ∧ ∀ j, j < i → namAt z j = true) (fun i => z.size - i) (fun i => .of [(0, .lit (.string z)), (13, .lit (.int .i64 z.size)), (14, .lit (.int .i64 i))] []) ⟨0, ⟨by omega, by simp⟩, ?_⟩ (fun i hi => ?_)
  ·simp [go_sem]
  ·simp [go_sem]
   have bad : i < z.size → namAt z i = false → namZ z = false := fun h e => by simp only [namZ, all_false (p := fun i => namAt z i) h e, Bool.false_and]
   have step : i < z.size → namAt z i = true → ∃ j : Nat, (j ≤ z.size ∧ ∀ q, q < j → namAt z q = true) ∧ z.size - j < z.size - i ∧ IntKind.i64.wrap ((i : Int) + 1) = j := fun hl e => ⟨i + 1, ⟨by omega, fun j hj => by
    rcases Nat.lt_succ_iff_lt_or_eq.mp hj with hj | rfl
    ·exact hi.2 j hj
    ·exact e⟩, by omega, wrap_succ (by omega)⟩
   refine ⟨fun h => ⟨h, vcall_pure (c_isLetter (byteAt z i)) ?_ ?_⟩, fun h => by simp only [namZ, all_true (p := fun i => namAt z i) (n := z.size) fun j hj => hi.2 j (by omega), Bool.true_and, hp, decide_true]⟩
   ·simp [go_sem]
   ·simp [go_sem]
    refine ⟨fun e1 => ⟨h, vcall_pure (c_isDigit (byteAt z i)) ?_ ?_⟩, fun e1 => step h (by simp [namAt, e1])⟩
    ·simp [go_sem]
    ·have h0 : i ≠ 0 := fun hz => by subst hz; rw [e] at e1; cases e1
     simp [go_sem]
     exact ⟨fun e2 => bad h (by simp [namAt, e1, e2]), fun e2 => step h (by simp [namAt, e1, e2, h0])⟩
theorem Ent.givePtrAt {s : VS} (j k i0 c : Nat) {ob oj : Ob} (hk : s.mem[k]? = some (some ob)) (hn : 0 < ob.n) (hcl : ∀ c, c ∈ ob.f 0 → Closed c) (hj : s.mem[j]? = some (some oj)) (hjk : j ≠ k) (hc : (oj.f i0)[c]? = some (.ptr k ob.sz 0 0)) :
  Ent s { s with mem := (s.mem.set k none).set j (some { oj with f := fun i => if i = i0 then (oj.f i).set c (.bptr (ob.f 0)) else oj.f i }) } := by
 intro n base w0 hd a w h
 have hf := h.free k
 have hj' : (s.mem.set k none)[j]? = some (some oj) := by rw [List.getElem?_set_ne (fun e => hjk e.symm)]; exact hj
 refine ⟨hd, hf.recell (s := { s with mem := s.mem.set k none }) hj' rfl rfl rfl fun i hi => ⟨by simp only; split <;> simp, fun q av av' u h1 h2 h3 => ?_⟩⟩
 simp only at h2
 by_cases ei : i = i0
 ·subst ei
  rw [if_pos rfl, List.getElem?_set] at h2
  by_cases e : c = q
  ·subst e
   rw [if_pos rfl] at h2
   split at h2
   ·rw [hc] at h1
    cases h1; cases h2
    have h4 : Rep w (okOf s.mem hd) hd s.mem.length (.ptr k ob.sz 0 0) u := by
     cases h3 with
     | ptr _ _ _ _ b n' c' hkm hh => exact .ptr k ob.sz 0 0 b n' c' (by simpa using hkm) hh
    exact h.freed hk hn h4
   ·cases h2
  ·rw [if_neg e, h1] at h2
   cases h2; exact h3
 ·rw [if_neg ei, h1] at h2
  cases h2; exact h3
theorem Ent.givePtr {s : VS} (ts : List Nat) (k : Nat) {ob : Ob} (hk : s.mem[k]? = some (some ob)) (hn : 0 < ob.n) (ht : ∀ t, t ∈ ts → lk s.tmps t = .ptr k ob.sz 0 0) :
  Ent s { s with tmps := ts.map (fun t => (t, .bptr (ob.f 0))) ++ s.tmps, mem := s.mem.set k none } := by
 intro n base w0 hd a w h
 have hf := h.free k
 refine ⟨hd, hf.defers, hf.size, hf.below, hf.le, hf.fixl, hf.fix, hf.mp, fun u => ?_, hf.me⟩
 simp only [lk_map]
 split
 ·rename_i hu
  have := h.tm u
  rw [ht u hu] at this
  exact h.freed hk hn this
 ·exact hf.tm u
def srcRow (S : List PSrc) : Option Ob := some ⟨98, 1, S.length, srcCells S⟩
def progOb (L : List PMod) (b1 b2 k : Nat) : Option Ob := some ⟨120, 4, 1, fun _ => [.sl 2 L.length (modCells L), .own k, .lit (.map (some b1)), .lit (.map (some b2))]⟩
def progR (L : List PMod) (av : AV) (mem : List (Option Ob)) (maps : List (Nat × Mp)) (N : Nat) (vs : Nat → Value) («as» : Nat → AV) : Prop :=
 (¬ (loadC L).1 = 0 ∧ av = .tup [.lit (.pointer none), .lit (.int .i64 (loadC L).1), .lit (.int .i64 (loadC L).2)] ∧ mem = []) ∨
 ((loadC L).1 = 0 ∧ LoadOk L ∧ NamesOk L ∧ ∃ S b1 b2 js, SrcIs L S ∧ ¬ b1 = b2 ∧ MemoOk L js ∧ N = js.length ∧ (∀ q, q < N → «as» q = memoAs L js q) ∧ av = .tup [.bptr (progCells L S b1 b2), .lit (.int .i64 0), .lit (.int .i64 0)] ∧ mem = [] ∧
  maps = [(b1, ⟨9, atEs L L.length⟩), (b2, ⟨9, memoEs L js vs⟩)])
structure SrcTo (L : List PMod) (S : List PSrc) (i : Nat) : Prop where
 len : S.length = i
 unt : ∀ j, j < i → (srcAt S j).u = untAt L j
theorem KS : (∀ S, srcRow S = some ⟨98, 1, S.length, srcCells S⟩) ∧ (∀ L b1 b2 k, progOb L b1 b2 k = some ⟨120, 4, 1, fun _ => [.sl 2 L.length (modCells L), .own k, .lit (.map (some b1)), .lit (.map (some b2))]⟩) := ⟨fun _ => rfl, fun _ _ _ _ => rfl⟩
theorem srcAt_app (S : List PSrc) (x : PSrc) (i : Nat) (hi : i < S.length + 1) : srcAt (S ++ [x]) i = if i = S.length then x else srcAt S i := by
 unfold srcAt
 by_cases h : i = S.length
 ·subst h
  rw [if_pos rfl, List.getD_eq_getElem?_getD, List.getElem?_append_right (Nat.le_refl _)]; simp
 ·rw [if_neg h, List.getD_eq_getElem?_getD, List.getD_eq_getElem?_getD, List.getElem?_append_left (by omega)]
theorem src_new {g : Nat → Nat} {m k N : Nat} (S : List PSrc) (x : PSrc) (hN : N = S.length) : ∀ i, i < N + 1 → CellsRn g m (if i = N then (joinF N (srcCells S) (fun q => [[AV.ptr k 6 0 0]][q]?.getD []) i).set 0 (.bptr x.cells) else joinF N (srcCells S) (fun q => [[AV.ptr k 6 0 0]][q]?.getD []) i) (srcCells (S ++ [x]) i) := fun i hi => by
 subst hN
 have e : (if i = S.length then (joinF S.length (srcCells S) (fun q => [[AV.ptr k 6 0 0]][q]?.getD []) i).set 0 (.bptr x.cells) else joinF S.length (srcCells S) (fun q => [[AV.ptr k 6 0 0]][q]?.getD []) i) = srcCells (S ++ [x]) i := by
  unfold srcCells
  rw [srcAt_app S x i hi]
  by_cases h : i = S.length
  ·subst h
   simp [joinF]
  ·rw [if_neg h, if_neg h]
   unfold joinF
   rw [if_pos (by omega)]
 rw [e]
 exact cellsRn_closed fun c h => srcClosed _ i c h
theorem SrcTo.add {L : List PMod} {S : List PSrc} {i : Nat} (h : SrcTo L S i) {x : PSrc} (hx : x.u = untAt L i) : SrcTo L (S ++ [x]) (i + 1) := by
 refine ⟨by rw [List.length_append, h.len]; rfl, fun j hj => ?_⟩
 rw [srcAt_app S x j (by rw [h.len]; exact hj)]
 split
 ·rename_i e; rw [e, h.len]; exact hx
 ·rename_i e; exact h.unt j (by rw [h.len] at e; omega)
theorem prog_err {L : List PMod} {t : List (Nat × AV)} {m : List (Option Ob)} {M : List (Nat × Mp)} {c : Int} {w N : Nat} {vs : Nat → Value} {«as» : Nat → AV} (hc : ¬ c = 0) (h : loadC L = (c, w)) : vendP [] (fun av mem maps => progR L av mem maps N vs «as») ⟨t, m, M, 0⟩ (.tup [.lit (.pointer none), .lit (.int .i64 c), .lit (.int .i64 w)]) :=
 uF [] [] (hR := .inl (by rw [h]; exact ⟨hc, by simp [go_sem], rfl⟩))
theorem rn_fam0 (f : Nat → Nat) (m : Nat) (vs : Nat → Value) («as» : Nat → AV) : Rn f m (.fam 0 vs «as») (.fam 0 vs «as») = True := eq_true (.fam _ _ _ _ fun q h => absurd h (Nat.not_lt_zero q))
set_option maxRecDepth 100000 in
set_option maxHeartbeats 2000000 in
theorem c_loadProgram (L : List PMod) (hn : L.length ≤ 1048576) (hz : ∀ i, (modAt L i).name.size ≤ 1048576 ∧ (modAt L i).text.size ≤ 1048576) (vs0 : Nat → Value) (as0 : Nat → AV) : VProcGT Tryz.prog 37 [.sl 2 L.length (modCells L)] 0 vs0 as0 [] [] (progR L) := by
 refine vprocGT_start Tryz.func37 (by kernel_rfl) rfl (by simp [Tryz.ntmps37]) ?_; simp only [Tryz.ntmps37, Tryz.results37]; simp [go_sem]
 refine ⟨by omega, fun hbig => ?_, fun hsm b1 b2 hb => ?_⟩
 ·exact uF [] [] (hR := .inl (by rw [show loadC L = (1, 100) by unfold loadC; rw [if_pos (by omega)]]; exact ⟨by decide, by simp [go_sem], rfl⟩))
 have hsm : L.length ≤ 100 := by omega
 have hb : ¬ b1 = b2 := hb
 have hb' : ¬ b2 = b1 := fun e => hb e.symm
 refine ⟨by omega, ?_⟩
 refine vc_loopE (fun x : Nat × List PSrc => x.1 ≤ L.length ∧ SrcTo L x.2 x.1 ∧ ∀ j, j < x.1 → bad2 L j = false) (fun x => L.length - x.1)
  (fun x => ⟨[(0, .sl 2 L.length (modCells L)), (5, .ptr 0 4 0 0), (33, .sl 2 L.length (modCells L)), (34, .lit (.int .i64 L.length)), (35, .lit (.int .i64 x.1)), (163, .fam 0 vs0 as0)], [progOb L b1 b2 1, srcRow x.2], [(b1, ⟨9, []⟩), (b2, ⟨9, []⟩)], 0⟩) ⟨(0, []), ⟨Nat.zero_le _, ⟨rfl, fun j h => absurd h (Nat.not_lt_zero j)⟩, fun j h => absurd h (Nat.not_lt_zero j)⟩, ?_⟩ (fun x hx => ?_)
 ·refine (Ent.adopt (j := 0) rfl rfl (c := 1) rfl 98 1 (by omega) (srcCells [])).trans ?_
  exact uE [0, 1] (h1 := by simp [go_sem, KP, rn_fam0]) (h4 := by simp [go_sem, KS, KP]) (hM := by simp [go_sem, hb, hb'])
 obtain ⟨i, S⟩ := x
 simp only at hx
 obtain ⟨hi, hS, hb2⟩ := hx
 have hSl := hS.len
 simp [go_sem, KS, KP]
 refine ⟨fun h => ?_, fun h => ?_⟩
 ·have wri : IntKind.i64.wrap ((i : Int) + 1) = (i : Int) + 1 := wrap_i64 (by omega)
  refine ⟨h, ?_⟩
  simp [go_sem, KS, modCells_at]
  refine uSF [] (c_sourceOf (modAt L i).text (hz i).2) ?_
  rintro av mem maps hpost hfr
  rcases hpost with ⟨k, b, hk, hu, rfl, rfl, rfl⟩ | ⟨hc, _, _, _, rfl, rfl⟩
  ·have hbb : ¬ b = b1 ∧ ¬ b = b2 := by
    rcases hfr b (by simp [lkm]) with h1 | h1
    ·simp [lkm] at h1
    ·simp only [lkm] at h1
     refine ⟨fun e => ?_, fun e => ?_⟩
     ·subst e; simp at h1
     ·subst e; simp [hb] at h1
   have hu1 : (unitZ (modAt L i).text).2.1 = 0 := by rw [hu]
   simp [go_sem, KS, K5, modCells_at, srcOb, opRow5]
   refine vcall_pure (c_nameOk (modAt L i).name (by have := (hz i).1; omega)) (by simp [go_sem]) ?_
   simp [go_sem, KS, K5, modCells_at]
   refine ⟨fun e2 => ⟨fun e3 => ⟨by omega, by omega, i + 1, S ++ [⟨untAt L i, (cutZ 10 (modAt L i).text).take k, b, min (farZ (cutZ 10 (modAt L i).text) (k + 1)) (modAt L i).text.size⟩], ⟨h, hS.add rfl, all_next hb2 ?_⟩, by omega, ?_⟩, fun e3 => ?_⟩, fun e2 => ?_⟩
   ·simp [bad2, e2, hu1]; omega
   ·refine (Ent.giveIn 3 4 0 rfl (fun q _ c h => txClosed _ q c h) rfl (by decide) (fun _ _ => rfl)).trans ?_
    refine (Ent.giveIn 3 5 1 rfl (fun q _ c h => opClosed _ q c h) rfl (by decide) (fun _ _ => rfl)).trans ?_
    refine (Ent.giveIn 3 6 3 rfl (fun q _ c h => txClosed _ q c h) rfl (by decide) (fun _ _ => rfl)).trans ?_
    refine (Ent.givePtrAt 8 3 S.length 0 rfl Nat.one_pos (fun c hc => ?_) rfl (by decide) (by simp [joinF])).trans ?_
    ·simp at hc
     rcases hc with rfl | rfl | rfl | rfl | rfl | rfl
     ·exact .sl _ _ _ fun i c _ h => txClosed _ i c h
     ·exact .sl _ _ _ fun i c _ h => opClosed _ i c h
     ·exact .lit _
     ·exact .sl _ _ _ fun i c _ h => txClosed _ i c h
     ·exact .lit _
     ·exact .lit _
    ·simp only [List.set_cons_succ, List.set_cons_zero]
     have hx : (⟨untAt L i, (cutZ 10 (modAt L i).text).take k, b, min (farZ (cutZ 10 (modAt L i).text) (k + 1)) (modAt L i).text.size⟩ : PSrc).cells = [.sl 1 (unitZ (modAt L i).text).1.uses.length (txCells (unitZ (modAt L i).text).1.uses), .sl 4 (unitZ (modAt L i).text).1.ops.length (opCells (unitZ (modAt L i).text).1.ops), .lit (.string (unitZ (modAt L i).text).1.body), .sl 1 (min k (cutZ 10 (modAt L i).text).length) (txCells ((cutZ 10 (modAt L i).text).take k)), .lit (.map (some b)), .lit (.int .i64 (min (farZ (cutZ 10 (modAt L i).text) (k + 1)) (modAt L i).text.size : Nat))] := by
      unfold PSrc.cells
      rw [List.length_take]; rfl
     have hnew := fun (g : Nat → Nat) (m : Nat) => src_new (g := g) (m := m) (k := 3) (N := S.length) S ⟨untAt L i, (cutZ 10 (modAt L i).text).take k, b, min (farZ (cutZ 10 (modAt L i).text) (k + 1)) (modAt L i).text.size⟩ rfl
     rw [hx] at hnew
     exact uE [0, 8] (h1 := by simp [go_sem, KP, rn_fam0, wri]) (h4 := by simp [go_sem, KS, KP]; exact .inr (hnew _ _)) (hM := by simp [go_sem, hb, hb', hbb])
   ·exact prog_err (by decide) (load_2 hsm (first_some h (by simp [bad2, e2]; right; omega) hb2))
   ·exact prog_err (by decide) (load_2 hsm (first_some h (by simp [bad2, e2]) hb2))
  ·simp [go_sem, KS, K5, modCells_at]
   refine vcall_pure (c_nameOk (modAt L i).name (by have := (hz i).1; omega)) (by simp [go_sem]) ?_
   simp [go_sem, KS, K5, modCells_at]
   refine ⟨fun e2 => ⟨fun e3 => ⟨fun _ => ?_, fun e => absurd e hc⟩, fun e3 => ?_⟩, fun e2 => ?_⟩
   ·exact prog_err (by decide) (load_2 hsm (first_some h (by simp [bad2, hc]) hb2))
   ·exact prog_err (by decide) (load_2 hsm (first_some h (by simp [bad2, hc]) hb2))
   ·exact prog_err (by decide) (load_2 hsm (first_some h (by simp [bad2, hc]) hb2))
 have hc2 : firstI L.length (bad2 L) = none := first_none fun j hj => hb2 j (by omega)
 refine ⟨by omega, ?_⟩
 have hiL : i = L.length := by omega
 subst hiL
 have hSI : SrcIs L S := ⟨hSl, hS.unt⟩
 refine vc_loopE (fun c : Nat => c ≤ L.length ∧ ∀ j, j < c → bad3 L j = false) (fun c => L.length - c)
  (fun c => ⟨[(0, .sl 2 L.length (modCells L)), (5, .bptr (progCells L S b1 b2)), (73, .sl 2 L.length (modCells L)), (74, .lit (.int .i64 L.length)), (75, .lit (.int .i64 c)), (163, .fam 0 vs0 as0)], [], [(b1, ⟨9, atEs L c⟩), (b2, ⟨9, []⟩)], 0⟩) ⟨0, ⟨Nat.zero_le _, fun j h => absurd h (Nat.not_lt_zero j)⟩, ?_⟩ (fun c hc => ?_)
 ·refine (Ent.giveIn 0 1 1 rfl (fun q _ c h => srcClosed _ q c h) rfl (by decide) (fun _ _ => rfl)).trans ?_
  refine (Ent.givePtr [5] 0 rfl Nat.one_pos (by simp [lk])).trans ?_
  exact uE [] (h1 := by simp [go_sem, KP, rn_fam0, hSl]) (h4 := trivial) (hM := by simp [go_sem, hb, atEs])
 obtain ⟨hc, hb3⟩ := hc
 simp [go_sem, KP]
 refine ⟨fun h3 => ?_, fun h3 => ?_⟩
 ·have wrc : IntKind.i64.wrap ((c : Int) + 1) = (c : Int) + 1 := wrap_i64 (by omega)
  refine ⟨h3, ?_⟩
  simp [go_sem, KP, modCells_at]
  have hky : ∃ l, keyOf Tryz.prog 9 (.string (modAt L c).name) = some l := keyString (by have := (hz c).1; simp only [maxLen]; omega)
  have hle : nameAt L (modAt L c).name ≤ c := by
   by_cases e : nameAt L (modAt L c).name ≤ c
   ·exact e
   ·exact absurd rfl (nameAt_not (show c < nameAt L (modAt L c).name by omega))
  refine vc_drawn [] (.q 0 <| .q 1 <| .q 2 <| .q 3 <| .q 4 <| .q 5 <| .q 6 <| .q 7 <| .q 8 <| .q 9 <| .q 10 <| .q 11 <| .done) (by kernel_rfl) ?_
  simp [go_sem, KP, modCells_at]
  refine vlookK_use keyedString hky _ zeroInt ?_
  by_cases e : nameAt L (modAt L c).name < c
  ·rw [mget_at_lt e hc]
   simp [go_sem, KP, modCells_at]
   exact prog_err (by decide) (load_3 hsm hc2 (first_some h3 (by simp [bad3, e]) hb3))
  ·rw [mget_at_ge (by omega)]
   simp [go_sem, KP, modCells_at]
   refine vc_drawn [7] (.q 0 <| .q 1 <| .q 2 <| .q 3 <| .q 4 <| .q 5 <| .q 6 <| .or 7 (.done) (.nil)) (by kernel_rfl) ?_
   simp [go_sem, KP, modCells_at]
   refine vmsetK_use keyedString hky ?_
   rw [mput_at_new (by omega)]
   simp [go_sem, KP, modCells_at]
   refine ⟨c + 1, ⟨h3, all_next hb3 (by simp [bad3]; omega)⟩, by omega, ?_⟩
   exact uE [] (h1 := by simp [go_sem, KP, rn_fam0, wrc]) (h4 := trivial) (hM := by simp [go_sem, hb, hb'])
 have hc3 : firstI L.length (bad3 L) = none := first_none fun j hj => hb3 j (by omega)
 have hN : NamesOk L := NamesOk.of fun j hj => hb3 j (by omega)
 refine ⟨by omega, ?_⟩
 have hcL : c = L.length := by omega
 subst hcL
 refine vc_loopE (fun d : Nat => d ≤ L.length ∧ ∀ j, j < d → bad4 L j = false) (fun d => L.length - d)
  (fun d => ⟨[(0, .sl 2 L.length (modCells L)), (5, .bptr (progCells L S b1 b2)), (103, .sl 1 L.length (srcCells S)), (104, .lit (.int .i64 L.length)), (105, .lit (.int .i64 d)), (163, .fam 0 vs0 as0)], [], [(b1, ⟨9, atEs L L.length⟩), (b2, ⟨9, []⟩)], 0⟩) ⟨0, ⟨Nat.zero_le _, fun j h => absurd h (Nat.not_lt_zero j)⟩, ?_⟩ (fun d hd => ?_)
 ·exact uE [] (h1 := by simp [go_sem, KP, rn_fam0]) (h4 := trivial) (hM := by simp [go_sem, hb])
 obtain ⟨hd, hb4⟩ := hd
 simp [go_sem, KP, srcCells_at]
 refine ⟨fun h4 => ?_, fun h4 => ?_⟩
 ·have wrd : IntKind.i64.wrap ((d : Int) + 1) = (d : Int) + 1 := wrap_i64 (by omega)
  have hul := usI_len L d
  obtain ⟨hl, hua⟩ := usI_at (L := L) h4
  simp [hSI.unt d h4]
  refine ⟨h4, by omega, ?_⟩
  refine vc_loopE (fun k : Nat => k ≤ (untAt L d).uses.length ∧ bad4K L d k = false) (fun k => (untAt L d).uses.length - k)
   (fun k => ⟨[(0, .sl 2 L.length (modCells L)), (5, .bptr (progCells L S b1 b2)), (15, .lit (.int .i64 d)), (103, .sl 1 L.length (srcCells S)), (104, .lit (.int .i64 L.length)), (105, .lit (.int .i64 d)), (114, .sl 1 (untAt L d).uses.length (txCells (untAt L d).uses)), (115, .lit (.int .i64 (untAt L d).uses.length)), (116, .lit (.int .i64 k)), (163, .fam 0 vs0 as0)], [], [(b1, ⟨9, atEs L L.length⟩), (b2, ⟨9, []⟩)], 0⟩) ⟨0, ⟨Nat.zero_le _, rfl⟩, ?_⟩ (fun k hk => ?_)
  ·exact uE [] (h1 := by simp [go_sem, KP, K5, rn_fam0]) (h4 := trivial) (hM := by simp [go_sem, hb])
  obtain ⟨hk, hbk⟩ := hk
  simp [go_sem, KP, txCells_at]
  refine ⟨fun hk2 => ⟨hk2, ?_⟩, fun hk2 => ?_⟩
  ·have hs := bad4K_step (L := L) (i := d) (k := k) (by omega)
   have hle := nameAt_le L (txAt (untAt L d).uses k)
   have wrk : IntKind.i64.wrap ((k : Int) + 1) = (k : Int) + 1 := wrap_i64 (by omega)
   have hky : ∃ l, keyOf Tryz.prog 9 (.string (txAt (untAt L d).uses k)) = some l := keyString (by have := use_size L d k; simp only [maxLen]; omega)
   rw [hua k hk2, hbk, Bool.false_or] at hs
   refine vlookK_use keyedString hky _ zeroInt ?_
   by_cases e4 : nameAt L (txAt (untAt L d).uses k) = L.length
   ·rw [mget_at_ge (by omega)]
    simp [go_sem, KP, txCells_at]
    exact prog_err (by decide) (load_4 hsm hc2 hc3 (first_some h4 (bad4K_le (k := k + 1) (by rw [hs, e4]; simp)) hb4))
   ·rw [mget_at_lt (by omega) (Nat.le_refl _)]
    simp [go_sem, KP, txCells_at]
    refine ⟨k + 1, ⟨hk2, by rw [hs]; simpa using e4⟩, by omega, ?_⟩
    exact uE [] (h1 := by simp [go_sem, KP, K5, rn_fam0, wrk]) (h4 := trivial) (hM := by simp [go_sem, hb])
  ·obtain rfl : k = (untAt L d).uses.length := by omega
   refine ⟨d + 1, ⟨h4, all_next hb4 (by rw [← bad4K_full, hl]; exact hbk)⟩, by omega, ?_⟩
   exact uE [] (h1 := by simp [go_sem, KP, K5, rn_fam0, wrd]) (h4 := trivial) (hM := by simp [go_sem, hb])
 have hc4 : firstI L.length (bad4 L) = none := first_none fun j hj => hb4 j (by omega)
 have hnm : ∀ i u, u ∈ usI L i → u < L.length := fun i u hu => by
  by_cases hi : i < L.length
  ·have := hb4 i (by omega)
   unfold bad4 at this
   rw [List.any_eq_false] at this
   have h2 := this u hu
   unfold usI at hu
   rw [if_pos hi, List.mem_map] at hu
   obtain ⟨x, _, rfl⟩ := hu
   have := nameAt_le L x
   have : ¬ nameAt L x = L.length := by simpa using h2
   omega
  ·unfold usI at hu
   rw [if_neg hi] at hu
   simp at hu
 refine ⟨by omega, ?_⟩
 refine vc_loopE (fun e : Nat => e ≤ L.length ∧ ∀ j, j < e → bad5 L j = false) (fun e => L.length - e)
  (fun e => ⟨[(0, .sl 2 L.length (modCells L)), (5, .bptr (progCells L S b1 b2)), (134, .sl 2 L.length (modCells L)), (135, .lit (.int .i64 L.length)), (136, .lit (.int .i64 e)), (163, .fam 0 vs0 as0)], [], [(b1, ⟨9, atEs L L.length⟩), (b2, ⟨9, []⟩)], 0⟩) ⟨0, ⟨Nat.zero_le _, fun j h => absurd h (Nat.not_lt_zero j)⟩, ?_⟩ (fun e he => ?_)
 ·exact uE [] (h1 := by simp [go_sem, KP, rn_fam0]) (h4 := trivial) (hM := by simp [go_sem, hb])
 obtain ⟨he, hb5⟩ := he
 simp [go_sem, KP]
 refine ⟨fun h5 => ?_, fun h5 => ?_⟩
 ·have wre : IntKind.i64.wrap ((e : Int) + 1) = (e : Int) + 1 := wrap_i64 (by omega)
  refine ⟨h5, ?_⟩
  simp [go_sem, KP, modCells_at]
  refine uS [] (c_loops L S b1 b2 hSI hsm hnm hN (fun i => (hz i).1) e h5) ?_ (ha := by simp [go_sem, KP]) (hm := by simp [go_sem])
  rintro av mem maps ⟨rfl, rfl, rfl⟩
  simp [go_sem, KP, modCells_at]
  refine ⟨fun hy => ?_, fun hy => ⟨e + 1, ⟨h5, all_next hb5 hy⟩, by omega, ?_⟩⟩
  ·exact prog_err (by decide) (load_5 hsm hc2 hc3 hc4 (first_some h5 hy hb5))
  ·exact uE [] (h1 := by simp [go_sem, KP, rn_fam0, wre]) (h4 := trivial) (hM := by simp [go_sem, hb])
 have hc5 : firstI L.length (bad5 L) = none := first_none fun j hj => hb5 j (by omega)
 have hok : LoadOk L := ⟨hsm, hnm, fun j hj => hb5 j (by omega)⟩
 refine ⟨by omega, ?_⟩
 refine vc_loopE (fun x : Nat × List Nat × (Nat → Value) => x.1 ≤ L.length ∧ MemoOk L x.2.1 ∧ ∀ j, j < x.1 → bad6 L j = false) (fun x => L.length - x.1)
  (fun x => ⟨[(0, .sl 2 L.length (modCells L)), (5, .bptr (progCells L S b1 b2)), (147, .sl 2 L.length (modCells L)), (148, .lit (.int .i64 L.length)), (149, .lit (.int .i64 x.1)), (163, .fam x.2.1.length x.2.2 (memoAs L x.2.1))], [], [(b1, ⟨9, atEs L L.length⟩), (b2, ⟨9, memoEs L x.2.1 x.2.2⟩)], 0⟩) ⟨(0, [], vs0), ⟨Nat.zero_le _, ⟨fun j h => (by simp at h), by simp⟩, fun j h => absurd h (Nat.not_lt_zero j)⟩, ?_⟩ (fun x hx => ?_)
 ·exact uE [] (h1 := by simp [go_sem, KP]; exact .fam _ _ _ _ fun q hq => absurd hq (Nat.not_lt_zero q)) (h4 := trivial) (hM := by simp [go_sem, hb, memoEs])
 obtain ⟨x, js, vs⟩ := x
 simp only at hx
 obtain ⟨hx, hmo, hb6⟩ := hx
 simp [go_sem, KP]
 refine ⟨fun h6 => ?_, fun h6 => ?_⟩
 ·have wrx : IntKind.i64.wrap ((x : Int) + 1) = (x : Int) + 1 := wrap_i64 (by omega)
  refine ⟨h6, ?_⟩
  simp [go_sem, KP, modCells_at]
  have hsl : (scL L x).length ≤ 2000100 := hok.scl_len _ _ h6
  refine vcall_gt [] 163 163 (c_scope L S b1 b2 hb hSI hok hN (fun i => (hz i).1) _ x h6 (Nat.lt_succ_self _) js vs hmo) (by simp) rfl (fun q _ => .closed _ (tblAV_closed _)) (by simp [go_sem, KP]) trivial (by simp [go_sem, hb]) ?_
  rintro av mem maps N' vs' as' ⟨js', hm', hr', rfl, has, rfl, rfl, rfl⟩
  simp [go_sem, KP, modCells_at, tblAV]
  refine vcall_pure (c_TableOk (scL L x) (by omega) (scL_fit hok x h6).1) (by simp [go_sem]; exact argSl_refl (by omega) fun i c _ h => opClosed _ i c h) ?_
  simp [go_sem, KP, modCells_at]
  refine ⟨fun e => ⟨fun q hq => by rw [has q hq]; exact tblAV_closed _, ?_⟩, fun e => ⟨x + 1, js', ⟨h6, hm', all_next hb6 (by simp [bad6, e])⟩, by omega, vs', ?_⟩⟩
  ·exact prog_err (by decide) (load_6 hsm hc2 hc3 hc4 hc5 (first_some h6 (by simp [bad6, e]) hb6))
  ·exact uE [] (h1 := by simp [go_sem, KP, wrx]; exact .fam _ _ _ _ fun q hq => by rw [has q hq]; exact .closed _ (tblAV_closed _)) (h4 := trivial) (hM := by simp [go_sem, hb])
 ·have hc6 : firstI L.length (bad6 L) = none := first_none fun j hj => hb6 j (by omega)
  have hl0 := load_0 hsm hc2 hc3 hc4 hc5 hc6
  refine ⟨fun q _ => tblAV_closed _, ?_⟩
  exact uF [] [] (hq := by
   simp [go_sem]
   have := progClosed L S b1 b2
   unfold progCells at this
   exact .inr this) (hR := .inr ⟨by rw [hl0], hok, hN, S, b1, b2, js, hSI, hb, hmo, rfl, fun _ _ => rfl, by simp [go_sem, progCells], rfl, rfl⟩)
theorem VProcG.proc {P : Program} {f : FuncId} {args : List AV} {vs0 : Nat → Value} {as0 : Nat → AV} {mem0 : List (Option Ob)} {maps0 : List (Nat × Mp)} {R : AV → List (Option Ob) → List (Nat × Mp) → Prop} (h : VProcG P f args 0 vs0 as0 mem0 maps0 R) : VProc P f args mem0 maps0 R :=
 ⟨h.1, fun w vs hd0 hl hv hm hmp ht => h.2 w vs hd0 hl hv (fun i hi => absurd hi (Nat.not_lt_zero i)) hm hmp ht⟩
theorem VProc.adoptT {P : Program} {f : FuncId} {args : List AV} {R R' : AV → List (Option Ob) → List (Nat × Mp) → Prop} (h : VProc P f args [] [] R) (ty sz : Nat) (hsz : 0 < sz) (g : Nat → List AV)
  (hr : ∀ av mem maps, R av mem maps → R' av mem maps ∨ ∃ xs : List Value, av = .tup (.lit (.slice none 0 0) :: xs.map .lit) ∧ mem = [] ∧ R' (.tup (.own 0 :: xs.map .lit)) [some ⟨ty, sz, 0, g⟩] maps) : VProc P f args [] [] R' := by
 refine ⟨h.1, fun w vs hd0 hl hv hm hmp ht => (h.2 w vs hd0 hl hv hm hmp ht).mono fun e w' ⟨v, e1, gb, hd, av, mem, maps, r, po, hx, me, mp, rp⟩ => ?_⟩
 rcases hr av mem maps r with r' | ⟨xs, rfl, rfl, r'⟩
 ·exact ⟨v, e1, gb, hd, av, mem, maps, r', po, hx, me, mp, rp⟩
 ·obtain ⟨HD, hHD⟩ : ∃ HD : Nat → Value, HD = fun k => if k = 0 then .slice none 0 0 else hd k := ⟨_, rfl⟩
  have h0 : HD 0 = .slice none 0 0 := by rw [hHD]; exact if_pos rfl
  have heq : TailEq hd HD := ⟨1, fun k hk => by rw [hHD]; exact if_neg (by omega)⟩
  refine ⟨v, e1, gb, HD, _, _, maps, r', ⟨by simp, fun c hc => ?_, fun k ob hk i hi => ?_, po.maps⟩, ⟨fun k hk => absurd hk (Nat.not_lt_zero k), hx.2.trans heq⟩, ⟨fun k ob hk b hb => ?_, fun k ob hk => ?_, fun k hk => ?_, fun k k' o o' hk hk' hne => ?_⟩, mp, ?_⟩
  ·rw [List.mem_cons, List.mem_map] at hc
   rcases hc with rfl | ⟨y, _, rfl⟩
   ·exact .inl rfl
   ·exact .inl rfl
  ·match k, hk with
   | 0, hk => simp at hk; subst hk; simp at hi
   | k + 1, hk => simp at hk
  ·match k, hk with
   | 0, hk => rw [h0] at hb; simp [Value.ownBlock] at hb
   | k + 1, hk => simp at hk
  ·match k, hk with
   | 0, hk =>
    simp at hk; subst hk
    exact ⟨hsz, [], ⟨by simp, .inl ⟨h0, rfl⟩⟩, fun i hi => by simp at hi⟩
   | k + 1, hk => simp at hk
  ·have : k = 0 := by simpa using hk
   subst this
   exact ⟨none, 0, 0, h0⟩
  ·match k, k', hk, hk', hne with
   | 0, 0, _, _, hne => exact absurd rfl hne
   | k + 1, _, hk, _, _ => simp at hk
   | 0, k' + 1, _, hk', _ => simp at hk'
  ·cases rp with
   | tup _ us hl2 hr2 =>
    refine .tup _ us (by simpa using hl2) fun j a u ha hu => ?_
    cases j with
    | zero =>
     have := hr2 0 _ u rfl hu
     simp only [List.getElem?_cons_zero, Option.some.injEq] at ha
     subst ha
     cases this
     have h1 : Rep w' (okOf [some (⟨ty, sz, 0, g⟩ : Ob)] HD) HD [some (⟨ty, sz, 0, g⟩ : Ob)].length (.own 0) (HD 0) := .own 0 (by simp)
     rw [h0] at h1
     exact h1
    | succ j =>
     have := hr2 (j + 1) a u (by simpa using ha) hu
     rw [List.getElem?_cons_succ, List.getElem?_map, Option.map_eq_some_iff] at ha
     obtain ⟨y, hy, rfl⟩ := ha
     cases this
     exact .lit _
theorem ent_fn (f : Nat → Nat) {t t' : List (Nat × AV)} {m m' : List (Option Ob)} {M M' : List (Nat × Mp)} (h1 : TmpsR f m'.length t t') (hlt : ∀ k, k < m'.length → f k < m.length) (hinj : ∀ k k', k < m'.length → k' < m'.length → f k = f k' → k = k')
  (h4 : ∀ (k : Nat) (ob' : Ob), m'[k]? = some (some ob') → ∃ ob, m[f k]? = some (some ob) ∧ (ObRn f m'.length ob ob' ∨ ShOb f m'.length ob ob')) (hM : MapsLe M M' := by simp [go_sem]) : Ent ⟨t, m, M, 0⟩ ⟨t', m', M', 0⟩ :=
 Ent.of_leS (f := f) ⟨⟨rfl, Nat.zero_le _, fun k hk => absurd hk (Nat.not_lt_zero k)⟩, mapsLe_get hM, tmpsR_get h1, hlt, hinj, h4⟩
def growF (K K1 i k : Nat) : Nat := if k = 0 then K else if k = i + 1 then K1 else k
theorem ent_grow (K K1 i : Nat) {t t' : List (Nat × AV)} {m : List (Option Ob)} {M M' : List (Nat × Mp)} {o o' : Ob} {g : Nat → Ob} (h1 : TmpsR (growF K K1 i) (i + 1 + 1) t t') (hK : m[K]? = some (some o)) (ho : ShOb (growF K K1 i) (i + 1 + 1) o o') (hlt : i < K1 ∧ i < K ∧ K ≠ K1)
  (hr : ∀ a, a < i → ∃ ob, m[a + 1]? = some (some ob) ∧ ObRn (growF K K1 i) (i + 1 + 1) ob (g a)) (hn : ∃ ob, m[K1]? = some (some ob) ∧ ObRn (growF K K1 i) (i + 1 + 1) ob (g i)) (hM : MapsLe M M' := by simp [go_sem]) : Ent ⟨t, m, M, 0⟩ ⟨t', some o' :: Rw g (i + 1), M', 0⟩ := by
 have hl : (some o' :: Rw g (i + 1)).length = i + 1 + 1 := by rw [List.length_cons, Rw_len]
 obtain ⟨obn, hn1, hn2⟩ := hn
 refine ent_fn (growF K K1 i) (by rw [hl]; exact h1) (fun k hk => ?_) (fun k k' hk hk' e => ?_) (fun k ob' hk => ?_) hM
 ·rw [hl] at hk
  unfold growF
  split
  ·exact (List.getElem?_eq_some_iff.1 hK).1
  ·split
   ·exact (List.getElem?_eq_some_iff.1 hn1).1
   ·obtain ⟨ob, h2, _⟩ := hr (k - 1) (by omega)
    have := (List.getElem?_eq_some_iff.1 h2).1
    omega
 ·rw [hl] at hk hk'
  unfold growF at e
  (repeat' split at e) <;> omega
 ·rw [hl]
  cases k with
  | zero =>
   simp only [List.getElem?_cons_zero, Option.some.injEq] at hk
   subst hk
   exact ⟨o, by unfold growF; rw [if_pos rfl]; exact hK, .inr ho⟩
  | succ k =>
   rw [List.getElem?_cons_succ] at hk
   obtain ⟨hk2, rfl⟩ := Rw_get hk
   by_cases e : k = i
   ·subst e
    exact ⟨obn, by unfold growF; rw [if_neg (by omega), if_pos rfl]; exact hn1, .inl hn2⟩
   ·obtain ⟨ob, h2, h3⟩ := hr k (by omega)
    exact ⟨ob, by unfold growF; rw [if_neg (by omega), if_neg (by omega)]; exact h2, .inl h3⟩
@[go_sem] theorem growF_0 (K K1 i : Nat) : growF K K1 i 0 = K := if_pos rfl
theorem growF_n (K K1 i : Nat) : growF K K1 i (i + 1) = K1 := by unfold growF; rw [if_neg (by omega), if_pos rfl]
theorem growF_lt {K K1 i a : Nat} (h : a < i) : growF K K1 i (a + 1) = a + 1 := by unfold growF; rw [if_neg (by omega), if_neg (by omega)]
theorem load_who {L : List PMod} (hc : (loadC L).1 = 0) : (loadC L).2 = 0 := by
 unfold loadC at hc ⊢
 split at hc
 ·simp at hc
 ·rename_i hh
  rw [if_neg hh]
  (repeat' split at hc) <;> simp_all
def opOb (l : List POp) : Ob := ⟨73, 4, l.length, opCells l⟩
def ownTbl (n : Nat) : Option Ob := some ⟨55, 1, n, fun a => [.own (a + 1)]⟩
theorem KT : ∀ n, ownTbl n = some ⟨55, 1, n, fun a => [.own (a + 1)]⟩ := fun _ => rfl
def implLoadR (L : List PMod) (av : AV) (mem : List (Option Ob)) (maps : List (Nat × Mp)) : Prop :=
 (¬ (loadC L).1 = 0 ∧ av = .tup [.lit (.slice none 0 0), .lit (.int .i64 (loadC L).1), .lit (.int .i64 (loadC L).2)] ∧ mem = []) ∨ ((loadC L).1 = 0 ∧ av = .tup [.own 0, .lit (.int .i64 0), .lit (.int .i64 0)] ∧ mem = ownTbl L.length :: Rw (fun a => opOb (scL L a)) L.length)
set_option maxRecDepth 100000 in
set_option maxHeartbeats 1000000 in
theorem c_implLoad0 (L : List PMod) (hn : L.length ≤ 1048576) (hz : ∀ i, (modAt L i).name.size ≤ 1048576 ∧ (modAt L i).text.size ≤ 1048576) (vs0 : Nat → Value) (as0 : Nat → AV) : VProcG Tryz.prog 10 [.sl 2 L.length (modCells L)] 0 vs0 as0 [] [] (implLoadR L) := by
 refine vprocG_start Tryz.func10 (by kernel_rfl) rfl (by simp [Tryz.ntmps10]) ?_; simp only [Tryz.ntmps10, Tryz.results10]; simp [go_sem]
 refine vcall_gt [] 40 40 (c_loadProgram L hn hz vs0 as0) (by simp) rfl (fun q h => absurd h (Nat.not_lt_zero q)) (by simp [go_sem, KP]) trivial (by simp [go_sem]) ?_
 rintro av mem maps N vs as' (⟨hc, rfl, rfl⟩ | ⟨hc, hok, hN, S, b1, b2, js, hS, hb, hm, rfl, has, rfl, rfl, rfl⟩)
 ·simp [go_sem]
  refine ⟨fun _ => ?_, fun e => absurd e hc⟩
  exact uF [] [] (hR := .inl ⟨hc, by simp [go_sem], rfl⟩)
 ·have hL := hok.few
  simp [go_sem, KP]
  refine ⟨by omega, ?_⟩
  refine vc_loopE (fun x : Nat × List Nat × (Nat → Value) => x.1 ≤ L.length ∧ MemoOk L x.2.1) (fun x => L.length - x.1)
   (fun x => ⟨[(5, .bptr (progCells L S b1 b2)), (8, .own 0), (22, .sl 2 L.length (modCells L)), (23, .lit (.int .i64 L.length)), (24, .lit (.int .i64 x.1)), (40, .fam x.2.1.length x.2.2 (memoAs L x.2.1))], ownTbl x.1 :: Rw (fun a => opOb (scL L a)) x.1, [(b1, ⟨9, atEs L L.length⟩), (b2, ⟨9, memoEs L x.2.1 x.2.2⟩)], 0⟩) ⟨(0, js, vs), ⟨Nat.zero_le _, hm⟩, ?_⟩ (fun x hx => ?_)
  ·exact uE [0] (h1 := by simp [go_sem, KP]; exact .fam _ _ _ _ fun q hq => by rw [has q hq]; exact .closed _ (tblAV_closed _)) (h4 := by simp [go_sem, KT, Rw]) (hM := by simp [go_sem, hb])
  obtain ⟨i, js, vs⟩ := x
  simp only at hx
  obtain ⟨hi, hm⟩ := hx
  simp [go_sem, KP, KT]
  refine ⟨fun h => ?_, fun h => ?_⟩
  ·refine ⟨h, ?_⟩
   simp [go_sem, KP, KT, modCells_at]
   have hsl : (scL L i).length ≤ 2000100 := hok.scl_len _ _ h
   refine vcall_gt [] 40 40 (c_scope L S b1 b2 hb hS hok hN (fun i => (hz i).1) _ i h (Nat.lt_succ_self _) js vs hm) (by simp) rfl (fun q _ => .closed _ (tblAV_closed _)) (by simp [go_sem, KP]) trivial (by simp [go_sem, hb]) ?_
   rintro av mem maps N' vs' as' ⟨js', hm', hr', rfl, has, rfl, rfl, rfl⟩
   simp [go_sem, KP, KT, tblAV]
   refine vcall_use (c_clone (scL L i) (by omega)) (by simp [go_sem]; exact argSl_refl (by omega) fun i c _ h => opClosed _ i c h) ?_
   rintro av obs ⟨rfl, rfl⟩
   simp [go_sem, KP, KT]
   have wri : IntKind.i64.wrap ((i : Int) + 1) = (i : Int) + 1 := wrap_i64 (by omega)
   refine ⟨by omega, by omega, i + 1, js', ⟨h, hm'⟩, by omega, vs', ?_⟩
   refine ent_grow (i + 3 + 1) (i + 1 + 1) i (by simp [go_sem, KP, wri]; exact .fam _ _ _ _ fun q hq => by rw [has q hq]; exact .closed _ (tblAV_closed _)) (by rw [List.getElem?_cons_succ]; exact Rw_app_atk _ i 3 _) ?_ (by omega) (fun a ha => ⟨_, by rw [List.getElem?_cons_succ]; exact Rw_app_lt _ _ ha, obRn_of (fun _ _ => rfl) fun _ _ h => opClosed _ _ _ h⟩) ⟨_, by rw [List.getElem?_cons_succ]; exact Rw_app_atk _ i 1 _, obRn_of (fun _ _ => rfl) fun _ _ h => opClosed _ _ _ h⟩ (by simp [go_sem, hb])
   refine ⟨rfl, rfl, rfl, fun a ha => ?_⟩
   simp only [joinF]
   have ha : a < i + 1 := ha
   split
   ·rename_i h8
    simp [go_sem, growF_lt h8]; omega
   ·obtain rfl : a = i := by omega
    simp [go_sem, growF_n]
  ·obtain rfl : i = L.length := by omega
   exact uFR 0 1 L.length 55 (fun a => opOb (scL L a)) rfl (fun a ha => by rw [List.getElem?_cons_succ]; exact Rw_at _ ha) (fun a _ i => rfl) (by omega) (by simp [go_sem]) (.inr ⟨hc, by simp [go_sem, idxOut, exRw], rfl⟩)
theorem c_implLoad (L : List PMod) (hn : L.length ≤ 1048576) (hz : ∀ i, (modAt L i).name.size ≤ 1048576 ∧ (modAt L i).text.size ≤ 1048576) : VProc Tryz.prog 10 [.sl 2 L.length (modCells L)] [] []
  (fun av mem maps => av = .tup [.own 0, .lit (.int .i64 (loadC L).1), .lit (.int .i64 (loadC L).2)] ∧ mem = ownTbl (loadN L) :: Rw (fun a => opOb (scL L a)) (loadN L) ∧ maps = []) :=
 ((c_implLoad0 L hn hz (fun _ => undef) (fun _ => .undef)).proc.fewMaps (R' := fun av mem maps => implLoadR L av mem [] ∧ maps = []) fun av mem maps h => ⟨[], fun b mp hb => by simp [lkm] at hb, fun b hb => hb, h, rfl⟩).adoptT 55 1 Nat.one_pos (fun a => [.own (a + 1)]) fun av mem maps h => by
  obtain ⟨⟨hc, rfl, rfl⟩ | ⟨hc, rfl, rfl⟩, rfl⟩ := h
  ·refine .inr ⟨[.int .i64 (loadC L).1, .int .i64 (loadC L).2], rfl, rfl, rfl, ?_, rfl⟩
   unfold loadN
   rw [if_neg hc]; rfl
  ·refine .inl ⟨?_, ?_, rfl⟩
   ·rw [hc, load_who hc]; rfl
   ·unfold loadN; rw [if_pos hc]
def PMod.wf (m : PMod) : Prop := m.name.size ≤ maxLen ∧ m.text.size ≤ maxLen
theorem c_toModule (m : PMod) : VFun Tryz.prog 36 [.agg m.cells] (fun av obs => obs = [] ∧ av = .agg m.cells) := by
 obtain ⟨g, z⟩ := m
 simp only [PMod.cells]
 refine vfun_start Tryz.func36 (by kernel_rfl) rfl (by simp [Tryz.ntmps36]) ?_; simp only [Tryz.ntmps36, Tryz.results36]; simp [go_sem]
def zeroMod : List AV := [.lit (.string ⟨#[]⟩), .lit (.string ⟨#[]⟩)]
def modFill (l : List PMod) (i j : Nat) : List AV := if j < i then modCells l j else zeroMod
theorem modBd (l : List PMod) (i j m : Nat) : ∀ c, c ∈ modFill l i j → Bd m c := by
 intro c h
 unfold modFill at h
 split at h
 ·exact .closed _ (modClosed l j c h)
 ·simp [zeroMod] at h
  subst h; exact .closed _ (.lit _)
theorem c_toModuleS (l : List PMod) (hl : l.length ≤ 1048576) : VFun Tryz.prog 9 [.sl 2 l.length (modCells l)] (fun av obs => av = .own 0 ∧ obs = [⟨52, 2, l.length, modCells l⟩]) := by
 refine vfun_start Tryz.func9 (by kernel_rfl) rfl (by simp [Tryz.ntmps9]) ?_; simp only [Tryz.ntmps9, Tryz.results9]; simp [go_sem]
 refine ⟨by omega, by omega, by omega, ?_⟩
 refine vc_loop (fun i : Nat => i ≤ l.length) (fun i => l.length - i) (fun i => .of [(0, .sl 2 l.length (modCells l)), (3, .own 0), (4, .lit (.int .i64 i))] [some ⟨52, 2, l.length, modFill l i⟩]) ⟨0, by omega, ?_⟩ (fun i hi => ?_)
 ·simp [go_sem, modFill, zeroMod]
  exact fun i c _ h => modClosed l i c h
 ·simp [go_sem]
  refine ⟨by omega, fun h => ?_, fun h => ?_⟩
  ·rcases ho : l.getD i default with ⟨g, z⟩
   have e : modCells l i = [.lit (.string g), .lit (.string z)] := by unfold modCells modAt; rw [ho]; rfl
   simp only [e]
   refine ⟨h, by simp, vcall_val (c_toModule ⟨g, z⟩) ?_ ?_ ?_⟩
   ·simp [go_sem, PMod.cells]
   ·simp [go_sem, PMod.cells]
   ·simp [go_sem, PMod.cells]
    refine ⟨h, i + 1, by omega, by omega, ⟨fun i c _ h => modClosed l i c h, wrap_succ (by omega)⟩, fun j hj => ?_⟩
    rw [updF_at h hj]
    refine ⟨?_, modBd l _ _ _⟩
    by_cases hji : j = i
    ·subst hji
     simp [modFill, e, splice, zeroMod]
    ·rw [if_neg hji]
     unfold modFill
     by_cases h2 : j < i
     ·rw [if_pos h2, if_pos (by omega)]
     ·rw [if_neg h2, if_neg (by omega)]
  ·have : i = l.length := by omega
   subst this
   exact obsSame_one.mpr ⟨⟨52, 2, l.length, modCells l⟩, ⟨rfl, rfl, rfl, fun j hj => ⟨by simp only [modFill]; rw [if_pos hj], modLit l j⟩⟩, rfl⟩
def szMod (o : PMod) (left : Int) : Int := if left - o.name.size < 0 then -1 else if left - o.name.size - o.text.size < 0 then -1 else left - o.name.size - o.text.size
theorem c_szModule (o : PMod) (left : Int) (ho : o.wf) (h0 : 0 ≤ left) (h : left ≤ 1048576) : VFun Tryz.prog 29 [.agg o.cells, .lit (.int .i64 left)] (fun av obs => obs = [] ∧ av = .lit (.int .i64 (szMod o left))) := by
 obtain ⟨g, z⟩ := o
 simp only [PMod.cells, PMod.wf, maxLen] at ho ⊢
 refine vfun_start Tryz.func29 (by kernel_rfl) rfl (by simp [Tryz.ntmps29]) ?_; simp only [Tryz.ntmps29, Tryz.results29]; simp [go_sem]
 rw [wrap_i64 (n := left - g.size) (by omega)]
 simp only [szMod]
 refine ⟨fun h1 => by rw [if_pos h1], fun h1 => ?_⟩
 rw [wrap_i64 (n := left - g.size - z.size) (by omega), if_neg (by omega)]
 refine ⟨fun h2 => by rw [if_pos h2], fun h2 => by rw [if_neg (by omega)]⟩
def modSize (o : PMod) : Nat := o.name.size + o.text.size
def modSum (l : List PMod) : Nat := (l.map modSize).sum
theorem szMod_le (o : PMod) (left : Int) : szMod o left = -1 ∨ (0 ≤ szMod o left ∧ szMod o left = left - modSize o) := by
 unfold szMod modSize
 split
 ·exact .inl rfl
 ·split
  ·exact .inl rfl
  ·exact .inr ⟨by omega, by omega⟩
theorem modSum_take (l : List PMod) (i : Nat) (h : i < l.length) : modSum (l.take (i + 1)) = modSum (l.take i) + modSize (modAt l i) := by
 unfold modSum modAt
 rw [List.take_add_one, List.getElem?_eq_getElem h, List.map_append, List.sum_append_nat, List.getD_eq_getElem?_getD, List.getElem?_eq_getElem h]
 simp only [Option.toList_some, List.map_cons, List.map_nil, List.sum_cons, List.sum_nil, Option.getD_some, Nat.add_zero]
theorem modSum_le (l : List PMod) (i : Nat) : modSum (l.take i) ≤ modSum l := by
 conv => rhs; rw [← List.take_append_drop i l]
 unfold modSum
 rw [List.map_append, List.sum_append_nat]
 omega
theorem modSum_at (l : List PMod) (i : Nat) : (modAt l i).name.size + (modAt l i).text.size ≤ modSum l := by
 by_cases h : i < l.length
 ·have h1 := modSum_take l i h
  have h2 := modSum_le l (i + 1)
  unfold modSize at h1
  omega
 ·unfold modAt
  rw [List.getD_eq_getElem?_getD, List.getElem?_eq_none (by omega)]
  exact Nat.zero_le _
theorem c_szModuleS (l : List PMod) (left : Int) (hl : l.length ≤ maxLen) (ho : ∀ i, i < l.length → (modAt l i).wf) (h0 : 0 ≤ left) (h : left ≤ 1048576) :
  VFun Tryz.prog 7 [.sl 2 l.length (modCells l), .lit (.int .i64 left)] (fun av obs => obs = [] ∧ (av = .lit (.int .i64 (-1)) ∨ (0 ≤ left - l.length - modSum l ∧ av = .lit (.int .i64 (left - l.length - modSum l))))) := by
 simp only [maxLen] at hl
 refine vfun_start Tryz.func7 (by kernel_rfl) rfl (by simp [Tryz.ntmps7]) ?_; simp only [Tryz.ntmps7, Tryz.results7]; simp [go_sem]
 rw [wrap_i64 (n := left - l.length) (by omega)]
 refine ⟨by omega, fun h1 => ?_⟩
 refine vc_loop (fun i : Nat => i ≤ l.length ∧ 0 ≤ left - l.length - modSum (l.take i)) (fun i => l.length - i) (fun i => .of [(0, .sl 2 l.length (modCells l)), (1, .lit (.int .i64 (left - l.length - modSum (l.take i)))), (5, .lit (.int .i64 i))] []) ⟨0, ⟨by omega, by simpa [modSum] using h1⟩, ?_⟩ (fun i hi => ?_)
 ·simp [go_sem, modSum]
  exact fun i c _ h => modClosed l i c h
 ·simp [go_sem]
  refine ⟨by omega, fun h => ?_, fun h => ?_⟩
  ·have hw := ho i h
   have hs := modSum_take l i h
   rcases ho : modAt l i with ⟨g, z⟩
   rw [ho] at hw hs
   have e : modCells l i = [.lit (.string g), .lit (.string z)] := by unfold modCells; rw [ho]; rfl
   simp only [e]
   refine ⟨h, by simp, vcall_pure (c_szModule ⟨g, z⟩ (left - l.length - modSum (l.take i)) hw (by omega) (by omega)) ?_ ?_⟩
   ·simp [go_sem, PMod.cells]
   ·simp [go_sem]
    rcases szMod_le ⟨g, z⟩ (left - l.length - modSum (l.take i)) with h2 | ⟨h2, h3⟩
    ·rw [h2]
     exact fun h4 => by omega
    ·exact fun h4 => ⟨i + 1, ⟨by omega, by omega⟩, by omega, ⟨fun i c _ h => modClosed l i c h, by rw [h3]; omega, wrap_succ (by omega)⟩⟩
  ·have : i = l.length := by omega
   subst this
   simp only [List.take_length] at hi ⊢
   exact .inr ⟨by omega, trivial⟩
def modEq (a b : PMod) : Bool := decide (a.name = b.name) && decide (a.text = b.text)
def modsEq (a b : List PMod) : Bool := decide (a.length = b.length) && (List.range a.length).all fun i => modEq (modAt a i) (modAt b i)
theorem modsEq_refl (a : List PMod) : modsEq a a = true := by simp [modsEq, modEq]
theorem c_eqModule (a b : PMod) : VFun Tryz.prog 41 [.agg a.cells, .agg b.cells] (fun av obs => obs = [] ∧ av = .lit (.bool (modEq a b))) := by
 obtain ⟨g, z⟩ := a
 obtain ⟨g', z'⟩ := b
 simp only [PMod.cells]
 refine vfun_start Tryz.func41 (by kernel_rfl) rfl (by simp [Tryz.ntmps41]) ?_; simp only [Tryz.ntmps41, Tryz.results41]; simp [go_sem]
 simp only [modEq, ba_toList, ba_beq]
 by_cases h1 : g = g' <;> by_cases h2 : z = z' <;> simp [h1, h2]
set_option maxRecDepth 100000 in
theorem c_eqModuleS (a b : List PMod) (ha : a.length ≤ 1048576) (hb : b.length ≤ 1048576) : VFun Tryz.prog 12 [.sl 2 a.length (modCells a), .sl 2 b.length (modCells b)] (fun av obs => obs = [] ∧ av = .lit (.bool (modsEq a b))) := by
 refine vfun_start Tryz.func12 (by kernel_rfl) rfl (by simp [Tryz.ntmps12]) ?_; simp only [Tryz.ntmps12, Tryz.results12]; simp [go_sem]
 refine ⟨by omega, by omega, fun hne => ?_, fun hl => ?_⟩
 ·have : ¬ a.length = b.length := by omega
  simp [modsEq, this]
 refine vc_loop (fun i : Nat => i ≤ a.length ∧ ∀ j, j < i → modEq (modAt a j) (modAt b j) = true) (fun i => a.length - i) (fun i => .of [(0, .sl 2 a.length (modCells a)), (1, .sl 2 b.length (modCells b)), (5, .lit (.int .i64 i))] []) ⟨0, ⟨by omega, fun j h => by omega⟩, ?_⟩ (fun i hi => ?_)
 ·simp [go_sem]
  exact ⟨fun i c _ h => modClosed _ i c h, fun i c _ h => modClosed _ i c h⟩
 ·obtain ⟨hi, hj⟩ := hi
  simp [go_sem]
  refine ⟨by omega, fun h => ?_, fun h => ?_⟩
  ·refine vc_drawn [] (.q 0 <| .q 1 <| .q 2 <| .q 3 <| .q 4 <| .q 5 <| .q 6 <| .q 7 <| .or 8 (.q 9 <| .done) (.nil)) (by kernel_rfl) ?_
   simp [go_sem, modCells_at]
   refine ⟨h, by omega, vcallV_pure (c_eqModule (modAt a i) (modAt b i)) (by simp [go_sem, PMod.cells]) ?_⟩
   simp [go_sem]
   refine ⟨fun e => ?_, fun e => ⟨i + 1, ⟨h, fun j h3 => ?_⟩, by omega, ⟨fun i c _ h => modClosed _ i c h, fun i c _ h => modClosed _ i c h, wrap_succ (by omega)⟩⟩⟩
   ·simp only [modsEq, Bool.and_eq_false_iff]
    refine .inr ?_
    rw [List.all_eq_false]
    exact ⟨i, List.mem_range.2 h, by rw [e]; simp⟩
   ·by_cases e2 : j = i
    ·rw [e2]; exact e
    ·exact hj j (by omega)
  ·have e : a.length = b.length := by omega
   simp only [modsEq, e, decide_true, Bool.true_and, List.all_eq_true, List.mem_range]
   exact fun j h2 => hj j (by omega)
def markMods (n k : Nat) : List PMod := (List.range n).map fun i => ⟨mtext (k + 2 * i), mtext (k + 2 * i + 1)⟩
def markModFill (l : List PMod) (k i j : Nat) : List AV := if j < i then modCells (markMods l.length k) j else modCells l j
theorem markMod_at {n k j : Nat} (h : j < n) : modCells (markMods n k) j = [.lit (.string (mtext (k + 2 * j))), .lit (.string (mtext (k + 2 * j + 1)))] := by
 unfold modCells modAt markMods
 rw [List.getD_eq_getElem?_getD, List.getElem?_map, List.getElem?_range h]; rfl
theorem markModBd (l : List PMod) (k i j m : Nat) : ∀ c, c ∈ markModFill l k i j → Bd m c := by
 intro c h
 unfold markModFill at h
 split at h
 ·exact .closed _ (modClosed _ j c h)
 ·exact .closed _ (modClosed l j c h)
theorem c_markModuleS (l : List PMod) (k : Nat) (hl : l.length ≤ 1048576) (hk : 0 < k ∧ k ≤ 1000000000) : VProc Tryz.prog 13 [.own 0, .lit (.int .i64 k)] [modRow l] [] (fun av mem maps => av = .lit (.int .i64 (k + 2 * l.length : Nat)) ∧ mem = [some ⟨52, 2, l.length, modCells (markMods l.length k)⟩] ∧ maps = []) := by
 refine vproc_start Tryz.func13 (by kernel_rfl) rfl (by simp [Tryz.ntmps13]) ?_; simp only [Tryz.ntmps13, Tryz.results13]; simp [go_sem]
 refine vc_loop (fun i : Nat => i ≤ l.length) (fun i => l.length - i) (fun i => ⟨[(0, .own 0), (1, .lit (.int .i64 (k + 2 * i : Nat))), (5, .lit (.int .i64 i))], [some ⟨52, 2, l.length, markModFill l k i⟩], [], 1⟩) ⟨0, by omega, ?_⟩ (fun i hi => ?_)
 ·simp [go_sem, markModFill, modRow]
  exact fun i h c hc => .closed _ (modClosed l i c hc)
 ·simp [go_sem]
  refine ⟨by omega, fun h => vcall_pure (c_markText (k + 2 * i) (by omega)) ?_ ?_, fun h => ?_⟩
  ·simp [go_sem]
  ·simp [go_sem]
   have w1 := wrap_i64 (n := (k : Int) + 2 * i + 1) (by omega)
   simp only [w1]
   refine ⟨h, vcall_pure (c_markText (k + 2 * i + 1) (by omega)) (by simp [go_sem]) ?_⟩
   simp [go_sem]
   refine ⟨h, i + 1, by omega, by omega, ⟨by rw [wrap_i64 (by omega)]; omega, wrap_succ (by omega)⟩, fun j hj => ⟨?_, markModBd _ _ _ _ _⟩⟩
   simp only [updF_at h hj, updF_at h h, if_true]
   by_cases hji : j = i
   ·subst hji
    simp only [if_true, markModFill, Nat.lt_irrefl, if_false, Nat.lt_succ_self, markMod_at hj]
    simp [modCells_at, splice]
   ·simp only [if_neg hji, markModFill]
    by_cases h2 : j < i
    ·rw [if_pos h2, if_pos (by omega)]
    ·rw [if_neg h2, if_neg (by omega)]
  ·have : i = l.length := by omega
   subst this
   refine uF [] [some ⟨52, 2, l.length, modCells (markMods l.length k)⟩] (hm := ?_) (hR := by simp [go_sem])
   simp [go_sem]
   exact outAt_lits (fun i hi => by simp only [markModFill, if_pos hi]) (fun i _ => rfl)
theorem ren1_id (x : AV) : ren1 (fun k => k) x = x := by cases x <;> rfl
theorem ren2_id (x : AV) : ren2 (fun k => k) x = x := by
 cases x with
 | agg cs =>
  show AV.agg (cs.map (ren1 fun k => k)) = _
  congr 1
  exact (List.map_congr_left fun c _ => ren1_id c).trans (List.map_id cs)
 | _ => rfl
theorem ren_id (x : AV) : ren (fun k => k) x = x := by
 cases x with
 | tup cs =>
  show AV.tup (cs.map (ren2 fun k => k)) = _
  congr 1
  exact (List.map_congr_left fun c _ => ren2_id c).trans (List.map_id cs)
 | _ => simp only [ren]; exact ren2_id _
theorem VFun.proc {P : Program} {f : FuncId} {args : List AV} {R : AV → List Ob → Prop} (h : VFun P f args R) (hc : ∀ a, a ∈ args → Closed a) : VProc P f args [] [] (fun av mem maps => ∃ obs, R av obs ∧ mem = obs.map some ∧ maps = []) := by
 refine ⟨h.1, fun w vs hd0 hl hv hm hmp ht => ?_⟩
 have hl2 : LenP P w (fun b => w.heap.size ≤ b) args vs := ⟨hl.1, hl.2.1, fun b hb => hl.2.2 b (.inl hb)⟩
 have hv2 : ∀ (j : Nat) a u, args[j]? = some a → vs[j]? = some u → Rep w (fun _ => True) (fun _ => undef) 0 a u := fun j a u h1 h2 => Rep.closed (hc a (List.mem_of_getElem? h1)) (fun ad u h3 h4 => ⟨h4, trivial⟩) (hv j a u h1 h2)
 refine (h.2 w vs hl2 hv2).mono fun e w' ⟨v, e1, gr, hd, av, obs, r, fl, hlit, hme, hrep⟩ => ?_
 obtain ⟨HD, hHD⟩ : ∃ HD : Nat → Value, HD = fun k => if k < obs.length then hd k else hd0 k := ⟨_, rfl⟩
 have hlow : ∀ k, k < obs.length → HD k = hd k := fun k hk => by rw [hHD]; exact if_pos hk
 have heq : TailEq hd0 HD := ⟨obs.length, fun k hk => by rw [hHD]; exact if_neg (by omega)⟩
 have hme2 := hme.retail hlit hlow
 refine ⟨v, e1, ⟨gr.os, gr.tape, gr.output, gr.size, fun k hk _ => gr.block k hk (by simp)⟩, HD, av, obs.map some, [], ⟨obs, r, rfl, rfl⟩, ⟨Nat.zero_le _, ?_, fun k ob hk i hi c hcc => ?_, fun b hb => hb⟩, ⟨fun k hk => absurd hk (Nat.not_lt_zero k), heq⟩, ⟨fun k ob hk b hb => .inl (hme2.alw k ob hk b hb), hme2.obs, hme2.hds, hme2.apart⟩, fun b mp hb => by simp [lkm] at hb, ?_⟩
 ·cases av with
  | tup cs => exact fun c hcc => .inl (List.all_eq_true.1 fl c hcc)
  | _ => exact .inl fl
 ·rw [List.getElem?_map, Option.map_eq_some_iff] at hk
  obtain ⟨x, hx, hx2⟩ := hk
  cases hx2
  exact .inl (List.all_eq_true.1 (flat_lits (hlit ob (List.mem_of_getElem? hx) i hi)) c hcc)
 ·have := hrep.ren_ (w' := w') (ok' := okOf (obs.map some) HD) (hd' := HD) (m' := (obs.map some).length) (g := fun k => k) fl fun k _ hk => ⟨by simpa using hk, hlow k hk⟩
  rwa [ren_id] at this
theorem c_toModuleSB (l : List PMod) (hl : l.length ≤ 1048576) : VProc Tryz.prog 9 [.sl 2 l.length (modCells l)] [] [] (fun av mem maps => av = .sl 2 l.length (modCells l) ∧ mem = [] ∧ maps = []) :=
 ((c_toModuleS l hl).proc fun a ha => by
  rw [List.mem_singleton] at ha; subst ha
  exact .sl _ _ _ fun i c _ h => modClosed _ i c h).giveR fun av mem maps h => by
  obtain ⟨obs, ⟨rfl, rfl⟩, rfl, rfl⟩ := h
  exact ⟨⟨52, 2, l.length, modCells l⟩, l.length, modCells l, fun _ _ => rfl, rfl, rfl, Nat.le_refl _, fun i _ c hc => modClosed _ i c hc, .inl ⟨rfl, rfl⟩, rfl, rfl, rfl⟩
theorem c_implLoadB (L : List PMod) (hn : L.length ≤ 1048576) (hz : ∀ i, (modAt L i).name.size ≤ 1048576 ∧ (modAt L i).text.size ≤ 1048576) : VProc Tryz.prog 10 [.sl 2 L.length (modCells L)] [] []
  (fun av mem maps => av = .tup [.sl 1 (loadN L) (tblCells (scL L)), .lit (.int .i64 (loadC L).1), .lit (.int .i64 (loadC L).2)] ∧ mem = [] ∧ maps = []) :=
 (c_implLoad L hn hz).giveRR fun av mem maps h => by
  obtain ⟨rfl, rfl, rfl⟩ := h
  exact .inr ⟨55, loadN L, fun a => opOb (scL L a), [.int .i64 (loadC L).1, .int .i64 (loadC L).2], fun a _ i _ c hc => opClosed _ i c hc, rfl, rfl, .inr ⟨rfl, rfl, rfl, rfl⟩⟩
theorem uFK {maps0 : List (Nat × Mp)} {R : AV → List (Option Ob) → List (Nat × Mp) → Prop} {t : List (Nat × AV)} {m : List (Option Ob)} {M : List (Nat × Mp)} {x : Value} (hs : ∀ k, k < m.length → ∃ ob, m[k]? = some (some ob) ∧ OutAt (fun k => k) (List.range m.length) ob (some (some ob)))
  (hR : R (.lit x) m M) (hM : ∀ b, (lkm maps0 b).isSome = true → (lkm M b).isSome = true := by simp [go_sem]) : vendP maps0 R ⟨t, m, M, m.length⟩ (.lit x) := by
 refine ⟨rfl, [], m, by simp, by simp, ⟨by simp [go_sem], by simp [go_sem]⟩, ?_, hM, hR⟩
 have e0 : outKs m.length [] = List.range m.length := by unfold outKs; simp
 show MemOut (idxOut m.length []) (outKs m.length []) m (outKs m.length []) m
 rw [e0]
 have key : ∀ (l : List Nat) (r : List (Option Ob)), l.length = r.length → (∀ (j k : Nat), l[j]? = some k → k < m.length ∧ r[j]? = m[k]?) → MemOut (idxOut m.length []) (List.range m.length) m l r := fun l => by
  induction l with
  | nil => intro r hl _; cases r with
   | nil => trivial
   | cons _ _ => simp at hl
  | cons k l ih =>
   intro r hl h
   cases r with
   | nil => simp at hl
   | cons o r =>
    obtain ⟨h1, h2⟩ := h 0 k rfl
    obtain ⟨ob, h3, h4⟩ := hs k h1
    rw [List.getElem?_cons_zero, h3] at h2
    cases h2
    refine ⟨?_, ih r (by simpa using hl) fun j q hq => h (j + 1) q (by simpa using hq)⟩
    rw [h3]
    obtain ⟨g1, g2, g3, g4⟩ := h4
    refine ⟨rfl, rfl, rfl, fun i hi => ?_⟩
    obtain ⟨q1, q2, q3⟩ := g4 i hi
    refine ⟨?_, q2, q3⟩
    refine (List.map_congr_left fun c hc => ?_).trans q1
    cases c with
    | own k => show AV.own _ = AV.own _; congr 1; unfold idxOut; rw [if_pos (by have := q3 _ hc k (by simp [owns1]); simpa using this)]
    | ptr k _ _ _ => show AV.ptr _ _ _ _ = AV.ptr _ _ _ _; congr 1; unfold idxOut; rw [if_pos (by have := q3 _ hc k (by simp [owns1]); simpa using this)]
    | sub k _ _ _ => show AV.sub _ _ _ _ = AV.sub _ _ _ _; congr 1; unfold idxOut; rw [if_pos (by have := q3 _ hc k (by simp [owns1]); simpa using this)]
    | _ => rfl
 exact key _ _ (by simp) fun j k hj => by
  obtain ⟨h1, h2⟩ := List.getElem?_eq_some_iff.1 hj
  simp at h1 h2
  subst h2
  exact ⟨h1, rfl⟩
def tblsEq (n m : Nat) (S T : Nat → List POp) : Bool := decide (n = m) && (List.range n).all fun i => opsEq (S i) (T i)
theorem tblsEq_refl (n : Nat) (S : Nat → List POp) : tblsEq n n S S = true := by simp [tblsEq, opsEq_refl]
theorem outRows (n : Nat) (g : Nat → Ob) (hg : ∀ a i, ((g a).f i).all isLit = true) : ∀ k, k < (ownTbl n :: Rw g n).length → ∃ ob, (ownTbl n :: Rw g n)[k]? = some (some ob) ∧ OutAt (fun k => k) (List.range (ownTbl n :: Rw g n).length) ob (some (some ob)) := fun k hk => by
 rw [List.length_cons, Rw_len] at hk ⊢
 cases k with
 | zero =>
  refine ⟨_, rfl, rfl, rfl, rfl, fun i hi => ⟨?_, fun c hc => ?_, fun c hc q hq => ?_⟩⟩
  ·rfl
  ·simp only [List.mem_singleton] at hc; subst hc; exact .inl rfl
  ·simp only [List.mem_singleton] at hc; subst hc
   simp only [owns1, List.mem_singleton] at hq
   subst hq
   simp only at hi
   rw [List.mem_range]; omega
 | succ k =>
  rw [List.getElem?_cons_succ, Rw_at _ (by omega)]
  refine ⟨_, rfl, ?_⟩
  have := hg k
  generalize g k = ob at this
  obtain ⟨ty, sz, n', f⟩ := ob
  exact outAt_lits (fun _ _ => rfl) fun i _ => this i
theorem outRow (n : Nat) (S : Nat → List POp) : ∀ k, k < (ownTbl n :: Rw (fun a => opOb (S a)) n).length → ∃ ob, (ownTbl n :: Rw (fun a => opOb (S a)) n)[k]? = some (some ob) ∧ OutAt (fun k => k) (List.range (ownTbl n :: Rw (fun a => opOb (S a)) n).length) ob (some (some ob)) := outRows n _ fun a i => opLit _ i
set_option maxRecDepth 100000 in
theorem c_eqTableS (n m : Nat) (hn : n ≤ 1000 ∧ m ≤ 1000) (S T : Nat → List POp) (hS : ∀ i, i < n → (S i).length ≤ 10000000) (hT : ∀ i, i < m → (T i).length ≤ 10000000) : VProc Tryz.prog 11 [.own 0, .sl 1 m (tblCells T)] (ownTbl n :: Rw (fun a => opOb (S a)) n) []
  (fun av mem maps => av = .lit (.bool (tblsEq n m S T)) ∧ mem = ownTbl n :: Rw (fun a => opOb (S a)) n ∧ maps = []) := by
 have hlen : (ownTbl n :: Rw (fun a => opOb (S a)) n).length = n + 1 := by rw [List.length_cons, Rw_len]
 have fin : ∀ (b : Bool) (t : List (Nat × AV)), b = tblsEq n m S T → vendP [] (fun av mem maps => av = .lit (.bool (tblsEq n m S T)) ∧ mem = ownTbl n :: Rw (fun a => opOb (S a)) n ∧ maps = []) ⟨t, ownTbl n :: Rw (fun a => opOb (S a)) n, [], n + 1⟩ (.lit (.bool b)) := fun b t e => by
  have := uFK (maps0 := []) (R := fun av mem maps => av = .lit (.bool (tblsEq n m S T)) ∧ mem = ownTbl n :: Rw (fun a => opOb (S a)) n ∧ maps = []) (t := t) (M := []) (x := .bool b) (outRow n S) ⟨by rw [e], rfl, rfl⟩
  rwa [hlen] at this
 refine vproc_start Tryz.func11 (by kernel_rfl) rfl (by simp [Tryz.ntmps11]) ?_; simp only [Tryz.ntmps11, Tryz.results11]; simp [go_sem]
 simp [go_sem, KT]
 refine ⟨by omega, by omega, fun hne => ?_, fun hnm => ?_⟩
 ·exact fin false _ (by unfold tblsEq; rw [decide_eq_false (by omega)]; rfl)
 have hnm : n = m := by omega
 refine vc_loopE (fun i : Nat => i ≤ n ∧ ∀ j, j < i → opsEq (S j) (T j) = true) (fun i => n - i) (fun i => ⟨[(0, .own 0), (1, .sl 1 m (tblCells T)), (5, .lit (.int .i64 i))], ownTbl n :: Rw (fun a => opOb (S a)) n, [], n + 1⟩) ⟨0, ⟨Nat.zero_le _, fun j h => absurd h (Nat.not_lt_zero j)⟩, ?_⟩ (fun i hi => ?_)
 ·exact ent_same (by simp [go_sem])
 obtain ⟨hi, hb⟩ := hi
 simp [go_sem, KT]
 refine ⟨by omega, fun h => ?_, fun h => ?_⟩
 ·have wri : IntKind.i64.wrap ((i : Int) + 1) = (i : Int) + 1 := wrap_i64 (by omega)
  have h1 := hS i h
  have h2 := hT i (by omega)
  refine vc_drawn [] (.q 0 <| .q 1 <| .q 2 <| .q 3 <| .q 4 <| .q 5 <| .q 6 <| .q 7 <| .or 8 (.q 9 <| .done) (.nil)) (by kernel_rfl) ?_
  simp [go_sem, KT, tblCells]
  refine ⟨h, by omega, vcallV_pure (c_eqTable (S i) (T i) (by omega) (by omega)) (by
   simp [go_sem]
   exact ⟨argSl_own5 (ty := 73) (N := (S i).length) (f := opCells (S i)) (by rw [List.getElem?_cons_succ]; exact Rw_at _ h) (by omega) rfl (fun _ _ => rfl) fun i c _ h => opClosed _ i c h, argSl_refl (by omega) fun i c _ h => opClosed _ i c h⟩) ?_⟩
  simp [go_sem, KT]
  refine ⟨fun e => ?_, fun e => ⟨i + 1, ⟨h, fun j hj => ?_⟩, by omega, ?_⟩⟩
  ·exact fin false _ (by
    unfold tblsEq
    have : (List.range n).all (fun i => opsEq (S i) (T i)) = false := by
     rw [List.all_eq_false]
     exact ⟨i, List.mem_range.2 h, by rw [e]; simp⟩
    rw [this, Bool.and_false])
  ·by_cases e2 : j = i
   ·rw [e2]; exact e
   ·exact hb j (by omega)
  ·exact ent_same (by simp [go_sem, wri])
 ·exact fin true _ (by
   unfold tblsEq
   rw [decide_eq_true hnm, Bool.true_and]
   symm
   rw [List.all_eq_true]
   intro j hj
   exact hb j (by have := List.mem_range.1 hj; omega))
def mkAt (S : Nat → List POp) (k : Nat) : Nat → Nat
 | 0 => k
 | i + 1 => mkAt S k i + 4 * (S i).length
theorem mkAt_le {S : Nat → List POp} {k c : Nat} : ∀ n, (∀ i, i < n → (S i).length ≤ c) → k ≤ mkAt S k n ∧ mkAt S k n ≤ k + 4 * (n * c)
 | 0, _ => by simp [mkAt]
 | n + 1, h => by
  have h1 := mkAt_le (k := k) n fun i hi => h i (by omega)
  have h2 := h n (by omega)
  show k ≤ mkAt S k n + 4 * (S n).length ∧ mkAt S k n + 4 * (S n).length ≤ _
  have h3 : (n + 1) * c = n * c + c := Nat.succ_mul n c
  omega
def markedOb (S : Nat → List POp) (k a : Nat) : Ob := ⟨73, 4, (S a).length, markCells (mkAt S k a)⟩
set_option maxRecDepth 100000 in
theorem c_markTableS (n : Nat) (hn : n ≤ 100) (S : Nat → List POp) (hS : ∀ i, i < n → (S i).length ≤ 2000100) (k : Nat) (hk : 0 < k ∧ k ≤ 1000000) : VProc Tryz.prog 14 [.own 0, .lit (.int .i64 k)] (ownTbl n :: Rw (fun a => opOb (S a)) n) []
  (fun av mem maps => av = .lit (.int .i64 (mkAt S k n)) ∧ mem = ownTbl n :: Rw (markedOb S k) n ∧ maps = []) := by
 have hk2 : ∀ i, i ≤ n → mkAt S k i ≤ 900000000 := fun i hi => by
  have h1 := (mkAt_le (k := k) i fun j hj => hS j (by omega)).2
  have : i * 2000100 ≤ 100 * 2000100 := Nat.mul_le_mul_right _ (by omega)
  omega
 have hk1 : ∀ i, i ≤ n → k ≤ mkAt S k i := fun i hi => (mkAt_le (k := k) i fun j hj => hS j (by omega)).1
 have hlen : (ownTbl n :: Rw (markedOb S k) n).length = n + 1 := by rw [List.length_cons, Rw_len]
 refine vproc_start Tryz.func14 (by kernel_rfl) rfl (by simp [Tryz.ntmps14]) ?_; simp only [Tryz.ntmps14, Tryz.results14]; simp [go_sem]
 simp [go_sem, KT]
 refine vc_loopE (fun i : Nat => i ≤ n) (fun i => n - i) (fun i => ⟨[(0, .own 0), (1, .lit (.int .i64 (mkAt S k i))), (5, .lit (.int .i64 i))], ownTbl n :: Rw (fun a => if a < i then markedOb S k a else opOb (S a)) n, [], n + 1⟩) ⟨0, Nat.zero_le _, ?_⟩ (fun i hi => ?_)
 ·exact ent_same (by simp [go_sem, mkAt])
 simp [go_sem, KT]
 refine ⟨by omega, fun h => ⟨h, ?_⟩, fun h => ?_⟩
 ·have wri : IntKind.i64.wrap ((i : Int) + 1) = (i : Int) + 1 := wrap_i64 (by omega)
  have h1 := hS i h
  have a1 := hk1 i hi
  have a2 := hk2 i hi
  have r1 := Rw_at (fun a => if a < i then markedOb S k a else opOb (S a)) h
  have r2 := fun x => Rw_set (fun a => if a < i then markedOb S k a else opOb (S a)) h x
  simp only [Nat.lt_irrefl, if_false, opOb] at r1
  refine uS [i + 1] (c_markOpS (S i) (mkAt S k i) (by omega) (by omega)) ?_ (hs := by simp [go_sem, r1, opOb, K5])
  rintro av mem maps ⟨rfl, rfl, rfl⟩
  simp [go_sem, KT, r2]
  refine ⟨i + 1, h, by omega, ?_⟩
  have e : Rw (fun a => if a = i then (⟨73, 4, (S i).length, markCells (mkAt S k i)⟩ : Ob) else if a < i then markedOb S k a else opOb (S a)) n = Rw (fun a => if a < i + 1 then markedOb S k a else opOb (S a)) n := Rw_congr fun a _ => by
   by_cases e : a = i
   ·subst e; rw [if_pos rfl, if_pos (by omega)]; rfl
   ·rw [if_neg e]
    by_cases h : a < i
    ·rw [if_pos h, if_pos (by omega)]
    ·rw [if_neg h, if_neg (by omega)]
  rw [e]
  exact ent_same (by simp [go_sem, wri, mkAt])
 ·obtain rfl : i = n := by omega
  have e : Rw (fun a => if a < i then markedOb S k a else opOb (S a)) i = Rw (markedOb S k) i := Rw_congr fun a h => if_pos h
  rw [e]
  have := uFK (maps0 := []) (R := fun av mem maps => av = .lit (.int .i64 (mkAt S k i)) ∧ mem = ownTbl i :: Rw (markedOb S k) i ∧ maps = []) (t := [(0, .own 0), (1, .lit (.int .i64 (mkAt S k i))), (5, .lit (.int .i64 i))]) (M := []) (x := .int .i64 (mkAt S k i)) (outRows i (markedOb S k) fun a j => rfl) ⟨rfl, rfl, rfl⟩
  rwa [hlen] at this
set_option maxRecDepth 100000 in
theorem c_heldTableS (n : Nat) (hn : n ≤ 100) (S : Nat → List POp) (hS : ∀ i, i < n → (S i).length ≤ 2000100) (k : Nat) (hk : 0 < k ∧ k ≤ 1000000) : VProc Tryz.prog 15 [.own 0, .lit (.int .i64 k)] (ownTbl n :: Rw (markedOb S k) n) []
  (fun av mem maps => av = .lit (.int .i64 (mkAt S k n)) ∧ mem = ownTbl n :: Rw (markedOb S k) n ∧ maps = []) := by
 have hk2 : ∀ i, i ≤ n → mkAt S k i ≤ 900000000 := fun i hi => by
  have h1 := (mkAt_le (k := k) i fun j hj => hS j (by omega)).2
  have : i * 2000100 ≤ 100 * 2000100 := Nat.mul_le_mul_right _ (by omega)
  omega
 have hk1 : ∀ i, i ≤ n → k ≤ mkAt S k i := fun i hi => (mkAt_le (k := k) i fun j hj => hS j (by omega)).1
 have hlen : (ownTbl n :: Rw (markedOb S k) n).length = n + 1 := by rw [List.length_cons, Rw_len]
 refine vproc_start Tryz.func15 (by kernel_rfl) rfl (by simp [Tryz.ntmps15]) ?_; simp only [Tryz.ntmps15, Tryz.results15]; simp [go_sem]
 simp [go_sem, KT]
 refine vc_loopE (fun i : Nat => i ≤ n) (fun i => n - i) (fun i => ⟨[(0, .own 0), (1, .lit (.int .i64 (mkAt S k i))), (5, .lit (.int .i64 i))], ownTbl n :: Rw (markedOb S k) n, [], n + 1⟩) ⟨0, Nat.zero_le _, ?_⟩ (fun i hi => ?_)
 ·exact ent_same (by simp [go_sem, mkAt])
 simp [go_sem, KT]
 refine ⟨by omega, fun h => ⟨h, ?_⟩, fun h => ?_⟩
 ·have wri : IntKind.i64.wrap ((i : Int) + 1) = (i : Int) + 1 := wrap_i64 (by omega)
  have h1 := hS i h
  have a1 := hk1 i hi
  have a2 := hk2 i hi
  refine vcall_pure (c_heldOpS (S i).length (mkAt S k i) (by omega) (by omega)) (by
   simp [go_sem]
   exact argSl_own5 (ty := 73) (N := (S i).length) (f := markCells (mkAt S k i)) (by rw [List.getElem?_cons_succ]; exact Rw_at _ h) (by omega) rfl (fun _ _ => rfl) fun i c _ h => markClosed _ i c h) ?_
  simp [go_sem, KT]
  refine ⟨fun e => absurd e (by omega), fun _ => ⟨i + 1, h, by omega, ent_same (by simp [go_sem, wri, mkAt])⟩⟩
 ·obtain rfl : i = n := by omega
  have := uFK (maps0 := []) (R := fun av mem maps => av = .lit (.int .i64 (mkAt S k i)) ∧ mem = ownTbl i :: Rw (markedOb S k) i ∧ maps = []) (t := [(0, .own 0), (1, .lit (.int .i64 (mkAt S k i))), (5, .lit (.int .i64 i))]) (M := []) (x := .int .i64 (mkAt S k i)) (outRows i (markedOb S k) fun a j => rfl) ⟨rfl, rfl, rfl⟩
  rwa [hlen] at this
def blkK (n : Nat) : List Nat := 1 :: (List.range n).map (· + 2)
theorem blkK_len (n : Nat) : (blkK n).length = n + 1 := by simp [blkK]
theorem blkK_nodup (n : Nat) : (blkK n).Nodup := by
 unfold blkK
 rw [List.nodup_cons]
 refine ⟨fun hm => ?_, ?_⟩
 ·rw [List.mem_map] at hm
  obtain ⟨a, _, e⟩ := hm
  omega
 ·unfold List.Nodup
  rw [List.pairwise_map]
  exact List.Pairwise.imp (fun h e => h (by omega)) (List.nodup_range (n := n))
theorem blkK_at {n j : Nat} (h : j < n + 1) : (blkK n)[j]? = some (j + 1) := by
 unfold blkK
 cases j with
 | zero => rfl
 | succ j => rw [List.getElem?_cons_succ, List.getElem?_map, List.getElem?_range (by omega)]; rfl
theorem blkK_getD {n j : Nat} (h : j < n + 1) : (blkK n).getD j 0 = j + 1 := by rw [List.getD_eq_getElem?_getD, blkK_at h]; rfl
theorem blkK_back (n j : Nat) : backN (blkK n) (n + 2) j = j + 1 := by
 unfold backN
 rw [blkK_len]
 split
 ·rename_i h; exact blkK_getD h
 ·omega
theorem shMem_map {f : Nat → Nat} {m : Nat} {mem : List (Option Ob)} {α : Type} (p : α → Nat) (q : α → Ob) : ∀ {l : List α}, (∀ a, a ∈ l → ShAt f m (q a) (mem[p a]?)) → ShMem f m mem (l.map p) (l.map fun a => some (q a))
 | [], _ => trivial
 | a :: l, h => ⟨h a (by simp), shMem_map p q fun b hb => h b (by simp [hb])⟩
def tblB (ty n : Nat) : Option Ob := some ⟨ty, 1, n, fun a => [.own (a + 1 + 1)]⟩
theorem KBlk : ∀ ty n, tblB ty n = some ⟨ty, 1, n, fun a => [.own (a + 1 + 1)]⟩ := fun _ _ => rfl
theorem merge_blk {x : Option Ob} {ty n : Nat} {g g' : Nat → Ob} (hg : ∀ a i, ((g' a).f i).all isLit = true) : mergeM (x :: tblB ty n :: Rw g n) (blkK n) (some ⟨ty, 1, n, fun a => [.own (a + 1)]⟩ :: Rw g' n) = x :: tblB ty n :: Rw g' n := by
 have hl : (x :: tblB ty n :: Rw g n).length = n + 2 := by rw [List.length_cons, List.length_cons, Rw_len]
 have hl' : (some (⟨ty, 1, n, fun a => [.own (a + 1)]⟩ : Ob) :: Rw g' n).length = n + 1 := by rw [List.length_cons, Rw_len]
 have e0 : backN (blkK n) (n + 2) = (· + 1) := by funext j; exact blkK_back n j
 unfold mergeM
 rw [hl, e0, blkK_len]
 have e1 : (some (⟨ty, 1, n, fun a => [.own (a + 1)]⟩ : Ob) :: Rw g' n).take (n + 1) = some (⟨ty, 1, n, fun a => [.own (a + 1)]⟩ : Ob) :: Rw g' n := List.take_of_length_le (by rw [hl']; exact Nat.le_refl _)
 have e2 : (some (⟨ty, 1, n, fun a => [.own (a + 1)]⟩ : Ob) :: Rw g' n).drop (n + 1) = [] := List.drop_eq_nil_of_le (by rw [hl']; exact Nat.le_refl _)
 rw [e1, e2, List.map_nil, List.append_nil, List.map_cons, Rw_map]
 have e3 : Rw (fun a => renOb (· + 1) (g' a)) n = Rw g' n := Rw_congr fun a _ => renOb_lits (hg a)
 have e4 : Option.map (renOb (· + 1)) (some (⟨ty, 1, n, fun a => [.own (a + 1)]⟩ : Ob)) = tblB ty n := rfl
 rw [e3, e4]
 have hlt : ∀ k, k ∈ blkK n → k < (x :: tblB ty n :: Rw g n).length := fun k hk => by
  rw [hl]
  unfold blkK at hk
  rw [List.mem_cons, List.mem_map] at hk
  rcases hk with rfl | ⟨a, ha, rfl⟩
  ·omega
  ·have := List.mem_range.1 ha; omega
 have hll : (blkK n).length = (tblB ty n :: Rw g' n).length := by rw [blkK_len, List.length_cons, Rw_len]
 apply List.ext_getElem?
 intro k
 by_cases hk : k < n + 2
 ·cases k with
  | zero =>
   rw [setAll_not _ _ _ _ (by unfold blkK; simp)]; rfl
  | succ k => rw [setAll_at _ _ _ (blkK_nodup n) hll hlt k (k + 1) (blkK_at (by omega)), List.getElem?_cons_succ]
 ·rw [List.getElem?_eq_none (by rw [setAll_len, hl]; omega), List.getElem?_eq_none (by rw [List.length_cons, List.length_cons, Rw_len]; omega)]
theorem uB {P : Program} {f : FuncId} {avs args' : List AV} {k : AV → VS → Prop} {R : AV → List (Option Ob) → List (Nat × Mp) → Prop} {x : Option Ob} {ty n fx : Nat} {g : Nat → Ob} {t : List (Nat × AV)}
  (h : VProc P f args' (some ⟨ty, 1, n, fun a => [.own (a + 1)]⟩ :: Rw g n) [] R) (ha : CellsRn (fun j => (blkK n).getD j 0) (n + 1) avs args') (hg : ∀ a i, ((g a).f i).all isLit = true)
  (hk : ∀ av mem' maps', R av mem' maps' → ∃ g' v, av = .lit v ∧ mem' = some ⟨ty, 1, n, fun a => [.own (a + 1)]⟩ :: Rw g' n ∧ maps' = [] ∧ (∀ a i, ((g' a).f i).all isLit = true) ∧ k (.lit v) ⟨t, x :: tblB ty n :: Rw g' n, [], fx⟩) : vcallP P f avs ⟨t, x :: tblB ty n :: Rw g n, [], fx⟩ k := by
 refine vcall_share (blkK n) h (blkK_nodup n) (by rw [blkK_len]; exact ha) ?_ trivial fun av mem' maps' r => ?_
 ·rw [blkK_len]
  refine ⟨⟨rfl, rfl, rfl, fun i hi => ?_⟩, ?_⟩
  ·have hi : i < n := hi
   simp only [CellsRn, and_true]
   have : Rn (fun j => (blkK n).getD j 0) (n + 1) (.own ((blkK n).getD (i + 1) 0)) (.own (i + 1)) := by simp [go_sem, hi]
   rwa [blkK_getD (by omega)] at this
  ·unfold Rw
   refine shMem_map (· + 2) g fun a ha => ?_
   show ShAt _ _ (g a) ((Rw g n)[a]?)
   rw [Rw_at _ (List.mem_range.1 ha)]
   have := hg a
   generalize g a = ob at this
   obtain ⟨ty', sz, n', f⟩ := ob
   refine ⟨rfl, rfl, rfl, fun i hi => ?_⟩
   have key : ∀ l : List AV, l.all isLit = true → CellsRn (fun j => (blkK n).getD j 0) (n + 1) l l := fun l => by
    induction l with
    | nil => intro _; trivial
    | cons c l ih =>
     intro hl
     rw [List.all_cons, Bool.and_eq_true] at hl
     refine ⟨?_, ih hl.2⟩
     have := hl.1
     cases c with
     | lit v => simp [go_sem]
     | _ => cases this
   exact key _ (this i)
 ·obtain ⟨g', v, rfl, rfl, rfl, hg', hk⟩ := hk av mem' maps' r
  rw [merge_blk hg']
  exact hk
set_option maxRecDepth 100000 in
theorem c_eqTableSB (n m : Nat) (hn : n ≤ 1000 ∧ m ≤ 1000) (S T : Nat → List POp) (hS : ∀ i, i < n → (S i).length ≤ 10000000) (hT : ∀ i, i < m → (T i).length ≤ 10000000) : VFun Tryz.prog 11 [.sl 1 n (tblCells S), .sl 1 m (tblCells T)]
  (fun av obs => obs = [] ∧ av = .lit (.bool (tblsEq n m S T))) := by
 refine vfun_start Tryz.func11 (by kernel_rfl) rfl (by simp [Tryz.ntmps11]) ?_; simp only [Tryz.ntmps11, Tryz.results11]; simp [go_sem]
 refine ⟨by omega, by omega, fun hne => ?_, fun hnm => ?_⟩
 ·unfold tblsEq; rw [decide_eq_false (by omega)]; rfl
 have hnm : n = m := by omega
 have hS1 : ∀ i c, i < n → c ∈ tblCells S i → Closed c := fun i c _ h => tblClosed _ i c h
 have hT1 : ∀ i c, i < m → c ∈ tblCells T i → Closed c := fun i c _ h => tblClosed _ i c h
 refine vc_loop (fun i : Nat => i ≤ n ∧ ∀ j, j < i → opsEq (S j) (T j) = true) (fun i => n - i) (fun i => .of [(0, .sl 1 n (tblCells S)), (1, .sl 1 m (tblCells T)), (5, .lit (.int .i64 i))] []) ⟨0, ⟨Nat.zero_le _, fun j h => absurd h (Nat.not_lt_zero j)⟩, ?_⟩ (fun i hi => ?_)
 ·simp [go_sem]
  exact ⟨hS1, hT1⟩
 obtain ⟨hi, hb⟩ := hi
 simp [go_sem]
 refine ⟨by omega, fun h => ?_, fun h => ?_⟩
 ·have wri : IntKind.i64.wrap ((i : Int) + 1) = (i : Int) + 1 := wrap_i64 (by omega)
  have h1 := hS i h
  have h2 := hT i (by omega)
  refine vc_drawn [] (.q 0 <| .q 1 <| .q 2 <| .q 3 <| .q 4 <| .q 5 <| .q 6 <| .q 7 <| .or 8 (.q 9 <| .done) (.nil)) (by kernel_rfl) ?_
  simp [go_sem, tblCells]
  refine ⟨h, by omega, vcallV_pure (c_eqTable (S i) (T i) (by omega) (by omega)) (by
   simp [go_sem]
   exact ⟨argSl_refl (by omega) fun i c _ h => opClosed _ i c h, argSl_refl (by omega) fun i c _ h => opClosed _ i c h⟩) ?_⟩
  simp [go_sem]
  refine ⟨fun e => ?_, fun e => ⟨i + 1, ⟨h, fun j hj => ?_⟩, by omega, ?_⟩⟩
  ·unfold tblsEq
   have : (List.range n).all (fun i => opsEq (S i) (T i)) = false := by
    rw [List.all_eq_false]
    exact ⟨i, List.mem_range.2 h, by rw [e]; simp⟩
   rw [this, Bool.and_false]
  ·by_cases e2 : j = i
   ·rw [e2]; exact e
   ·exact hb j (by omega)
  ·exact ⟨hS1, hT1, wri⟩
 ·unfold tblsEq
  rw [decide_eq_true hnm, Bool.true_and]
  rw [List.all_eq_true]
  intro j hj
  exact hb j (by have := List.mem_range.1 hj; omega)
theorem loadOk_of {L : List PMod} (h : (loadC L).1 = 0) : LoadOk L := by
 unfold loadC at h
 split at h
 ·simp at h
 rename_i h1
 split at h
 ·simp at h
 split at h
 ·simp at h
 split at h
 ·simp at h
 rename_i h4
 split at h
 ·simp at h
 rename_i h5
 exact LoadOk.of (by omega) (first_all h4) (first_all h5)
theorem loadN_ok (L : List PMod) : loadN L ≤ 100 ∧ ∀ i, i < loadN L → (scL L i).length ≤ 2000100 := by
 unfold loadN
 split
 ·rename_i h
  have := loadOk_of h
  exact ⟨this.few, fun i hi => this.scl_len _ _ hi⟩
 ·exact ⟨by omega, fun i hi => absurd hi (Nat.not_lt_zero i)⟩
set_option maxRecDepth 100000 in
theorem c_FnExactLoad (L : List PMod) (hl : L.length ≤ maxLen) (ho : ∀ i, i < L.length → (modAt L i).wf) : VFun Tryz.prog 3 [.sl 2 L.length (modCells L)] (fun av _ => av = .lit (.bool true)) := by
 have hl' := hl
 simp only [maxLen] at hl'
 have hlit : ∀ i, (modCells L i).all isLit = true := fun i => rfl
 refine vfun_start Tryz.func3 (by kernel_rfl) rfl (by simp [Tryz.ntmps3]) ?_; simp only [Tryz.ntmps3, Tryz.results3]; simp [go_sem]
 refine vcall_use (c_szModuleS L 1048576 hl ho (by decide) (by decide)) (by simp [go_sem]; exact argSl_refl (by omega) fun i c _ h => modClosed _ i c h) ?_
 rintro av obs ⟨rfl, rfl | ⟨h0, rfl⟩⟩
 ·simp [go_sem]
 simp [go_sem]
 refine fun _ => ?_
 have hn : L.length ≤ 1048576 := by omega
 have hz : ∀ i, (modAt L i).name.size ≤ 1048576 ∧ (modAt L i).text.size ≤ 1048576 := fun i => by
  have := modSum_at L i
  omega
 refine uS [] (c_toModuleSB L hn) ?_ (ha := by simp [go_sem]; exact fun i c _ h => modClosed _ i c h)
 rintro av mem maps ⟨rfl, rfl, rfl⟩
 simp [go_sem]
 refine uS [] (c_specLoad L hn hz) ?_ (ha := by simp [go_sem]; exact fun i c _ h => modClosed _ i c h)
 rintro av mem maps ⟨rfl, rfl, rfl⟩
 obtain ⟨hN, hS⟩ := loadN_ok L
 have hcode : ∃ C : Int × Nat, loadC L = C := ⟨_, rfl⟩
 obtain ⟨C, hC⟩ := hcode
 have hld := c_implLoad L hn hz
 have hldB := c_implLoadB L hn hz
 rw [hC] at hld hldB ⊢
 generalize loadN L = N at *
 generalize scL L = S at *
 simp [go_sem]
 refine vcall_use (c_toModuleS L hn) (by simp [go_sem]; exact argSl_refl (by omega) fun i c _ h => modClosed _ i c h) ?_
 rintro av obs ⟨rfl, rfl⟩
 simp [go_sem]
 have rwL : ∀ h : Nat → Nat, Rw (fun a => (⟨(opOb (S a)).ty, (opOb (S a)).sz, (opOb (S a)).n, fun i => ((opOb (S a)).f i).map (ren1 h)⟩ : Ob)) N = Rw (fun a => opOb (S a)) N := fun h => Rw_congr fun a _ => renOb_lits fun i => opLit _ i
 have owL : (fun i : Nat => [AV.own (1 + (i + 1))]) = fun i => [.own (i + 1 + 1)] := by funext i; rw [Nat.add_comm 1]
 have opL : ∀ (a i : Nat), ((opOb (S a)).f i).all isLit = true := fun a i => opLit _ i
 have mkL : ∀ (k a i : Nat), ((markedOb S k a).f i).all isLit = true := fun k a i => rfl
 refine vcall_shareX [] hld (by simp) ?_ trivial trivial ?_
 ·simp [go_sem]
  exact .inr (.inl ⟨by simp, argSl_own (k := 0) rfl (by omega) fun i c _ h => modClosed _ i c h, fun i _ => hlit i⟩)
 rintro av mem maps ⟨rfl, rfl, rfl⟩
 refine ⟨fun k ob hk i hi => ?_, ?_⟩
 ·cases k with
  | zero =>
   cases hk
   rfl
  | succ k =>
   rw [List.getElem?_cons_succ] at hk
   obtain ⟨_, rfl⟩ := Rw_get hk
   exact flat_lits (opL k i)
 simp [go_sem, KT, rwL, owL]
 have eqT := c_eqTableS N N (by omega) S S (fun i h => by have := hS i h; omega) fun i h => by have := hS i h; omega
 rw [tblsEq_refl] at eqT
 refine uB (ty := 55) (n := N) eqT (by simp [go_sem]; exact ⟨by rw [blkK]; rfl, fun i c _ h => tblClosed _ i c h⟩) opL ?_
 rintro av mem maps ⟨rfl, rfl, rfl⟩
 refine ⟨_, _, rfl, rfl, rfl, opL, ?_⟩
 simp [go_sem, KBlk]
 refine uS [] (c_toModuleSB L hn) ?_ (ha := by simp [go_sem]; exact fun i c _ h => modClosed _ i c h)
 rintro av mem maps ⟨rfl, rfl, rfl⟩
 simp [go_sem, KBlk]
 have eqM := c_eqModuleS L L (by omega) (by omega)
 rw [modsEq_refl] at eqM
 refine vcall_pure eqM (by
  simp [go_sem]
  exact ⟨argSl_own5 (sz := 2) rfl (by omega) rfl (fun _ _ => rfl) fun i c _ h => modClosed _ i c h, argSl_refl (by omega) fun i c _ h => modClosed _ i c h⟩) ?_
 simp [go_sem, KBlk]
 refine uS [0] (c_markModuleS L 1 hn (by omega)) ?_ (hs := by simp [go_sem, modRow, modCells_at])
 rintro av mem maps ⟨rfl, rfl, rfl⟩
 simp [go_sem, KBlk]
 refine ⟨fun _ => ?_, by omega⟩
 refine uB (ty := 55) (n := N) eqT (by simp [go_sem]; exact ⟨by rw [blkK]; rfl, fun i c _ h => tblClosed _ i c h⟩) opL ?_
 rintro av mem maps ⟨rfl, rfl, rfl⟩
 refine ⟨_, _, rfl, rfl, rfl, opL, ?_⟩
 simp [go_sem, KBlk]
 refine uB (ty := 55) (n := N) (c_markTableS N hN S hS 1 (by omega)) (by simp [go_sem]; rw [blkK]; rfl) opL ?_
 rintro av mem maps ⟨rfl, rfl, rfl⟩
 refine ⟨_, _, rfl, rfl, rfl, mkL 1, ?_⟩
 simp [go_sem, KBlk]
 have held := c_heldTableS N hN S hS 1 (by omega)
 refine uB (ty := 55) (n := N) held (by simp [go_sem]; rw [blkK]; rfl) (mkL 1) ?_
 rintro av mem maps ⟨rfl, rfl, rfl⟩
 refine ⟨_, _, rfl, rfl, rfl, mkL 1, ?_⟩
 simp [go_sem, KBlk]
 refine uS [] (c_toModuleSB L hn) ?_ (ha := by simp [go_sem]; exact fun i c _ h => modClosed _ i c h)
 rintro av mem maps ⟨rfl, rfl, rfl⟩
 simp [go_sem, KBlk]
 refine uS [] hldB ?_ (ha := by simp [go_sem]; exact fun i c _ h => modClosed _ i c h)
 rintro av mem maps ⟨rfl, rfl, rfl⟩
 simp [go_sem, KBlk]
 have eqB := c_eqTableSB N N (by omega) S S (fun i h => by have := hS i h; omega) fun i h => by have := hS i h; omega
 rw [tblsEq_refl] at eqB
 refine vcall_pure eqB (by
  simp [go_sem]
  exact argSl_refl (by omega) fun i c _ h => tblClosed _ i c h) ?_
 simp [go_sem, KBlk]
 refine uB (ty := 55) (n := N) held (by simp [go_sem]; rw [blkK]; rfl) (mkL 1) ?_
 rintro av mem maps ⟨rfl, rfl, rfl⟩
 refine ⟨_, _, rfl, rfl, rfl, mkL 1, ?_⟩
 simp [go_sem, KBlk]
structure Rd where
 n : Nat
 f : Nat → Nat
 p : Nat
def Rd.v (r : Rd) : Nat := if r.p < r.n then r.f r.p else 0
def Rd.nx (r : Rd) : Rd := if r.p < r.n then { r with p := r.p + 1 } else r
end Go.Proofs.YtadghlfkddkelaaGreatDoor.V
namespace Go.Proofs.YtadghlfkddkelaaGreatDoor.V
open Go.ChangeShapes Go.WideShapes Go.ChangeAt Go.RowKit
theorem returnsIn_both {H : Type} {enc : TypeId × Value → H} {a : Assume} {C : Checked} {os : Os} {f : FuncId} {fn : Func} {s : ChangeSpec} {conds : List PathCond} {apart fresh handsOn again : Bool} {X : World → Array Value → Prop}
  (hX : ∀ (w w' : World) (args : Array Value), w.heap = w'.heap → X w args → X w' args)
  (own : ownKnob C.prog.godebug = none) (started : os.Started) (noInit : C.prog.inits.idxOf? f = none) (hfn : C.prog.funcs[f]? = some fn)
  (witness : ∃ (w : World) (tape : Tape) (i : Input), w.os = os ∧ (w.forCall tape i).Shaped C.prog ∧ i.vars = [] ∧ Input.okWide C.prog (w.forCall tape i) .any w.heap.size f i ∧
   ((s.pre enc C.prog fn conds apart (w.forCall tape i).memory i.args ∧ X (w.forCall tape i).memory i.args) ∧ sizedMet enc C.prog fn (OpenSpec.ofChange s) apart (w.forCall tape i).memory i.args) ∧ a.holds C.prog (lone (Frame.enter C.prog f i.args .normal) [] (w.forCall tape i)))
  (contract : ∀ (W : World) (base : Nat) (args : Array Value) (ds gs : List (DataW H)) (before : List MemPlace),
   (∀ (j : Nat) t v, fn.params[j]? = some t → args[j]? = some v → Value.okWide C.prog W .any base t v) →
   DataW.Whole enc C.prog fn.params.toList s.vars apart W args.toList ds gs before →
   conds.all (PathCond.test C.prog ⟨fn.params.toList, ds, s.plain.varTypes C.prog, gs⟩) = true →
   X W args → W.ShapedOpen C.prog →
   Calls C.prog f args W fun e W' => ∃ v, e = .returned v ∧ s.post enc C.prog fn apart fresh handsOn again W args v W') :
  ReturnsInHanded a C os f .any (fun w args => (s.pre enc C.prog fn conds apart w args ∧ X w args) ∧ sizedMet enc C.prog fn (OpenSpec.ofChange s) apart w args) (s.post enc C.prog fn apart fresh handsOn again) := by
 refine returnsInHanded_of_calls own started noInit witness ?_
 intro w tape i _ hsh _ hok hpre hholds
 obtain ⟨_, _, _, fn', hfn', _, _, _, _, hval⟩ := hok
 have e : fn' = fn := Option.some.inj (hfn'.symm.trans hfn)
 subst e
 obtain ⟨⟨⟨ds, gs, before, hw, hc⟩, hx⟩, hz⟩ := hpre
 have hw' := DataW.Whole.of_heap (w' := w.forCall tape i) (by rfl) hw
 refine (contract (w.forCall tape i) w.heap.size i.args ds gs before hval hw' hc (hX _ _ _ (by rfl) hx) hsh).mono fun e W' ⟨v, he, hp⟩ => ?_
 subst he
 exact ChangeSpec.post_blind hp
def tabAt (P : Program) (name : String) : Bool := match P.globalNamed name with
 | none => false
 | some g => match (P.globals[g]?).map (·.type) with
  | none => false
  | some t => match P.underlying t with
   | some (.array n e) => (match P.underlying e with
    | some (.int .u64) => true
    | _ => false) && P.cellsOf e == 1 && P.cellsOf t == n
   | _ => false
theorem tabAt_is {P : Program} {name : String} {W : World} {zs : List Int} (h : tabAt P name = true) (hl : laidMet P [(name, Lib.tabData .u64 zs)] W) : Lib.TabIs P W name .u64 zs := by
 unfold tabAt at h
 split at h
 ·cases h
 ·rename_i g hg
  split at h
  ·cases h
  ·rename_i t ht
   split at h
   ·rename_i n e hu
    simp only [Bool.and_eq_true, beq_iff_eq] at h
    obtain ⟨⟨h1, h2⟩, h3⟩ := h
    split at h1
    ·rename_i he
     exact Lib.tabIs_of_head hg ht hu he h2 h3 hl
    ·cases h1
   ·cases h
set_option maxRecDepth 100000 in
theorem shape_mod (n : Nat) (xs : List AV) (h : Shape Tryz.prog (n + 2) 58 xs) : ∃ o : PMod, o.wf ∧ xs = o.cells := by
 obtain ⟨parts, h0, rfl⟩ := shape_struct Tryz.underlying58 h
 clear h
 simp only [List.toList_toArray, all2_cons, all2_nil] at h0
 obtain ⟨_, _, rfl, ⟨_, h1⟩, _, _, rfl, ⟨_, h2⟩, rfl⟩ := h0
 obtain ⟨g, rfl, hg⟩ := shape_string Tryz.underlying9 h1
 obtain ⟨z, rfl, hz⟩ := shape_string Tryz.underlying9 h2
 exact ⟨⟨g, z⟩, ⟨hg, hz⟩, rfl⟩
set_option maxRecDepth 100000 in
theorem shape_mods (n : Nat) (xs : List AV) (h : Shape Tryz.prog (n + 3) 22 xs) : ∃ l : List PMod, l.length ≤ maxLen ∧ (∀ i, i < l.length → (modAt l i).wf) ∧ ∃ f, xs = [.sl 2 l.length f] ∧ ∀ i, i < l.length → f i = modCells l i := by
 obtain ⟨m, f, rfl, hm, hf⟩ := shape_slice Tryz.underlying22 h
 have hc : Tryz.prog.cellsOf 58 = 2 := by kernel_rfl
 obtain ⟨l, rfl, h2, h3⟩ := rows_of PMod.cells PMod.wf fun i hi => shape_mod n (f i) (hf i hi).2
 exact ⟨l, hm, h2, f, by rw [hc], h3⟩
end Go.Proofs.YtadghlfkddkelaaGreatDoor.V
