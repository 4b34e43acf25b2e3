import Derived.Test.YtbjkgfooangjhaaDoorMD
import Derived.Shelf.Strings.Builder1
/- Contracts: package strings' Builder: String. -/
namespace Go.Proofs.YtbjkgfooangjhaaDoor.V
open Go.RowKit
set_option linter.unusedVariables false
set_option linter.unusedSimpArgs false
set_option linter.constructorNameAsVariable false
theorem grown_drew (w : World) (row : Option Nat) : w.grownBy w.drew row := ⟨rfl, rfl, rfl, Nat.le_refl _, fun _ _ _ => rfl⟩
theorem grown_freeze (w : World) (p : Addr) (n : Nat) : w.grownBy (w.freeze p n) (some p.block) := by
  unfold World.freeze
  split
  · exact ⟨rfl, rfl, rfl, Nat.le_refl _, fun _ _ _ => rfl⟩
  · exact ⟨rfl, rfl, rfl, by simp, fun k _ hk => by
      simp only [Array.getElem?_modify]
      rw [if_neg (fun e => hk (by rw [e]))]⟩
theorem cellsByte : Tryd.prog.cellsOf 5 = 1 := by kernel_rfl
set_option maxHeartbeats 2000000 in
set_option maxRecDepth 100000 in
theorem str_row (b g cap : Nat) (cur : Array Value) (l : List UInt8) (w : World) (h0 : l ≠ []) (c1 : w.drew.cell? ⟨b, 1, none⟩ = some (.slice (some ⟨g, 0, none⟩) l.length cap)) (hg : w.drew.heap[g]? = some (.cells cur 5 (0, 0)))
    (hnc : l.length ≤ cap) (hcm : cap ≤ maxLen) (hcs : cur.size = cap) (hcell : ∀ j x, l[j]? = some x → w.drew.cell? ((⟨g, 0, none⟩ : Addr).add j) = some (.int .u8 x.toNat)) :
    Calls Tryd.prog 49 #[.pointer (some ⟨b, 0, none⟩)] w fun e w' => e = .returned (.string ⟨l.toArray⟩) ∧ w.grownBy w' (some g) := by
  have hl0 : l.length ≠ 0 := by simpa using h0
  have hSD : (Builtin.unsafeSliceData_ #[85] 132 #[.slice (some ⟨g, 0, none⟩) l.length cap]).run Tryd.prog w.drew = .ok (.pointer (some ⟨g, 0, none⟩)) w.drew :=
    Lib.run_unsafeSliceData_row _ _ _ _ _ _ (by omega)
  have hUS : (Builtin.unsafeString_ #[132, 3] 9 #[.pointer (some ⟨g, 0, none⟩), .int .i64 l.length]).run Tryd.prog w.drew = .ok (.string ⟨l.toArray⟩) (w.drew.freeze ⟨g, 0, none⟩ l.length) :=
    Lib.run_unsafeString_row w.drew 132 3 9 5 Tryd.underlying132 cellsByte g cur.size (by simp [World.shape?, hg]) l h0 (by omega) (by unfold maxLen at hcm; omega) hcell
  have hgr : w.grownBy (w.drew.freeze ⟨g, 0, none⟩ l.length) (some g) := by
    have h1 := grown_freeze w.drew ⟨g, 0, none⟩ l.length
    exact ⟨h1.os, h1.tape, h1.output, h1.size, h1.block⟩
  clear hcell hnc hcm hcs hg
  go_enter Tryd.func49, Tryd.ntmps49
  go_wp2
  go_region
  all_goals (go_wp2; go_ret; exact ⟨rfl, hgr⟩)
theorem str_none (W : World) (q : Option Addr) : (Builtin.unsafeString_ #[132, 3] 9 #[.pointer q, .int .i64 0]).run Tryd.prog W = .ok (.string .empty) W := Lib.run_unsafeString_none W _ _ _ q
set_option maxHeartbeats 2000000 in
set_option maxRecDepth 100000 in
theorem str_nil (b : Nat) (w : World) (row : Option Nat) (c1 : w.drew.cell? ⟨b, 1, none⟩ = some (.slice none 0 0)) :
    Calls Tryd.prog 49 #[.pointer (some ⟨b, 0, none⟩)] w fun e w' => e = .returned (.string ⟨#[]⟩) ∧ w.grownBy w' row := by
  have hUS := str_none
  have hSD : (Builtin.unsafeSliceData_ #[85] 132 #[.slice none 0 0]).run Tryd.prog w.drew = .ok (.pointer none) w.drew := rfl
  have hgr := grown_drew w row
  go_enter Tryd.func49, Tryd.ntmps49
  go_wp2
  go_region
  all_goals (go_wp2; go_ret; exact ⟨rfl, hgr⟩)
set_option maxHeartbeats 2000000 in
set_option maxRecDepth 100000 in
theorem str_noroom (b g : Nat) (w : World) (row : Option Nat) (cur : Array Value) (hlt : b < w.heap.size) (c1 : w.drew.cell? ⟨b, 1, none⟩ = some (.slice (some ⟨g, 0, none⟩) 0 0)) (hg : w.drew.heap[g]? = some (.cells cur 5 (0, 0))) :
    Calls Tryd.prog 49 #[.pointer (some ⟨b, 0, none⟩)] w fun e w' => e = .returned (.string ⟨#[]⟩) ∧ w.grownBy w' row := by
  have hUS := str_none
  have hSD : (Builtin.unsafeSliceData_ #[85] 132 #[.slice (some ⟨g, 0, none⟩) 0 0]).run Tryd.prog w.drew = .ok (.pointer (some ⟨w.drew.heap.size, 0, none⟩)) (w.drew.alloc (.view ⟨g, 0, none⟩ 5)) :=
    Lib.run_unsafeSliceData_zero w.drew _ _ 5 Tryd.underlying132 ⟨g, 0, none⟩ 0 (5, cur.size) (by simp [World.shape?, hg])
  have c2 : (w.drew.alloc (.view ⟨g, 0, none⟩ 5)).cell? ⟨b, 1, none⟩ = some (.slice (some ⟨g, 0, none⟩) 0 0) := by
    have e : (w.drew.alloc (.view ⟨g, 0, none⟩ 5)).heap[b]? = w.drew.heap[b]? := Lib.alloc_old w.drew _ b hlt
    unfold World.cell? at c1 ⊢
    simp only at c1 ⊢
    rw [e]; exact c1
  have c3 : (w.alloc (.view ⟨g, 0, none⟩ 5)).drew.cell? ⟨b, 1, none⟩ = some (.slice (some ⟨g, 0, none⟩) 0 0) := c2
  have c0 : w.cell? ⟨b, 1, none⟩ = some (.slice (some ⟨g, 0, none⟩) 0 0) := c1
  have hgr : w.grownBy (w.drew.alloc (.view ⟨g, 0, none⟩ 5)) row := by
    have h1 := World.grownBy_alloc w.drew (.view ⟨g, 0, none⟩ 5) row
    exact ⟨h1.os, h1.tape, h1.output, h1.size, h1.block⟩
  clear hg hlt
  go_enter Tryd.func49, Tryd.ntmps49
  go_wp2
  go_region
  all_goals (go_wp2; go_ret; exact ⟨rfl, hgr⟩)
set_option maxHeartbeats 2000000 in
set_option maxRecDepth 100000 in
theorem str_room (b g cap : Nat) (w : World) (row : Option Nat) (hc0 : cap ≠ 0) (c1 : w.drew.cell? ⟨b, 1, none⟩ = some (.slice (some ⟨g, 0, none⟩) 0 cap)) :
    Calls Tryd.prog 49 #[.pointer (some ⟨b, 0, none⟩)] w fun e w' => e = .returned (.string ⟨#[]⟩) ∧ w.grownBy w' row := by
  have hUS := str_none
  have hSD : (Builtin.unsafeSliceData_ #[85] 132 #[.slice (some ⟨g, 0, none⟩) 0 cap]).run Tryd.prog w.drew = .ok (.pointer (some ⟨g, 0, none⟩)) w.drew :=
    Lib.run_unsafeSliceData_row _ _ _ _ _ _ hc0
  have hgr := grown_drew w row
  clear hc0
  go_enter Tryd.func49, Tryd.ntmps49
  go_wp2
  go_region
  all_goals (go_wp2; go_ret; exact ⟨rfl, hgr⟩)
/-- String, of a builder whose bytes are those of a text: the text; its bytes are given up -/
theorem c_String (p : AV) (z : ByteArray) : VProc Tryd.prog 49 [.ptr 0 2 0 0] [some ⟨90, 2, 1, fun _ => [p, .own 1]⟩, some ⟨5, 1, z.size, byteCells z⟩] [] (fun av mem maps => av = .lit (.string z) ∧ mem = [none, none] ∧ maps = []) := by
  refine ⟨⟨_, Tryd.func49, rfl, rfl⟩, fun w vs hd0 hl hv hm hmp => ?_⟩
  match vs, hl with
  | [v], _ =>
    have h0 := hv 0 _ v rfl rfl
    cases h0 with
    | ptr _ _ _ _ b n' c' hk hb =>
      obtain ⟨_, vals0, hown0, hr0⟩ := hm.obs 0 _ rfl
      obtain ⟨_, vals1, hown1, hr1⟩ := hm.obs 1 _ rfl
      obtain ⟨u, hu1, hu2, hu3⟩ := (hr0 0 (by simp)).2 1 _ rfl
      cases hu3
      simp only [Nat.zero_mul, Nat.zero_add] at hu1
      have c1 : w.cell? ⟨b, 1, none⟩ = some (hd0 1) := by
        have := hown0.cells (g := b) (by rw [hb]; rfl) 1 _ hu1
        simpa [Addr.add] using this
      have hlt : b < w.heap.size := World.block_lt_of_cell? w ⟨b, 1, none⟩ c1
      have hbytes : ∀ i, i < z.size → vals1[i]? = some (.int .u8 (byteAt z i)) := by
        intro i hi
        obtain ⟨u, g1, g2, g3⟩ := (hr1 i hi).2 0 _ rfl
        cases g3
        simpa using g1
      have fin : ∀ w', w.grownBy w' (hd0 1).ownBlock → Bel (Sh w hd0 [some ⟨90, 2, 1, fun _ => [p, .own 1]⟩, some ⟨5, 1, z.size, byteCells z⟩] []) w w' ∧ ∃ hd av mem maps, (av = .lit (.string z) ∧ mem = [none, none] ∧ maps = []) ∧ PostOk [some ⟨90, 2, 1, fun _ => [p, .own 1]⟩, some ⟨5, 1, z.size, byteCells z⟩] [] av mem maps ∧ (∀ k, k < 2 → hd k = hd0 k) ∧ MemRel (Sh w hd0 [some ⟨90, 2, 1, fun _ => [p, .own 1]⟩, some ⟨5, 1, z.size, byteCells z⟩] []) w' hd mem ∧ MapRel Tryd.prog (Sh w hd0 [some ⟨90, 2, 1, fun _ => [p, .own 1]⟩, some ⟨5, 1, z.size, byteCells z⟩] []) w' maps ∧ Rep w' (okOf mem hd) hd mem.length av (.string z) := by
        intro w' hg
        have nn : ∀ (k : Nat) (ob : Ob), ([none, none] : List (Option Ob))[k]? = some (some ob) → False := fun k ob h => by
          match k, h with
          | 0, h => simp at h
          | 1, h => simp at h
          | k + 2, h => simp at h
        refine ⟨(Bel.refl _ w).grown hg fun k hk => .inr (.inl ⟨1, _, rfl, hk⟩), hd0, _, _, _, ⟨rfl, rfl, rfl⟩, ⟨by simp, rfl, fun k ob h => (nn k ob h).elim, fun b h => h⟩, fun _ _ => rfl, ⟨fun k ob h => (nn k ob h).elim, fun k ob h => (nn k ob h).elim, fun k hk => hm.hds k (by simpa using hk), fun k k' ob ob' h => (nn k ob h).elim⟩, fun b mp h => by simp [lkm] at h, .lit _⟩
      have done_ : ∀ (l : List UInt8), z = ⟨l.toArray⟩ → (Calls Tryd.prog 49 #[.pointer (some ⟨b, 0, none⟩)] w fun e w' => e = .returned (.string ⟨l.toArray⟩) ∧ w.grownBy w' (hd0 1).ownBlock) → Calls Tryd.prog 49 [Value.pointer (some ⟨b, 0 * 2 + 0, none⟩)].toArray w (fun e w' => ∃ v, e = .returned v ∧ Bel (Sh w hd0 [some ⟨90, 2, 1, fun _ => [p, .own 1]⟩, some ⟨5, 1, z.size, byteCells z⟩] []) w w' ∧ ∃ hd av mem maps, (av = .lit (.string z) ∧ mem = [none, none] ∧ maps = []) ∧ PostOk [some ⟨90, 2, 1, fun _ => [p, .own 1]⟩, some ⟨5, 1, z.size, byteCells z⟩] [] av mem maps ∧ (∀ k, k < 2 → hd k = hd0 k) ∧ MemRel (Sh w hd0 [some ⟨90, 2, 1, fun _ => [p, .own 1]⟩, some ⟨5, 1, z.size, byteCells z⟩] []) w' hd mem ∧ MapRel Tryd.prog (Sh w hd0 [some ⟨90, 2, 1, fun _ => [p, .own 1]⟩, some ⟨5, 1, z.size, byteCells z⟩] []) w' maps ∧ Rep w' (okOf mem hd) hd mem.length av v) := by
        intro l hz hc
        refine hc.mono ?_
        rintro e w' ⟨rfl, hg⟩
        rw [← hz]
        exact ⟨_, rfl, fin w' hg⟩
      rcases hown1.2 with ⟨hn, hz0⟩ | ⟨g, cap, cur, hg1, _, hg2, hnc, hcm, hcs, htake⟩
      · refine done_ [] ?_ (str_nil b w _ ?_)
        · obtain ⟨⟨l⟩⟩ := z
          match l, hz0 with
          | [], _ => rfl
        · rw [hn] at c1; exact c1
      · rw [hg1] at c1
        rw [hg1] at done_
        rcases Nat.eq_zero_or_pos z.size with h0 | h0
        · have hz : z = ⟨#[]⟩ := by
            obtain ⟨⟨l⟩⟩ := z
            match l, h0 with
            | [], _ => rfl
          simp only at c1
          rw [h0] at c1
          by_cases hc0 : cap = 0
          · subst hc0
            exact done_ [] hz (str_noroom b g w _ cur hlt c1 hg2)
          · exact done_ [] hz (str_room b g cap w _ hc0 c1)
        · have hls : z.data.toList.length = z.size := by simp
          refine done_ z.data.toList (by simp) ?_
          refine (str_row b g cap cur z.data.toList w (by intro e; rw [e] at hls; simp at hls; omega) ?_ hg2 (by rw [hls]; exact hnc) hcm (by simpa using hcs) fun j x hx => ?_).mono fun e w' h => h
          · rw [hls]; exact c1
          · have hj : j < z.size := by rw [← hls]; exact (List.getElem?_eq_some_iff.1 hx).1
            have h1 := hown1.cells (g := g) (by rw [hg1]; rfl) j _ (hbytes j hj)
            have e : byteAt z j = (x.toNat : Int) := by
              unfold byteAt
              rw [dif_pos hj]
              have : z[j] = x := by
                rw [List.getElem?_eq_getElem (by rw [hls]; exact hj)] at hx
                exact Option.some.inj hx
              rw [this]
            rw [e] at h1
            exact h1
end Go.Proofs.YtbjkgfooangjhaaDoor.V
/- Contracts: package strings' Builder: WriteString; rendering by the program. -/
namespace Go.Proofs.YtbjkgfooangjhaaDoor.V
open Go.RowKit
set_option linter.unusedVariables false
set_option linter.unusedSimpArgs false
set_option linter.constructorNameAsVariable false
def bp (u : Bool) : AV := if u then .ptr 0 2 0 0 else .lit (.pointer none)
theorem coBuilder : Tryd.prog.cellsOf 90 = 2 := by kernel_rfl
@[go_sem] theorem byteCells_ren {g : Nat → Nat} {z : ByteArray} {i : Nat} : (byteCells z i).map (ren1 g) = byteCells z i := map_lits rfl
theorem same_NoEscape : sameX Tryd.prog 84 := ⟨_, Tryd.func84, by kernel_rfl, by kernel_rfl, by kernel_rfl, by kernel_rfl⟩
theorem c_copyCheck (u : Bool) (z : ByteArray) : VProc Tryd.prog 76 [.ptr 0 2 0 0] [some ⟨90, 2, 1, fun _ => [bp u, .own 1]⟩, some ⟨5, 1, z.size, byteCells z⟩] [] (fun av mem maps => av = .tup [] ∧ mem = [some ⟨90, 2, 1, fun _ => [.ptr 0 2 0 0, .own 1]⟩, some ⟨5, 1, z.size, byteCells z⟩] ∧ maps = []) := by
  refine vproc_start Tryd.func76 (by kernel_rfl) rfl (by simp [Tryd.ntmps76]) ?_
  simp only [Tryd.ntmps76, Tryd.results76]
  simp [go_sem]
  have fin : ∀ t, vendP [] (fun av mem maps => av = .tup [] ∧ mem = [some ⟨90, 2, 1, fun _ => [.ptr 0 2 0 0, .own 1]⟩, some ⟨5, 1, z.size, byteCells z⟩] ∧ maps = []) ⟨t, [some ⟨90, 2, 1, fun _ => [.ptr 0 2 0 0, .own 1]⟩, some ⟨5, 1, z.size, byteCells z⟩], [], 2⟩ (.tup []) := by
    intro t
    refine ⟨rfl, [], [some ⟨90, 2, 1, fun _ => [.ptr 0 2 0 0, .own 1]⟩, some ⟨5, 1, z.size, byteCells z⟩], by simp, by simp, by simp [go_sem], ?_, by simp [go_sem], ?_⟩
    · simp [go_sem]
      exact ⟨⟨rfl, rfl, rfl, fun i hi => ⟨rfl, rfl, fun c hc q hq => by simp at hc; rcases hc with rfl | rfl <;> simp [owns1] at hq <;> simp [hq]⟩⟩, outAt_lits (fun i _ => rfl) (fun i _ => rfl)⟩
    · simp [go_sem]
  cases u with
  | true =>
    simp [go_sem, bp]
    exact fin _
  | false =>
    simp [go_sem, bp]
    refine ⟨⟨_, _, ⟨rfl, rfl⟩, by decide⟩, vcall_same same_NoEscape ?_⟩
    simp [go_sem, coBuilder]
    exact fin _
theorem c_WriteString (u : Bool) (z t : ByteArray) (h : z.size + t.size ≤ 140737488355328) : VProc Tryd.prog 48 [.ptr 0 2 0 0, .lit (.string t)] [some ⟨90, 2, 1, fun _ => [bp u, .own 1]⟩, some ⟨5, 1, z.size, byteCells z⟩] [] (fun av mem maps => av = .tup [.lit (.int .i64 t.size), .lit .nilIface] ∧ mem = [some ⟨90, 2, 1, fun _ => [.ptr 0 2 0 0, .own 2]⟩, none, some ⟨5, 1, z.size + t.size, byteCells (z ++ t)⟩] ∧ maps = []) := by
  refine vproc_start Tryd.func48 (by kernel_rfl) rfl (by simp [Tryd.ntmps48]) ?_
  simp only [Tryd.ntmps48, Tryd.results48]
  simp [go_sem]
  refine vcall_share [0, 1] (c_copyCheck u z) (by simp) ?_ ?_ trivial ?_
  · simp [go_sem]
  · simp [go_sem]
    refine ⟨?_, fun i _ => cellsRn_lits rfl⟩
    cases u
    · exact .closed _ (.lit _)
    · exact .ptr 0 2 0 0 (by omega)
  · rintro av mem maps ⟨rfl, rfl, rfl⟩
    simp [go_sem]
    refine ⟨h, rfl, [2], [some ⟨90, 2, 1, fun _ => [.ptr 0 2 0 0, .own 2]⟩, none, some ⟨5, 1, z.size + t.size, byteCells (z ++ t)⟩], by simp, by simp, by simp [go_sem], ?_, by simp [go_sem], ?_⟩
    · simp [go_sem]
      exact ⟨⟨rfl, rfl, rfl, fun i hi => ⟨rfl, rfl, fun c hc q hq => by simp at hc; rcases hc with rfl | rfl <;> simp [owns1] at hq <;> simp [hq]⟩⟩, outAt_lits (fun i hi => join_bytes z t i hi) (fun i _ => rfl)⟩
    · simp [go_sem]
end Go.Proofs.YtbjkgfooangjhaaDoor.V
/- Contracts: the law of Render. -/
namespace Go.Proofs.YtbjkgfooangjhaaDoor.V
open Go.RowKit
set_option linter.unusedVariables false
set_option linter.unusedSimpArgs false
set_option linter.constructorNameAsVariable false
end Go.Proofs.YtbjkgfooangjhaaDoor.V
