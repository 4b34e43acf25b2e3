/- The value machine, part 7: append and slice literals, joined. -/
import Derived.Test.YtnjnkhmcdkjekaaV6
namespace Go.Proofs.Ytnjnkhmcdkjekaa.V
open Go.RowKit
set_option linter.unusedVariables false
set_option linter.unusedSimpArgs false
section
variable {P : Program} {n : Nat} {base : Fr} {w0 w : World} {hd : Nat → Value} {s : VS} {a : Act} {k : AV → VS → Prop}

theorem run_append_zero {t ty e : TypeId} {i : TypeInfo} (ht : P.underlying t = some (.slice e)) (hi : P.info? e = some i) {v : Value} {m : Nat} {sz : Nat} {xs : List Value} {B : Nat} (hown : w.ownsRow B e sz v m xs) (A : Option Addr) (c : Nat) :
    (Builtin.append_ #[t, t] ty #[v, .slice A 0 c]).run P w = .ok v w := by
  have hsl : (Builtin.firstCells i.size 0 (.slice A 0 c)).run P w = .ok #[] w := by
    cases A <;> simp [Builtin.firstCells, loadCells, loadCellsFrom]
  rcases hown.2 with ⟨rfl, rfl⟩ | ⟨g, cap, cur, rfl, _, _, hnc, _⟩
  · simp [Builtin.append_, run_underlying ht, sizeOf, typeInfo, hi, Builtin.lenOf, hsl]
  · simp [Builtin.append_, run_underlying ht, sizeOf, typeInfo, hi, Builtin.lenOf, hsl, hnc, storeCells]

theorem joinF_len {f g : Nat → List AV} {N M sz : Nat} (h1 : ∀ i, i < N → (f i).length = sz) (h2 : ∀ i, i < M → (g i).length = sz) : ∀ i, i < N + M → (joinF N f g i).length = sz := by
  intro i hi
  unfold joinF
  split
  · rename_i h; exact h1 i h
  · exact h2 _ (by omega)

theorem divmod {sz i j : Nat} (hj : j < sz) : (i * sz + j) / sz = i ∧ (i * sz + j) % sz = j := by
  constructor
  · rw [Nat.add_comm, Nat.add_mul_div_right _ _ (by omega), Nat.div_eq_of_lt hj]; omega
  · rw [Nat.add_comm, Nat.add_mul_mod_self_right, Nat.mod_eq_of_lt hj]

theorem own_form {w : World} {base e size m : Nat} {v : Value} {xs : List Value} (h : w.ownsRow base e size v m xs) : ∃ A c, v = .slice A m c := by
  rcases h.2 with ⟨e, h0⟩ | ⟨g, cap, cur, e, _⟩
  · exact ⟨none, 0, by rw [e, h0]⟩
  · exact ⟨_, _, e⟩

theorem app_core (h : RelH n base w0 hd s a w) {o : Oper} {e : TypeId} {sz : Nat} {xv : Value} {mem : List (Option Ob)} {N M : Nat} {f g : Nat → List AV} {u : Nat → Nat → Value} {vals : List Value} (hsz : 0 < sz)
    (hown : w.ownsRow 0 e sz xv N vals) (hml : mem.length = s.mem.length) (hlive : ∀ k ob, mem[k]? = some (some ob) → s.mem[k]? = some (some ob) ∧ ((hd k).ownBlock = none ∨ (hd k).ownBlock ≠ xv.ownBlock))
    (hokx : ∀ b, okOf s.mem hd b → xv.ownBlock ≠ some b) (halw : ∀ b, xv.ownBlock = some b → base.may b)
    (hf : ∀ i, i < N → (f i).length = sz ∧ ∀ (j : Nat) av, (f i)[j]? = some av → ∃ u, vals[i * sz + j]? = some u ∧ u.oneCell' = true ∧ Rep w (okOf s.mem hd) hd s.mem.length av u)
    (hg : ∀ i, i < M → (g i).length = sz ∧ ∀ (j : Nat) av, (g i)[j]? = some av → Rep w (okOf s.mem hd) hd s.mem.length av (u i j) ∧ (u i j).oneCell' = true)
    {v' : Value} {w' : World} (hrun : (execOp a.eval o).run P w = .ok (.value v') w') (g2 : w'.ownsRow 0 e sz v' (N + M) (vals ++ (List.range (M * sz)).map (fun p => u (p / sz) (p % sz)))) (g3 : w.grownBy w' xv.ownBlock)
    (g5 : v'.ownBlock = xv.ownBlock ∨ v'.ownBlock = some w.heap.size) (hk : k (.own s.mem.length) { s with mem := mem ++ [some ⟨e, sz, N + M, joinF N f g⟩] }) : Ends P n base w0 a ((execOp a.eval o).run P w) k := by
  have hvx : ∀ q, xv.ownBlock = some q → base.may q := halw
  have hbel : Bel base.may w0 w' := h.below.grown g3 hvx
  have hmp : MapRel base.P base.may w' s.maps := h.mp.grownRow hown g3
  have hlen : s.mem.length ≤ (mem ++ [some (⟨e, sz, N + M, joinF N f g⟩ : Ob)]).length := by simp [hml]
  have hhd : ∀ q, q < s.mem.length → (fun j => if j = s.mem.length then v' else hd j) q = hd q := by
    intro q hq; simp only; rw [if_neg (by omega)]
  have old : ∀ q oq, (mem ++ [some (⟨e, sz, N + M, joinF N f g⟩ : Ob)])[q]? = some (some oq) → q ≠ s.mem.length → mem[q]? = some (some oq) ∧ q < s.mem.length := by
    intro q oq hq hqn
    rw [List.getElem?_append] at hq
    split at hq
    · exact ⟨hq, by omega⟩
    · rw [List.getElem?_eq_none (by simp; omega)] at hq; simp at hq
  have hok : ∀ ad v, okOf s.mem hd ad.block → w.cell? ad = some v → w'.cell? ad = some v ∧ okOf (mem ++ [some (⟨e, sz, N + M, joinF N f g⟩ : Ob)]) (fun j => if j = s.mem.length then v' else hd j) ad.block := by
    intro ad v hoA hcA
    have hlt := World.block_lt_of_cell? w _ hcA
    refine ⟨cell_same (g3.block _ hlt (fun e2 => hokx _ hoA e2.symm)) hcA, fun q oq hq => ?_⟩
    simp only
    by_cases e1 : q = s.mem.length
    · rw [if_pos e1]
      rcases g5 with e2 | e2
      · rw [e2]; exact hokx _ hoA
      · rw [e2]; simp; omega
    · rw [if_neg e1]
      exact hoA q oq (hlive q oq (old q oq hq e1).1).1
  refine ⟨v', w', .inl hrun, fun j => if j = s.mem.length then v' else hd j, _, .own s.mem.length, ?_, ?_, hk⟩
  · refine ⟨h.defers, h.size, hbel, h.le, by have := h.fixl; simp; omega, fun q hq => (if_neg (fun e => by have := h.fixl; have hq' : q < s.fix := hq; omega)).trans (h.fix q hq), hmp, fun q => (h.tm q).mono hok hhd hlen, ⟨fun q oq hq b hb => ?_, fun q oq hq => ?_, fun q hq => ?_, fun q q' oq oq' hq hq' hqq => ?_⟩⟩
    · by_cases e1 : q = s.mem.length
      · rw [if_pos e1] at hb
        rcases g5 with e2 | e2
        · rw [e2] at hb; exact halw b hb
        · rw [e2] at hb
          simp only [Option.some.injEq] at hb
          rw [← hb]; exact h.le _ h.below.size
      · rw [if_neg e1] at hb
        exact h.me.alw q oq (hlive q oq (old q oq hq e1).1).1 b hb
    · simp only
      by_cases e1 : q = s.mem.length
      · rw [if_pos e1]
        subst e1
        rw [← hml, List.getElem?_append_right (Nat.le_refl _), Nat.sub_self] at hq
        simp only [List.getElem?_cons_zero, Option.some.injEq] at hq
        subst hq
        refine ⟨hsz, _, g2, fun i hi => ?_⟩
        simp only at hi
        refine ⟨joinF_len (fun i hi => (hf i hi).1) (fun i hi => (hg i hi).1) i hi, fun j av hj => ?_⟩
        simp only [joinF] at hj
        split at hj
        · rename_i hlt
          obtain ⟨v, q1, q2, q3⟩ := (hf i hlt).2 j av hj
          refine ⟨v, ?_, q2, q3.mono hok hhd hlen⟩
          rw [List.getElem?_append_left (List.getElem?_eq_some_iff.1 q1).1]; exact q1
        · rename_i hge
          have hi' : i - N < M := by omega
          have hjl : j < sz := by
            have := (List.getElem?_eq_some_iff.1 hj).1
            rw [(hg _ hi').1] at this; exact this
          obtain ⟨q1, q2⟩ := (hg _ hi').2 j av hj
          refine ⟨u (i - N) j, ?_, q2, q1.mono hok hhd hlen⟩
          have e3 : i * sz + j = N * sz + ((i - N) * sz + j) := by
            rw [← Nat.add_assoc, ← Nat.add_mul, show N + (i - N) = i by omega]
          have hin : (i - N + 1) * sz ≤ M * sz := Nat.mul_le_mul_right _ (by omega)
          rw [Nat.add_mul, Nat.one_mul] at hin
          rw [e3, List.getElem?_append_right (by rw [hown.1]; omega), hown.1, show N * sz + ((i - N) * sz + j) - N * sz = (i - N) * sz + j by omega]
          rw [List.getElem?_map, List.getElem?_range (by omega)]
          simp only [Option.map_some, (divmod (i := i - N) hjl).1, (divmod (i := i - N) hjl).2]
      · rw [if_neg e1]
        have hq0 := hlive q oq (old q oq hq e1).1
        obtain ⟨hs', vs', ho', hr'⟩ := h.me.obs q oq hq0.1
        refine ⟨hs', vs', ho'.kept g3 hq0.2, fun i hi => ⟨(hr' i hi).1, fun j av hj => ?_⟩⟩
        obtain ⟨v, q1, q2, q3⟩ := (hr' i hi).2 j av hj
        exact ⟨v, q1, q2, q3.mono hok hhd hlen⟩
    · split
      · obtain ⟨A', c', e2⟩ := own_form g2
        exact ⟨A', _, c', e2⟩
      · simp only [List.length_append, List.length_cons, List.length_nil] at hq
        exact h.me.hds q (by omega)
    · have low : ∀ p op, (mem ++ [some (⟨e, sz, N + M, joinF N f g⟩ : Ob)])[p]? = some (some op) → p ≠ s.mem.length → (hd p).ownBlock = none ∨ (hd p).ownBlock ≠ v'.ownBlock := by
        intro p op hp hpn
        have hp0 := hlive p op (old p op hp hpn).1
        rcases g5 with e2 | e2
        · rw [e2]; exact hp0.2
        · rw [e2]
          refine .inr fun e3 => ?_
          obtain ⟨_, vs, hoo, _⟩ := h.me.obs p op hp0.1
          have := (own_lt hoo e3).1
          omega
      by_cases e1 : q = s.mem.length
      · have e2 : q' ≠ s.mem.length := by omega
        rw [if_pos e1, if_neg e2]
        rcases low q' oq' hq' e2 with e3 | e3
        · rw [e3]
          cases v'.ownBlock <;> simp
        · exact .inr (fun e4 => e3 e4.symm)
      · rw [if_neg e1]
        by_cases e2 : q' = s.mem.length
        · rw [if_pos e2]; exact low q oq hq e1
        · rw [if_neg e2]
          exact h.me.apart q q' oq oq' (hlive q oq (old q oq hq e1).1).1 (hlive q' oq' (old q' oq' hq' e2).1).1 hqq
  · have := Rep.own (w := w') (ok := okOf (mem ++ [some (⟨e, sz, N + M, joinF N f g⟩ : Ob)]) (fun j => if j = s.mem.length then v' else hd j)) (hd := fun j => if j = s.mem.length then v' else hd j) (m := (mem ++ [some (⟨e, sz, N + M, joinF N f g⟩ : Ob)]).length) s.mem.length (by simp [hml])
    simpa using this
theorem app_sound (h : RelH n base w0 hd s a w) {x y : Operand} {t t' : TypeId} {o : Oper} (ho : o.op = .call { callee := .builtin .append, args := #[x, y], argTypes := #[t, t'] })
    (hv : vapp P x y t t' s k) : Ends P n base w0 a ((execOp a.eval o).run P w) k := by
  unfold vapp at hv
  obtain ⟨rfl, hv⟩ := hv
  have hrun : (execOp a.eval o).run P w = ((do pure (Next.value (← Builtin.append_ #[t, t] o.type #[a.eval x, a.eval y])) : Sem Next)).run P w := by
    unfold execOp; simp only [ho]; simp [resolve, invoke, builtin, Sem.run_bind]
  split at hv
  · rename_i e ht
    split at hv
    · rename_i z sz by_ hinfo
      obtain ⟨hz, hsz, hv⟩ := hv
      obtain ⟨ti, hi1, hi2, hi3, hi4⟩ := tinfo_run hinfo
      split at hv
      · rename_i mem N f M g hox hcy
        obtain ⟨hne, hone, hmax, hby, hk⟩ := hv
        obtain ⟨vals, hown, hml, hlive, hokx, halw, hf⟩ := ownOf_run h hsz hox
        obtain ⟨A, c, u, hy, hmc, hcell, hg0⟩ := src_of h hcy
        have hg : ∀ i, i < M → (g i).length = sz ∧ ∀ (j : Nat) av, (g i)[j]? = some av → Rep w (okOf s.mem hd) hd s.mem.length av (u i j) ∧ (u i j).oneCell' = true := fun i hi => ⟨(hg0 i hi).1, fun j av hj => ⟨((hg0 i hi).2 j av hj).1, ((hg0 i hi).2 j av hj).2 (List.all_eq_true.1 (hone i hi) av (List.mem_of_getElem? hj))⟩⟩
        have news : ∃ v' w', (Builtin.append_ #[t, t] o.type #[a.eval x, a.eval y]).run P w = .ok v' w' ∧ w'.ownsRow 0 e sz v' (N + M) (vals ++ (List.range (M * sz)).map (fun p => u (p / sz) (p % sz))) ∧
            w.grownBy w' (a.eval x).ownBlock ∧ (v'.ownBlock = (a.eval x).ownBlock ∨ v'.ownBlock = some w.heap.size) := by
          rcases Nat.eq_zero_or_pos M with h0 | h0
          · subst h0
            refine ⟨a.eval x, w, by rw [hy]; exact run_append_zero ht hi1 hown A c, by simpa using hown, ⟨rfl, rfl, rfl, Nat.le_refl _, fun _ _ _ => rfl⟩, .inl rfl⟩
          · obtain ⟨ad, hA, hcs⟩ := hcell h0
            subst hA
            obtain ⟨v', w', g1, g2, g3, _, g5⟩ := run_append_own_at (P := P) w 0 t o.type e ti z sz by_ ht hi1 hi2 hi3 hi4 hz hsz (a.eval x) N vals hown ad M c ((List.range (M * sz)).map (fun p => u (p / sz) (p % sz))) (by simp)
              (fun j v hj => by
                simp only [List.getElem?_map, Option.map_eq_some_iff] at hj
                obtain ⟨p, hp, rfl⟩ := hj
                have hjl : j < M * sz := by
                  have := (List.getElem?_eq_some_iff.1 hp).1
                  simpa using this
                rw [List.getElem?_range hjl] at hp
                simp only [Option.some.injEq] at hp
                subst hp
                have := hcs (j / sz) (j % sz) (by rw [Nat.div_lt_iff_lt_mul hsz]; exact hjl) (Nat.mod_lt _ hsz)
                rw [show j / sz * sz + j % sz = j by rw [Nat.mul_comm]; exact Nat.div_add_mod j sz] at this
                exact this)
              (fun v hv' => by
                simp only [List.mem_map, List.mem_range] at hv'
                obtain ⟨p, hp, rfl⟩ := hv'
                have hi' : p / sz < M := by rw [Nat.div_lt_iff_lt_mul hsz]; exact hp
                have hgl := (hg _ hi').1
                exact ((hg _ hi').2 (p % sz) _ (List.getElem?_eq_getElem (by rw [hgl]; exact Nat.mod_lt _ hsz))).2)
              (by simp only [maxLen]; omega) hby (Nat.zero_le _)
            exact ⟨v', w', by rw [hy]; exact g1, g2, g3, g5⟩
        obtain ⟨v', w', g1, g2, g3, g5⟩ := news
        exact app_core h hsz hown hml hlive hokx halw hf hg (by rw [hrun]; exact run_v g1) g2 g3 g5 hk
      · exact hv.elim
    · exact hv.elim
  · exact hv.elim

theorem fold_cells : ∀ (l : List (Value × Nat)) (off : Nat) (vs : List Value) (q : Nat) (cells : Array Value), l = vs.zipIdx q → off + q + vs.length ≤ cells.size →
    (l.foldl (fun (cs : Array Value) x => cs.setIfInBounds (off + x.2) x.1) cells).toList = cells.toList.take (off + q) ++ vs ++ cells.toList.drop (off + q + vs.length)
  | [], off, [], q, cells, _, _ => by simp
  | _, off, v :: vs, q, cells, rfl, hl => by
    simp only [List.length_cons] at hl
    simp only [List.zipIdx_cons, List.foldl_cons]
    rw [fold_cells (vs.zipIdx (q + 1)) off vs (q + 1) (cells.setIfInBounds (off + q) v) rfl (by simp; omega)]
    have e := list_seg_step cells.toList (off + q) v vs (by simp; omega)
    simpa [Array.toList_setIfInBounds, Nat.add_assoc, Nat.add_comm, Nat.add_left_comm] using e

theorem fill_cells (sz : Nat) : ∀ (vs : List Value) (j : Nat) (cells : Array Value), (∀ v ∈ vs, v.cells.size = sz) → (j + vs.length) * sz ≤ cells.size →
    ∃ cells', Instr.fill (fun i => some (i * sz, sz)) cells ((vs.zipIdx j).map fun x => (x.2, x.1)) = some cells' ∧ cells'.toList = cells.toList.take (j * sz) ++ vs.flatMap (fun v => v.cells.toList) ++ cells.toList.drop ((j + vs.length) * sz)
  | [], j, cells, _, _ => ⟨cells, by simp [Instr.fill], by simp⟩
  | v :: vs, j, cells, h1, h2 => by
    have hv := h1 v (by simp)
    simp only [List.length_cons] at h2
    have e2 : (j + (vs.length + 1)) * sz = j * sz + sz + vs.length * sz := by
      rw [← Nat.add_assoc, Nat.add_mul, Nat.add_mul, Nat.one_mul]; omega
    have hfold := fold_cells v.cells.zipIdx.toList (j * sz) v.cells.toList 0 cells (by simp [Array.toList_zipIdx]) (by simp [hv]; omega)
    have hsize : (v.cells.zipIdx.foldl (fun (cs : Array Value) (c, q) => cs.setIfInBounds (j * sz + q) c) cells).toList = cells.toList.take (j * sz) ++ v.cells.toList ++ cells.toList.drop (j * sz + sz) := by
      rw [← Array.foldl_toList]
      simpa [hv] using hfold
    generalize hc1 : v.cells.zipIdx.foldl (fun (cs : Array Value) (c, q) => cs.setIfInBounds (j * sz + q) c) cells = c1 at hsize
    have hl1 : c1.size = cells.size := by
      rw [← Array.length_toList, hsize]; simp [hv]; omega
    obtain ⟨cells', g1, g2⟩ := fill_cells sz vs (j + 1) c1 (fun u hu => h1 u (by simp [hu])) (by rw [hl1, show j + 1 + vs.length = j + (vs.length + 1) by omega]; exact h2)
    refine ⟨cells', ?_, ?_⟩
    · simp only [List.zipIdx_cons, List.map_cons, Instr.fill]
      rw [if_neg (by simp [hv]; omega)]
      rw [show (v.cells.zipIdx.foldl (fun cs (x : Value × Nat) => match x with | (c, j_1) => cs.setIfInBounds (j * sz + j_1) c) cells) = c1 from hc1]
      exact g1
    · rw [g2, hsize]
      have e3 : (j + 1) * sz = j * sz + sz := by rw [Nat.add_mul, Nat.one_mul]
      have e4 : (j + 1 + vs.length) * sz = j * sz + sz + vs.length * sz := by rw [Nat.add_mul, e3]
      simp only [List.length_cons, List.flatMap_cons]
      rw [e3, e4, e2]
      have hlen1 : (cells.toList.take (j * sz) ++ v.cells.toList).length = j * sz + sz := by simp [hv]; omega
      rw [List.take_left' hlen1, ← List.drop_drop, List.drop_left' hlen1, List.drop_drop]
      simp [List.append_assoc]

theorem flat_get {sz : Nat} : ∀ (vs : List Value), (∀ v ∈ vs, v.cells.size = sz) → ∀ (i j : Nat), j < sz → ∀ v, vs[i]? = some v → (vs.flatMap (fun v => v.cells.toList))[i * sz + j]? = v.cells[j]?
  | [], _, i, j, _, v, hv => by simp at hv
  | u :: vs, h1, i, j, hj, v, hv => by
    have hu := h1 u (by simp)
    simp only [List.flatMap_cons]
    cases i with
    | zero =>
      simp only [List.getElem?_cons_zero, Option.some.injEq] at hv
      subst hv
      rw [List.getElem?_append_left (by simp [hu]; omega)]
      simp
    | succ i =>
      simp only [List.getElem?_cons_succ] at hv
      rw [List.getElem?_append_right (by simp [hu, Nat.add_mul]; omega)]
      have := flat_get vs (fun x hx => h1 x (by simp [hx])) i j hj v hv
      rw [← this]
      congr 1
      simp [hu, Nat.add_mul]; omega

theorem partsCells_run (h : RelH n base w0 hd s a w) {sz : Nat} (hsz : 0 < sz) : ∀ (ps : List (Nat × Operand)) (j : Nat) (css : List (List AV)), partsCells s ps j = some css → (∀ c ∈ css, c.length = sz ∧ c.all oneAV = true) →
    ∃ vs : List Value, ps.map (fun x => (x.1, a.eval x.2)) = (vs.zipIdx j).map (fun x => (x.2, x.1)) ∧ vs.length = css.length ∧ (∀ v ∈ vs, v.cells.size = sz) ∧
      ∀ (i : Nat) c v, css[i]? = some c → vs[i]? = some v → ∀ (q : Nat) av, c[q]? = some av → ∃ u, v.cells[q]? = some u ∧ u.oneCell' = true ∧ Rep w (okOf s.mem hd) hd s.mem.length av u
  | [], j, css, hp, _ => by
    simp only [partsCells, Option.some.injEq] at hp
    subst hp
    exact ⟨[], rfl, rfl, fun v hv => by simp at hv, fun i c v hc => by simp at hc⟩
  | (i, x) :: ps, j, css, hp, hc => by
    simp only [partsCells] at hp
    split at hp
    · rename_i e
      subst e
      obtain ⟨r, hr, rfl⟩ := Option.map_eq_some_iff.1 hp
      obtain ⟨vs, g1, g2, g3, g4⟩ := partsCells_run h hsz ps (i + 1) r hr (fun c hc' => hc c (by simp [hc']))
      have hx := h.ev_ x
      have hcx := hc (avCells (ev s x)) (by simp)
      obtain ⟨q1, q2⟩ := hx.cells_ (.inl (by intro e; rw [e] at hcx; simp at hcx; omega)) h.me.hds
      refine ⟨a.eval x :: vs, by simp [List.zipIdx_cons, g1], by simp [g2], fun v hv => ?_, fun p c v hpc hpv => ?_⟩
      · simp only [List.mem_cons] at hv
        rcases hv with rfl | hv
        · rw [q1, hcx.1]
        · exact g3 v hv
      · cases p with
        | zero =>
          simp only [List.getElem?_cons_zero, Option.some.injEq] at hpc hpv
          subst hpc; subst hpv
          intro q av hq
          obtain ⟨u, r1, r2⟩ := q2 q av hq
          exact ⟨u, r1, r2.one_ (List.all_eq_true.1 hcx.2 av (List.mem_of_getElem? hq)) h.me.hds, r2⟩
        | succ p => exact g4 p c v (by simpa using hpc) (by simpa using hpv)
    · simp at hp

theorem litS_sound (h : RelH n base w0 hd s a w) {t : TypeId} {len : Nat} {parts : Array (Nat × Operand)} {o : Oper} (ho : o.op = .buildSlice t len parts)
    (hv : vlitS P t len parts.toList s k) : Ends P n base w0 a ((execOp a.eval o).run P w) k := by
  unfold vlitS at hv
  split at hv
  · rename_i e ht
    split at hv
    · rename_i z sz by_ css hinfo hps
      obtain ⟨hz, hsz, hlen, hbig, hall, hk⟩ := hv
      obtain ⟨ti, hi1, hi2, hi3, hi4⟩ := tinfo_run hinfo
      obtain ⟨vs, g1, g2, g3, g4⟩ := partsCells_run h hsz parts.toList 0 css hps hall
      have hvl : vs.length = len := by rw [g2, hlen]
      have hmk : ∀ zero : Array Value, ((Array.range (len * sz)).map (zero[· % zero.size]!)).size = len * sz := by intro zero; simp
      obtain ⟨zero, hzero⟩ : ∃ zero : Array Value, zero = if len * sz = 0 then #[] else z.cells := ⟨_, rfl⟩
      obtain ⟨cells, f1, f2⟩ := fill_cells sz vs 0 ((Array.range (len * sz)).map (zero[· % zero.size]!)) g3 (by rw [hmk, hvl, Nat.zero_add]; exact Nat.le_refl _)
      have hcells : cells.toList = vs.flatMap (fun v => v.cells.toList) := by
        rw [f2, hvl, Nat.zero_add]
        have : (((Array.range (len * sz)).map (zero[· % zero.size]!)).toList.drop (len * sz)) = [] := by
          rw [List.drop_eq_nil_iff]; simp
        rw [this]; simp
      have hclen : cells.toList.length = len * sz := by
        rw [f2, hvl, Nat.zero_add]
        simp
        have := congrArg List.length f2
        rw [hvl, Nat.zero_add] at this
        simp at this
        clear this
        have key : ∀ (l : List Value), (∀ v ∈ l, v.cells.size = sz) → (l.map (fun v => v.cells.size)).sum = l.length * sz := by
          intro l
          induction l with
          | nil => intro _; simp
          | cons x l ih =>
            intro hh
            simp only [List.map_cons, List.sum_cons, List.length_cons]
            rw [ih (fun v hv => hh v (by simp [hv])), hh x (by simp), Nat.add_mul]; omega
        rw [← hvl]
        have := key vs g3
        simpa [Function.comp_def] using this
      have hnew := h.new (T := e) (sz := sz) (cnt := len) (vals := cells.toList) (f := fun i => css.getD i []) hsz hclen (by
        have : len ≤ len * sz := Nat.le_mul_of_pos_right _ hsz
        omega) (fun i hi => by
        have hic : i < css.length := by omega
        have hiv : i < vs.length := by omega
        simp only [List.getD_eq_getElem?_getD, List.getElem?_eq_getElem hic, Option.getD_some]
        have hc := hall _ (List.getElem_mem hic)
        refine ⟨hc.1, fun j av hj => ?_⟩
        have hjl : j < sz := by
          have := (List.getElem?_eq_some_iff.1 hj).1
          rw [hc.1] at this; exact this
        obtain ⟨u, r1, r2, r3⟩ := g4 i _ _ (List.getElem?_eq_getElem hic) (List.getElem?_eq_getElem hiv) j av hj
        exact ⟨u, by rw [hcells, flat_get vs g3 i j hjl _ (List.getElem?_eq_getElem hiv)]; exact r1, r2, r3⟩)
      refine ⟨.slice (some ⟨w.heap.size, 0, none⟩) len len, _, .inl ?_, _, _, _, hnew, ?_, hk⟩
      · unfold execOp; simp only [ho]
        refine run_v ?_
        have hp : (parts.map fun x => (x.1, a.eval x.2)).toList = (vs.zipIdx 0).map (fun x => (x.2, x.1)) := by rw [Array.toList_map]; exact g1
        unfold Instr.buildSlice
        simp only [Sem.run_bind, und_run ht, Result.andThen_ok, tsz_run (show tsz P e = some sz by unfold tsz; rw [sizeOf_eq, hi1]; simp [hi3])]
        rw [if_neg (by omega)]
        rw [show cells.toList.toArray = cells by simp]
        by_cases h0 : len * sz = 0
        · rw [if_pos h0] at hzero ⊢
          subst hzero
          simp only [Sem.run_bind, Sem.run_pure, Result.andThen_ok]
          rw [hp, f1]
          rfl
        · rw [if_neg h0] at hzero ⊢
          subst hzero
          have hzv : (zeroValue e).run P w = .ok z w := by simp [zeroValue, typeInfo, Sem.run_bind, hi1, hi2]
          simp only [Sem.run_bind, hzv, Sem.run_pure, Result.andThen_ok]
          rw [hp, f1]
          rfl
      · have := Rep.own (w := w.alloc (.cells cells.toList.toArray e)) (ok := okOf (s.mem ++ [some ⟨e, sz, len, fun i => css.getD i []⟩]) (fun j => if j = s.mem.length then .slice (some ⟨w.heap.size, 0, none⟩) len len else hd j)) (hd := fun j => if j = s.mem.length then .slice (some ⟨w.heap.size, 0, none⟩) len len else hd j) (m := (s.mem ++ [some (⟨e, sz, len, fun i => css.getD i []⟩ : Ob)]).length) s.mem.length (by simp)
        simpa using this
    · exact hv.elim
  · exact hv.elim

theorem alloc_sound (h : RelH n base w0 hd s a w) {t : TypeId} {o : Oper} (ho : o.op = .alloc t) (hv : valloc P t s k) : Ends P n base w0 a ((execOp a.eval o).run P w) k := by
  unfold valloc at hv
  split at hv
  · rename_i z sz by_ hinfo
    obtain ⟨h0, hz, h1, hk⟩ := hv
    obtain ⟨ti, hi1, hi2, hi3, hi4⟩ := tinfo_run hinfo
    have hnew := h.new (T := t) (sz := sz) (cnt := 1) (vals := z.cells.toList) (f := fun _ => z.cells.toList.map .lit) h0 (by simp [hz]) (by omega) (fun i hi => ⟨by simp [hz], fun j av hj => by
      have hi0 : i = 0 := by omega
      subst hi0
      simp only [List.getElem?_map, Option.map_eq_some_iff] at hj
      obtain ⟨u, q1, rfl⟩ := hj
      exact ⟨u, by simpa using q1, List.all_eq_true.1 h1 u (List.mem_of_getElem? q1), .lit u⟩⟩)
    refine ⟨.pointer (some ⟨w.heap.size, 0, none⟩), _, .inl ?_, _, _, _, hnew, ?_, hk⟩
    · unfold execOp; simp only [ho]
      refine run_v ?_
      have hzv : (zeroValue t).run P w = .ok z w := by simp [zeroValue, typeInfo, Sem.run_bind, hi1, hi2]
      unfold Instr.alloc
      rw [Sem.run_bind, hzv]
      rw [show z.cells.toList.toArray = z.cells by simp]
      rfl
    · have := Rep.ptr (w := w.alloc (.cells z.cells.toList.toArray t)) (ok := okOf (s.mem ++ [some ⟨t, sz, 1, fun _ => z.cells.toList.map .lit⟩]) (fun j => if j = s.mem.length then .slice (some ⟨w.heap.size, 0, none⟩) 1 1 else hd j)) (hd := fun j => if j = s.mem.length then .slice (some ⟨w.heap.size, 0, none⟩) 1 1 else hd j) (m := (s.mem ++ [some (⟨t, sz, 1, fun _ => z.cells.toList.map .lit⟩ : Ob)]).length) s.mem.length sz 0 0 w.heap.size 1 1 (by simp) (by simp)
      simpa using this
  · exact hv.elim

def RepL (w : World) (ok : Nat → Prop) (hd : Nat → Value) (m : Nat) (cs : List AV) (vs : List Value) : Prop := cs.length = vs.length ∧ ∀ (j : Nat) c u, cs[j]? = some c → vs[j]? = some u → Rep w ok hd m c u

theorem repL_splice {w : World} {ok : Nat → Prop} {hd : Nat → Value} {m : Nat} {cs ds : List AV} {vs us : List Value} {off : Nat} (h : RepL w ok hd m cs vs) (h2 : RepL w ok hd m ds us) (hl : off + ds.length ≤ cs.length) :
    RepL w ok hd m (splice cs off ds) (vs.take off ++ us ++ vs.drop (off + us.length)) := by
  obtain ⟨h1, h3⟩ := h
  obtain ⟨h4, h5⟩ := h2
  refine ⟨by rw [splice_length _ _ _ hl]; simp; omega, fun j c u hc hu => ?_⟩
  rw [splice_get hl] at hc
  split at hc
  · rename_i hj
    rw [List.getElem?_append_left (by simp; omega), List.getElem?_append_right (by simp; omega)] at hu
    simp only [List.length_take] at hu
    rw [Nat.min_eq_left (by omega)] at hu
    exact h5 _ c u hc hu
  · rename_i hj
    by_cases hlt : j < off
    · rw [List.append_assoc, List.getElem?_append_left (by simp; omega), List.getElem?_take, if_pos hlt] at hu
      exact h3 j c u hc hu
    · rw [List.getElem?_append_right (by simp; omega), List.getElem?_drop] at hu
      have : off + us.length + (j - (vs.take off ++ us).length) = j := by simp; omega
      rw [this] at hu
      exact h3 j c u hc hu

theorem build_fill (h : RelH n base w0 hd s a w) {fs : Array Field} {places : Nat → Option (Nat × Nat)} (hp : ∀ (i : Nat) fl m, fs[i]? = some fl → tsz P fl.type = some m → places i = some (fl.offset, m)) :
    ∀ (ps : List (Nat × Operand)) (cells res : List AV) (vals : Array Value), vbuildL P fs s ps cells = some res → RepL w (okOf s.mem hd) hd s.mem.length cells vals.toList →
      ∃ out, Instr.fill places vals (ps.map fun x => (x.1, a.eval x.2)) = some out ∧ RepL w (okOf s.mem hd) hd s.mem.length res out.toList
  | [], cells, res, vals, hb, hr => by
    simp only [vbuildL, Option.some.injEq] at hb
    subst hb
    exact ⟨vals, rfl, hr⟩
  | (i, x) :: ps, cells, res, vals, hb, hr => by
    simp only [vbuildL] at hb
    split at hb
    · rename_i fl hfl
      split at hb
      · rename_i m hm
        split at hb
        · rename_i hc
          obtain ⟨c1, c2, c3⟩ := hc
          have hx := h.ev_ x
          obtain ⟨q1, q2⟩ := hx.cells_ (.inl (by intro e; rw [e] at c1; simp at c1; omega)) h.me.hds
          have hL : RepL w (okOf s.mem hd) hd s.mem.length (avCells (ev s x)) (a.eval x).cells.toList := ⟨by simp [q1], fun j c u h1 h2 => by
            obtain ⟨u', h3, h4⟩ := q2 j c h1
            have : u' = u := by
              have h5 : (a.eval x).cells.toList[j]? = some u' := by simpa using h3
              rw [h2] at h5; exact (Option.some.inj h5).symm
            rw [← this]; exact h4⟩
          have hsp := repL_splice hr hL (off := fl.offset) (by omega)
          have hvl := hr.1
          have hfold := fold_cells (a.eval x).cells.zipIdx.toList fl.offset (a.eval x).cells.toList 0 vals (by simp [Array.toList_zipIdx]) (by
            have : vals.size = vals.toList.length := by simp
            simp [q1]; omega)
          have hset : ((a.eval x).cells.zipIdx.foldl (fun (cs : Array Value) (c, q) => cs.setIfInBounds (fl.offset + q) c) vals).toList = vals.toList.take fl.offset ++ (a.eval x).cells.toList ++ vals.toList.drop (fl.offset + (a.eval x).cells.toList.length) := by
            rw [← Array.foldl_toList]
            simpa using hfold
          generalize hc1 : (a.eval x).cells.zipIdx.foldl (fun (cs : Array Value) (c, q) => cs.setIfInBounds (fl.offset + q) c) vals = v1 at hset
          obtain ⟨out, g1, g2⟩ := build_fill h hp ps _ res v1 hb (by rw [hset]; exact hsp)
          refine ⟨out, ?_, g2⟩
          simp only [List.map_cons, Instr.fill, hp i fl m hfl hm]
          rw [if_neg (by
            have : vals.size = vals.toList.length := by simp
            simp [q1]; omega)]
          rw [show ((a.eval x).cells.zipIdx.foldl (fun cs (x : Value × Nat) => match x with | (c, j) => cs.setIfInBounds (fl.offset + j) c) vals) = v1 from hc1]
          exact g1
        · simp at hb
      · simp at hb
    · simp at hb

theorem mapM_places {fs : List Field} (hok : fieldsOk P fs = true) (w : World) : (fs.mapM (m := Sem) fun f => do pure (f.offset, ← sizeOf f.type)).run P w = .ok (fs.map fun f => (f.offset, (tsz P f.type).getD 0)) w := by
  induction fs with
  | nil => rfl
  | cons f fs ih =>
    simp only [fieldsOk, List.all_cons, Bool.and_eq_true] at hok
    obtain ⟨m, hm⟩ := Option.isSome_iff_exists.1 hok.1
    simp only [List.mapM_cons, Sem.run_bind, tsz_run hm, Result.andThen_ok, Sem.run_pure, ih (by simpa [fieldsOk] using hok.2), List.map_cons, hm, Option.getD_some]

theorem build_sound (h : RelH n base w0 hd s a w) {t : TypeId} {parts : Array (Nat × Operand)} {o : Oper} (ho : o.op = .build t parts) (hv : vbuild P t parts.toList s k) : Ends P n base w0 a ((execOp a.eval o).run P w) k := by
  unfold vbuild at hv
  split at hv
  · rename_i fs ht
    split at hv
    · rename_i z sz by_ hinfo
      obtain ⟨hok, hv⟩ := hv
      obtain ⟨ti, hi1, hi2, hi3, hi4⟩ := tinfo_run hinfo
      split at hv
      · rename_i cells hb
        obtain ⟨out, g1, g2⟩ := build_fill h (places := fun i => (fs.toList.map fun f => (f.offset, (tsz P f.type).getD 0)).toArray[i]?) (fun i fl m hfl hm => by
          have : fs.toList[i]? = some fl := by simpa using hfl
          simp [hfl, hm]) parts.toList _ cells z.cells hb ⟨by simp, fun j c u h1 h2 => by
            simp only [List.getElem?_map, Option.map_eq_some_iff] at h1
            obtain ⟨u', h3, rfl⟩ := h1
            rw [h2] at h3
            simp only [Option.some.injEq] at h3
            subst h3; exact .lit _⟩
        have hagg : Rep w (okOf s.mem hd) hd s.mem.length (.agg cells) (.agg out) := by
          have := Rep.agg (w := w) (ok := okOf s.mem hd) (hd := hd) (m := s.mem.length) cells out.toList g2.1 g2.2
          simpa using this
        refine Ends.same h hagg hv ?_
        unfold execOp; simp only [ho]
        refine run_v ?_
        have hzv : (zeroValue t).run P w = .ok z w := by simp [zeroValue, typeInfo, Sem.run_bind, hi1, hi2]
        have hpl : (fs.mapM (m := Sem) fun f => do pure (f.offset, ← sizeOf f.type)).run P w = .ok (fs.toList.map fun f => (f.offset, (tsz P f.type).getD 0)).toArray w := by
          rw [Array.mapM_eq_mapM_toList, Sem.run_map, mapM_places hok]; rfl
        unfold Instr.build
        simp only [Sem.run_bind, hzv, und_run ht, Result.andThen_ok]
        rw [hpl]
        simp only [Result.andThen_ok]
        have hp : (parts.map fun x => (x.1, a.eval x.2)).toList = parts.toList.map (fun x => (x.1, a.eval x.2)) := Array.toList_map
        rw [hp, g1]
        rfl
      · exact hv.elim
    · exact hv.elim
  · exact hv.elim

theorem lits_run (h : RelH n base w0 hd s a w) : ∀ {xs : List Operand} {vs : List Value}, litsOf (xs.map (ev s)) = some vs → xs.map a.eval = vs
  | [], vs, hl => by simpa [litsOf] using hl
  | x :: xs, vs, hl => by
    simp only [List.map_cons] at hl ⊢
    cases hx : ev s x with
    | lit v =>
      rw [hx] at hl
      simp only [litsOf, Option.map_eq_some_iff] at hl
      obtain ⟨r, hr, rfl⟩ := hl
      rw [lits_run h hr, (h.ev_ x).val_ (toVal_lit hx)]
    | _ => rw [hx] at hl; simp [litsOf] at hl

theorem vop2_sound (h : RelH n base w0 hd s a w) (o : Oper) (hv : vop2 P o.op s k) : Ends P n base w0 a ((execOp a.eval o).run P w) k := by
  unfold vop2 at hv
  split at hv
  · rename_i c hc
    obtain ⟨cal, args, tys⟩ := c
    simp only at hv
    split at hv
    · rename_i x t h1 h2
      refine len_sound h (x := x) (t := t) ?_ hv
      rw [hc]
      congr 2
      · exact Array.toList_inj.1 h1
      · exact Array.toList_inj.1 h2
    · rename_i x y t t' h1 h2
      refine app_sound h (x := x) (y := y) (t := t) (t' := t') ?_ hv
      rw [hc]
      congr 2
      · exact Array.toList_inj.1 h1
      · exact Array.toList_inj.1 h2
    · split at hv
      · rename_i vs hl
        obtain ⟨v, hrun, hk⟩ := hv
        refine Ends.same h (.lit v) hk ?_
        unfold execOp; simp only [hc]
        have e : args.map a.eval = vs.toArray := by rw [← lits_run h hl]; apply Array.ext'; simp
        simp [resolve, invoke, builtin, Sem.run_bind, e, hrun]
      · exact hv.elim
    · split at hv
      · rename_i vs hl
        obtain ⟨v, hrun, hk⟩ := hv
        refine Ends.same h (.lit v) hk ?_
        unfold execOp; simp only [hc]
        have e : args.map a.eval = vs.toArray := by rw [← lits_run h hl]; apply Array.ext'; simp
        simp [resolve, invoke, builtin, Sem.run_bind, e, hrun]
      · exact hv.elim
    · exact hv.elim
  · rename_i t len parts hc
    exact litS_sound h hc hv
  · rename_i t hc
    exact alloc_sound h hc hv
  · rename_i t parts hc
    exact build_sound h hc hv
  · exact vop_sound h o hv
end
end Go.Proofs.Ytnjnkhmcdkjekaa.V
