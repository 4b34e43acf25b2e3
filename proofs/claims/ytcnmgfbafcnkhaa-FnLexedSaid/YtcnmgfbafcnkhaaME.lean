import Derived.Test.YtcnmgfbafcnkhaaMD
import Derived.Shelf.Strings.Builder1
/- Contracts: the draws: words. -/
namespace Go.Proofs.Ytcnmgfbafcnkhaa.V
open Go.RowKit
set_option linter.unusedVariables false
set_option linter.unusedSimpArgs false
set_option linter.constructorNameAsVariable false
def tab (l : List POp) : Option Ob := some ⟨75, 4, l.length, opCells l⟩
/-- the word that a byte (and, now and then, the next) stands for -/
def wordT (l : List POp) (k b : Nat) : ByteArray :=
  if k % 8 < 4 ∧ 0 < l.length then (opAt l (k / 8 % l.length)).text
  else if k % 8 = 4 then ⟨#[40]⟩ else if k % 8 = 5 then ⟨#[41]⟩
  else if k % 8 = 6 then (⟨#[97, 49, 95, 98]⟩ : ByteArray).extract 0 (1 + k / 8 % 4)
  else if 240 ≤ k then l1T k else if 224 ≤ k then ⟨#[b.toUInt8]⟩
  else (⟨#[49, 48, 50, 55]⟩ : ByteArray).extract (k / 8 % 4) 4
theorem u8cell {b : Nat} (hb : b < 256) : [AV.lit (.int .u8 (IntKind.u8.wrap (b : Int)))] = byteCells ⟨#[UInt8.ofNat b]⟩ 0 := by
  have e : IntKind.u8.wrap (b : Int) = b := by
    have h8 : IntKind.u8.bits = 8 := rfl
    simp only [IntKind.wrap, h8]
    simp [IntKind.signed]
    omega
  have h2 : byteAt ⟨#[UInt8.ofNat b]⟩ 0 = ((UInt8.ofNat b).toNat : Int) := rfl
  rw [e]
  unfold byteCells
  rw [h2]
  simp
  omega
def wordTwo (l : List POp) (k : Nat) : Bool := !(decide (k % 8 < 4 ∧ 0 < l.length)) && decide (k % 8 ≠ 4 ∧ k % 8 ≠ 5 ∧ k % 8 ≠ 6) && decide (224 ≤ k ∧ k < 240)
set_option maxRecDepth 100000 in
theorem c_l2DrawWord (l : List POp) (hl : l.length ≤ 1000) (r : Rd) (hr : r.ok) : VProc Try.prog 26 [.ptr 0 2 0 0, .agg [.own 1]] [rdOb r, tab l] [] (fun av mem maps => av = .lit (.string (wordT l r.v r.nx.v)) ∧ mem = [rdOb (if wordTwo l r.v then r.nx.nx else r.nx), tab l] ∧ maps = []) := by
  have cr : ∀ (r : Rd) (i : Nat) (c : AV), i < r.n → c ∈ rdCells r.f i → Closed c := fun r i c _ h => rdClosed r.f i c h
  have c1 := c_next r hr
  have hk := Rd.v_lt hr
  generalize hK : r.v = k at *
  have e8 := tmod_nat k 8
  rw [show ((8 : Nat) : Int) = 8 from rfl] at e8
  simp only [rdOb, tab] at c1 ⊢
  refine vproc_start Try.func26 (by kernel_rfl) rfl (by simp [Try.ntmps26]) ?_; simp only [Try.ntmps26, Try.results26]; simp [go_sem]
  refine vcall_share [0] c1 (by simp) ?_ ?_ trivial ?_
  · simp [go_sem]
  · simp [go_sem]
    exact cr r
  · rintro av mem maps ⟨rfl, rfl, rfl⟩
    have fin : ∀ (ts : List (Nat × AV)) (z : ByteArray) (rr : Rd) (x : Option Ob), vendP [] (fun av mem maps => av = .lit (.string z) ∧ mem = [some ⟨104, 2, 1, fun _ => [.sl 1 rr.n (rdCells rr.f), .lit (.int .i64 rr.p)]⟩, some ⟨75, 4, l.length, opCells l⟩] ∧ maps = []) ⟨ts, [some ⟨104, 2, 1, fun _ => [.sl 1 rr.n (rdCells rr.f), .lit (.int .i64 rr.p)]⟩, some ⟨75, 4, l.length, opCells l⟩, x], [], 2⟩ (.lit (.string z)) := by
      intro ts z rr x
      refine ⟨rfl, [], [rdOb rr, tab l], by simp, by simp, by simp [go_sem], ?_, by simp [go_sem], ?_⟩
      · simp [go_sem, rdOb, tab]
        exact ⟨rdOut, outAt_lits (fun _ _ => rfl) (fun j _ => opLit _ j)⟩
      · simp [go_sem, rdOb, tab]
    have fin2 : ∀ (ts : List (Nat × AV)) (z : ByteArray) (rr : Rd) (x x' : Option Ob), vendP [] (fun av mem maps => av = .lit (.string z) ∧ mem = [some ⟨104, 2, 1, fun _ => [.sl 1 rr.n (rdCells rr.f), .lit (.int .i64 rr.p)]⟩, some ⟨75, 4, l.length, opCells l⟩] ∧ maps = []) ⟨ts, [some ⟨104, 2, 1, fun _ => [.sl 1 rr.n (rdCells rr.f), .lit (.int .i64 rr.p)]⟩, some ⟨75, 4, l.length, opCells l⟩, x, x'], [], 2⟩ (.lit (.string z)) := by
      intro ts z rr x x'
      refine ⟨rfl, [], [rdOb rr, tab l], by simp, by simp, by simp [go_sem], ?_, by simp [go_sem], ?_⟩
      · simp [go_sem, rdOb, tab]
        exact ⟨rdOut, outAt_lits (fun _ _ => rfl) (fun j _ => opLit _ j)⟩
      · simp [go_sem, rdOb, tab]
    have ek : (k : Int).tmod 8 = ((k % 8 : Nat) : Int) := e8
    have hlt8 : k % 8 < 8 := Nat.mod_lt _ (by decide)
    have e84 : (IntKind.i64.wrap ((k : Int) / 8)).tmod 4 = ((k / 8 % 4 : Nat) : Int) := by rw [wrap_i64 (by omega), show (k : Int) / 8 = ((k / 8 : Nat) : Int) by omega]; exact tmod_nat _ 4
    by_cases hA : k % 8 < 4 ∧ 0 < l.length
    · have h1' : (k : Int).tmod 8 < 4 := by rw [e8]; omega
      have hw : wordT l k r.nx.v = (opAt l (k / 8 % l.length)).text := by simp only [wordT, if_pos hA]
      have ht : wordTwo l k = false := by simp [wordTwo, hA]
      have ex : (IntKind.i64.wrap ((k : Int) / 8)).tmod l.length = ((k / 8 % l.length : Nat) : Int) := by rw [wrap_i64 (by omega), show (k : Int) / 8 = ((k / 8 : Nat) : Int) by omega]; exact tmod_nat _ _
      have hx := Nat.mod_lt (k / 8) hA.2
      rw [hw, ht]
      have hne : l ≠ [] := by intro e; rw [e] at hA; simp at hA
      generalize k / 8 % l.length = x at *
      have hxi : ((x : Int)).toNat = x := rfl
      simp [go_sem, h1', hA.2]
      refine ⟨by omega, ?_⟩
      refine vc_drawn [] (.q 0 <| .q 1 <| .q 2 <| .q 3 <| .q 4 <| .q 5 <| .q 6 <| .q 7 <| .q 8 <| .q 9 <| .q 10 <| .q 11 <| .done) (by kernel_rfl) ?_
      simp [go_sem, hne, ex, opCells_at]
      refine ⟨by omega, hx, ?_⟩
      exact fin _ _ _ _
    · have hA' : ¬ ((k : Int).tmod 8 < 4 ∧ 0 < l.length) := by rw [e8]; omega
      have hgo : ∀ (z : ByteArray) (rr : Rd), wordT l k r.nx.v = z → (if wordTwo l k = true then r.nx.nx else r.nx) = rr → True := fun _ _ _ _ => trivial
      by_cases hB : k % 8 = 4
      · have hw : wordT l k r.nx.v = ⟨#[40]⟩ := by simp only [wordT, if_neg hA, if_pos hB]
        have ht : wordTwo l k = false := by simp [wordTwo, hB]
        have h1' : ¬ (k : Int).tmod 8 < 4 := by rw [e8]; omega
        have h2' : (k : Int).tmod 8 = 4 := by rw [e8]; omega
        rw [hw, ht]
        simp [go_sem, h2']
        exact fin _ _ _ _
      · by_cases hC : k % 8 = 5
        · have hw : wordT l k r.nx.v = ⟨#[41]⟩ := by simp only [wordT, if_neg hA, if_neg hB, if_pos hC]
          have ht : wordTwo l k = false := by simp [wordTwo, hC]
          have h2' : (k : Int).tmod 8 = 5 := by rw [e8]; omega
          rw [hw, ht]
          simp [go_sem, h2']
          exact fin _ _ _ _
        · by_cases hD : k % 8 = 6
          · have hw : wordT l k r.nx.v = (⟨#[97, 49, 95, 98]⟩ : ByteArray).extract 0 (1 + k / 8 % 4) := by simp only [wordT, if_neg hA, if_neg hB, if_neg hC, if_pos hD]
            have ht : wordTwo l k = false := by simp [wordTwo, hD]
            have h2' : (k : Int).tmod 8 = 6 := by rw [e8]; omega
            rw [hw, ht]
            have hy : k / 8 % 4 < 4 := Nat.mod_lt _ (by decide)
            generalize k / 8 % 4 = y at *
            have w1 : IntKind.i64.wrap (1 + (y : Int)) = ((1 + y : Nat) : Int) := by rw [wrap_i64 (by omega)]; omega
            have w2 : ((1 : Int) + (y : Int)).toNat = 1 + y := by omega
            simp [go_sem, h2', e84, w1, w2]
            refine ⟨by omega, by omega, ?_⟩
            exact fin _ _ _ _
          · have h4' : ¬ (k : Int).tmod 8 = 4 := by rw [e8]; omega
            have h5' : ¬ (k : Int).tmod 8 = 5 := by rw [e8]; omega
            have h6' : ¬ (k : Int).tmod 8 = 6 := by rw [e8]; omega
            have hsp : (¬ (k : Int).tmod 8 < 4) ∨ ((k : Int).tmod 8 < 4 ∧ ¬ 0 < l.length) := by rw [e8]; omega
            by_cases h240 : 240 ≤ k
            · have h240' : (240 : Int) ≤ k := by omega
              have hw : wordT l k r.nx.v = l1T k := by simp only [wordT, if_neg hA, if_neg hB, if_neg hC, if_neg hD, if_pos h240]
              have ht : wordTwo l k = false := by simp [wordTwo]; omega
              rw [hw, ht]
              rcases hsp with hs | ⟨hs, hs2⟩
              · simp [go_sem, hs, h4', h5', h6', h240']
                refine vcall_pure (c_l1Text k) ?_ ?_
                · simp [go_sem]
                · simp [go_sem]
                  exact fin _ _ _ _
              · simp [go_sem, hs, hs2, h4', h5', h6', h240']
                refine ⟨by omega, vcall_pure (c_l1Text k) ?_ ?_⟩
                · simp [go_sem]
                · simp [go_sem]
                  exact fin _ _ _ _
            · have h240' : ¬ (240 : Int) ≤ k := by omega
              by_cases h224 : 224 ≤ k
              · have h224' : (224 : Int) ≤ k := by omega
                have hw : wordT l k r.nx.v = ⟨#[r.nx.v.toUInt8]⟩ := by simp only [wordT, if_neg hA, if_neg hB, if_neg hC, if_neg hD, if_neg h240, if_pos h224]
                have ht : wordTwo l k = true := by
                  simp only [wordTwo, hA, decide_false, Bool.not_false, Bool.true_and]
                  simp [hB, hC, hD, h224]
                  omega
                have c2 := c_next r.nx (Rd.nx_ok hr)
                have hb := Rd.v_lt (Rd.nx_ok hr)
                rw [hw, ht]
                simp only [rdOb] at c2
                generalize r.nx.v = b at *
                rcases hsp with hs | ⟨hs, hs2⟩
                · simp [go_sem, hs, h4', h5', h6', h240', h224']
                  refine vcall_share [0] c2 (by simp) ?_ ?_ trivial ?_
                  · simp [go_sem]
                  · simp [go_sem]
                    exact cr r.nx
                  · rintro av mem maps ⟨rfl, rfl, rfl⟩
                    simp [go_sem]
                    refine ⟨⟨#[UInt8.ofNat b]⟩, rfl, ?_, fin2 _ _ _ _ _⟩
                    exact u8cell hb
                · simp [go_sem, hs, hs2, h4', h5', h6', h240', h224']
                  refine ⟨by omega, ?_⟩
                  refine vcall_share [0] c2 (by simp) ?_ ?_ trivial ?_
                  · simp [go_sem]
                  · simp [go_sem]
                    exact cr r.nx
                  · rintro av mem maps ⟨rfl, rfl, rfl⟩
                    simp [go_sem]
                    refine ⟨⟨#[UInt8.ofNat b]⟩, rfl, ?_, fin2 _ _ _ _ _⟩
                    exact u8cell hb
              · have h224' : ¬ (224 : Int) ≤ k := by omega
                have hw : wordT l k r.nx.v = (⟨#[49, 48, 50, 55]⟩ : ByteArray).extract (k / 8 % 4) 4 := by simp only [wordT, if_neg hA, if_neg hB, if_neg hC, if_neg hD, if_neg h240, if_neg h224]
                have ht : wordTwo l k = false := by simp [wordTwo]; omega
                rw [hw, ht]
                have hy : k / 8 % 4 < 4 := Nat.mod_lt _ (by decide)
                generalize k / 8 % 4 = y at *
                rcases hsp with hs | ⟨hs, hs2⟩
                · simp [go_sem, hs, h4', h5', h6', h240', h224', e84]
                  exact ⟨by omega, fin _ _ _ _⟩
                · simp [go_sem, hs, hs2, h4', h5', h6', h240', h224', e84]
                  exact ⟨by omega, by omega, fin _ _ _ _⟩
end Go.Proofs.Ytcnmgfbafcnkhaa.V
/- Contracts: the draws: a table with one place changed. -/
namespace Go.Proofs.Ytcnmgfbafcnkhaa.V
open Go.RowKit
set_option linter.unusedVariables false
set_option linter.unusedSimpArgs false
set_option linter.constructorNameAsVariable false
/-- the texts of the great table: three of ten signs -/
def sgn (i : Nat) : UInt8 := ([43, 45, 42, 47, 60, 62, 61, 33, 38, 124] : List UInt8).getD i 0
theorem sgn_at : ∀ j, j < 10 → byteAt ⟨#[43, 45, 42, 47, 60, 62, 61, 33, 38, 124]⟩ j = ((sgn j).toNat : Int) := by
  intro j hj
  rcases (by omega : j = 0 ∨ j = 1 ∨ j = 2 ∨ j = 3 ∨ j = 4 ∨ j = 5 ∨ j = 6 ∨ j = 7 ∨ j = 8 ∨ j = 9) with h | h | h | h | h | h | h | h | h | h <;> subst h <;> rfl
def bigOp (v i : Nat) : POp := ⟨⟨#[sgn (i % 10), sgn (i / 10 % 10), sgn (i / 100)]⟩, 2, 1 + (i / 3 : Nat), 1 + ((i / 3 + v / 2) % 3 : Nat)⟩
def bigTab (v : Nat) : Nat → List POp
  | 0 => []
  | i + 1 => bigTab v i ++ [bigOp v i]
theorem bigTab_len (v : Nat) : ∀ i, (bigTab v i).length = i
  | 0 => rfl
  | i + 1 => by simp [bigTab, bigTab_len v i]
@[go_sem] theorem quiet_sb {x : Operand} : quiet4 Try.prog (.convert 22 9 x) = true := by simp only [quiet4, Try.underlying22, Try.underlying9]
/-- one place of an operator changed -/
def spoilOp (o : POp) (k : Nat) (r2 : Rd) : POp :=
  if k % 8 = 0 then { o with text := (⟨#[43, 45, 43, 45, 43, 45, 43, 45, 43, 45, 43, 45, 43, 45, 43, 45, 43]⟩ : ByteArray).extract 0 (16 + k / 8 % 2) }
  else if k % 8 = 1 then { o with text := o.text ++ ⟨#[UInt8.ofNat k]⟩ }
  else if k % 8 = 2 then { o with text := ⟨#[]⟩ }
  else if k % 8 = 3 then { o with level := 1001 * (k / 8 % 2 : Nat) }
  else if k % 8 = 4 then { o with kind := (k / 8 % 5 : Nat) }
  else if k % 8 = 5 then { o with side := (k / 8 % 5 : Nat) - 1 }
  else drawOp r2 false
def spoilBig (l : List POp) (k : Nat) : Bool := decide (k % 8 = 7 ∨ l.length = 0)
def spoilTab (l : List POp) (r : Rd) : List POp := if spoilBig l r.v then bigTab r.nx.v (500 + r.nx.v % 2) else l.set (r.nx.v % l.length) (spoilOp (opAt l (r.nx.v % l.length)) r.v r.nx.nx)
def spoilRd (l : List POp) (r : Rd) : Rd := if spoilBig l r.v then r.nx.nx else if r.v % 8 = 6 then r.nx.nx.nx.nx else r.nx.nx
set_option maxHeartbeats 4000000 in
set_option maxRecDepth 100000 in
theorem c_l1SpoilTable (l : List POp) (hl : l.length ≤ 1000) (hz : ∀ i, i < l.length → (opAt l i).text.size ≤ 100) (r : Rd) (hr : r.ok) : VProc Try.prog 23 [.ptr 0 2 0 0, .agg [.own 1]] [rdOb r, tab l] [] (fun av mem maps => maps = [] ∧ ((spoilBig l r.v = true ∧ av = .agg [.own 2] ∧ mem = [rdOb (spoilRd l r), tab l, tab (spoilTab l r)]) ∨ (spoilBig l r.v = false ∧ av = .agg [.own 1] ∧ mem = [rdOb (spoilRd l r), tab (spoilTab l r)]))) := by
  have cr : ∀ (r : Rd) (i : Nat) (c : AV), i < r.n → c ∈ rdCells r.f i → Closed c := fun r i c _ h => rdClosed r.f i c h
  have c1 := c_next r hr
  have c2 := c_next r.nx (Rd.nx_ok hr)
  have c3 := c_l1DrawOp r.nx.nx (Rd.nx_ok (Rd.nx_ok hr)) false
  have hk := Rd.v_lt hr
  have hv := Rd.v_lt (Rd.nx_ok hr)
  unfold spoilTab spoilRd
  generalize hK : r.v = k at *
  generalize hV : r.nx.v = v at *
  have e8 := tmod_nat k 8
  rw [show ((8 : Nat) : Int) = 8 from rfl] at e8
  simp only [rdOb, tab, POp.cells] at c1 c2 c3 ⊢
  refine vproc_start Try.func23 (by kernel_rfl) rfl (by simp [Try.ntmps23]) ?_; simp only [Try.ntmps23, Try.results23]; simp [go_sem]
  refine vcall_share [0] c1 (by simp) ?_ ?_ trivial ?_
  · simp [go_sem]
  · simp [go_sem]
    exact cr r
  · rintro av mem maps ⟨rfl, rfl, rfl⟩
    simp [go_sem]
    refine vcall_share [0] c2 (by simp) ?_ ?_ trivial ?_
    · simp [go_sem]
    · simp [go_sem]
      exact cr r.nx
    · rintro av mem maps ⟨rfl, rfl, rfl⟩
      cases hB : spoilBig l k with
      | true =>
        have hB' := hB
        simp only [spoilBig, decide_eq_true_eq] at hB'
        have hsp : ((k : Int).tmod 8 = 7) ∨ (¬ (k : Int).tmod 8 = 7 ∧ l = []) := by
          rcases hB' with h | h
          · exact .inl (by rw [e8]; omega)
          · by_cases h7 : (k : Int).tmod 8 = 7
            · exact .inl h7
            · exact .inr ⟨h7, List.eq_nil_of_length_eq_zero h⟩
        have e2 : (v : Int).tmod 2 = ((v % 2 : Nat) : Int) := tmod_nat v 2
        have hv2 : v % 2 < 2 := Nat.mod_lt _ (by decide)
        generalize v % 2 = c at *
        have w1 : IntKind.i64.wrap (500 + (c : Int)) = ((500 + c : Nat) : Int) := by rw [wrap_i64 (by omega)]; omega
        have hlen0 : ∀ h : l = [], ((l.length : Int) == 0) = true := fun h => by rw [h]; rfl
        rcases hsp with h7 | ⟨h7, hnil⟩
        case' inl => simp [go_sem, h7, e2, w1]
        case' inr =>
          have h0 := hlen0 hnil
          simp [go_sem, h7, h0, e2, w1]
          refine ⟨by omega, ?_⟩
        all_goals
          refine vc_loopE (fun i : Nat => i ≤ 500 + c) (fun i => 500 + c - i) (fun i => ⟨[(4, .ptr 2 1 0 0), (6, .lit (.int .i64 v)), (7, .lit (.int .i64 (500 + c : Nat))), (8, .ptr 3 1 0 0), (9, .lit (.int .i64 i))], [rdOb r.nx.nx, tab l, some ⟨25, 1, 1, fun _ => [.lit (.slice none 0 0)]⟩, some ⟨25, 1, 1, fun _ => [.own 4]⟩, some ⟨75, 4, i, opCells (bigTab v i)⟩], [], 2⟩) ⟨0, by omega, ?_⟩ (fun i hi => ?_)
          · refine ent_ks [0, 1, 3, 5, 4] (by simp) (by simp) (by simp) (by decide) (by simp [go_sem]) ?_ ?_
            · simp [go_sem]
            · simp [go_sem, rdOb, tab]
              exact ⟨cr r.nx.nx, .inl fun i _ c hc => opClosed l i c hc⟩
          · have i1 : (i : Int).tmod 10 = ((i % 10 : Nat) : Int) := tmod_nat i 10
            have i2 : (IntKind.i64.wrap ((i : Int) / 10)).tmod 10 = ((i / 10 % 10 : Nat) : Int) := by rw [wrap_i64 (by omega), show (i : Int) / 10 = ((i / 10 : Nat) : Int) by omega]; exact tmod_nat _ 10
            have i3 : IntKind.i64.wrap ((i : Int) / 100) = ((i / 100 : Nat) : Int) := by rw [wrap_i64 (by omega)]; omega
            have i4 : IntKind.i64.wrap ((i : Int) / 3) = ((i / 3 : Nat) : Int) := by rw [wrap_i64 (by omega)]; omega
            have i5 : IntKind.i64.wrap ((v : Int) / 2) = ((v / 2 : Nat) : Int) := by rw [wrap_i64 (by omega)]; omega
            have i6 : IntKind.i64.wrap (((i / 3 : Nat) : Int) + ((v / 2 : Nat) : Int)) = ((i / 3 + v / 2 : Nat) : Int) := by rw [wrap_i64 (by omega)]; omega
            have i7 : (((i / 3 + v / 2 : Nat) : Int)).tmod 3 = (((i / 3 + v / 2) % 3 : Nat) : Int) := tmod_nat _ 3
            have i8 : IntKind.i64.wrap (1 + ((i / 3 : Nat) : Int)) = 1 + ((i / 3 : Nat) : Int) := wrap_i64 (by omega)
            have b7 : (i / 3 + v / 2) % 3 < 3 := Nat.mod_lt _ (by decide)
            have i9 : IntKind.i64.wrap (1 + (((i / 3 + v / 2) % 3 : Nat) : Int)) = 1 + (((i / 3 + v / 2) % 3 : Nat) : Int) := wrap_i64 (by omega)
            have b1 : i % 10 < 10 := Nat.mod_lt _ (by decide)
            have b2 : i / 10 % 10 < 10 := Nat.mod_lt _ (by decide)
            have hop : bigTab v (i + 1) = bigTab v i ++ [bigOp v i] := rfl
            simp only [bigOp] at hop
            generalize (i / 3 + v / 2) % 3 = m7 at *
            generalize (i / 3 + v / 2) = m6 at *
            generalize i / 3 = m3 at *
            have b3 : i / 100 < 10 ∨ ¬ i < 500 + c := by omega
            generalize i / 100 = m2 at *
            generalize i / 10 % 10 = m1 at *
            generalize i % 10 = m0 at *
            generalize v / 2 = m5 at *
            simp [go_sem, rdOb, tab]
            refine ⟨fun hlt => ?_, fun hge => ?_⟩
            · have b3' : m2 < 10 := by omega
              refine vc_drawn [] (.q 0 <| .q 1 <| .q 2 <| .q 3 <| .q 4 <| .q 5 <| .q 6 <| .q 7 <| .q 8 <| .q 9 <| .or 10 (.q 11 <| .q 12 <| .done) (.nil)) (by kernel_rfl) ?_
              simp [go_sem, i1, i2, i3, i4, i5, i6, i7, i8, i9]
              have q0 := sgn_at m0 b1
              have q1 := sgn_at m1 b2
              have q2 := sgn_at m2 b3'
              refine ⟨by omega, by omega, by omega, ⟨#[sgn m0, sgn m1, sgn m2]⟩, rfl, fun j hj => ?_, by omega, by omega, i + 1, by omega, by omega, ?_⟩
              · rw [q0, q1, q2]
                rcases (by omega : j = 0 ∨ j = 1 ∨ j = 2) with h | h | h <;> subst h <;> rfl
              · refine ent_ks [0, 1, 2, 3, 7] (by simp) (by simp) (by simp) (by decide) (by simp [go_sem]) ?_ ?_
                · simp [go_sem]
                  exact wrap_succ (by omega)
                · have hlen := bigTab_len v i
                  have eqrow : ∀ (g : Nat → List AV), g 0 = [.lit (.string ⟨#[sgn m0, sgn m1, sgn m2]⟩), .lit (.int .i64 2), .lit (.int .i64 (1 + (m3 : Nat))), .lit (.int .i64 (1 + (m7 : Nat)))] → ∀ j, j < i + 1 → joinF i (opCells (bigTab v i)) g j = opCells (bigTab v (i + 1)) j := fun g hg j hj => by
                    rw [hop, ← opCells_one _ _ j (by rw [hlen]; exact hj), hlen]
                    unfold joinF
                    by_cases hl : j < i
                    · rw [if_pos hl, if_pos hl]
                    · have e0 : j - i = 0 := by omega
                      rw [if_neg hl, if_neg hl, e0, hg]
                      rfl
                  simp [go_sem]
                  refine ⟨cr r.nx.nx, .inl fun i _ c hc => opClosed l i c hc, .inr fun j hj => ?_⟩
                  rw [eqrow _ rfl j hj]
                  exact cellsRn_lits (opLit _ j)
            · have ei : i = 500 + c := by omega
              refine ⟨rfl, [4], [rdOb r.nx.nx, tab l, tab (bigTab v i)], by simp, by simp, by simp [go_sem], ?_, by simp [go_sem], ?_⟩
              · simp [go_sem, rdOb, tab, bigTab_len]
                exact ⟨rdOut, outAt_lits (fun _ _ => rfl) (fun j _ => opLit _ j), outAt_lits (fun _ _ => rfl) (fun j _ => opLit _ j)⟩
              · simp [go_sem, rdOb, tab, ei]
      | false =>
        have hB' := hB
        simp only [spoilBig, decide_eq_false_iff_not, not_or] at hB'
        have h7 : ¬ (k : Int).tmod 8 = 7 := by rw [e8]; omega
        have hne : l ≠ [] := by intro e; rw [e] at hB'; simp at hB'
        have ev : (v : Int).tmod l.length = ((v % l.length : Nat) : Int) := tmod_nat _ _
        have hx := Nat.mod_lt v (show 0 < l.length by omega)
        generalize v % l.length = x at *
        have hxi : ((x : Int)).toNat = x := rfl
        have e82 : (IntKind.i64.wrap ((k : Int) / 8)).tmod 2 = ((k / 8 % 2 : Nat) : Int) := by rw [wrap_i64 (by omega), show (k : Int) / 8 = ((k / 8 : Nat) : Int) by omega]; exact tmod_nat _ 2
        have e85 : (IntKind.i64.wrap ((k : Int) / 8)).tmod 5 = ((k / 8 % 5 : Nat) : Int) := by rw [wrap_i64 (by omega), show (k : Int) / 8 = ((k / 8 : Nat) : Int) by omega]; exact tmod_nat _ 5
        have b2 : k / 8 % 2 < 2 := Nat.mod_lt _ (by decide)
        have b5 : k / 8 % 5 < 5 := Nat.mod_lt _ (by decide)
        have hlt8 : k % 8 < 8 := Nat.mod_lt _ (by decide)
        have fin : ∀ (ts : List (Nat × AV)) (o' : POp) (rr : Rd) (xs : List (Option Ob)), spoilOp (opAt l x) k r.nx.nx = o' → (if k % 8 = 6 then r.nx.nx.nx.nx else r.nx.nx) = rr →
            vendP [] (fun av mem maps => maps = [] ∧ av = AV.agg [AV.own 1] ∧ mem = [some ⟨104, 2, 1, fun _ => [.sl 1 (if k % 8 = 6 then r.nx.nx.nx.nx else r.nx.nx).n (rdCells (if k % 8 = 6 then r.nx.nx.nx.nx else r.nx.nx).f), .lit (.int .i64 (if k % 8 = 6 then r.nx.nx.nx.nx else r.nx.nx).p)]⟩, some ⟨75, 4, l.length, opCells (l.set x (spoilOp (opAt l x) k r.nx.nx))⟩])
            ⟨ts, some ⟨104, 2, 1, fun _ => [.sl 1 rr.n (rdCells rr.f), .lit (.int .i64 rr.p)]⟩ :: some ⟨75, 4, l.length, updF l.length (opCells l) x 0 [.lit (.string o'.text), .lit (.int .i64 o'.kind), .lit (.int .i64 o'.level), .lit (.int .i64 o'.side)]⟩ :: xs, [], 2⟩ (.agg [.own 1]) := by
          intro ts o' rr xs ho hrr
          rw [ho, hrr]
          refine ⟨rfl, [], [rdOb rr, some ⟨75, 4, l.length, opCells (l.set x o')⟩], by simp, by simp, by simp [go_sem], ?_, by simp [go_sem], ?_⟩
          · simp [go_sem, rdOb]
            refine ⟨rdOut, outAt_lits (fun j hj' => ?_) (fun j _ => opLit _ j)⟩
            have eqr : updF l.length (opCells l) x 0 [.lit (.string o'.text), .lit (.int .i64 o'.kind), .lit (.int .i64 o'.level), .lit (.int .i64 o'.side)] j = opCells (l.set x o') j := by
              rw [updF_at hx hj']
              by_cases hjx : j = x
              · subst hjx
                have e1 : opAt (l.set j o') j = o' := by
                  unfold opAt
                  rw [List.getD_eq_getElem?_getD, List.getElem?_set_self hj']
                  rfl
                rw [if_pos rfl, opCells_at, opCells_at, e1]
                rfl
              · have e1 : opAt (l.set x o') j = opAt l j := by
                  unfold opAt
                  rw [List.getD_eq_getElem?_getD, List.getElem?_set_ne (fun e => hjx e.symm), ← List.getD_eq_getElem?_getD]
                rw [if_neg hjx, opCells_at, opCells_at, e1]
            exact eqr
          · simp [go_sem, rdOb]
        obtain ⟨so, hso⟩ : ∃ so, so = spoilOp (opAt l x) k r.nx.nx := ⟨_, rfl⟩
        rw [← hso] at fin ⊢
        simp only [spoilOp] at hso
        generalize k / 8 % 2 = y2 at *
        generalize k / 8 % 5 = y5 at *
        by_cases h0 : k % 8 = 0
        · have h0' : (k : Int).tmod 8 = 0 := by rw [e8]; omega
          have w1 : IntKind.i64.wrap (16 + (y2 : Int)) = ((16 + y2 : Nat) : Int) := by rw [wrap_i64 (by omega)]; omega
          have w2 : ((16 : Int) + (y2 : Int)).toNat = 16 + y2 := by omega
          simp [go_sem, h7, hne, ev, hxi, opCells_at, h0', e82, w1, w2]
          refine ⟨by omega, hx, by omega, by omega, hx, ?_⟩
          exact fin _ _ _ _ (hso.trans (if_pos h0)) (if_neg (by omega))
        · have h0' : ¬ (k : Int).tmod 8 = 0 := by rw [e8]; omega
          by_cases h1 : k % 8 = 1
          · have h1' : (k : Int).tmod 8 = 1 := by rw [e8]; omega
            simp [go_sem, h7, hne, ev, hxi, opCells_at, h0', h1']
            have hzx := hz x hx
            have hz1 : (⟨#[UInt8.ofNat k]⟩ : ByteArray).size = 1 := rfl
            refine ⟨by omega, hx, ⟨#[UInt8.ofNat k]⟩, rfl, u8cell hk, _, fun w => if_neg (by omega), ?_⟩
            simp [go_sem, hne, hxi, opCells_at]
            refine ⟨hx, ?_⟩
            exact fin _ _ _ _ (hso.trans ((if_neg h0).trans <| if_pos h1)) (if_neg (by omega))
          · have h1' : ¬ (k : Int).tmod 8 = 1 := by rw [e8]; omega
            by_cases h2 : k % 8 = 2
            · have h2' : (k : Int).tmod 8 = 2 := by rw [e8]; omega
              simp [go_sem, h7, hne, ev, hxi, opCells_at, h0', h1', h2']
              refine ⟨by omega, hx, ?_⟩
              exact fin _ _ _ _ (hso.trans ((if_neg h0).trans <| (if_neg h1).trans <| if_pos h2)) (if_neg (by omega))
            · have h2' : ¬ (k : Int).tmod 8 = 2 := by rw [e8]; omega
              by_cases h3 : k % 8 = 3
              · have h3' : (k : Int).tmod 8 = 3 := by rw [e8]; omega
                have w1 : IntKind.i64.wrap (1001 * (y2 : Int)) = 1001 * y2 := wrap_i64 (by omega)
                simp [go_sem, h7, hne, ev, hxi, opCells_at, h0', h1', h2', h3', e82, w1]
                refine ⟨by omega, hx, ?_⟩
                exact fin _ _ _ _ (hso.trans ((if_neg h0).trans <| (if_neg h1).trans <| (if_neg h2).trans <| if_pos h3)) (if_neg (by omega))
              · have h3' : ¬ (k : Int).tmod 8 = 3 := by rw [e8]; omega
                by_cases h4 : k % 8 = 4
                · have h4' : (k : Int).tmod 8 = 4 := by rw [e8]; omega
                  simp [go_sem, h7, hne, ev, hxi, opCells_at, h0', h1', h2', h3', h4', e85]
                  refine ⟨by omega, hx, ?_⟩
                  exact fin _ _ _ _ (hso.trans ((if_neg h0).trans <| (if_neg h1).trans <| (if_neg h2).trans <| (if_neg h3).trans <| if_pos h4)) (if_neg (by omega))
                · have h4' : ¬ (k : Int).tmod 8 = 4 := by rw [e8]; omega
                  by_cases h5 : k % 8 = 5
                  · have h5' : (k : Int).tmod 8 = 5 := by rw [e8]; omega
                    have w1 : IntKind.i64.wrap ((y5 : Int) - 1) = y5 - 1 := wrap_i64 (by omega)
                    simp [go_sem, h7, hne, ev, hxi, opCells_at, h0', h1', h2', h3', h4', h5', e85, w1]
                    refine ⟨by omega, hx, ?_⟩
                    exact fin _ _ _ _ (hso.trans ((if_neg h0).trans <| (if_neg h1).trans <| (if_neg h2).trans <| (if_neg h3).trans <| (if_neg h4).trans <| if_pos h5)) (if_neg (by omega))
                  · have h5' : ¬ (k : Int).tmod 8 = 5 := by rw [e8]; omega
                    have h6 : k % 8 = 6 := by omega
                    simp [go_sem, h7, hne, ev, hxi, opCells_at, h0', h1', h2', h3', h4', h5']
                    refine ⟨by omega, hx, ?_⟩
                    refine vcall_share [0] c3 (by simp) ?_ ?_ trivial ?_
                    · simp [go_sem]
                    · simp [go_sem]
                      exact cr r.nx.nx
                    · rintro av mem maps ⟨rfl, rfl, rfl⟩
                      simp [go_sem, hne, hxi]
                      refine ⟨by omega, ?_⟩
                      exact fin _ _ _ _ (hso.trans ((if_neg h0).trans <| (if_neg h1).trans <| (if_neg h2).trans <| (if_neg h3).trans <| (if_neg h4).trans <| if_neg h5)) (if_pos h6)
end Go.Proofs.Ytcnmgfbafcnkhaa.V
/- Contracts: the draws: DrawLex. -/
namespace Go.Proofs.Ytcnmgfbafcnkhaa.V
open Go.RowKit
set_option linter.unusedVariables false
set_option linter.unusedSimpArgs false
set_option linter.constructorNameAsVariable false
theorem Rd.nx_n (r : Rd) : r.nx.n = r.n := by unfold Rd.nx; split <;> rfl
theorem Rd.nx_f (r : Rd) : r.nx.f = r.f := by unfold Rd.nx; split <;> rfl
theorem Rd.nx_p (r : Rd) : r.p ≤ r.nx.p ∧ (r.p < r.n → r.p < r.nx.p) := by unfold Rd.nx; split <;> simp <;> omega
theorem gapT_size (k : Nat) : (gapT k).size ≤ 2 := by unfold gapT; split <;> decide
theorem ext_size_le (z : ByteArray) (a b : Nat) : (z.extract a b).size ≤ z.size := by
  rw [ByteArray.size_extract]; omega
theorem wordT_size {l : List POp} (hz : ∀ i, i < l.length → (opAt l i).text.size ≤ 100) (k b : Nat) : (wordT l k b).size ≤ 100 := by
  have h1 := l1T_size k
  have h2 := ext_size_le ⟨#[97, 49, 95, 98]⟩ 0 (1 + k / 8 % 4)
  have h3 := ext_size_le ⟨#[49, 48, 50, 55]⟩ (k / 8 % 4) 4
  have e2 : (⟨#[97, 49, 95, 98]⟩ : ByteArray).size = 4 := rfl
  have e3 : (⟨#[49, 48, 50, 55]⟩ : ByteArray).size = 4 := rfl
  have e4 : (⟨#[40]⟩ : ByteArray).size = 1 := rfl
  have e5 : (⟨#[41]⟩ : ByteArray).size = 1 := rfl
  have e6 : (⟨#[b.toUInt8]⟩ : ByteArray).size = 1 := rfl
  unfold wordT
  split
  · rename_i h
    exact hz _ (Nat.mod_lt _ h.2)
  · repeat' split
    all_goals omega
def lexStep (l : List POp) (q : ByteArray × Rd) : ByteArray × Rd := (q.1 ++ gapT q.2.v ++ wordT l q.2.nx.v q.2.nx.nx.v, if wordTwo l q.2.nx.v then q.2.nx.nx.nx else q.2.nx.nx)
def lexN (l : List POp) (q : ByteArray × Rd) : Nat → ByteArray × Rd
  | 0 => q
  | i + 1 => lexStep l (lexN l q i)
def lexMore (l : List POp) (q : ByteArray × Rd) (i : Nat) : Prop := i < 3 ∨ (lexN l q i).2.p < (lexN l q i).2.n
def LexEnd (l : List POp) (q : ByteArray × Rd) (i : Nat) : Prop := (∀ j, j < i → lexMore l q j) ∧ ¬ lexMore l q i
theorem LexEnd.one {l : List POp} {q : ByteArray × Rd} {i j : Nat} (hi : LexEnd l q i) (hj : LexEnd l q j) : i = j := by
  rcases Nat.lt_trichotomy i j with h | h | h
  · exact absurd (hj.1 i h) hi.2
  · exact h
  · exact absurd (hi.1 j h) hj.2
theorem lexStep_ok {l : List POp} {q : ByteArray × Rd} (h : q.2.ok) : (lexStep l q).2.ok := by
  simp only [lexStep]
  split
  · exact Rd.nx_ok (Rd.nx_ok (Rd.nx_ok h))
  · exact Rd.nx_ok (Rd.nx_ok h)
theorem lexStep_n (l : List POp) (q : ByteArray × Rd) : (lexStep l q).2.n = q.2.n := by
  simp only [lexStep]
  split <;> simp only [Rd.nx_n]
theorem lexStep_p (l : List POp) (q : ByteArray × Rd) : q.2.p ≤ (lexStep l q).2.p ∧ (q.2.p < q.2.n → q.2.p < (lexStep l q).2.p) := by
  simp only [lexStep]
  have h1 := Rd.nx_p q.2
  have h2 := Rd.nx_p q.2.nx
  have h3 := Rd.nx_p q.2.nx.nx
  split
  · exact ⟨by omega, fun h => by have := h1.2 h; omega⟩
  · exact ⟨by omega, fun h => by have := h1.2 h; omega⟩
theorem lexStep_size {l : List POp} (hz : ∀ i, i < l.length → (opAt l i).text.size ≤ 100) (q : ByteArray × Rd) : (lexStep l q).1.size ≤ q.1.size + 102 := by
  simp only [lexStep, ByteArray.size_append]
  have h1 := gapT_size q.2.v
  have h2 := wordT_size hz q.2.nx.v q.2.nx.nx.v
  omega
theorem lexN_ok {l : List POp} {q : ByteArray × Rd} (h : q.2.ok) : ∀ i, (lexN l q i).2.ok
  | 0 => h
  | i + 1 => lexStep_ok (lexN_ok h i)
theorem lexN_n (l : List POp) (q : ByteArray × Rd) : ∀ i, (lexN l q i).2.n = q.2.n
  | 0 => rfl
  | i + 1 => (lexStep_n l _).trans (lexN_n l q i)
theorem lexN_size {l : List POp} (hz : ∀ i, i < l.length → (opAt l i).text.size ≤ 100) (q : ByteArray × Rd) : ∀ i, (lexN l q i).1.size ≤ q.1.size + i * 102
  | 0 => by simp [lexN]
  | i + 1 => by
    have h1 := lexStep_size hz (lexN l q i)
    have h2 := lexN_size hz q i
    simp only [lexN]
    omega
theorem lexN_few {l : List POp} {q : ByteArray × Rd} (h : q.2.ok) {i : Nat} (hm : ∀ j, j < i → lexMore l q j) : i ≤ 3 + (lexN l q i).2.p := by
  induction i with
  | zero => omega
  | succ i ih =>
    have h1 := ih (fun j hj => hm j (by omega))
    have h2 := lexStep_p l (lexN l q i)
    simp only [lexN]
    rcases hm i (by omega) with h3 | h3
    · omega
    · have := h2.2 h3
      omega
/-- blanks up to a length -/
def padN (z : ByteArray) (j : Nat) : ByteArray := z ++ ⟨Array.replicate j 32⟩
def padT (z : ByteArray) (n : Nat) : ByteArray := padN z (n - z.size)
theorem padN_zero (z : ByteArray) : padN z 0 = z := by
  unfold padN
  rw [show (⟨Array.replicate 0 (32 : UInt8)⟩ : ByteArray) = ByteArray.empty from rfl, ByteArray.append_empty]
theorem padN_succ (z : ByteArray) (j : Nat) : padN z (j + 1) = padN z j ++ ⟨#[32]⟩ := by
  unfold padN
  apply ByteArray.ext
  simp only [ByteArray.data_append, Array.append_assoc]
  rw [Array.replicate_succ]
  rfl
theorem padN_size (z : ByteArray) (j : Nat) : (padN z j).size = z.size + j := by
  unfold padN
  rw [ByteArray.size_append]
  show z.size + (Array.replicate j (32 : UInt8)).size = _
  rw [Array.size_replicate]
def PadI (n m j : Nat) : Prop := j = 0 ∨ n + j ≤ 19999 + m
theorem padN_cells (z : ByteArray) (j : Nat) {g : Nat → List AV} (hg : g 0 = [.lit (.int .u8 32)]) (i : Nat) (hi : i < z.size + j + 1) : joinF (z.size + j) (byteCells (padN z j)) g i = byteCells (padN z (j + 1)) i := by
  have hs := padN_size z j
  have h1 : (⟨#[32]⟩ : ByteArray).size = 1 := rfl
  unfold joinF byteCells
  rw [padN_succ, byteAt_app _ _ _ (by omega), hs]
  by_cases h : i < z.size + j
  · rw [if_pos h, if_pos h]
  · have e : i - (z.size + j) = 0 := by omega
    rw [if_neg h, if_neg h, e, hg]
    rfl
theorem drawOp_txt (r : Rd) (tidy : Bool) : (drawOp r tidy).text.size ≤ 3 := by
  have h := l1T_size r.nx.v
  have e : (drawOp r tidy).text = l1T r.nx.v := by
    simp only [drawOp, drawOp2, drawOp1, drawOp0]
    split <;> split <;> rfl
  rw [e]; exact h
theorem tabRun_txt (p : Rd) : ∀ i, ∀ o, o ∈ (tabRun i ([], p)).1 → o.text.size ≤ 3
  | 0 => fun o h => by simp [tabRun] at h
  | i + 1 => fun o h => by
    simp only [tabRun, tabStep] at h
    split at h
    · rcases List.mem_append.1 h with h | h
      · exact tabRun_txt p i o h
      · simp only [List.mem_singleton] at h
        rw [h]; exact drawOp_txt _ _
    · exact tabRun_txt p i o h
theorem drawTab_txt (r : Rd) : ∀ o, o ∈ (drawTab r).1 → o.text.size ≤ 3 := tabRun_txt r.nx _
theorem drawTab_len (r : Rd) : (drawTab r).1.length ≤ 10 := by
  have h := tabRun_len r.nx (3 + r.v % 8)
  have : r.v % 8 < 8 := Nat.mod_lt _ (by decide)
  unfold drawTab
  omega
theorem drawTab_ok {r : Rd} (h : r.ok) : (drawTab r).2.ok := tabRun_ok (Rd.nx_ok h) _
theorem opAt_mem {l : List POp} {i : Nat} (h : i < l.length) : opAt l i ∈ l := by
  unfold opAt
  rw [List.getD_eq_getElem?_getD, List.getElem?_eq_getElem h]
  exact List.getElem_mem h
theorem spoilRd_ok {l : List POp} {r : Rd} (h : r.ok) : (spoilRd l r).ok := by
  unfold spoilRd
  split
  · exact Rd.nx_ok (Rd.nx_ok h)
  · split
    · exact Rd.nx_ok (Rd.nx_ok (Rd.nx_ok (Rd.nx_ok h)))
    · exact Rd.nx_ok (Rd.nx_ok h)
theorem bigTab_txt (v : Nat) : ∀ i o, o ∈ bigTab v i → o.text.size = 3
  | 0, o, h => by simp [bigTab] at h
  | i + 1, o, h => by
    rcases List.mem_append.1 h with h | h
    · exact bigTab_txt v i o h
    · simp only [List.mem_singleton] at h
      rw [h]; rfl
theorem spoilOp_txt {o : POp} (ho : o.text.size ≤ 3) (k : Nat) (r : Rd) : (spoilOp o k r).text.size ≤ 17 := by
  have h1 := ext_size_le ⟨#[43, 45, 43, 45, 43, 45, 43, 45, 43, 45, 43, 45, 43, 45, 43, 45, 43]⟩ 0 (16 + k / 8 % 2)
  have e1 : (⟨#[43, 45, 43, 45, 43, 45, 43, 45, 43, 45, 43, 45, 43, 45, 43, 45, 43]⟩ : ByteArray).size = 17 := rfl
  have e2 : (⟨#[]⟩ : ByteArray).size = 0 := rfl
  have e3 : (⟨#[UInt8.ofNat k]⟩ : ByteArray).size = 1 := rfl
  have h2 := drawOp_txt r false
  unfold spoilOp
  repeat' split
  all_goals try simp only [ByteArray.size_append]
  all_goals omega
theorem spoilTab_txt {l : List POp} (hl : ∀ o, o ∈ l → o.text.size ≤ 3) (r : Rd) : ∀ o, o ∈ spoilTab l r → o.text.size ≤ 17 := by
  intro o ho
  unfold spoilTab at ho
  split at ho
  · have := bigTab_txt _ _ o ho; omega
  · rename_i hb
    have hne : 0 < l.length := by
      simp only [spoilBig, decide_eq_true_eq, not_or] at hb
      omega
    rcases List.mem_or_eq_of_mem_set ho with h | h
    · have := hl o h; omega
    · rw [h]
      exact spoilOp_txt (hl _ (opAt_mem (Nat.mod_lt _ hne))) _ _
theorem spoilTab_len {l : List POp} (hl : l.length ≤ 10) (r : Rd) : (spoilTab l r).length ≤ 501 := by
  unfold spoilTab
  split
  · rw [bigTab_len]
    have : r.nx.v % 2 < 2 := Nat.mod_lt _ (by decide)
    omega
  · simp; omega
/-- the table and the reader behind it -/
def lexTab (r : Rd) : List POp × Rd := if r.v % 16 = 15 then (spoilTab (drawTab r.nx).1 (drawTab r.nx).2, spoilRd (drawTab r.nx).1 (drawTab r.nx).2) else drawTab r.nx
def lexOut (k : Nat) (z : ByteArray) : ByteArray := if k % 16 = 14 then padT z (19999 + k / 16 % 3) else z
def DrawnLex (N : Nat) (f : Nat → Nat) (l : List POp) (z : ByteArray) : Prop :=
  l = (lexTab (rdOf N f)).1 ∧ ∃ i, LexEnd l (⟨#[]⟩, (lexTab (rdOf N f)).2) i ∧ z = lexOut (rdOf N f).v (lexN l (⟨#[]⟩, (lexTab (rdOf N f)).2) i).1
theorem DrawnLex.one {N : Nat} {f : Nat → Nat} {l l' : List POp} {z z' : ByteArray} (h : DrawnLex N f l z) (h' : DrawnLex N f l' z') : l = l' ∧ z = z' := by
  obtain ⟨rfl, i, hi, rfl⟩ := h
  obtain ⟨rfl, j, hj, rfl⟩ := h'
  rw [hi.one hj]
  exact ⟨rfl, rfl⟩
set_option maxHeartbeats 2000000 in
set_option maxRecDepth 100000 in
theorem c_DrawLex (N : Nat) (f : Nat → Nat) (hN : N ≤ 9223372036854775807) (hf : ∀ i, f i < 256) : VFun Try.prog 5 [.sl 1 N (rdCells f)] (fun av obs => ∃ l z, DrawnLex N f l z ∧ av = .tup [.agg [.own 0], .lit (.string z)] ∧ obs = [⟨75, 4, l.length, opCells l⟩]) := by
  have cr : ∀ (r : Rd) (i : Nat) (c : AV), i < r.n → c ∈ rdCells r.f i → Closed c := fun r i c _ h => rdClosed r.f i c h
  have hr := rdOf_ok N f hf
  have c0 := c_l1Open N f hN
  have c1 := c_next (rdOf N f) hr
  have hk := Rd.v_lt hr
  have c2 := c_l1DrawTable (rdOf N f).nx (Rd.nx_ok hr)
  have hT1 := drawTab_txt (rdOf N f).nx
  have hT2 := drawTab_len (rdOf N f).nx
  have hT3 := drawTab_ok (Rd.nx_ok hr)
  simp only [DrawnLex, lexTab]
  generalize rdOf N f = r at *
  generalize hK : r.v = k at *
  simp only [rdOb] at c0 c1 c2
  generalize hD : drawTab r.nx = D at *
  obtain ⟨l0, r1⟩ := D
  simp only at hT1 hT2 hT3 c2
  refine vfun_start Try.func5 (by kernel_rfl) rfl (by simp [Try.ntmps5]) ?_; simp only [Try.ntmps5, Try.results5]; simp [go_sem]
  refine vcall_share [] c0 (by simp) ?_ ?_ trivial ?_
  · simp [go_sem]
    exact fun i c _ h => rdClosed f i c h
  · simp [go_sem]
  · rintro av mem maps ⟨rfl, rfl, rfl⟩
    simp [go_sem]
    refine vcall_share [1] c1 (by simp) ?_ ?_ trivial ?_
    · simp [go_sem]
    · simp [go_sem]
      exact cr r
    · rintro av mem maps ⟨rfl, rfl, rfl⟩
      simp [go_sem]
      refine vcall_share [1] c2 (by simp) ?_ ?_ trivial ?_
      · simp [go_sem]
      · simp [go_sem]
        exact cr r.nx
      · rintro av mem maps ⟨rfl, rfl, rfl⟩
        have e16 : (k : Int).tmod 16 = ((k % 16 : Nat) : Int) := tmod_nat k 16
        have hz0 : ∀ i, i < l0.length → (opAt l0 i).text.size ≤ 100 := fun i hi => by have := hT1 _ (opAt_mem hi); omega
        have c3 := c_l1SpoilTable l0 (by omega) hz0 r1 hT3
        have hS := spoilTab_txt hT1 r1
        have hSl := spoilTab_len hT2 r1
        have hSr := spoilRd_ok (l := l0) hT3
        simp only [rdOb, tab] at c3
        obtain ⟨l, hl⟩ : ∃ l : List POp, l = if k % 16 = 15 then spoilTab l0 r1 else l0 := ⟨_, rfl⟩
        obtain ⟨r2, hr2⟩ : ∃ r2 : Rd, r2 = if k % 16 = 15 then spoilRd l0 r1 else r1 := ⟨_, rfl⟩
        have hlq : (if k % 16 = 15 then (spoilTab l0 r1, spoilRd l0 r1) else (l0, r1)) = (l, r2) := by
          rw [hl, hr2]
          split <;> rfl
        rw [hlq]
        clear hlq
        have hl1 : ∀ o, o ∈ l → o.text.size ≤ 17 := by
          rw [hl]
          split
          · exact hS
          · exact fun o ho => by have := hT1 o ho; omega
        have hl2 : l.length ≤ 501 := by
          rw [hl]
          split
          · exact hSl
          · omega
        have hr3 : r2.ok := by
          rw [hr2]
          split
          · exact hSr
          · exact hT3
        have hz : ∀ i, i < l.length → (opAt l i).text.size ≤ 100 := fun i hi => by have := hl1 _ (opAt_mem hi); omega
        have clo0 : ∀ (i : Nat) (c : AV), i < l0.length → c ∈ opCells l0 i → Closed c := fun i c _ h => opClosed l0 i c h
        by_cases h15 : k % 16 = 15
        case' pos =>
          have h15' : (k : Int).tmod 16 = 15 := by rw [e16]; omega
          rw [if_pos h15] at hl hr2
          simp [go_sem, h15']
          refine vcall_share [1, 2] c3 (by simp) ?_ ?_ trivial ?_
          · simp [go_sem]
          · simp [go_sem]
            exact ⟨cr r1, fun i _ => cellsRn_lits (opLit _ i)⟩
          rintro av mem maps ⟨rfl, ⟨hb, rfl, rfl⟩ | ⟨hb, rfl, rfl⟩⟩
          all_goals simp [go_sem, ← hl, ← hr2]
        case' neg =>
          have h15' : ¬ (k : Int).tmod 16 = 15 := by rw [e16]; omega
          rw [if_neg h15] at hl hr2
          simp [go_sem, h15', ← hl, ← hr2]
        all_goals
          refine vc_loopE (fun i : Nat => ∀ j, j < i → lexMore l (⟨#[]⟩, r2) j) (fun i => (lexN l (⟨#[]⟩, r2) i).2.n - (lexN l (⟨#[]⟩, r2) i).2.p + (3 - i)) (fun i => ⟨[(2, .ptr 0 1 0 0), (4, .ptr 1 2 0 0), (5, .lit (.int .i64 k)), (6, .ptr 3 1 0 0), (7, .lit (.string (lexN l (⟨#[]⟩, r2) i).1)), (8, .lit (.int .i64 i))], [some ⟨25, 1, 1, fun _ => [.lit (.slice none 0 0)]⟩, rdOb (lexN l (⟨#[]⟩, r2) i).2, tab l, some ⟨25, 1, 1, fun _ => [.own 2]⟩], [], 0⟩) ⟨0, fun j hj => by omega, ?_⟩ (fun i hi => ?_)
          · first
              | refine ent_ks [0, 1, 2, 3] (by simp) (by simp) (by simp) (by decide) (by simp [go_sem]) ?_ ?_
                · simp [go_sem, lexN]; done
                · simp [go_sem, rdOb, tab, lexN]
                  exact ⟨cr r2, .inl fun i _ c hc => opClosed l i c hc⟩
              | refine ent_ks [0, 1, 4, 3] (by simp) (by simp) (by simp) (by decide) (by simp [go_sem]) ?_ ?_
                · simp [go_sem, lexN]; done
                · simp [go_sem, rdOb, tab, lexN]
                  exact ⟨cr r2, .inl fun i _ c hc => opClosed l i c hc⟩
          · have hq := lexN_ok (l := l) (q := (⟨#[]⟩, r2)) hr3 i
            have hnn := lexN_n l (⟨#[]⟩, r2) i
            have hsz := lexN_size hz (⟨#[]⟩, r2) i
            have hfew := lexN_few (l := l) (q := (⟨#[]⟩, r2)) hr3 hi
            have hst : lexN l (⟨#[]⟩, r2) (i + 1) = lexStep l (lexN l (⟨#[]⟩, r2) i) := rfl
            have hmo : lexMore l (⟨#[]⟩, r2) i ↔ (i < 3 ∨ (lexN l (⟨#[]⟩, r2) i).2.p < (lexN l (⟨#[]⟩, r2) i).2.n) := Iff.rfl
            have hfin : LexEnd l (⟨#[]⟩, r2) i ↔ ¬ lexMore l (⟨#[]⟩, r2) i := ⟨fun h => h.2, fun h => ⟨hi, h⟩⟩
            have hstp := lexStep_p l (lexN l (⟨#[]⟩, r2) i)
            have hstn := lexStep_n l (lexN l (⟨#[]⟩, r2) i)
            rw [← hst] at hstp hstn
            have hsz0 : (⟨#[]⟩ : ByteArray).size = 0 := rfl
            simp only [hsz0] at hsz
            simp only [lexStep] at hst
            have hmeas : lexMore l (⟨#[]⟩, r2) i → (lexN l (⟨#[]⟩, r2) (i + 1)).2.n - (lexN l (⟨#[]⟩, r2) (i + 1)).2.p + (3 - (i + 1)) < (lexN l (⟨#[]⟩, r2) i).2.n - (lexN l (⟨#[]⟩, r2) i).2.p + (3 - i) := by
              intro hm
              rw [hmo] at hm
              have h1 := hq.2.1
              rcases hm with h2 | h2
              · omega
              · have := hstp.2 h2
                omega
            have hnext : lexMore l (⟨#[]⟩, r2) i → ∀ j, j < i + 1 → lexMore l (⟨#[]⟩, r2) j := fun hm j hj => by
              rcases Nat.lt_or_ge j i with h | h
              · exact hi j h
              · have : j = i := by omega
                rw [this]; exact hm
            generalize hQ : lexN l (⟨#[]⟩, r2) i = Q at *
            generalize hQ' : lexN l (⟨#[]⟩, r2) (i + 1) = Q' at *
            obtain ⟨z, q⟩ := Q
            simp only at hq hnn hsz hfew hst hmo hstp hstn hmeas
            have d1 := c_left q hq
            have d2 := c_l2Gap q hq
            have d3 := c_l2DrawWord l (by omega) q.nx (Rd.nx_ok hq)
            have s2 := gapT_size q.v
            have s3 := wordT_size hz q.nx.v q.nx.nx.v
            have hqn := hq.1
            have hqp := hq.2.1
            simp only [rdOb, tab] at d1 d2 d3 ⊢
            have hmo' : i < 3 ∨ q.p < q.n → lexMore l (⟨#[]⟩, r2) i := fun h => hmo.2 h
            by_cases h3 : i < 3
            case' pos =>
              have h3' : (i : Int) < 3 := by omega
              have hmore := hmo' (.inl h3)
              simp [go_sem, h3, h3']
            case' neg =>
              have h3' : ¬ (i : Int) < 3 := by omega
              simp [go_sem, h3, h3']
              refine vcall_share [1] d1 (by simp) ?_ ?_ trivial ?_
              · simp [go_sem]
              · simp [go_sem]
                exact cr q
              rintro av mem maps ⟨rfl, rfl, rfl⟩
              by_cases hp : q.p < q.n
              case' pos =>
                have hmore := hmo' (.inr hp)
                have hp' : 0 < q.n - q.p := by omega
                simp [go_sem, hp']
              case' neg =>
                have hp' : ¬ 0 < q.n - q.p := by omega
                have hp2 : q.n - q.p = 0 := by omega
                have hno : ¬ lexMore l (⟨#[]⟩, r2) i := fun h => by
                  rcases hmo.1 h with h | h
                  · exact h3 h
                  · exact hp h
                have hend := hfin.2 hno
                by_cases h14 : k % 16 = 14
                · have h14' : (k : Int).tmod 16 = 14 := by rw [e16]; omega
                  have hm3 : k / 16 % 3 < 3 := Nat.mod_lt _ (by decide)
                  have e3 : (IntKind.i64.wrap ((k : Int) / 16)).tmod 3 = ((k / 16 % 3 : Nat) : Int) := by rw [wrap_i64 (by omega), show (k : Int) / 16 = ((k / 16 : Nat) : Int) by omega]; exact tmod_nat _ 3
                  have hout : lexOut k z = padN z (19999 + k / 16 % 3 - z.size) := by rw [lexOut, if_pos h14]; rfl
                  generalize k / 16 % 3 = m at *
                  have w1 : IntKind.i64.wrap (20000 + (m : Int)) = ((20000 + m : Nat) : Int) := by rw [wrap_i64 (by omega)]; omega
                  have w2 : IntKind.i64.wrap (20000 + (m : Int) - 1) = ((19999 + m : Nat) : Int) := by rw [wrap_i64 (by omega)]; omega
                  simp [go_sem, hp2, h14']
                  refine ⟨by omega, ?_⟩
                  refine vc_loopE (fun j : Nat => PadI z.size m j) (fun j => 19999 + m - (z.size + j)) (fun j => ⟨[(2, .ptr 0 1 0 0), (5, .lit (.int .i64 k)), (6, .ptr 2 1 0 0), (9, .own 3)], [some ⟨25, 1, 1, fun _ => [.lit (.slice none 0 0)]⟩, tab l, some ⟨25, 1, 1, fun _ => [.own 1]⟩, some ⟨5 + tagged, 1, z.size + j, byteCells (padN z j)⟩], [], 0⟩) ⟨0, .inl rfl, ?_⟩ (fun j hj => ?_)
                  · refine ent_ks [0, 2, 3, 4] (by simp) (by simp) (by simp) (by decide) (by simp [go_sem]) ?_ ?_
                    · simp [go_sem]
                    · simp [go_sem, tab, padN_zero]
                      exact ⟨.inl fun i _ c hc => opClosed l i c hc, .inl fun i _ c hc => byteClosed _ _ c hc⟩
                  · have hj' : j = 0 ∨ z.size + j ≤ 19999 + m := hj
                    simp [go_sem, tab]
                    refine ⟨by omega, ?_⟩
                    simp [go_sem, e3, w1, w2]
                    refine ⟨fun hlt => ⟨by omega, by omega, j + 1, .inr (by omega), by omega, ?_⟩, fun hge => ?_⟩
                    · refine ent_ks [0, 1, 2, 5] (by simp) (by simp) (by simp) (by decide) (by simp [go_sem]) ?_ ?_
                      · simp [go_sem]
                      · simp [go_sem, Nat.add_assoc]
                        refine ⟨.inl fun i _ c hc => opClosed l i c hc, .inr fun t ht => ?_⟩
                        rw [padN_cells z j rfl t (by omega)]
                        exact cellsRn_lits rfl
                    · have hje : j = 19999 + m - z.size := by omega
                      refine vc_drawn [3] (.q 0 <| .q 1 <| .or 2 (.or 3 (.q 4 <| .done) (.nil)) (.or 3 (.q 2 <| .q 4 <| .done) (.nil))) (by kernel_rfl) ?_
                      simp [go_sem]
                      exact ⟨padN z j, padN_size z j, fun _ _ => rfl, [⟨75, 4, l.length, opCells l⟩], ⟨⟨rfl, rfl, rfl, fun _ _ => ⟨rfl, opLit _ _⟩⟩, trivial⟩, l, padN z j, ⟨rfl, i, hend, by rw [hQ, hje]; exact hout.symm⟩, rfl, rfl⟩
                · have h14' : ¬ (k : Int).tmod 16 = 14 := by rw [e16]; omega
                  simp [go_sem, hp2, h14']
                  exact ⟨[⟨75, 4, l.length, opCells l⟩], ⟨⟨rfl, rfl, rfl, fun _ _ => ⟨rfl, opLit _ _⟩⟩, trivial⟩, l, z, ⟨rfl, i, hend, by rw [hQ, lexOut, if_neg h14]⟩, rfl, rfl⟩
            all_goals
              have hgap : IntKind.i64.wrap ((i : Int) + 1) = ((i + 1 : Nat) : Int) := wrap_succ (by omega)
              refine vc_drawn [2,6] (.q 0 <| .q 1 <| .q 4 <| .or 2 (.q 3 <| .q 5 <| .or 6 (.q 7 <| .q 8 <| .done) (.nil)) (.or 5 (.or 2 (.q 3 <| .or 6 (.q 7 <| .q 8 <| .done) (.nil)) (.nil)) (.nil))) (by kernel_rfl) ?_
              simp [go_sem]
              refine ⟨?_, ?_⟩
              all_goals
                refine vcall_share [1] d2 (by simp) ?_ ?_ trivial ?_
                · simp [go_sem]
                · simp [go_sem]
                  exact cr q
                rintro av mem maps ⟨rfl, rfl, rfl⟩
                simp [go_sem]
                refine ⟨_, fun w => if_neg (by omega), ?_⟩
                refine vcall_share [1, 2] d3 (by simp) ?_ ?_ trivial ?_
                · simp [go_sem]
                · simp [go_sem]
                  exact ⟨cr q.nx, fun i _ => cellsRn_lits (opLit _ i)⟩
                rintro av mem maps ⟨rfl, rfl, rfl⟩
                simp [go_sem]
                refine ⟨_, fun w => if_neg (by omega), i + 1, hnext hmore, by rw [hQ, hQ']; exact hmeas hmore, ?_⟩
                refine ent_ks [0, 1, 2, 3] (by simp) (by simp) (by simp) (by decide) (by simp [go_sem]) ?_ ?_
                · simp [go_sem, hQ', hst, hgap]
                · simp [go_sem, hQ', hst]
                  exact ⟨fun i c _ h => rdClosed _ i c h, .inl fun i _ c hc => opClosed l i c hc⟩
end Go.Proofs.Ytcnmgfbafcnkhaa.V
/- Contracts: package strings' Builder: String. -/
namespace Go.Proofs.Ytcnmgfbafcnkhaa.V
open Go.RowKit
set_option linter.unusedVariables false
set_option linter.unusedSimpArgs false
set_option linter.constructorNameAsVariable false
theorem grown_drew (w : World) (row : Option Nat) : w.grownBy w.drew row := ⟨rfl, rfl, rfl, Nat.le_refl _, fun _ _ _ => rfl⟩
theorem grown_freeze (w : World) (p : Addr) (n : Nat) : w.grownBy (w.freeze p n) (some p.block) := by
  unfold World.freeze
  split
  · exact ⟨rfl, rfl, rfl, Nat.le_refl _, fun _ _ _ => rfl⟩
  · exact ⟨rfl, rfl, rfl, by simp, fun k _ hk => by
      simp only [Array.getElem?_modify]
      rw [if_neg (fun e => hk (by rw [e]))]⟩
theorem cellsByte : Try.prog.cellsOf 5 = 1 := by kernel_rfl
set_option maxHeartbeats 2000000 in
set_option maxRecDepth 100000 in
theorem str_row (b g cap : Nat) (cur : Array Value) (l : List UInt8) (w : World) (h0 : l ≠ []) (c1 : w.drew.cell? ⟨b, 1, none⟩ = some (.slice (some ⟨g, 0, none⟩) l.length cap)) (hg : w.drew.heap[g]? = some (.cells cur 5 (0, 0)))
    (hnc : l.length ≤ cap) (hcm : cap ≤ maxLen) (hcs : cur.size = cap) (hcell : ∀ j x, l[j]? = some x → w.drew.cell? ((⟨g, 0, none⟩ : Addr).add j) = some (.int .u8 x.toNat)) :
    Calls Try.prog 38 #[.pointer (some ⟨b, 0, none⟩)] w fun e w' => e = .returned (.string ⟨l.toArray⟩) ∧ w.grownBy w' (some g) := by
  have hl0 : l.length ≠ 0 := by simpa using h0
  have hSD : (Builtin.unsafeSliceData_ #[22] 119 #[.slice (some ⟨g, 0, none⟩) l.length cap]).run Try.prog w.drew = .ok (.pointer (some ⟨g, 0, none⟩)) w.drew :=
    Lib.run_unsafeSliceData_row _ _ _ _ _ _ (by omega)
  have hUS : (Builtin.unsafeString_ #[119, 3] 9 #[.pointer (some ⟨g, 0, none⟩), .int .i64 l.length]).run Try.prog w.drew = .ok (.string ⟨l.toArray⟩) (w.drew.freeze ⟨g, 0, none⟩ l.length) :=
    Lib.run_unsafeString_row w.drew 119 3 9 5 Try.underlying119 cellsByte g cur.size (by simp [World.shape?, hg]) l h0 (by omega) (by unfold maxLen at hcm; omega) hcell
  have hgr : w.grownBy (w.drew.freeze ⟨g, 0, none⟩ l.length) (some g) := by
    have h1 := grown_freeze w.drew ⟨g, 0, none⟩ l.length
    exact ⟨h1.os, h1.tape, h1.output, h1.size, h1.block⟩
  clear hcell hnc hcm hcs hg
  go_enter Try.func38, Try.ntmps38
  go_wp2
  go_region
  all_goals (go_wp2; go_ret; exact ⟨rfl, hgr⟩)
theorem str_none (W : World) (q : Option Addr) : (Builtin.unsafeString_ #[119, 3] 9 #[.pointer q, .int .i64 0]).run Try.prog W = .ok (.string .empty) W := Lib.run_unsafeString_none W _ _ _ q
set_option maxHeartbeats 2000000 in
set_option maxRecDepth 100000 in
theorem str_nil (b : Nat) (w : World) (row : Option Nat) (c1 : w.drew.cell? ⟨b, 1, none⟩ = some (.slice none 0 0)) :
    Calls Try.prog 38 #[.pointer (some ⟨b, 0, none⟩)] w fun e w' => e = .returned (.string ⟨#[]⟩) ∧ w.grownBy w' row := by
  have hUS := str_none
  have hSD : (Builtin.unsafeSliceData_ #[22] 119 #[.slice none 0 0]).run Try.prog w.drew = .ok (.pointer none) w.drew := rfl
  have hgr := grown_drew w row
  go_enter Try.func38, Try.ntmps38
  go_wp2
  go_region
  all_goals (go_wp2; go_ret; exact ⟨rfl, hgr⟩)
set_option maxHeartbeats 2000000 in
set_option maxRecDepth 100000 in
theorem str_noroom (b g : Nat) (w : World) (row : Option Nat) (cur : Array Value) (hlt : b < w.heap.size) (c1 : w.drew.cell? ⟨b, 1, none⟩ = some (.slice (some ⟨g, 0, none⟩) 0 0)) (hg : w.drew.heap[g]? = some (.cells cur 5 (0, 0))) :
    Calls Try.prog 38 #[.pointer (some ⟨b, 0, none⟩)] w fun e w' => e = .returned (.string ⟨#[]⟩) ∧ w.grownBy w' row := by
  have hUS := str_none
  have hSD : (Builtin.unsafeSliceData_ #[22] 119 #[.slice (some ⟨g, 0, none⟩) 0 0]).run Try.prog w.drew = .ok (.pointer (some ⟨w.drew.heap.size, 0, none⟩)) (w.drew.alloc (.view ⟨g, 0, none⟩ 5)) :=
    Lib.run_unsafeSliceData_zero w.drew _ _ 5 Try.underlying119 ⟨g, 0, none⟩ 0 (5, cur.size) (by simp [World.shape?, hg])
  have c2 : (w.drew.alloc (.view ⟨g, 0, none⟩ 5)).cell? ⟨b, 1, none⟩ = some (.slice (some ⟨g, 0, none⟩) 0 0) := by
    have e : (w.drew.alloc (.view ⟨g, 0, none⟩ 5)).heap[b]? = w.drew.heap[b]? := Lib.alloc_old w.drew _ b hlt
    unfold World.cell? at c1 ⊢
    simp only at c1 ⊢
    rw [e]; exact c1
  have c3 : (w.alloc (.view ⟨g, 0, none⟩ 5)).drew.cell? ⟨b, 1, none⟩ = some (.slice (some ⟨g, 0, none⟩) 0 0) := c2
  have c0 : w.cell? ⟨b, 1, none⟩ = some (.slice (some ⟨g, 0, none⟩) 0 0) := c1
  have hgr : w.grownBy (w.drew.alloc (.view ⟨g, 0, none⟩ 5)) row := by
    have h1 := World.grownBy_alloc w.drew (.view ⟨g, 0, none⟩ 5) row
    exact ⟨h1.os, h1.tape, h1.output, h1.size, h1.block⟩
  clear hg hlt
  go_enter Try.func38, Try.ntmps38
  go_wp2
  go_region
  all_goals (go_wp2; go_ret; exact ⟨rfl, hgr⟩)
set_option maxHeartbeats 2000000 in
set_option maxRecDepth 100000 in
theorem str_room (b g cap : Nat) (w : World) (row : Option Nat) (hc0 : cap ≠ 0) (c1 : w.drew.cell? ⟨b, 1, none⟩ = some (.slice (some ⟨g, 0, none⟩) 0 cap)) :
    Calls Try.prog 38 #[.pointer (some ⟨b, 0, none⟩)] w fun e w' => e = .returned (.string ⟨#[]⟩) ∧ w.grownBy w' row := by
  have hUS := str_none
  have hSD : (Builtin.unsafeSliceData_ #[22] 119 #[.slice (some ⟨g, 0, none⟩) 0 cap]).run Try.prog w.drew = .ok (.pointer (some ⟨g, 0, none⟩)) w.drew :=
    Lib.run_unsafeSliceData_row _ _ _ _ _ _ hc0
  have hgr := grown_drew w row
  clear hc0
  go_enter Try.func38, Try.ntmps38
  go_wp2
  go_region
  all_goals (go_wp2; go_ret; exact ⟨rfl, hgr⟩)
/-- String, of a builder whose bytes are those of a text: the text; its bytes are given up -/
theorem c_String (p : AV) (z : ByteArray) : VProc Try.prog 38 [.ptr 0 2 0 0] [some ⟨80, 2, 1, fun _ => [p, .own 1]⟩, some ⟨5, 1, z.size, byteCells z⟩] [] (fun av mem maps => av = .lit (.string z) ∧ mem = [none, none] ∧ maps = []) := by
  refine ⟨⟨_, Try.func38, rfl, rfl⟩, fun w vs hd0 hl hv hm hmp htl => ?_⟩
  match vs, hl with
  | [v], _ =>
    have h0 := hv 0 _ v rfl rfl
    cases h0 with
    | ptr _ _ _ _ b n' c' hk hb =>
      obtain ⟨_, vals0, hown0, hr0⟩ := hm.obs 0 _ rfl
      obtain ⟨_, vals1, hown1, hr1⟩ := hm.obs 1 _ rfl
      replace hown0 := hown0.row (show (80 : Nat) < 1000000 by omega)
      replace hown1 := hown1.row (show (5 : Nat) < 1000000 by omega)
      obtain ⟨u, hu1, hu2, hu3⟩ := (hr0 0 (by simp)).2 1 _ rfl
      cases hu3
      simp only [Nat.zero_mul, Nat.zero_add] at hu1
      have c1 : w.cell? ⟨b, 1, none⟩ = some (hd0 1) := by
        have := hown0.cells (g := b) (by rw [hb]; rfl) 1 _ hu1
        simpa [Addr.add] using this
      have hlt : b < w.heap.size := World.block_lt_of_cell? w ⟨b, 1, none⟩ c1
      have hbytes : ∀ i, i < z.size → vals1[i]? = some (.int .u8 (byteAt z i)) := by
        intro i hi
        obtain ⟨u, g1, g2, g3⟩ := (hr1 i hi).2 0 _ rfl
        cases g3
        simpa using g1
      have fin : ∀ w', w.grownBy w' (hd0 1).ownBlock → Bel (Sh w hd0 [some ⟨80, 2, 1, fun _ => [p, .own 1]⟩, some ⟨5, 1, z.size, byteCells z⟩] []) w w' ∧ ∃ hd av mem maps, (av = .lit (.string z) ∧ mem = [none, none] ∧ maps = []) ∧ PostOk [some ⟨80, 2, 1, fun _ => [p, .own 1]⟩, some ⟨5, 1, z.size, byteCells z⟩] [] av mem maps ∧ ((∀ k, k < 2 → hd k = hd0 k) ∧ TailEq hd0 hd) ∧ MemRel (Sh w hd0 [some ⟨80, 2, 1, fun _ => [p, .own 1]⟩, some ⟨5, 1, z.size, byteCells z⟩] []) w' hd mem ∧ MapRel Try.prog (Sh w hd0 [some ⟨80, 2, 1, fun _ => [p, .own 1]⟩, some ⟨5, 1, z.size, byteCells z⟩] []) w' maps ∧ Rep w' (okOf mem hd) hd mem.length av (.string z) := by
        intro w' hg
        have nn : ∀ (k : Nat) (ob : Ob), ([none, none] : List (Option Ob))[k]? = some (some ob) → False := fun k ob h => by
          match k, h with
          | 0, h => simp at h
          | 1, h => simp at h
          | k + 2, h => simp at h
        refine ⟨(Bel.refl _ w).grown hg fun k hk => .inr (.inl ⟨1, _, rfl, hk⟩), hd0, _, _, _, ⟨rfl, rfl, rfl⟩, ⟨by simp, rfl, fun k ob h => (nn k ob h).elim, fun b h => h⟩, ⟨fun _ _ => rfl, TailEq.refl _⟩, ⟨fun k ob h => (nn k ob h).elim, fun k ob h => (nn k ob h).elim, fun k hk => hm.hds k (by simpa using hk), fun k k' ob ob' h => (nn k ob h).elim⟩, fun b mp h => by simp [lkm] at h, .lit _⟩
      have done_ : ∀ (l : List UInt8), z = ⟨l.toArray⟩ → (Calls Try.prog 38 #[.pointer (some ⟨b, 0, none⟩)] w fun e w' => e = .returned (.string ⟨l.toArray⟩) ∧ w.grownBy w' (hd0 1).ownBlock) → Calls Try.prog 38 [Value.pointer (some ⟨b, 0 * 2 + 0, none⟩)].toArray w (fun e w' => ∃ v, e = .returned v ∧ Bel (Sh w hd0 [some ⟨80, 2, 1, fun _ => [p, .own 1]⟩, some ⟨5, 1, z.size, byteCells z⟩] []) w w' ∧ ∃ hd av mem maps, (av = .lit (.string z) ∧ mem = [none, none] ∧ maps = []) ∧ PostOk [some ⟨80, 2, 1, fun _ => [p, .own 1]⟩, some ⟨5, 1, z.size, byteCells z⟩] [] av mem maps ∧ ((∀ k, k < 2 → hd k = hd0 k) ∧ TailEq hd0 hd) ∧ MemRel (Sh w hd0 [some ⟨80, 2, 1, fun _ => [p, .own 1]⟩, some ⟨5, 1, z.size, byteCells z⟩] []) w' hd mem ∧ MapRel Try.prog (Sh w hd0 [some ⟨80, 2, 1, fun _ => [p, .own 1]⟩, some ⟨5, 1, z.size, byteCells z⟩] []) w' maps ∧ Rep w' (okOf mem hd) hd mem.length av v) := by
        intro l hz hc
        refine hc.mono ?_
        rintro e w' ⟨rfl, hg⟩
        rw [← hz]
        exact ⟨_, rfl, fin w' hg⟩
      rcases hown1.2 with ⟨hn, hz0⟩ | ⟨g, cap, cur, hg1, _, hg2, hnc, hcm, hcs, htake⟩
      · refine done_ [] ?_ (str_nil b w _ ?_)
        · obtain ⟨⟨l⟩⟩ := z
          match l, hz0 with
          | [], _ => rfl
        · rw [hn] at c1; exact c1
      · rw [hg1] at c1
        rw [hg1] at done_
        rcases Nat.eq_zero_or_pos z.size with h0 | h0
        · have hz : z = ⟨#[]⟩ := by
            obtain ⟨⟨l⟩⟩ := z
            match l, h0 with
            | [], _ => rfl
          simp only at c1
          rw [h0] at c1
          by_cases hc0 : cap = 0
          · subst hc0
            exact done_ [] hz (str_noroom b g w _ cur hlt c1 hg2)
          · exact done_ [] hz (str_room b g cap w _ hc0 c1)
        · have hls : z.data.toList.length = z.size := by simp
          refine done_ z.data.toList (by simp) ?_
          refine (str_row b g cap cur z.data.toList w (by intro e; rw [e] at hls; simp at hls; omega) ?_ hg2 (by rw [hls]; exact hnc) hcm (by simpa using hcs) fun j x hx => ?_).mono fun e w' h => h
          · rw [hls]; exact c1
          · have hj : j < z.size := by rw [← hls]; exact (List.getElem?_eq_some_iff.1 hx).1
            have h1 := hown1.cells (g := g) (by rw [hg1]; rfl) j _ (hbytes j hj)
            have e : byteAt z j = (x.toNat : Int) := by
              unfold byteAt
              rw [dif_pos hj]
              have : z[j] = x := by
                rw [List.getElem?_eq_getElem (by rw [hls]; exact hj)] at hx
                exact Option.some.inj hx
              rw [this]
            rw [e] at h1
            exact h1
end Go.Proofs.Ytcnmgfbafcnkhaa.V
/- Contracts: package strings' Builder: WriteString; rendering by the program. -/
namespace Go.Proofs.Ytcnmgfbafcnkhaa.V
open Go.RowKit
set_option linter.unusedVariables false
set_option linter.unusedSimpArgs false
set_option linter.constructorNameAsVariable false
def bp (u : Bool) : AV := if u then .ptr 0 2 0 0 else .lit (.pointer none)
theorem coBuilder : Try.prog.cellsOf 80 = 2 := by kernel_rfl
@[go_sem] theorem byteCells_ren {g : Nat → Nat} {z : ByteArray} {i : Nat} : (byteCells z i).map (ren1 g) = byteCells z i := map_lits rfl
theorem same_NoEscape : sameX Try.prog 88 := ⟨_, Try.func88, by kernel_rfl, by kernel_rfl, by kernel_rfl, by kernel_rfl⟩
theorem c_copyCheck (u : Bool) (z : ByteArray) : VProc Try.prog 66 [.ptr 0 2 0 0] [some ⟨80, 2, 1, fun _ => [bp u, .own 1]⟩, some ⟨5, 1, z.size, byteCells z⟩] [] (fun av mem maps => av = .tup [] ∧ mem = [some ⟨80, 2, 1, fun _ => [.ptr 0 2 0 0, .own 1]⟩, some ⟨5, 1, z.size, byteCells z⟩] ∧ maps = []) := by
  refine vproc_start Try.func66 (by kernel_rfl) rfl (by simp [Try.ntmps66]) ?_; simp only [Try.ntmps66, Try.results66]; simp [go_sem]
  have fin : ∀ t, vendP [] (fun av mem maps => av = .tup [] ∧ mem = [some ⟨80, 2, 1, fun _ => [.ptr 0 2 0 0, .own 1]⟩, some ⟨5, 1, z.size, byteCells z⟩] ∧ maps = []) ⟨t, [some ⟨80, 2, 1, fun _ => [.ptr 0 2 0 0, .own 1]⟩, some ⟨5, 1, z.size, byteCells z⟩], [], 2⟩ (.tup []) := by
    intro t
    refine ⟨rfl, [], [some ⟨80, 2, 1, fun _ => [.ptr 0 2 0 0, .own 1]⟩, some ⟨5, 1, z.size, byteCells z⟩], by simp, by simp, by simp [go_sem], ?_, by simp [go_sem], ?_⟩
    · simp [go_sem]
      exact ⟨⟨rfl, rfl, rfl, fun i hi => ⟨rfl, flatC_all rfl, fun c hc q hq => by simp at hc; rcases hc with rfl | rfl <;> simp [owns1] at hq <;> simp [hq]⟩⟩, outAt_lits (fun i _ => rfl) (fun i _ => rfl)⟩
    · simp [go_sem]
  cases u with
  | true =>
    simp [go_sem, bp]
    exact fin _
  | false =>
    simp [go_sem, bp]
    refine ⟨⟨_, _, ⟨rfl, rfl⟩, by decide⟩, vcall_same same_NoEscape ?_⟩
    simp [go_sem, coBuilder]
    exact fin _
theorem c_WriteString (u : Bool) (z t : ByteArray) (h : z.size + t.size ≤ 140737488355328) : VProc Try.prog 37 [.ptr 0 2 0 0, .lit (.string t)] [some ⟨80, 2, 1, fun _ => [bp u, .own 1]⟩, some ⟨5, 1, z.size, byteCells z⟩] [] (fun av mem maps => av = .tup [.lit (.int .i64 t.size), .lit .nilIface] ∧ mem = [some ⟨80, 2, 1, fun _ => [.ptr 0 2 0 0, .own 2]⟩, none, some ⟨5, 1, z.size + t.size, byteCells (z ++ t)⟩] ∧ maps = []) := by
  refine vproc_start Try.func37 (by kernel_rfl) rfl (by simp [Try.ntmps37]) ?_; simp only [Try.ntmps37, Try.results37]; simp [go_sem]
  refine vcall_share [0, 1] (c_copyCheck u z) (by simp) ?_ ?_ trivial ?_
  · simp [go_sem]
  · simp [go_sem]
    refine ⟨?_, fun i _ => cellsRn_lits rfl⟩
    cases u
    · exact .closed _ (.lit _)
    · exact .ptr 0 2 0 0 (by omega)
  · rintro av mem maps ⟨rfl, rfl, rfl⟩
    simp [go_sem]
    refine ⟨h, rfl, [2], [some ⟨80, 2, 1, fun _ => [.ptr 0 2 0 0, .own 2]⟩, none, some ⟨5, 1, z.size + t.size, byteCells (z ++ t)⟩], by simp, by simp, by simp [go_sem], ?_, by simp [go_sem], ?_⟩
    · simp [go_sem]
      exact ⟨⟨rfl, rfl, rfl, fun i hi => ⟨rfl, flatC_all rfl, fun c hc q hq => by simp at hc; rcases hc with rfl | rfl <;> simp [owns1] at hq <;> simp [hq]⟩⟩, outAt_lits (fun i hi => join_bytes z t i hi) (fun i _ => rfl)⟩
    · simp [go_sem]
theorem c_Render (l : List PTok) (hl : l.length + tokSum l ≤ 1048576) : VFun Try.prog 10 [.sl 3 l.length (tokCells l)] (fun av obs => obs = [] ∧ av = .lit (.string (rend l))) := by
  have cl : ∀ (i : Nat) (c : AV), i < l.length → c ∈ tokCells l i → Closed c := fun i c _ h => tokClosed l i c h
  refine vfun_start Try.func10 (by kernel_rfl) rfl (by simp [Try.ntmps10]) ?_; simp only [Try.ntmps10, Try.results10]; simp [go_sem]
  refine ⟨by omega, ?_⟩
  refine vc_loopE (fun p : Nat × Bool => p.1 ≤ l.length) (fun p => l.length - p.1) (fun p => .of [(3, .ptr 0 2 0 0), (6, .sl 3 l.length (tokCells l)), (7, .lit (.int .i64 l.length)), (8, .lit (.int .i64 p.1))] [some ⟨80, 2, 1, fun _ => [bp p.2, .own 1]⟩, some ⟨5, 1, (rend (l.take p.1)).size, byteCells (rend (l.take p.1))⟩]) ⟨(0, false), by omega, ?_⟩ (fun p hp => ?_)
  · refine (Ent.adopt (j := 0) (c := 1) rfl rfl rfl 5 1 (by omega) (fun _ => [])).trans ?_
    refine ent_ks [0, 1] (by simp) (by simp) (by simp) (by simp) trivial ?_ ?_
    · simp [go_sem]
      exact cl
    · simp [go_sem, rend, bp]
  · obtain ⟨i, u⟩ := p
    simp only at hp
    have bpr : ∀ g : Nat → Nat, g 0 = 0 → ren1 g (bp u) = bp u := fun g h => by cases u <;> simp [bp, ren1, h]
    have bpc : ∀ f : Nat → Nat, ∀ m, 0 < m → f 0 = 0 → Rn f m (bp u) (bp u) := fun f m h1 h2 => by
      cases u
      · exact .closed _ (.lit _)
      · have := Rn.ptr (f := f) (m := m) 0 2 0 0 h1
        rw [h2] at this
        exact this
    simp [go_sem]
    refine ⟨fun h => ?_, fun h => ?_⟩
    · have hs := tokSum_take l i h
      rcases ho : l.getD i default with ⟨k, g, z⟩
      rw [ho] at hs
      have e : tokCells l i = [.lit (.int .i64 k), .lit (.string g), .lit (.string z)] := by unfold tokCells; rw [ho]; rfl
      have hr := rend_take l i h
      have hz := rend_size (l.take i)
      have hz2 := tokSum_take_le l (i + 1)
      rw [ho] at hr
      simp only at hr
      simp only [tokSize] at hs
      simp [go_sem, e]
      refine ⟨h, ?_⟩
      refine vcall_share [0, 1] (c_WriteString u (rend (l.take i)) g (by omega)) (by simp) ?_ ?_ trivial ?_
      · simp [go_sem]
      · simp [go_sem]
        exact ⟨bpc _ _ (by omega) rfl, fun i _ => cellsRn_lits rfl⟩
      · rintro av mem maps ⟨rfl, rfl, rfl⟩
        simp [go_sem]
        refine vcall_share [0, 3] (c_WriteString true (rend (l.take i) ++ g) z (by rw [ByteArray.size_append]; omega)) (by simp) ?_ ?_ trivial ?_
        · simp [go_sem]
        · simp [go_sem, bp]
          exact fun i _ => cellsRn_lits rfl
        · rintro av mem maps ⟨rfl, rfl, rfl⟩
          simp [go_sem]
          refine ⟨i + 1, by omega, by omega, .inr ?_⟩
          refine ent_ks [0, 4] (by simp) (by simp) (by simp) (by simp) trivial ?_ ?_
          · simp [go_sem]
            exact ⟨cl, wrap_succ (by omega)⟩
          · simp [go_sem, hr, bp]
            exact .inl fun j hj => byteClosed _ _
    · have e2 : l.take i = l := List.take_of_length_le h
      rw [e2]
      refine vcall_share [0, 1] (c_String (bp u) (rend l)) (by simp) ?_ ?_ trivial ?_
      · simp [go_sem]
      · simp [go_sem]
        exact ⟨bpc _ _ (by omega) rfl, fun i _ => cellsRn_lits rfl⟩
      · rintro av mem maps ⟨rfl, rfl, rfl⟩
        simp [go_sem]
end Go.Proofs.Ytcnmgfbafcnkhaa.V
/- Contracts: the law of Render. -/
namespace Go.Proofs.Ytcnmgfbafcnkhaa.V
open Go.RowKit
set_option linter.unusedVariables false
set_option linter.unusedSimpArgs false
set_option linter.constructorNameAsVariable false
end Go.Proofs.Ytcnmgfbafcnkhaa.V
/- Contracts: the law of Roles. -/
namespace Go.Proofs.Ytcnmgfbafcnkhaa.V
open Go.RowKit
set_option linter.unusedVariables false
set_option linter.unusedSimpArgs false
set_option linter.constructorNameAsVariable false
theorem c_RolesO (l : List POp) (hl : l.length ≤ 9223372036854775807) (hw : opsWf l) (t : List PTok) (ht : t.length ≤ 1048576) (hz : ∀ i, i < t.length → (tokAt t i).text.size ≤ maxLen) : VFun Try.prog 9 [.agg [.sl 4 l.length (opCells l)], .sl 3 t.length (tokCells t)] (fun av obs => av = .tup [.own 0, .lit (.int .i64 (rolesZ l t).2)] ∧ obs = [⟨3, 1, (rolesZ l t).1.length, intCells (rolesZ l t).1⟩]) := by
  refine (c_Roles l hl hw t ht hz).adopt 3 1 (by omega) (intCells []) fun av obs h => ?_
  rcases h with ⟨x, h1, rfl, rfl⟩ | h1
  · refine .inr ⟨_, rfl, rfl, ?_⟩
    rw [h1]
    exact ⟨rfl, rfl⟩
  · exact .inl h1
theorem rolesZ_len (l : List POp) (t : List PTok) : (rolesZ l t).1.length ≤ t.length := by
  unfold rolesZ
  split
  · simp
  · split
    · simp
    · split
      · simp [rolesUp_len]
      · simp
end Go.Proofs.Ytcnmgfbafcnkhaa.V
/- Plain law: the tokens of a text, rendered, are the text. -/
namespace Go.Proofs.Ytcnmgfbafcnkhaa.V
open Go.RowKit
set_option linter.unusedVariables false
set_option linter.unusedSimpArgs false
set_option linter.constructorNameAsVariable false
theorem ext_app (z : ByteArray) {f i k : Nat} (h1 : f ≤ i) (h2 : i ≤ k) : z.extract f i ++ z.extract i k = z.extract f k := by
  apply ByteArray.ext
  simp only [ByteArray.data_append, ByteArray.data_extract]
  rw [Array.extract_append_extract]
  congr 1 <;> omega
theorem rend_cons (o : PTok) (l : List PTok) : rend (o :: l) = o.gap ++ o.text ++ rend l := by
  have gen : ∀ (l : List PTok) (b : ByteArray), l.foldl (fun b o => b ++ o.gap ++ o.text) b = b ++ l.foldl (fun b o => b ++ o.gap ++ o.text) ByteArray.empty := by
    intro l
    induction l with
    | nil => intro b; simp
    | cons o l ih =>
      intro b
      simp only [List.foldl_cons]
      rw [ih (b ++ o.gap ++ o.text), ih (ByteArray.empty ++ o.gap ++ o.text)]
      simp [ByteArray.append_assoc]
  unfold rend
  simp only [List.foldl_cons]
  rw [gen]
  simp
theorem rend_lexFrom (l : List POp) (z : ByteArray) (f : Nat) (hf : f ≤ z.size) : rend (lexFrom l z f) = z.extract f z.size := by
  generalize hn : z.size - f = n
  induction n using Nat.strongRecOn generalizing f with
  | ind n ih =>
    have hr := run_le isBl z f hf
    by_cases h : f + run isBl z f < z.size
    · rw [lexFrom_go rfl h, rend_cons]
      have hg := longest_ge l z (f + run isBl z f)
      have hl := longest_le l z (f + run isBl z f) h
      obtain ⟨i, hi⟩ : ∃ i, i = f + run isBl z f := ⟨_, rfl⟩
      rw [← hi] at hg hl h hr ⊢
      have hfi : f ≤ i := by omega
      obtain ⟨j, hj⟩ : ∃ j, j = i + longest l z i := ⟨_, rfl⟩
      rw [← hj] at hl ⊢
      simp only
      rw [ih (z.size - j) (by omega) j hl rfl, ext_app z hfi (by omega), ext_app z (by omega) hl]
    · have e : f + run isBl z f = z.size := by omega
      rw [lexFrom_end rfl h, rend_cons, e]
      simp only [rend, List.foldl_nil]
      rw [show (⟨#[]⟩ : ByteArray) = ByteArray.empty from rfl, ByteArray.append_empty, ByteArray.append_empty]
theorem rend_lexZ {l : List POp} {z : ByteArray} (h : lexOk l z = true) : rend (lexZ l z) = z := by
  rw [lexZ, if_pos h, rend_lexFrom l z 0 (by omega)]
  exact ByteArray.extract_zero_size
end Go.Proofs.Ytcnmgfbafcnkhaa.V
/- Contracts: the law of Lexed. -/
namespace Go.Proofs.Ytcnmgfbafcnkhaa.V
open Go.RowKit
set_option linter.unusedVariables false
set_option linter.unusedSimpArgs false
set_option linter.constructorNameAsVariable false
theorem lexTab_ok {r : Rd} (hr : r.ok) : (lexTab r).1.length ≤ 501 ∧ (∀ o, o ∈ (lexTab r).1 → o.text.size ≤ 17) ∧ (lexTab r).2.ok := by
  have h1 := drawTab_txt r.nx
  have h2 := drawTab_len r.nx
  have h3 := drawTab_ok (Rd.nx_ok hr)
  unfold lexTab
  split
  · exact ⟨spoilTab_len h2 _, spoilTab_txt h1 _, spoilRd_ok h3⟩
  · exact ⟨by omega, fun o ho => by have := h1 o ho; omega, h3⟩
theorem drawnLex_ok {N : Nat} {f : Nat → Nat} (hf : ∀ i, f i < 256) {l : List POp} {z : ByteArray} (h : DrawnLex N f l z) : l.length ≤ 501 ∧ opsWf l ∧ z.size ≤ 200000 := by
  have hr := rdOf_ok N f hf
  obtain ⟨rfl, i, hi, rfl⟩ := h
  obtain ⟨h1, h2, h3⟩ := lexTab_ok hr
  have hz : ∀ j, j < (lexTab (rdOf N f)).1.length → (opAt (lexTab (rdOf N f)).1 j).text.size ≤ 100 := fun j hj => by have := h2 _ (opAt_mem hj); omega
  have hs := lexN_size hz (⟨#[]⟩, (lexTab (rdOf N f)).2) i
  have hw := lexN_few (l := (lexTab (rdOf N f)).1) (q := (⟨#[]⟩, (lexTab (rdOf N f)).2)) h3 hi.1
  have ho := lexN_ok (l := (lexTab (rdOf N f)).1) (q := (⟨#[]⟩, (lexTab (rdOf N f)).2)) h3 i
  have e0 : (⟨#[]⟩ : ByteArray).size = 0 := rfl
  simp only [e0] at hs
  have hp := ho.2.1
  have hn := ho.1
  refine ⟨h1, fun j hj => ?_, ?_⟩
  · have := h2 _ (opAt_mem hj)
    unfold POp.wf
    simp only [maxLen]
    omega
  · unfold lexOut padT
    have hm : (rdOf N f).v / 16 % 3 < 3 := Nat.mod_lt _ (by decide)
    split
    · rw [padN_size]
      omega
    · omega
theorem lexZ_texts {l : List POp} {z : ByteArray} (hz : z.size ≤ 200000) : (lexZ l z).length ≤ 200001 ∧ tokSum (lexZ l z) ≤ 200000 := by
  unfold lexZ
  split
  · rename_i h
    have h1 := lexFrom_len l z 0 (by omega)
    have h2 := rend_lexFrom l z 0 (by omega)
    have h3 := rend_size (lexFrom l z 0)
    rw [h2] at h3
    have h4 := ext_size_le z 0 z.size
    exact ⟨by omega, by omega⟩
  · exact ⟨by simp, by simp [tokSum]⟩
theorem tok_le {l : List PTok} {i : Nat} (hi : i < l.length) : tokSize (tokAt l i) ≤ tokSum l := by
  induction l generalizing i with
  | nil => simp at hi
  | cons o l ih =>
    unfold tokSum at *
    cases i with
    | zero => simp [tokAt]
    | succ i =>
      have := ih (i := i) (by simpa using hi)
      simp only [List.map_cons, List.sum_cons]
      have e : tokAt (o :: l) (i + 1) = tokAt l i := by simp [tokAt]
      rw [e]
      omega
theorem c_FnLexed (N : Nat) (f : Nat → Nat) (hN : N ≤ maxLen) (hf : ∀ i, f i < 256) : VFun Try.prog 3 [.sl 1 N (rdCells f)] (fun av _ => av = .lit (.bool true)) := by
  have clf : ∀ (i : Nat) (c : AV), i < N → c ∈ rdCells f i → Closed c := fun i c _ h => rdClosed f i c h
  have hN' : N ≤ 9223372036854775807 := by simpa [maxLen] using hN
  refine vfun_start Try.func3 (by kernel_rfl) rfl (by simp [Try.ntmps3]) ?_; simp only [Try.ntmps3, Try.results3]; simp [go_sem]
  refine ⟨by omega, fun hbig => ?_⟩
  refine vcall_use (c_DrawLex N f hN' hf) ?_ ?_
  · simp [go_sem]
    exact argSl_refl (by omega) clf
  · rintro av obs ⟨l, z, hD, rfl, rfl⟩
    obtain ⟨hl, hw, hz⟩ := drawnLex_ok hf hD
    obtain ⟨ht1, ht2⟩ := lexZ_texts (l := l) hz
    have cl : ∀ (i : Nat) (c : AV), i < l.length → c ∈ opCells l i → Closed c := fun i c _ h => opClosed l i c h
    have clt : ∀ (i : Nat) (c : AV), i < (lexZ l z).length → c ∈ tokCells (lexZ l z) i → Closed c := fun i c _ h => tokClosed _ i c h
    have htk : ∀ i, i < (lexZ l z).length → (tokAt (lexZ l z) i).text.size ≤ maxLen := fun i hi => by
      have := tok_le hi
      simp only [tokSize] at this
      simp only [maxLen]
      omega
    simp [go_sem]
    refine vcall_use (c_specLex l (by omega) hw z (by omega)) ?_ ?_
    · simp [go_sem]
      exact argSl_own (k := 0) rfl (by omega) cl
    · rintro av obs ⟨rfl, rfl⟩
      simp [go_sem]
      refine vcall_use (c_DrawLex N f hN' hf) ?_ ?_
      · simp [go_sem]
        exact argSl_refl (by omega) clf
      · rintro av obs ⟨l', z', hD', rfl, rfl⟩
        obtain ⟨rfl, rfl⟩ := hD.one hD'
        simp [go_sem]
        refine vcall_use (c_LexO l (by omega) hw z (by omega)) ?_ ?_
        · simp [go_sem]
          exact argSl_own (k := 3) rfl (by omega) cl
        · rintro av obs ⟨rfl, rfl⟩
          simp [go_sem]
          refine ⟨fun hno => ?_, fun hyes => ?_⟩
          · exact ⟨by omega, by simp [lexZ, hno]⟩
          · have hren := rend_lexZ hyes
            refine vcall_use (c_specRoles l (by omega) hw (lexZ l z) (by omega)) ?_ ?_
            · simp [go_sem]
              exact ⟨argSl_own (k := 0) rfl (by omega) cl, argSl_own (k := 2) rfl (by omega) clt⟩
            · rintro av obs ⟨rfl, rfl⟩
              simp [go_sem]
              refine vcall_use (c_RolesO l (by omega) hw (lexZ l z) (by omega) htk) ?_ ?_
              · simp [go_sem]
                exact ⟨argSl_own (k := 3) rfl (by omega) cl, argSl_own (k := 5) rfl (by omega) clt⟩
              · rintro av obs ⟨rfl, rfl⟩
                simp [go_sem]
                refine vcall_pure (c_Render (lexZ l z) (by omega)) ?_ ?_
                · simp [go_sem]
                  exact argSl_own (k := 5) rfl (by omega) clt
                · rw [hren]
                  simp [go_sem]
                  omega
set_option maxRecDepth 100000 in
theorem shape_bytes (n : Nat) (xs : List AV) (h : Shape Try.prog (n + 2) 22 xs) : ∃ (m : Nat) (g : Nat → Nat), m ≤ maxLen ∧ (∀ i, g i < 256) ∧ ∃ f, xs = [.sl 1 m f] ∧ ∀ i, i < m → f i = rdCells g i := by
  obtain ⟨m, f, rfl, hm, hf⟩ := shape_slice Try.underlying22 h
  have each : ∀ i, i < m → ∃ b : Nat, b < 256 ∧ f i = [.lit (.int .u8 b)] := by
    intro i hi
    obtain ⟨b, e, hb⟩ := shape_int Try.underlying5 (hf i hi).2
    have h8 : IntKind.u8.bits = 8 := rfl
    simp [Lit.wf, IntKind.min, IntKind.max, IntKind.signed, h8] at hb
    refine ⟨b.toNat, by omega, ?_⟩
    rw [e, Int.toNat_of_nonneg (by omega)]
  refine ⟨m, fun i => if h : i < m then (each i h).choose else 0, hm, fun i => ?_, f, rfl, fun i hi => ?_⟩
  · by_cases h : i < m
    · simp only [dif_pos h]; exact (each i h).choose_spec.1
    · simp only [dif_neg h]; omega
  · simp only [rdCells, dif_pos hi]
    exact (each i hi).choose_spec.2
end Go.Proofs.Ytcnmgfbafcnkhaa.V
