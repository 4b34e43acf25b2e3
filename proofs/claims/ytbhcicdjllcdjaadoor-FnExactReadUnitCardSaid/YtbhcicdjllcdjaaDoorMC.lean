import Derived.Test.YtbhcicdjllcdjaaDoorMT
import Derived.Test.YtbhcicdjllcdjaaDoorMB
import Derived.Test.YtbhcicdjllcdjaaDoorShelf
import Derived.DeepKeys5
import Derived.Maps.RangeRun
import Derived.Lib.Split
import Derived.Shelf.Strings.SlTrimAscii
import Derived.Shelf.Strings.SplitShaped
import Derived.Lib.Atoi
import Derived.Lib.AtoiErrMem
namespace Go.Proofs.YtbhcicdjllcdjaaDoor.V
open Go.RowKit
set_option linter.unusedVariables false
set_option linter.unusedSimpArgs false
theorem wrap_i64 {n : Int} (h : -9223372036854775808 ≤ n ∧ n ≤ 9223372036854775807) : IntKind.i64.wrap n = n := by
  rw [IntKind.wrap_i64]; omega
theorem wrap_succ {i : Nat} (h : i < 9223372036854775807) : IntKind.i64.wrap ((i : Int) + 1) = ((i + 1 : Nat) : Int) := by
  rw [wrap_i64 (by omega)]; omega
end Go.Proofs.YtbhcicdjllcdjaaDoor.V
namespace Go.Proofs.YtbhcicdjllcdjaaDoor.V
open Go.RowKit
set_option linter.unusedVariables false
set_option linter.unusedSimpArgs false
structure POp where
  text : ByteArray
  kind : Int
  level : Int
  side : Int
def POp.cells (o : POp) : List AV := [.lit (.string o.text), .lit (.int .i64 o.kind), .lit (.int .i64 o.level), .lit (.int .i64 o.side)]
def POp.wf (o : POp) : Prop := o.text.size ≤ maxLen
end Go.Proofs.YtbhcicdjllcdjaaDoor.V
namespace Go.Proofs.YtbhcicdjllcdjaaDoor.V
open Go.RowKit
set_option linter.unusedVariables false
set_option linter.unusedSimpArgs false
set_option linter.constructorNameAsVariable false
theorem laidOut : laidOutB Tryd.prog = true := by kernel_rfl
theorem fullSlices : ∀ t e, t < Tryd.prog.types.size → Tryd.prog.underlying t = some (.slice e) → 0 < Tryd.prog.cellsOf e := slices_full_of Tryd.prog (by kernel_rfl)
theorem own : ownKnob Tryd.prog.godebug = none := by kernel_rfl
theorem each_of {α : Type} {p : α → Bool} {l : List α} (h : l.all p = true) : ∀ x, x ∈ l → p x = true := List.all_eq_true.mp h
end Go.Proofs.YtbhcicdjllcdjaaDoor.V
namespace Go.Proofs.YtbhcicdjllcdjaaDoor.V
open Go.RowKit
set_option linter.unusedVariables false
set_option linter.unusedSimpArgs false
set_option linter.constructorNameAsVariable false
structure PTok where
  kind : Int
  gap : ByteArray
  text : ByteArray
  deriving Inhabited
def PTok.cells (o : PTok) : List AV := [.lit (.int .i64 o.kind), .lit (.string o.gap), .lit (.string o.text)]
def tokCells (l : List PTok) (i : Nat) : List AV := (l.getD i default).cells
end Go.Proofs.YtbhcicdjllcdjaaDoor.V
namespace Go.Proofs.YtbhcicdjllcdjaaDoor.V
open Go.RowKit
set_option linter.unusedVariables false
set_option linter.unusedSimpArgs false
set_option linter.constructorNameAsVariable false
theorem ba_beq (a b : ByteArray) : (a == b) = decide (a = b) := by
  rw [Bool.eq_iff_iff, decide_eq_true_iff]
  exact MapKept.bytes_beq a b
theorem ba_toList (a b : ByteArray) : a.toList = b.toList ↔ a = b := by
  constructor
  · intro h
    rw [Go.ByteArray.toList_eq, Go.ByteArray.toList_eq] at h
    exact ByteArray.ext (Array.toList_inj.1 h)
  · rintro rfl; rfl
theorem argSl_refl {mem : List (Option Ob)} {sz n : Nat} {f : Nat → List AV} (hsz : 0 < sz) (h : ∀ (i : Nat) c, i < n → c ∈ f i → Closed c) : ArgSl mem (.sl sz n f) sz n f :=
  ⟨hsz, f, by simp [contents], fun i hi => ⟨rfl, fun c hc => h i c hi hc⟩⟩
instance : Inhabited POp := ⟨⟨⟨#[]⟩, 0, 0, 0⟩⟩
def opCells (l : List POp) (i : Nat) : List AV := (l.getD i default).cells
theorem opClosed (l : List POp) (i : Nat) (c : AV) (h : c ∈ opCells l i) : Closed c := by
  simp [opCells, POp.cells] at h
  rcases h with rfl | rfl | rfl | rfl <;> exact .lit _
theorem opLit (l : List POp) (i : Nat) : (opCells l i).all isLit = true := rfl
def opEq (a b : POp) : Bool := a.text == b.text && a.kind == b.kind && a.level == b.level && a.side == b.side
theorem c_eqOp (a b : POp) : VFun Tryd.prog 25 [.agg a.cells, .agg b.cells] (fun av obs => obs = [] ∧ av = .lit (.bool (opEq a b))) := by
  obtain ⟨z, k, l, s⟩ := a
  obtain ⟨z', k', l', s'⟩ := b
  simp only [POp.cells]
  refine vfun_start Tryd.func25 (by kernel_rfl) rfl (by simp [Tryd.ntmps25]) ?_; simp only [Tryd.ntmps25, Tryd.results25]; simp [go_sem]
  simp only [opEq, ba_toList, ba_beq]
  by_cases h1 : z = z' <;> by_cases h2 : k = k' <;> by_cases h3 : l = l' <;> by_cases h4 : s = s' <;> simp [h1, h2, h3, h4]
end Go.Proofs.YtbhcicdjllcdjaaDoor.V
namespace Go.Proofs.YtbhcicdjllcdjaaDoor.V
open Go.RowKit
set_option linter.unusedVariables false
set_option linter.unusedSimpArgs false
set_option linter.constructorNameAsVariable false
def opAt (l : List POp) (i : Nat) : POp := l.getD i default
theorem opCells_at (l : List POp) (i : Nat) : opCells l i = [.lit (.string (opAt l i).text), .lit (.int .i64 (opAt l i).kind), .lit (.int .i64 (opAt l i).level), .lit (.int .i64 (opAt l i).side)] := rfl
def opsEq (a b : List POp) : Bool := decide (a.length = b.length) && (List.range a.length).all fun i => opEq (opAt a i) (opAt b i)
theorem opsEq_false {a b : List POp} {i : Nat} (h : i < a.length) (e : opEq (opAt a i) (opAt b i) = false) : opsEq a b = false := by
  simp only [opsEq, Bool.and_eq_false_iff, List.all_eq_false, List.mem_range]
  exact .inr ⟨i, h, by rw [e]; simp⟩
theorem opsEq_true {a b : List POp} (hl : a.length = b.length) (h : ∀ i, i < a.length → opEq (opAt a i) (opAt b i) = true) : opsEq a b = true := by
  simp only [opsEq, Bool.and_eq_true, decide_eq_true_eq, List.all_eq_true, List.mem_range]
  exact ⟨hl, h⟩
theorem c_eqOpS (a b : List POp) (ha : a.length ≤ 9223372036854775807) (hb : b.length ≤ 9223372036854775807) : VFun Tryd.prog 14 [.sl 4 a.length (opCells a), .sl 4 b.length (opCells b)] (fun av obs => obs = [] ∧ av = .lit (.bool (opsEq a b))) := by
  refine vfun_start Tryd.func14 (by kernel_rfl) rfl (by simp [Tryd.ntmps14]) ?_; simp only [Tryd.ntmps14, Tryd.results14]; simp [go_sem]
  refine ⟨by omega, by omega, fun h1 => ?_, fun h1 => ?_⟩
  · simp [opsEq]; omega
  · refine vc_loop (fun i : Nat => i ≤ a.length ∧ ∀ j, j < i → opEq (opAt a j) (opAt b j) = true) (fun i => a.length - i) (fun i => .of [(0, .sl 4 a.length (opCells a)), (1, .sl 4 b.length (opCells b)), (4, .lit (.bool false)), (5, .lit (.int .i64 i))] []) ⟨0, ⟨by omega, by simp⟩, ?_⟩ (fun i hi => ?_)
    · simp [go_sem]
      exact ⟨fun i c _ h => opClosed a i c h, fun i c _ h => opClosed b i c h⟩
    · simp [go_sem]
      refine ⟨by omega, fun h => ?_, fun h => ?_⟩
      · refine vc_drawn [] (.q 0 <| .q 1 <| .q 2 <| .q 3 <| .q 4 <| .q 5 <| .q 6 <| .q 7 <| .or 8 (.q 9 <| .done) (.nil)) (by kernel_rfl) ?_
        simp [go_sem, opCells_at]
        refine ⟨h, by omega, vcallV_pure (c_eqOp (opAt a i) (opAt b i)) ?_ ?_⟩
        · simp [go_sem, POp.cells]
        · simp [go_sem]
          refine ⟨fun e => opsEq_false h e, fun e => ⟨i + 1, ⟨by omega, fun j hj => ?_⟩, by omega, ⟨fun i c _ h => opClosed a i c h, fun i c _ h => opClosed b i c h, wrap_succ (by omega)⟩⟩⟩
          rcases Nat.lt_succ_iff_lt_or_eq.mp hj with hj | rfl
          · exact hi.2 j hj
          · exact e
      · exact opsEq_true (by omega) fun j hj => hi.2 j (by omega)
end Go.Proofs.YtbhcicdjllcdjaaDoor.V
namespace Go.Proofs.YtbhcicdjllcdjaaDoor.V
open Go.RowKit
open Go.Maps (Keyed)
set_option linter.unusedVariables false
set_option linter.unusedSimpArgs false
set_option linter.constructorNameAsVariable false
theorem keyOf_struct {P : Program} {k : TypeId} {fs : Array Field} {cs : Array Value} (hu : P.underlying k = some (.struct fs)) (hkt : P.keyType k = true) (hc : cs.size = P.cellsOf k) (hn : fs.all (·.name != "_") = true) (hsz : 1 ≤ P.types.size)
    (hm : ∀ d, ∃ lss, (fs.toList.mapM fun f => P.keyLits (d + 1) f.type ((cs.toList.drop f.offset).take (P.cellsOf f.type))) = some lss) : ∃ l, keyOf P k (.agg cs) = some l := by
  obtain ⟨n, hn1⟩ : ∃ n, P.types.size = n + 1 := ⟨P.types.size - 1, by omega⟩
  obtain ⟨lss, hl⟩ := hm n
  have h1 : P.keyLits (P.types.size + 1) k cs.toList = some lss.flatten := by
    rw [hn1]
    unfold Program.keyLits
    simp only [hu, Array.length_toList, hc, hn, and_self, if_true, hl, Option.map_some]
  refine ⟨.string (keyBytes lss.flatten), ?_⟩
  unfold keyOf
  rw [hu]
  simp only [hkt, Value.formed, hu, hc, beq_self_eq_true, Bool.and_self, if_true, Value.cells, h1, Option.map_some]
theorem keyLits_str {P : Program} {t : TypeId} (hu : P.underlying t = some .string) {z : ByteArray} (h : z.size ≤ maxLen) (d : Nat) : P.keyLits (d + 1) t [.string z] = some [.string z.data.toList] := by
  unfold Program.keyLits; simp only [hu, if_pos h]
theorem int_wf {n : Int} (h : -9223372036854775808 ≤ n ∧ n ≤ 9223372036854775807) : (Lit.int .i64 n).wf = true := by
  simp only [Lit.wf, IntKind.min, IntKind.max, IntKind.bits, IntKind.signed, decide_eq_true_eq, Bool.and_eq_true]
  exact h
theorem keyLits_int {P : Program} {t : TypeId} (hu : P.underlying t = some (.int .i64)) {n : Int} (h : -9223372036854775808 ≤ n ∧ n ≤ 9223372036854775807) (d : Nat) : P.keyLits (d + 1) t [.int .i64 n] = some [.int .i64 n] := by
  unfold Program.keyLits; simp only [hu, int_wf h, and_self, if_true]
theorem size1 : 1 ≤ Tryd.prog.types.size := of_decide_eq_true (by kernel_rfl)
theorem co_string : Tryd.prog.cellsOf 9 = 1 := by kernel_rfl
theorem co_int : Tryd.prog.cellsOf 3 = 1 := by kernel_rfl
end Go.Proofs.YtbhcicdjllcdjaaDoor.V
namespace Go.Proofs.YtbhcicdjllcdjaaDoor.V
open Go.RowKit
set_option linter.unusedVariables false
set_option linter.unusedSimpArgs false
set_option linter.constructorNameAsVariable false
theorem opEq_refl (a : POp) : opEq a a = true := by simp [opEq, ba_beq]
theorem opsEq_refl (a : List POp) : opsEq a a = true := opsEq_true rfl fun i _ => opEq_refl _
end Go.Proofs.YtbhcicdjllcdjaaDoor.V
namespace Go.Proofs.YtbhcicdjllcdjaaDoor.V
open Go.RowKit
set_option linter.unusedVariables false
set_option linter.unusedSimpArgs false
set_option linter.constructorNameAsVariable false
def digB (d : Nat) : ByteArray := ⟨#[(48 + d).toUInt8]⟩
theorem digB_cells (d : Nat) (h : d < 10) : [.lit (.int .u8 (48 + d))] = byteCells (digB d) 0 := by
  have e : byteAt (digB d) 0 = 48 + d := by
    have h1 : 0 < (digB d).size := by show 0 < 1; omega
    unfold byteAt
    rw [dif_pos h1]
    have : ((digB d)[0]'h1) = (48 + d).toUInt8 := rfl
    rw [this]
    simp [Nat.toUInt8]
    omega
  simp only [byteCells, e]
def digs (k : Nat) (acc : ByteArray) : ByteArray := if h : k = 0 then acc else digs (k / 10) (digB (k % 10) ++ acc)
termination_by k
decreasing_by omega
theorem digs_zero (acc : ByteArray) : digs 0 acc = acc := by rw [digs]; simp
theorem digs_pos {k : Nat} (h : 0 < k) (acc : ByteArray) : digs k acc = digs (k / 10) (digB (k % 10) ++ acc) := by
  conv => lhs; rw [digs]
  rw [dif_neg (by omega)]
def mtext (k : Nat) : ByteArray := ⟨#[109]⟩ ++ digs k ⟨#[]⟩
theorem u8_small {n : Int} (h : 0 ≤ n ∧ n < 256) : IntKind.u8.wrap n = n := by
  simp only [IntKind.wrap, IntKind.bits, IntKind.signed]
  simp
  omega
theorem c_markText (k : Nat) (h : 0 < k ∧ k ≤ 9223372036854775000) : VFun Tryd.prog 26 [.lit (.int .i64 k)] (fun av obs => obs = [] ∧ av = .lit (.string (mtext k))) := by
  refine vfun_start Tryd.func26 (by kernel_rfl) rfl (by simp [Tryd.ntmps26]) ?_; simp only [Tryd.ntmps26, Tryd.results26]; simp [go_sem]
  refine ⟨by omega, fun _ => ?_⟩
  refine vc_loop (fun p : Nat × ByteArray => digs p.1 p.2 = digs k ⟨#[]⟩ ∧ p.2.size + p.1 ≤ k) (fun p => p.1) (fun p => .of [(0, .lit (.int .i64 p.1)), (3, .lit (.string p.2))] []) ⟨(k, ⟨#[]⟩), ⟨rfl, by show 0 + k ≤ k; omega⟩, ?_⟩ (fun p hp => ?_)
  · simp [go_sem]
  · obtain ⟨q, out⟩ := p
    simp only at hp
    simp [go_sem]
    refine ⟨fun h1 => ?_, fun h1 w => ?_⟩
    · refine ⟨digB (q % 10), rfl, ?_, ?_⟩
      · have e : (q : Int).tmod 10 = ((q % 10 : Nat) : Int) := by rw [Int.tmod_eq_emod_of_nonneg (by omega)]; omega
        rw [e, wrap_i64 (by omega), u8_small (by omega)]
        exact digB_cells (q % 10) (by omega)
      · refine ⟨_, fun w => if_neg ?_, q / 10, _, ⟨?_, ?_⟩, by omega, ?_, rfl⟩
        · have : (digB (q % 10)).size = 1 := rfl
          omega
        · rw [← digs_pos h1]; exact hp.1
        · have : (digB (q % 10)).size = 1 := rfl
          rw [ByteArray.size_append]
          omega
        · rw [wrap_i64 (by omega)]; omega
    · subst h1
      rw [if_neg (by omega)]
      have h2 := hp.1
      rw [digs_zero] at h2
      rw [h2]; rfl
end Go.Proofs.YtbhcicdjllcdjaaDoor.V
namespace Go.Proofs.YtbhcicdjllcdjaaDoor.V
open Go.RowKit
set_option linter.unusedVariables false
set_option linter.unusedSimpArgs false
set_option linter.constructorNameAsVariable false
theorem map_lits {g : Nat → Nat} : ∀ {l : List AV}, l.all isLit = true → l.map (ren1 g) = l
  | [], _ => rfl
  | a :: r, h => by
    simp only [List.all_cons, Bool.and_eq_true] at h
    simp only [List.map_cons, map_lits h.2]
    cases a <;> simp [isLit] at h
    rfl
theorem flat_lits : ∀ {l : List AV}, l.all isLit = true → l.all flat1 = true
  | [], _ => rfl
  | a :: r, h => by
    simp only [List.all_cons, Bool.and_eq_true] at h ⊢
    refine ⟨?_, flat_lits h.2⟩
    cases a <;> simp [isLit] at h
    rfl
theorem outAt_lits {idx : Nat → Nat} {ks : List Nat} {ty sz n : Nat} {f f' : Nat → List AV} (h : ∀ i, i < n → f i = f' i) (hl : ∀ i, i < n → (f' i).all isLit = true) : OutAt idx ks ⟨ty, sz, n, f'⟩ (some (some ⟨ty, sz, n, f⟩)) := by
  refine ⟨rfl, rfl, rfl, fun i hi => ⟨?_, flatC_all (flat_lits (hl i hi)), fun c hc q hq => ?_⟩⟩
  · simp only
    rw [h i hi]; exact map_lits (hl i hi)
  · simp only at hc
    rw [h i hi] at hc
    have := List.all_eq_true.1 (hl i hi) c hc
    cases c <;> simp [isLit] at this
    simp [owns1] at hq
def markRow (k i : Nat) : POp := ⟨mtext (k + 4 * i), (k + 4 * i + 1 : Nat), (k + 4 * i + 2 : Nat), (k + 4 * i + 3 : Nat)⟩
def markCells (k i : Nat) : List AV := (markRow k i).cells
def markFill (l : List POp) (k i j : Nat) : List AV := if j < i then markCells k j else opCells l j
theorem markFill_bd (l : List POp) (k i j m : Nat) : ∀ c, c ∈ markFill l k i j → Bd m c := by
  intro c h
  unfold markFill at h
  split at h
  · simp [markCells, POp.cells] at h
    rcases h with rfl | rfl | rfl | rfl <;> exact .closed _ (.lit _)
  · exact .closed _ (opClosed l j c h)
theorem c_markOpS (l : List POp) (k : Nat) (hl : l.length ≤ 1048576) (hk : 0 < k ∧ k ≤ 1000000000) : VProc Tryd.prog 16 [.own 0, .lit (.int .i64 k)] [some ⟨37, 4, l.length, opCells l⟩] [] (fun av mem maps => av = .lit (.int .i64 (k + 4 * l.length : Nat)) ∧ mem = [some ⟨37, 4, l.length, markCells k⟩] ∧ maps = []) := by
  refine vproc_start Tryd.func16 (by kernel_rfl) rfl (by simp [Tryd.ntmps16]) ?_; simp only [Tryd.ntmps16, Tryd.results16]; simp [go_sem]
  refine vc_loop (fun i : Nat => i ≤ l.length) (fun i => l.length - i) (fun i => ⟨[(0, .own 0), (1, .lit (.int .i64 (k + 4 * i : Nat))), (5, .lit (.int .i64 i))], [some ⟨37, 4, l.length, markFill l k i⟩], [], 1⟩) ⟨0, by omega, ?_⟩ (fun i hi => ?_)
  · simp [go_sem, markFill]
    exact fun i h c hc => .closed _ (opClosed l i c hc)
  · simp [go_sem]
    refine ⟨by omega, fun h => vcall_pure (c_markText (k + 4 * i) (by omega)) ?_ ?_, fun h => ?_⟩
    · simp [go_sem]
    · simp [go_sem]
      simp only [wrap_i64 (n := (k : Int) + 4 * i + 1) (by omega), wrap_i64 (n := (k : Int) + 4 * i + 1 + 1) (by omega), wrap_i64 (n := (k : Int) + 4 * i + 1 + 1 + 1) (by omega), wrap_i64 (n := (k : Int) + 4 * i + 1 + 1 + 1 + 1) (by omega)]
      refine ⟨h, i + 1, by omega, by omega, ⟨by omega, wrap_succ (by omega)⟩, fun j hj => ⟨?_, markFill_bd _ _ _ _ _⟩⟩
      simp only [updF_at h hj, updF_at h h, if_true]
      by_cases hji : j = i
      · subst hji
        simp only [if_true, markFill, Nat.lt_irrefl, if_false, Nat.lt_succ_self]
        simp [opCells_at, splice, markCells, markRow, POp.cells, Nat.add_assoc]
        omega
      · simp only [if_neg hji, markFill]
        by_cases h2 : j < i
        · rw [if_pos h2, if_pos (by omega)]
        · rw [if_neg h2, if_neg (by omega)]
    · have : i = l.length := by omega
      subst this
      refine ⟨rfl, [], [some ⟨37, 4, l.length, markCells k⟩], by simp, by simp, by simp [go_sem], ?_, by simp [go_sem], ?_⟩
      · simp [go_sem]
        exact outAt_lits (fun i hi => by simp only [markFill, if_pos hi]) (fun i _ => rfl)
      · simp [go_sem]
@[go_sem] theorem markCells_ren {g : Nat → Nat} {k i : Nat} : (markCells k i).map (ren1 g) = markCells k i := map_lits rfl
@[go_sem] theorem opCells_ren {g : Nat → Nat} {l : List POp} {i : Nat} : (opCells l i).map (ren1 g) = opCells l i := map_lits rfl
theorem cellsRn_lits {f : Nat → Nat} {m : Nat} : ∀ {l : List AV}, l.all isLit = true → CellsRn f m l l
  | [], _ => trivial
  | a :: r, h => by
    simp only [List.all_cons, Bool.and_eq_true] at h
    exact ⟨.closed _ (.of_lit h.1), cellsRn_lits h.2⟩
end Go.Proofs.YtbhcicdjllcdjaaDoor.V
namespace Go.Proofs.YtbhcicdjllcdjaaDoor.V
open Go.RowKit
set_option linter.unusedVariables false
set_option linter.unusedSimpArgs false
set_option linter.constructorNameAsVariable false
theorem markClosed (k i : Nat) (c : AV) (h : c ∈ markCells k i) : Closed c := by
  simp [markCells, POp.cells] at h
  rcases h with rfl | rfl | rfl | rfl <;> exact .lit _
theorem markCells_at (k i : Nat) : markCells k i = [.lit (.string (mtext (k + 4 * i))), .lit (.int .i64 (k + 4 * i + 1 : Nat)), .lit (.int .i64 (k + 4 * i + 2 : Nat)), .lit (.int .i64 (k + 4 * i + 3 : Nat))] := rfl
theorem c_heldOpS (n k : Nat) (hl : n ≤ 1048576) (hk : 0 < k ∧ k ≤ 1000000000) : VFun Tryd.prog 18 [.sl 4 n (markCells k), .lit (.int .i64 k)] (fun av obs => obs = [] ∧ av = .lit (.int .i64 (k + 4 * n : Nat))) := by
  have cl : ∀ (i : Nat) (c : AV), i < n → c ∈ markCells k i → Closed c := fun i c _ h => markClosed k i c h
  refine vfun_start Tryd.func18 (by kernel_rfl) rfl (by simp [Tryd.ntmps18]) ?_; simp only [Tryd.ntmps18, Tryd.results18]; simp [go_sem]
  refine vc_loop (fun i : Nat => i ≤ n) (fun i => n - i) (fun i => .of [(0, .sl 4 n (markCells k)), (1, .lit (.int .i64 (k + 4 * i : Nat))), (5, .lit (.int .i64 i))] []) ⟨0, by omega, ?_⟩ (fun i hi => ?_)
  · simp [go_sem]
    exact cl
  · simp [go_sem]
    refine ⟨by omega, fun h => ?_, fun h => ?_⟩
    · refine vc_drawn [] (.q 0 <| .q 1 <| .q 2 <| .q 3 <| .q 4 <| .q 5 <| .or 6 (.q 7 <| .done) (.nil)) (by kernel_rfl) ?_
      simp [go_sem, markCells_at]
      refine ⟨h, vcallV_pure (c_markText (k + 4 * i) (by omega)) ?_ ?_⟩
      · simp [go_sem]
      · simp [go_sem, markCells_at]
        have e1 := wrap_i64 (n := (k : Int) + 4 * i + 1) (by omega)
        have e2 := wrap_i64 (n := (k : Int) + 4 * i + 1 + 1) (by omega)
        have e3 := wrap_i64 (n := (k : Int) + 4 * i + 1 + 1 + 1) (by omega)
        have e4 := wrap_i64 (n := (k : Int) + 4 * i + 1 + 1 + 1 + 1) (by omega)
        simp only [e1, e2, e3, e4]
        refine ⟨h, fun h1 => absurd trivial h1, fun _ => ⟨h, fun h1 => by omega, fun _ => ⟨h, fun h1 => by omega, fun _ => ⟨i + 1, by omega, by omega, fun i c hi hc => cl i c hi (by simp only [markCells_at]; simpa using hc), by omega, wrap_succ (by omega)⟩⟩⟩⟩
    · omega
end Go.Proofs.YtbhcicdjllcdjaaDoor.V
namespace Go.Proofs.YtbhcicdjllcdjaaDoor.V
open Go.RowKit
set_option linter.unusedVariables false
set_option linter.unusedSimpArgs false
set_option linter.constructorNameAsVariable false
def isDg (c : Int) : Bool := decide (48 ≤ c) && decide (c ≤ 57)
theorem c_l2Digit (c : Int) : VFun Tryd.prog 35 [.lit (.int .u8 c)] (fun av obs => obs = [] ∧ av = .lit (.bool (isDg c))) := by
  refine vfun_start Tryd.func35 (by kernel_rfl) rfl (by simp [Tryd.ntmps35]) ?_; simp only [Tryd.ntmps35, Tryd.results35]; simp [go_sem]
  by_cases h1 : 48 ≤ c <;> by_cases h2 : c ≤ 57 <;> simp [isDg, h1, h2] <;> omega
def numZ (z : ByteArray) : Bool := ((List.range z.size).all fun i => isDg (byteAt z i)) && decide (0 < z.size)
theorem all_false {p : Nat → Bool} {n i : Nat} (h : i < n) (e : p i = false) : (List.range n).all p = false := by
  simp only [List.all_eq_false, List.mem_range]
  exact ⟨i, h, by rw [e]; simp⟩
theorem all_true {p : Nat → Bool} {n : Nat} (h : ∀ i, i < n → p i = true) : (List.range n).all p = true := by
  simp only [List.all_eq_true, List.mem_range]
  exact h
theorem c_l2IsNumber (z : ByteArray) (hz : z.size ≤ 9223372036854775807) : VFun Tryd.prog 27 [.lit (.string z)] (fun av obs => obs = [] ∧ av = .lit (.bool (numZ z))) := by
  refine vfun_start Tryd.func27 (by kernel_rfl) rfl (by simp [Tryd.ntmps27]) ?_; simp only [Tryd.ntmps27, Tryd.results27]; simp [go_sem]
  refine vc_loop (fun i : Nat => i ≤ z.size ∧ ∀ j, j < i → isDg (byteAt z j) = true) (fun i => z.size - i) (fun i => .of [(0, .lit (.string z)), (3, .lit (.int .i64 i))] []) ⟨0, ⟨by omega, by simp⟩, ?_⟩ (fun i hi => ?_)
  · simp [go_sem]
  · simp [go_sem]
    refine ⟨fun h => ⟨h, vcall_pure (c_l2Digit (byteAt z i)) ?_ ?_⟩, fun h => ?_⟩
    · simp [go_sem]
    · simp [go_sem]
      refine ⟨fun e => ?_, fun e => ⟨i + 1, ⟨by omega, fun j hj => ?_⟩, by omega, wrap_succ (by omega)⟩⟩
      · simp only [numZ, all_false (p := fun i => isDg (byteAt z i)) h e, Bool.false_and]
      · rcases Nat.lt_succ_iff_lt_or_eq.mp hj with hj | rfl
        · exact hi.2 j hj
        · exact e
    · simp only [numZ, all_true (p := fun i => isDg (byteAt z i)) (n := z.size) fun j hj => hi.2 j (by omega), Bool.true_and]
end Go.Proofs.YtbhcicdjllcdjaaDoor.V
namespace Go.Proofs.YtbhcicdjllcdjaaDoor.V
open Go.RowKit
set_option linter.unusedVariables false
set_option linter.unusedSimpArgs false
section
variable {P : Program} {n : Nat} {base : Fr} {w0 w : World} {hd : Nat → Value} {s : VS} {a : Act}
def startG (m : Nat) (args : List AV) (N : Nat) (vs0 : Nat → Value) (as0 : Nat → AV) (mem0 : List (Option Ob)) (maps0 : List (Nat × Mp)) : VS :=
  ⟨(m, .fam N vs0 as0) :: (List.range args.length).map fun j => (j, args.getD j .undef), mem0, maps0, mem0.length⟩
def QD (pv : Value) (base : Fr) (w0 : World) (M0 : List (Nat × Mp)) : Exit → Act → World → Prop := fun e a w => e = .panic [{ v := pv, recovered := false }] ∧ a.defers = base.ds ∧ Bel base.may w0 w ∧ MapRel base.P base.may w M0
theorem QD.free {pv : Value} {M0 : List (Nat × Mp)} {base : Fr} {w0 : World} : QFree (QD pv base w0 M0) := fun _ _ d _ _ h => by cases d <;> exact h
end
section
variable {P : Program} {n : Nat} {base : Fr} {w0 : World}
end
section
variable {P : Program} {n : Nat} {s : VS} {pv : Value} {M0 : List (Nat × Mp)} {all r : List Oper} {d : Option Tmp} {op : Op} {ty : TypeId} {ps : String} {af : Array Edge} {g : Option (Nat × Bool)}
section
variable {ι : Type} {I : ι → Prop} {μ : ι → Nat} {S : ι → VS} {i : ι}
end
end
attribute [go_sem] startG
end Go.Proofs.YtbhcicdjllcdjaaDoor.V
namespace Go.Proofs.YtbhcicdjllcdjaaDoor.V
open Go.RowKit
open Go.ChangeMaps (setBlock)
set_option linter.unusedVariables false
set_option linter.unusedSimpArgs false
section
variable {P : Program} {n : Nat} {base : Fr} {w0 w : World} {hd : Nat → Value} {s : VS} {a : Act}
theorem free_ok (mem : List (Option Ob)) (hd : Nat → Value) (k b : Nat) (h : okOf mem hd b) : okOf (mem.set k none) hd b := by
  refine ⟨fun q ob hq => h.1 q ob ?_, h.2⟩
  by_cases e : k = q
  · subst e
    rw [List.getElem?_set_self'] at hq
    cases hm : mem[k]? <;> rw [hm] at hq <;> simp at hq
  · rwa [List.getElem?_set_ne e] at hq
theorem free_get {mem : List (Option Ob)} {k q : Nat} {ob : Ob} (h : (mem.set k none)[q]? = some (some ob)) : mem[q]? = some (some ob) ∧ q ≠ k := by
  by_cases e : k = q
  · subst e
    rw [List.getElem?_set_self'] at h
    cases hm : mem[k]? <;> rw [hm] at h <;> simp at h
  · rw [List.getElem?_set_ne e] at h
    exact ⟨h, fun e' => e e'.symm⟩
theorem RelH.free (h : RelH n base w0 hd s a w) (k : Nat) : RelH n base w0 hd { s with mem := s.mem.set k none } a w := by
  have hc : ∀ ad u, okOf s.mem hd ad.block → w.cell? ad = some u → w.cell? ad = some u ∧ okOf (s.mem.set k none) hd ad.block := fun ad u ho hcell => ⟨hcell, free_ok _ _ _ _ ho⟩
  refine ⟨h.defers, h.size, h.below, h.le, by simpa using h.fixl, h.fix, h.mp, fun t => (h.tm t).mono hc (fun _ _ => rfl) (by simp), ⟨fun q ob hq => h.me.alw q ob (free_get hq).1, fun q ob hq => ?_, fun q hq => h.me.hds q (by simpa using hq), fun q q' ob ob' hq hq' => h.me.apart q q' ob ob' (free_get hq).1 (free_get hq').1⟩⟩
  obtain ⟨hs, vals, ho, hr⟩ := h.me.obs q ob (free_get hq).1
  refine ⟨hs, vals, ho, fun i hi => ⟨(hr i hi).1, fun j av hj => ?_⟩⟩
  obtain ⟨u, h1, h2, h3⟩ := (hr i hi).2 j av hj
  exact ⟨u, h1, h2, h3.mono hc (fun _ _ => rfl) (by simp)⟩
end
end Go.Proofs.YtbhcicdjllcdjaaDoor.V
namespace Go.Proofs.YtbhcicdjllcdjaaDoor.V
open Go.RowKit
set_option linter.unusedVariables false
set_option linter.unusedSimpArgs false
section
variable {P : Program} {n : Nat} {base : Fr} {w0 w : World} {hd : Nat → Value} {s : VS} {a : Act}
theorem RelH.rowSl (h : RelH n base w0 hd s a w) {k : Nat} {ob : Ob} (hk : s.mem[k]? = some (some ob)) (hc : ∀ i, i < ob.n → ∀ c, c ∈ ob.f i → Closed c) : Rep w (okOf (s.mem.set k none) hd) hd (s.mem.set k none).length (.sl ob.sz ob.n ob.f) (hd k) := by
  obtain ⟨hs, vals, ho, hr⟩ := h.me.obs k ob hk
  have hok : ∀ ad u, okOf s.mem hd ad.block → w.cell? ad = some u → w.cell? ad = some u ∧ okOf (s.mem.set k none) hd ad.block := fun ad u ho hcell => ⟨hcell, free_ok _ _ _ _ ho⟩
  rcases ho.2 with ⟨e, h0⟩ | ⟨g, cap, cur, e, h3, h1, h2, h4⟩
  · rw [e, show Value.slice none 0 0 = Value.slice none ob.n 0 by rw [h0]]
    exact .sl _ _ _ none 0 (fun _ _ => undef) (by omega) (by omega) hs (fun i hi => (hr i hi).1) (fun hp => by omega) (fun i j av hi => by omega)
  · have hcells := fun i hi => h.cells_ hk e (i := i) hi
    have hown : (hd k).ownBlock = some g := by rw [e]; rfl
    rw [e]
    refine .sl _ _ _ _ _ (fun i j => (w.cell? ((⟨g, i * ob.sz, none⟩ : Addr).add j)).getD undef) (by omega) (by simp only [maxLen] at h2; omega) hs (fun i hi => (hr i hi).1) (fun hp => ⟨_, rfl, ⟨fun q ob' hq e' => ?_, h.ownTail (h.me.alw k ob hk g hown)⟩, fun i j hi hj => ?_⟩) fun i j av hi hj => ?_
    · obtain ⟨hq1, hq2⟩ := free_get hq
      rcases h.me.apart q k ob' ob hq1 hk hq2 with e2 | e2
      · rw [e'] at e2; cases e2
      · exact e2 (by rw [e', hown])
    · obtain ⟨u, h1, _⟩ := hcells i hi j _ (List.getElem?_eq_getElem (by rw [(hr i hi).1]; exact hj))
      have e3 : ((⟨g, 0, none⟩ : Addr).add (i * ob.sz + j)) = (⟨g, i * ob.sz, none⟩ : Addr).add j := by
        by_cases hj0 : j = 0
        · subst hj0
          by_cases hi0 : i * ob.sz = 0
          · simp [Addr.add, hi0]
          · simp only [Addr.add, Nat.add_zero]; rw [if_neg hi0]; simp
        · have hne : ¬ (i * ob.sz + j = 0) := by omega
          simp only [Addr.add]; rw [if_neg hne, if_neg hj0]; simp
      rw [e3, h1]; rfl
    · obtain ⟨u, h1, h2⟩ := hcells i hi j av hj
      simp only [h1]
      exact Rep.closed (hc i hi av (List.mem_of_getElem? hj)) (fun ad u' g1 g2 => ⟨g2, free_ok _ _ _ _ g1⟩) h2
end
end Go.Proofs.YtbhcicdjllcdjaaDoor.V
namespace Go.Proofs.YtbhcicdjllcdjaaDoor.V
open Go.RowKit
set_option linter.unusedVariables false
set_option linter.unusedSimpArgs false
theorem Ent.giveAt {s : VS} (j k i0 c : Nat) {ob oj : Ob} (hk : s.mem[k]? = some (some ob)) (hcl : ∀ i, i < ob.n → ∀ c, c ∈ ob.f i → Closed c) (hj : s.mem[j]? = some (some oj)) (hjk : j ≠ k) (hc : (oj.f i0)[c]? = some (.own k)) :
    Ent s { s with mem := (s.mem.set k none).set j (some { oj with f := fun i => if i = i0 then (oj.f i).set c (.sl ob.sz ob.n ob.f) else oj.f i }) } := by
  intro n base w0 hd a w h
  have hf := h.free k
  have hr := h.rowSl hk hcl
  have hj' : (s.mem.set k none)[j]? = some (some oj) := by rw [List.getElem?_set_ne (fun e => hjk e.symm)]; exact hj
  refine ⟨hd, hf.recell (s := { s with mem := s.mem.set k none }) hj' rfl rfl rfl fun i hi => ⟨by simp only; split <;> simp, fun q av av' u h1 h2 h3 => ?_⟩⟩
  simp only at h2
  by_cases ei : i = i0
  · subst ei
    rw [if_pos rfl, List.getElem?_set] at h2
    by_cases e : c = q
    · subst e
      rw [if_pos rfl] at h2
      split at h2
      · rw [hc] at h1
        cases h1; cases h2
        cases h3
        exact hr
      · cases h2
    · rw [if_neg e, h1] at h2
      cases h2; exact h3
  · rw [if_neg ei, h1] at h2
    cases h2; exact h3
end Go.Proofs.YtbhcicdjllcdjaaDoor.V
namespace Go.Proofs.YtbhcicdjllcdjaaDoor.V
open Go.RowKit
set_option linter.unusedVariables false
set_option linter.unusedSimpArgs false
set_option linter.constructorNameAsVariable false
theorem outAt_all {idx : Nat → Nat} {ks : List Nat} {ob : Ob} (h : ∀ i, (ob.f i).all isLit = true) : OutAt idx ks ob (some (some ob)) = True := eq_true (by
  obtain ⟨ty, sz, n, f⟩ := ob
  exact outAt_lits (fun _ _ => rfl) (fun i _ => h i))
def txAt (ws : List ByteArray) (i : Nat) : ByteArray := ws.getD i ByteArray.empty
def txCells (ws : List ByteArray) (i : Nat) : List AV := [.lit (.string (txAt ws i))]
theorem txCells_at (ws : List ByteArray) (i : Nat) : txCells ws i = [.lit (.string (txAt ws i))] := rfl
theorem txClosed (l : List ByteArray) (i : Nat) (c : AV) (h : c ∈ txCells l i) : Closed c := by
  simp [txCells] at h; subst h; exact .lit _
theorem txLit (l : List ByteArray) (i : Nat) : (txCells l i).all isLit = true := rfl
@[go_sem] theorem txCells_ren (f : Nat → Nat) (l : List ByteArray) (i : Nat) : (txCells l i).map (ren1 f) = txCells l i := rfl
@[go_sem] theorem txCells_one (l : List ByteArray) (i : Nat) : (txCells l i).all oneAV = true := rfl
def txRow (ws : List ByteArray) : Option Ob := some ⟨9, 1, ws.length, txCells ws⟩
def RowIs (f : Nat → List AV) (ws : List ByteArray) : Prop := ∀ i, i < ws.length → f i = txCells ws i
theorem RowIs.rfl {ws : List ByteArray} : RowIs (txCells ws) ws := fun _ _ => _root_.rfl
theorem tx_same {ty n : Nat} {f : Nat → List AV} {ws ws' : List ByteArray} (h : RowIs f ws) (e : ws = ws') (hn : n = ws'.length) : ObsSame [⟨ty, 1, n, f⟩] [⟨ty, 1, ws'.length, txCells ws'⟩] := by
  subst e; subst hn
  exact obsSame_one.mpr ⟨⟨ty, 1, ws.length, txCells ws⟩, ⟨rfl, rfl, rfl, fun j hj => ⟨h j hj, txLit _ j⟩⟩, rfl⟩
theorem tx_new {g : Nat → Nat} {m : Nat} (T : List ByteArray) (w : ByteArray) : (∀ i, i < T.length + 1 → CellsRn g m (joinF T.length (txCells T) (fun i => [[AV.lit (.string w)]][i]?.getD []) i) (txCells (T ++ [w]) i)) = True := eq_true fun i hi => by
  have : joinF T.length (txCells T) (fun i => [[AV.lit (.string w)]][i]?.getD []) i = txCells (T ++ [w]) i := by
    unfold joinF txCells txAt
    by_cases h : i < T.length
    · rw [if_pos h, List.getD_eq_getElem?_getD, List.getD_eq_getElem?_getD, List.getElem?_append_left h]
    · have : i = T.length := by omega
      subst this
      rw [if_neg (by omega), List.getD_eq_getElem?_getD, List.getElem?_append_right (by omega)]
      simp
  rw [this]
  exact cellsRn_lits (txLit _ i)
end Go.Proofs.YtbhcicdjllcdjaaDoor.V
namespace Go.Proofs.YtbhcicdjllcdjaaDoor.V
open Go.RowKit
set_option linter.unusedVariables false
set_option linter.unusedSimpArgs false
set_option linter.constructorNameAsVariable false
theorem K5 : (∀ t : List ByteArray, txRow t = some ⟨9, 1, t.length, txCells t⟩) ∧ (∀ l i c, (c ∈ opCells l i → Closed c) = True) ∧ (∀ l i c, (c ∈ txCells l i → Closed c) = True) ∧
    (∀ g m l i, CellsRn g m (opCells l i) (opCells l i) = True) ∧ (∀ g m l i, CellsRn g m (txCells l i) (txCells l i) = True) ∧
    (∀ (g : Nat → Nat) ks ty n l, OutAt g ks ⟨ty, 4, n, opCells l⟩ (some (some ⟨ty, 4, n, opCells l⟩)) = True) ∧ (∀ (g : Nat → Nat) ks ty n l, OutAt g ks ⟨ty, 1, n, txCells l⟩ (some (some ⟨ty, 1, n, txCells l⟩)) = True) :=
  ⟨fun _ => rfl, fun _ _ _ => eq_true (opClosed _ _ _), fun _ _ _ => eq_true (txClosed _ _ _),
    fun _ _ _ i => eq_true (cellsRn_lits (opLit _ i)), fun _ _ _ i => eq_true (cellsRn_lits (txLit _ i)),
    fun _ _ _ _ _ => outAt_all fun i => opLit _ i, fun _ _ _ _ _ => outAt_all fun i => txLit _ i⟩
section
variable {P : Program} {s : VS}
theorem uS {f : FuncId} {avs args' : List AV} {k : AV → VS → Prop} {mem0 : List (Option Ob)} {maps0 : List (Nat × Mp)} {R : AV → List (Option Ob) → List (Nat × Mp) → Prop} (ks : List Nat) (h : VProc P f args' mem0 maps0 R)
    (hk : ∀ av mem' maps', R av mem' maps' → k (ren (backN ks s.mem.length) av) { s with mem := mergeM s.mem ks mem', maps := maps' ++ s.maps })
    (hnd : ks.Nodup := by simp) (ha : CellsRn (fun j => ks.getD j 0) ks.length avs args' := by simp [go_sem, K5]) (hs : ShMem (fun j => ks.getD j 0) ks.length s.mem ks mem0 := by simp [go_sem, K5]) (hm : MapsLe s.maps maps0 := by simp [go_sem]) : vcallP P f avs s k := vcall_share ks h hnd ha hs hm hk
theorem uE (ks : List Nat) {t t' : List (Nat × AV)} {m m' : List (Option Ob)} {M M' : List (Nat × Mp)} {x : Nat}
    (h4 : MemS (fun j => ks.getD j 0) ks.length m ks m' := by simp [go_sem, K5]) (h1 : TmpsR (fun j => ks.getD j 0) ks.length t t' := by simp [go_sem, K5]) (hnd : ks.Nodup := by simp) (hlt : ∀ k, k ∈ ks → k < m.length := by simp) (hx : x ≤ ks.length := by simp) (hf : ∀ k, k < x → ks.getD k 0 = k := by first | decide | (dsimp only; decide)) (hM : MapsLe M M' := by simp [go_sem]) : Ent ⟨t, m, M, x⟩ ⟨t', m', M', x⟩ := ent_ks ks hnd hlt hx hf hM h1 h4
theorem uF {maps0 : List (Nat × Mp)} {R : AV → List (Option Ob) → List (Nat × Mp) → Prop} {av : AV} (ex : List Nat) (mem' : List (Option Ob)) 
    (hm : MemOut (idxOut s.fix ex) (outKs s.fix ex) s.mem (outKs s.fix ex) mem' := by simp [go_sem, K5]) (hR : R (ren (idxOut s.fix ex) av) mem' s.maps := by simp [go_sem, K5]) (hnd : ex.Nodup := by simp) (he : ∀ e, e ∈ ex → s.fix ≤ e ∧ e < s.mem.length := by simp) (hq : (∀ q, q ∈ ownsV av → q ∈ outKs s.fix ex) ∧ clW av := by simp [go_sem]) 
    (hM : ∀ b, (lkm maps0 b).isSome = true → (lkm s.maps b).isSome = true := by simp [go_sem]) : vendP maps0 R s av := ⟨rfl, ex, mem', hnd, he, hq, hm, hM, hR⟩
end
end Go.Proofs.YtbhcicdjllcdjaaDoor.V
namespace Go.Proofs.YtbhcicdjllcdjaaDoor.V
open Go.RowKit
set_option linter.unusedVariables false
set_option linter.unusedSimpArgs false
def cutL (c : UInt8) : List UInt8 → List (List UInt8)
  | [] => [[]]
  | b :: r => if b = c then [] :: cutL c r else match cutL c r with
    | p :: ps => (b :: p) :: ps
    | [] => [[b]]
theorem cutL_run {c : UInt8} : ∀ (p : List UInt8), c ∉ p → ∀ r, cutL c (p ++ c :: r) = p :: cutL c r
  | [], _, r => by simp [cutL]
  | b :: p, h, r => by
    have hb : ¬ b = c := fun e => h (by simp [e])
    have := cutL_run p (fun hm => h (List.mem_cons_of_mem _ hm)) r
    simp only [List.cons_append]
    rw [cutL, if_neg hb, this]
theorem cutL_last {c : UInt8} : ∀ (p : List UInt8), c ∉ p → cutL c p = [p]
  | [], _ => rfl
  | b :: p, h => by
    have hb : ¬ b = c := fun e => h (by simp [e])
    rw [cutL, if_neg hb, cutL_last p (fun hm => h (List.mem_cons_of_mem _ hm))]
theorem index_one {c : UInt8} : ∀ (l : List UInt8), (c ∉ l ∧ Lib.index l [c] = -1) ∨ ∃ p r, l = p ++ c :: r ∧ c ∉ p ∧ Lib.index l [c] = p.length
  | [] => .inl ⟨by simp, rfl⟩
  | b :: l => by
    by_cases hb : b = c
    · subst hb
      exact .inr ⟨[], l, rfl, by simp, by simp [Lib.index]⟩
    · have hp : ([c].isPrefixOf (b :: l)) = false := by
        simp [List.isPrefixOf]
        exact fun e => hb e.symm
      rcases index_one (c := c) l with ⟨h1, h2⟩ | ⟨p, r, rfl, h1, h2⟩
      · refine .inl ⟨by simp [h1]; exact fun e => hb e.symm, ?_⟩
        simp only [Lib.index, hp, h2]; rfl
      · refine .inr ⟨b :: p, r, rfl, by simp [h1]; exact fun e => hb e.symm, ?_⟩
        simp only [Lib.index, hp, h2]
        have : ¬ ((p.length : Int) == -1) = true := by simp <;> omega
        simp only [this, if_false, Bool.false_eq_true, List.length_cons]
        omega
theorem split_cut {c : UInt8} : ∀ (k : Nat) (l : List UInt8), l.length ≤ k → Lib.splitK [c] 0 (Lib.count l [c]) l = cutL c l
  | k, l, hk => by
    rcases index_one (c := c) l with ⟨h1, h2⟩ | ⟨p, r, rfl, h1, h2⟩
    · rw [Lib.count_miss h2, cutL_last l h1]; rfl
    · rw [Lib.count_hit (by simp) h2, cutL_run p h1]
      match k, hk with
      | 0, hk => simp at hk
      | k + 1, hk =>
        have hr : r.length ≤ k := by simp at hk; omega
        have e : (p ++ c :: r).drop (p.length + [c].length) = r := by simp
        rw [e, Nat.add_comm 1, Lib.splitK]
        have hm : ¬ (Lib.index (p ++ c :: r) [c] == -1) = true := by rw [h2]; simp <;> omega
        rw [if_neg hm, h2]
        have e2 : (p ++ c :: r).take (((p.length : Nat) : Int).toNat + 0) = p := by simp
        have e3 : (p ++ c :: r).drop (((p.length : Nat) : Int).toNat + [c].length) = r := by simp
        rw [e2, e3, split_cut k r hr]
def cutZ (c : UInt8) (z : ByteArray) : List ByteArray := (cutL c z.data.toList).map fun l => ⟨l.toArray⟩
theorem cutZ_split (c : UInt8) (z : ByteArray) : Lib.splitB ⟨#[c]⟩ 0 (Lib.countB z ⟨#[c]⟩) z = cutZ c z := by
  have h := Lib.splitB_data ⟨#[c]⟩ 0 (Lib.countB z ⟨#[c]⟩) z
  have h2 : Lib.countB z ⟨#[c]⟩ = Lib.count z.data.toList [c] := rfl
  rw [h2] at h ⊢
  rw [show ((⟨#[c]⟩ : ByteArray).data.toList) = [c] from rfl, split_cut _ _ (Nat.le_refl _)] at h
  unfold cutZ
  rw [← h, List.map_map]
  refine (List.map_id _).symm.trans (List.map_congr_left fun x _ => ?_)
  cases x; simp
def cutR (c : UInt8) (z : ByteArray) : Nat → List (Nat × Nat) × Nat
  | 0 => ([], 0)
  | i + 1 => if i = z.size ∨ byteAt z i = c.toNat then ((cutR c z i).1 ++ [((cutR c z i).2, i)], i + 1) else cutR c z i
theorem byteAt_list {z : ByteArray} {i : Nat} (hi : i < z.size) : ∃ b : UInt8, z.data.toList[i]? = some b ∧ byteAt z i = b.toNat := by
  refine ⟨z[i], ?_, ?_⟩
  · rw [Array.getElem?_toList]
    exact Array.getElem?_eq_getElem hi
  · unfold byteAt; rw [dif_pos hi]
theorem ext_list (z : ByteArray) (a b : Nat) : (z.extract a b).data.toList = (z.data.toList.drop a).take (b - a) := by
  rw [ByteArray.data_extract, Array.toList_extract, List.extract]
theorem mem_take_not {c : UInt8} {l : List UInt8} {n : Nat} (h : ∀ j, j < n → l[j]? ≠ some c) : c ∉ l.take n := fun hm => by
  obtain ⟨j, hj⟩ := List.getElem?_of_mem hm
  rw [List.getElem?_take] at hj
  split at hj
  · exact h j (by assumption) hj
  · cases hj
theorem cutR_inv {c : UInt8} {z : ByteArray} : ∀ i, i ≤ z.size → (cutR c z i).2 ≤ i ∧ (∀ j, (cutR c z i).2 ≤ j → j < i → z.data.toList[j]? ≠ some c) ∧ cutL c z.data.toList = ((cutR c z i).1.map fun p => (z.extract p.1 p.2).data.toList) ++ cutL c (z.data.toList.drop (cutR c z i).2)
  | 0, _ => ⟨Nat.le_refl _, fun j _ h => by omega, by simp [cutR]⟩
  | i + 1, hi => by
    obtain ⟨h1, h2, h3⟩ := cutR_inv (c := c) (z := z) i (by omega)
    obtain ⟨b, hb, eb⟩ := byteAt_list (z := z) (i := i) (by omega)
    unfold cutR
    by_cases hc : byteAt z i = c.toNat
    · rw [if_pos (.inr hc)]
      have ebc : b = c := by
        rw [eb] at hc
        exact UInt8.toNat_inj.1 (by omega)
      subst ebc
      refine ⟨Nat.le_refl _, fun j g1 g2 => by simp only at g1; omega, ?_⟩
      generalize cutR b z i = q at *
      have e : z.data.toList.drop q.2 = (z.extract q.2 i).data.toList ++ b :: z.data.toList.drop (i + 1) := by
        rw [ext_list]
        have e1 : z.data.toList.drop q.2 = (z.data.toList.drop q.2).take (i - q.2) ++ (z.data.toList.drop q.2).drop (i - q.2) := (List.take_append_drop _ _).symm
        rw [List.drop_drop, show q.2 + (i - q.2) = i by omega] at e1
        have hlt : i < z.data.toList.length := (List.getElem?_eq_some_iff.1 hb).1
        rw [List.drop_eq_getElem_cons hlt, show z.data.toList[i] = b from (List.getElem?_eq_some_iff.1 hb).2] at e1
        exact e1
      rw [h3, e, cutL_run _ (by rw [ext_list]; exact mem_take_not fun j hj => by rw [List.getElem?_drop]; exact h2 _ (by omega) (by omega))]
      simp
    · rw [if_neg (by rintro (h | h); · omega
                     · exact hc h)]
      refine ⟨by omega, fun j g1 g2 => ?_, h3⟩
      by_cases e : j = i
      · subst e
        rw [hb]
        intro e2
        cases e2
        exact hc eb
      · exact h2 j g1 (by omega)
theorem cutR_fin (c : UInt8) (z : ByteArray) : ((cutR c z (z.size + 1)).1.map fun p => z.extract p.1 p.2) = cutZ c z := by
  obtain ⟨h1, h2, h3⟩ := cutR_inv (c := c) (z := z) z.size (Nat.le_refl _)
  rw [cutR, if_pos (.inl rfl)]
  have hl : z.data.toList.length = z.size := rfl
  have e : z.data.toList.drop (cutR c z z.size).2 = (z.extract (cutR c z z.size).2 z.size).data.toList := by
    rw [ext_list, List.take_of_length_le (by rw [List.length_drop]; omega)]
  rw [cutL_last (z.data.toList.drop (cutR c z z.size).2) (by
    rw [e, ext_list]
    exact mem_take_not fun j hj => by rw [List.getElem?_drop]; exact h2 _ (by omega) (by omega)), e] at h3
  unfold cutZ
  rw [h3]
  simp only [List.map_append, List.map_cons, List.map_nil, List.map_map]
  congr 1
def wordsZ (z : ByteArray) : List ByteArray := (cutZ 32 z).filter fun w => decide (0 < w.size)
end Go.Proofs.YtbhcicdjllcdjaaDoor.V
namespace Go.Proofs.YtbhcicdjllcdjaaDoor.V
open Go.RowKit
set_option linter.unusedVariables false
set_option linter.unusedSimpArgs false
set_option linter.constructorNameAsVariable false
theorem vfun_below {P : Program} {f : FuncId} {vs : List Value} {v : Value} (hf : FnOk P f) (h : ∀ w, Calls P f vs.toArray w fun e w' => e = .returned v ∧ Below w.heap.size w w') : VFun P f (vs.map .lit) (fun av obs => obs = [] ∧ av = .lit v) := by
  refine ⟨hf, fun w us hl hu => ?_⟩
  have e : us = vs := by
    have hl' : vs.length = us.length := by simpa using hl.1
    apply List.ext_getElem hl'.symm
    intro j h1 h2
    have := hu j (.lit vs[j]) us[j] (by simp [h2]) (List.getElem?_eq_getElem h1)
    generalize us[j] = x at this
    generalize vs[j] = y at this
    cases this
    rfl
  subst e
  refine (h w).mono fun e w' ⟨he, hw⟩ => ?_
  subst he
  exact ⟨v, rfl, ⟨hw.os, hw.tape, hw.output, hw.size, fun k hk _ => hw.block k hk⟩, fun _ => undef, .lit v, [], ⟨rfl, rfl⟩, rfl, fun ob h => by simp at h, ⟨fun k ob h => by simp at h, fun k ob h => by simp at h, fun k h => by simp at h, fun k k' ob ob' h => by simp at h⟩, .lit v⟩
def digitBytes : ByteArray := { data := #[48, 49, 50, 51, 52, 53, 54, 55, 56, 57] }
theorem contains_digit (b : UInt8) : digitBytes.data.toList.contains b = isDg b.toNat := by
  revert b
  have h : (List.range 256).all (fun n => digitBytes.data.toList.contains n.toUInt8 == isDg n) = true := by kernel_rfl
  intro b
  have := List.all_eq_true.mp h b.toNat (List.mem_range.mpr b.toNat_lt)
  simpa using this
theorem dropWhile_all {α : Type} {p : α → Bool} {l : List α} : l.dropWhile p = [] ↔ ∀ x, x ∈ l → p x = true := by
  induction l with
  | nil => simp
  | cons a l ih =>
    rw [List.dropWhile_cons]
    split
    · rename_i h; simp [ih, h]
    · rename_i h; simp [h]
theorem trim_nil {l cs : List UInt8} : Lib.trimS l cs = [] ↔ ∀ x, x ∈ l → cs.contains x = true := by
  unfold Lib.trimS Lib.trimLeftS
  rw [dropWhile_all]
  unfold Lib.trimRightS
  constructor
  · intro h x hx
    have hd : l = (l.reverse.dropWhile (cs.contains ·)).reverse ++ (l.reverse.takeWhile (cs.contains ·)).reverse := by
      rw [← List.reverse_append, List.takeWhile_append_dropWhile, List.reverse_reverse]
    rw [hd, List.mem_append] at hx
    rcases hx with hx | hx
    · exact h x hx
    · rw [List.mem_reverse] at hx
      exact List.all_eq_true.mp (List.all_takeWhile (p := (cs.contains ·)) (l := l.reverse)) x hx
  · intro h x hx
    rw [List.mem_reverse] at hx
    exact h x (List.mem_reverse.mp ((List.dropWhile_sublist _).subset hx))
def trimDg (z : ByteArray) : ByteArray := ⟨(Lib.trimS z.data.toList digitBytes.data.toList).toArray⟩
theorem trimDg_num (z : ByteArray) (h : 0 < z.size) : decide (trimDg z = ⟨#[]⟩) = numZ z := by
  have e : trimDg z = ⟨#[]⟩ ↔ ∀ i, i < z.size → isDg (byteAt z i) = true := by
    unfold trimDg
    rw [ByteArray.mk.injEq, Array.mk.injEq, trim_nil]
    simp only [contains_digit]
    constructor
    · intro h i hi
      have := h (z.data.toList[i]'hi) (List.getElem_mem _)
      unfold byteAt
      rw [dif_pos hi]
      exact this
    · intro h x hx
      obtain ⟨i, hi, rfl⟩ := List.getElem_of_mem hx
      have := h i hi
      unfold byteAt at this
      rw [dif_pos (show i < z.size from hi)] at this
      exact this
  rw [Bool.eq_iff_iff, decide_eq_true_eq, e]
  simp only [numZ, h, decide_true, Bool.and_true, List.all_eq_true, List.mem_range]
theorem c_trim (z : ByteArray) (hz : z.size ≤ 9223372036854775807) : VFun Tryd.prog 40 [.lit (.string z), .lit (.string digitBytes)] (fun av obs => obs = [] ∧ av = .lit (.string (trimDg z))) :=
  vfun_below (vs := [.string z, .string digitBytes]) ⟨_, Tryd.func40, rfl, rfl⟩ (fun w => Any.strings_Trim_laid Tryd.lays160 (by kernel_rfl) z digitBytes w hz (by decide) (ascii_of_all (by decide)))
theorem ba_nil {z : ByteArray} : z.toList = [] ↔ z.size = 0 := by
  rw [ByteArray.toList_eq]
  constructor
  · intro h
    show z.data.size = 0
    rw [← Array.length_toList, h]; rfl
  · intro h
    apply List.eq_nil_of_length_eq_zero
    rw [Array.length_toList]; exact h
theorem ba_empty {z : ByteArray} : z.toList.isEmpty = decide (z = ⟨#[]⟩) := by
  rw [Bool.eq_iff_iff, List.isEmpty_iff, decide_eq_true_iff, ba_nil]
  constructor
  · intro h
    exact ByteArray.ext (Array.eq_empty_of_size_eq_zero h)
  · intro h
    rw [h]; rfl
end Go.Proofs.YtbhcicdjllcdjaaDoor.V
namespace Go.Proofs.YtbhcicdjllcdjaaDoor.V
open Go.RowKit
set_option linter.unusedVariables false
set_option linter.unusedSimpArgs false
set_option linter.constructorNameAsVariable false
theorem cutL_count (c : UInt8) : ∀ l : List UInt8, (cutL c l).length ≤ l.length + 1
  | [] => by simp [cutL]
  | b :: r => by
    have ih := cutL_count c r
    unfold cutL
    split
    · simp; omega
    · split
      · rename_i h; rw [h] at ih; simp at ih ⊢; omega
      · simp
theorem count_cut {c : UInt8} : ∀ (k : Nat) (l : List UInt8), l.length ≤ k → Lib.count l [c] + 1 = (cutL c l).length
  | k, l, hk => by
    rcases index_one (c := c) l with ⟨h1, h2⟩ | ⟨p, r, rfl, h1, h2⟩
    · rw [Lib.count_miss h2, cutL_last l h1]; rfl
    · rw [Lib.count_hit (by simp) h2, cutL_run p h1]
      match k, hk with
      | 0, hk => simp at hk
      | k + 1, hk =>
        have hr : r.length ≤ k := by simp at hk; omega
        have e : (p ++ c :: r).drop (p.length + [c].length) = r := by simp
        rw [e, List.length_cons, ← count_cut k r hr]
        omega
theorem cutZ_len (c : UInt8) (z : ByteArray) : (cutZ c z).length ≤ z.size + 1 := by
  unfold cutZ
  rw [List.length_map]
  exact cutL_count c _
theorem c_split (c : UInt8) (z : ByteArray) (hz : z.size ≤ 1048576) : VFun Tryd.prog 22 [.lit (.string z), .lit (.string ⟨#[c]⟩)] (fun av obs => av = .own 0 ∧ obs = [⟨9, 1, (cutZ c z).length, txCells (cutZ c z)⟩]) := by
  refine ⟨⟨_, Tryd.func22, rfl, rfl⟩, fun w us hl hu => ?_⟩
  have e : us = [.string z, .string ⟨#[c]⟩] := by
    have hl' := hl.1
    match us, hl', hu with
    | [x, y], _, hu =>
      have h0 := hu 0 _ x rfl rfl
      have h1 := hu 1 _ y rfl rfl
      cases h0; cases h1; rfl
  subst e
  obtain ⟨hsz, W, hW, hLX, hsame⟩ := hl.2.1
  obtain ⟨m, hm⟩ := Tryd.laysM146.s1_3 W hW
  have hm' : w.cell? ⟨0, 0, none⟩ = some (.int .i64 m) := by
    have h0 := hsame 0 (by decide)
    have hm : W.cell? ⟨0, 0, none⟩ = some (.int .i64 m) := hm
    unfold World.cell? at hm ⊢
    simp only at hm ⊢
    rw [h0]; exact hm
  refine (Any.strings_Split Tryd.lays146 (by kernel_rfl) z ⟨#[c]⟩ m w (by omega) hm' (Nat.le_refl _)).mono fun e w' ⟨he, hw⟩ => ?_
  rw [cutZ_split] at hw
  have hcnt : Lib.countB z ⟨#[c]⟩ + 1 = (cutZ c z).length := by
    unfold cutZ
    rw [List.length_map, ← count_cut _ _ (Nat.le_refl _)]
  rw [hcnt] at he
  subst he
  have hlen := cutZ_len c z
  subst hw
  refine ⟨_, rfl, World.grownBy_alloc w _ none, fun _ => .slice (some ⟨w.heap.size, 0, none⟩) (cutZ c z).length (cutZ c z).length, .own 0, _, ⟨rfl, rfl⟩, rfl, fun ob ho i hi => ?_, ⟨fun k ob hk b hb => ?_, fun k ob hk => ?_, fun k hk => ⟨_, _, _, rfl⟩, fun k k' o o' hk hk' hne => ?_⟩, .own 0 (by simp)⟩
  · simp only [List.mem_singleton] at ho
    subst ho
    exact txLit _ i
  · simp only [Value.ownBlock, Option.some.injEq] at hb
    omega
  · have e0 : k = 0 := by have := (List.getElem?_eq_some_iff.1 hk).1; simpa using this
    subst e0
    simp only [List.map_cons, List.map_nil, List.getElem?_cons_zero, Option.some.injEq] at hk
    subst hk
    refine ⟨Nat.one_pos, (cutZ c z).map Value.string, ⟨by simp, .inr ⟨w.heap.size, (cutZ c z).length, ((cutZ c z).map Value.string).toArray, rfl, ⟨9, (0, 0), heap_alloc_new _ _, .inl ⟨rfl, rfl⟩⟩, Nat.le_refl _, by simp only [maxLen]; omega, by simp, by simp only [Nat.mul_one, List.toList_toArray]; rw [List.take_of_length_le (by simp)]⟩⟩, fun i hi => ⟨rfl, fun j a ha => ?_⟩⟩
    have hj : j = 0 := by have := (List.getElem?_eq_some_iff.1 ha).1; simpa [txCells] using this
    subst hj
    simp only [txCells, List.getElem?_cons_zero, Option.some.injEq] at ha
    subst ha
    refine ⟨.string (txAt (cutZ c z) i), ?_, rfl, .lit _⟩
    have hi' : i < (cutZ c z).length := hi
    simp only [Nat.mul_one, Nat.add_zero, List.getElem?_map, txAt, List.getD_eq_getElem?_getD]
    rw [List.getElem?_eq_getElem hi']
    rfl
  · have e0 : k = 0 := by have := (List.getElem?_eq_some_iff.1 hk).1; simpa using this
    have e1 : k' = 0 := by have := (List.getElem?_eq_some_iff.1 hk').1; simpa using this
    omega
end Go.Proofs.YtbhcicdjllcdjaaDoor.V
namespace Go.Proofs.YtbhcicdjllcdjaaDoor.V
open Go.RowKit
set_option linter.unusedVariables false
set_option linter.unusedSimpArgs false
set_option linter.constructorNameAsVariable false
def run (p : Int → Bool) (z : ByteArray) (j : Nat) : Nat := if h : j < z.size then if p (byteAt z j) then 1 + run p z (j + 1) else 0 else 0
termination_by z.size - j
end Go.Proofs.YtbhcicdjllcdjaaDoor.V
namespace Go.Proofs.YtbhcicdjllcdjaaDoor.V
open Go.RowKit
set_option linter.unusedVariables false
set_option linter.unusedSimpArgs false
def decR (w : ByteArray) : Nat → Nat
  | 0 => 0
  | i + 1 => decR w i * 10 + (byteAt w i - 48).toNat
theorem decR_lt {w : ByteArray} (h : numZ w = true) : ∀ i, i ≤ w.size → decR w i < 10 ^ i
  | 0, _ => by simp [decR]
  | i + 1, hi => by
    have ih := decR_lt h i (by omega)
    simp only [numZ, Bool.and_eq_true, List.all_eq_true, List.mem_range] at h
    have := h.1 i (by omega)
    simp only [isDg, Bool.and_eq_true, decide_eq_true_eq] at this
    rw [decR, Nat.pow_succ]
    omega
theorem atoi_dec {w : ByteArray} (h : numZ w = true) : Lib.atoi w.data.toList = some ((decR w w.size : Nat) : Int) := by
  have h0 := h
  simp only [numZ, Bool.and_eq_true, List.all_eq_true, List.mem_range, decide_eq_true_eq] at h
  have dig : ∀ i, i < w.size → ∃ b : UInt8, w.data.toList[i]? = some b ∧ Lib.digitVal b = some (byteAt w i - 48).toNat ∧ 48 ≤ b.toNat ∧ b.toNat ≤ 57 := fun i hi => by
    obtain ⟨b, h1, h2⟩ := byteAt_list hi
    have := h.1 i hi
    simp only [isDg, Bool.and_eq_true, decide_eq_true_eq] at this
    refine ⟨b, h1, ?_, by omega, by omega⟩
    unfold Lib.digitVal
    rw [if_pos (by omega), h2]
    congr 1
    omega
  have step : ∀ i, i ≤ w.size → Lib.decFrom 0 (w.data.toList.take i) = some (decR w i) := fun i => by
    induction i with
    | zero => intro _; rfl
    | succ i ih =>
      intro hi
      obtain ⟨b, h1, h2, _⟩ := dig i (by omega)
      exact Lib.decFrom_take _ i 0 _ b _ (ih (by omega)) h1 h2
  have hl : w.data.toList.length = w.size := rfl
  have hs := step w.size (Nat.le_refl _)
  rw [List.take_of_length_le (by omega)] at hs
  obtain ⟨b, h1, _, h3, h4⟩ := dig 0 h.2
  match hd : w.data.toList, h1, hs with
  | x :: r, h1, hs =>
    simp only [List.getElem?_cons_zero, Option.some.injEq] at h1
    subst h1
    have n45 : ¬ (x == 45) = true := fun e => by
      have : x = 45 := by simpa using e
      rw [this] at h3; exact absurd h3 (by decide)
    have n43 : ¬ (x == 43) = true := fun e => by
      have : x = 43 := by simpa using e
      rw [this] at h3; exact absurd h3 (by decide)
    simp only [Lib.atoi, if_neg n45, if_neg n43, Lib.decNat, List.isEmpty_cons, Bool.false_eq_true, if_false, hs, Option.map_some]
def levelZ (w : ByteArray) : Option Nat := if numZ w = true ∧ w.size ≤ 6 then some (decR w w.size) else none
def kwBegin : ByteArray := ⟨#[98, 101, 103, 105, 110]⟩
def kwUse : ByteArray := ⟨#[117, 115, 101]⟩
def kwPre : ByteArray := ⟨#[112, 114, 101, 102, 105, 120]⟩
def kwInf : ByteArray := ⟨#[105, 110, 102, 105, 120]⟩
def kwPost : ByteArray := ⟨#[112, 111, 115, 116, 102, 105, 120]⟩
def kwLeft : ByteArray := ⟨#[108, 101, 102, 116]⟩
def kwRight : ByteArray := ⟨#[114, 105, 103, 104, 116]⟩
def kwNone : ByteArray := ⟨#[110, 111, 110, 101]⟩
def sideZ (w : ByteArray) : Nat := if w = kwLeft then 1 else if w = kwRight then 2 else if w = kwNone then 3 else 0
def wrdAt (ws : List ByteArray) (i : Nat) : ByteArray := ws.getD i ByteArray.empty
def declZ (ws : List ByteArray) : Option POp :=
  if ws.length < 3 then none else match levelZ (wrdAt ws 2) with
    | none => none
    | some v => if wrdAt ws 0 = kwPre ∧ ws.length = 3 then some ⟨wrdAt ws 1, 1, v, 0⟩ else if wrdAt ws 0 = kwPost ∧ ws.length = 3 then some ⟨wrdAt ws 1, 3, v, 0⟩
      else if wrdAt ws 0 = kwInf ∧ ws.length = 4 ∧ 0 < sideZ (wrdAt ws 3) then some ⟨wrdAt ws 1, 2, v, sideZ (wrdAt ws 3)⟩ else none
structure US where
  uses : List ByteArray
  ops : List POp
  bad : Nat
def isBegin (ws : List ByteArray) : Bool := decide (ws = [kwBegin])
def usStep (st : US) (i : Nat) (ws : List ByteArray) : US :=
  if ws = [] then st else match declZ ws with
    | some o => { st with ops := st.ops ++ [o] }
    | none => if ws.length = 2 ∧ wrdAt ws 0 = kwUse then { st with uses := st.uses ++ [wrdAt ws 1] } else { st with bad := if st.bad = 0 then i + 1 else st.bad }
def usR (L : List (List ByteArray)) : Nat → US
  | 0 => ⟨[], [], 0⟩
  | i + 1 => usStep (usR L i) i (L.getD i [])
def beginAt (L : List (List ByteArray)) : Option Nat := L.findIdx? isBegin
def linesZ (z : ByteArray) : List (List ByteArray) := (cutZ 10 z).map wordsZ
def farZ (ps : List ByteArray) : Nat → Nat
  | 0 => 0
  | i + 1 => farZ ps i + (ps.getD i ByteArray.empty).size + 1
def posZ (c : UInt8) (z : ByteArray) (k : Nat) : Nat × Nat := (cutR c z (z.size + 1)).1.getD k (0, 0)
theorem cutR_chain {c : UInt8} {z : ByteArray} : ∀ i, i ≤ z.size + 1 → (cutR c z i).2 ≤ i ∧ (∀ k, k < (cutR c z i).1.length → ((cutR c z i).1.getD k (0, 0)).1 ≤ ((cutR c z i).1.getD k (0, 0)).2 ∧ ((cutR c z i).1.getD k (0, 0)).2 ≤ z.size ∧ ((cutR c z i).1.getD k (0, 0)).1 = if k = 0 then 0 else ((cutR c z i).1.getD (k - 1) (0, 0)).2 + 1) ∧ (cutR c z i).2 = if (cutR c z i).1.length = 0 then 0 else ((cutR c z i).1.getD ((cutR c z i).1.length - 1) (0, 0)).2 + 1
  | 0, _ => by simp [cutR]
  | i + 1, hi => by
    obtain ⟨h1, h2, h3⟩ := cutR_chain (c := c) (z := z) i (by omega)
    unfold cutR
    split
    · generalize cutR c z i = q at *
      obtain ⟨D, a⟩ := q
      simp only at *
      have old : ∀ k, k < D.length → (D ++ [(a, i)]).getD k (0, 0) = D.getD k (0, 0) := fun k hk => by
        rw [List.getD_eq_getElem?_getD, List.getD_eq_getElem?_getD, List.getElem?_append_left hk]
      have new : (D ++ [(a, i)]).getD D.length (0, 0) = (a, i) := by
        rw [List.getD_eq_getElem?_getD, List.getElem?_append_right (Nat.le_refl _)]; simp
      refine ⟨Nat.le_refl _, fun k hk => ?_, ?_⟩
      · simp only [List.length_append, List.length_singleton] at hk
        by_cases e : k < D.length
        · rw [old k e]
          obtain ⟨g1, g2, g3⟩ := h2 k e
          refine ⟨g1, g2, g3.trans ?_⟩
          split
          · rfl
          · rw [old (k - 1) (by omega)]
        · obtain rfl : k = D.length := by omega
          rw [new]
          refine ⟨h1, by simp only; omega, ?_⟩
          refine h3.trans ?_
          split
          · rfl
          · rw [old _ (by omega)]
      · simp only [List.length_append, List.length_singleton, Nat.add_sub_cancel]
        rw [if_neg (by omega), new]
    · exact ⟨by omega, h2, h3⟩
theorem pos_len (c : UInt8) (z : ByteArray) : (cutR c z (z.size + 1)).1.length = (cutZ c z).length := by rw [← cutR_fin, List.length_map]
theorem pos_far (c : UInt8) (z : ByteArray) : ∀ k, k < (cutZ c z).length → (posZ c z k).1 = farZ (cutZ c z) k ∧ (posZ c z k).2 + 1 = farZ (cutZ c z) (k + 1) ∧ (posZ c z k).1 ≤ (posZ c z k).2 ∧ (posZ c z k).2 ≤ z.size ∧ z.extract (posZ c z k).1 (posZ c z k).2 = (cutZ c z).getD k ByteArray.empty := by
  have hc := (cutR_chain (c := c) (z := z) (z.size + 1) (Nat.le_refl _)).2.1
  rw [pos_len] at hc
  have he : ∀ k, k < (cutZ c z).length → z.extract (posZ c z k).1 (posZ c z k).2 = (cutZ c z).getD k ByteArray.empty := fun k hk => by
    have h := cutR_fin c z
    rw [← h, List.getD_eq_getElem?_getD, List.getElem?_map]
    unfold posZ
    rw [List.getD_eq_getElem?_getD, List.getElem?_eq_getElem (by rw [pos_len]; exact hk)]
    rfl
  intro k
  induction k with
  | zero =>
    intro hk
    obtain ⟨g1, g2, g3⟩ := hc 0 hk
    have h0 := he 0 hk
    rw [if_pos rfl] at g3
    refine ⟨g3, ?_, g1, g2, h0⟩
    unfold farZ farZ
    rw [← h0, ByteArray.size_extract]
    show _ + 1 = 0 + (min _ _ - _) + 1
    have e1 : (posZ c z 0).1 = 0 := g3
    have e2 : (posZ c z 0).2 ≤ z.size := g2
    omega
  | succ k ih =>
    intro hk
    obtain ⟨i1, i2, _⟩ := ih (by omega)
    obtain ⟨g1, g2, g3⟩ := hc (k + 1) hk
    have h0 := he (k + 1) hk
    rw [if_neg (by omega), Nat.add_sub_cancel] at g3
    have e1 : (posZ c z (k + 1)).1 = (posZ c z k).2 + 1 := g3
    have e2 : (posZ c z (k + 1)).2 ≤ z.size := g2
    have e3 : (posZ c z (k + 1)).1 ≤ (posZ c z (k + 1)).2 := g1
    refine ⟨by omega, ?_, e3, e2, h0⟩
    rw [farZ, ← h0, ByteArray.size_extract]
    omega
structure Unt where
  uses : List ByteArray
  ops : List POp
  body : ByteArray
def unitZ (z : ByteArray) : Unt × Int × Int :=
  if 20000 < z.size then (⟨[], [], ⟨#[]⟩⟩, 1, 0) else
    match beginAt (linesZ z) with
    | none => if (usR (linesZ z) (linesZ z).length).bad = 0 then (⟨[], [], ⟨#[]⟩⟩, 3, 0) else (⟨[], [], ⟨#[]⟩⟩, 2, (usR (linesZ z) (linesZ z).length).bad)
    | some k => if (usR (linesZ z) k).bad = 0 then (⟨(usR (linesZ z) k).uses, (usR (linesZ z) k).ops, z.extract (min (farZ (cutZ 10 z) (k + 1)) z.size) z.size⟩, 0, 0) else (⟨[], [], ⟨#[]⟩⟩, 2, (usR (linesZ z) k).bad)
end Go.Proofs.YtbhcicdjllcdjaaDoor.V
namespace Go.Proofs.YtbhcicdjllcdjaaDoor.V
open Go.RowKit
set_option linter.unusedVariables false
set_option linter.unusedSimpArgs false
set_option linter.constructorNameAsVariable false
def wR (z : ByteArray) (i : Nat) : List ByteArray := ((cutR 32 z i).1.map fun p => z.extract p.1 p.2).filter fun w => decide (0 < w.size)
theorem wR_fin (z : ByteArray) : wR z (z.size + 1) = wordsZ z := by rw [wR, cutR_fin]; rfl
theorem cutR_skip {c : UInt8} {z : ByteArray} {i : Nat} (h : ¬ (i = z.size ∨ byteAt z i = c.toNat)) : cutR c z (i + 1) = cutR c z i := by rw [cutR, if_neg h]
theorem cutR_hit {c : UInt8} {z : ByteArray} {i : Nat} (h : i = z.size ∨ byteAt z i = c.toNat) : cutR c z (i + 1) = ((cutR c z i).1 ++ [((cutR c z i).2, i)], i + 1) := by rw [cutR, if_pos h]
theorem cutR_le {c : UInt8} {z : ByteArray} {i : Nat} (h : i ≤ z.size + 1) : (cutR c z i).2 ≤ i ∧ (cutR c z i).1.length ≤ i := by
  induction i with
  | zero => simp [cutR]
  | succ i ih =>
    have := ih (by omega)
    by_cases e : i = z.size ∨ byteAt z i = c.toNat
    · rw [cutR_hit e]; simp; omega
    · rw [cutR_skip e]; omega
theorem wR_hit {z : ByteArray} {i : Nat} (hi : i ≤ z.size) (h : i = z.size ∨ byteAt z i = 32) : wR z (i + 1) = if (cutR 32 z i).2 < i then wR z i ++ [z.extract (cutR 32 z i).2 i] else wR z i := by
  rw [wR, cutR_hit h]
  simp only [List.map_append, List.map_cons, List.map_nil, List.filter_append]
  have hs : (z.extract (cutR 32 z i).2 i).size = i - (cutR 32 z i).2 := by rw [ByteArray.size_extract]; omega
  split
  · rename_i h
    rw [List.filter_cons_of_pos (by simp only [hs, decide_eq_true_eq]; omega)]
    rfl
  · rename_i h
    rw [List.filter_cons_of_neg (by simp only [hs, decide_eq_true_eq]; omega)]
    simp [wR]
theorem wR_len {z : ByteArray} {i : Nat} (h : i ≤ z.size + 1) : (wR z i).length ≤ i := Nat.le_trans (List.length_filter_le _ _) (by rw [List.length_map]; exact (cutR_le h).2)
set_option maxRecDepth 100000 in
theorem c_l5Words (z : ByteArray) (hz : z.size ≤ 1048576) : VFun Tryd.prog 19 [.lit (.string z)] (fun av obs => av = .own 0 ∧ obs = [⟨9, 1, (wordsZ z).length, txCells (wordsZ z)⟩]) := by
  refine vfun_start Tryd.func19 (by kernel_rfl) rfl (by simp [Tryd.ntmps19]) ?_; simp only [Tryd.ntmps19, Tryd.results19]; simp [go_sem]
  refine vc_loopE (fun i : Nat => i ≤ z.size + 1) (fun i => z.size + 1 - i) (fun i => .of [(0, .lit (.string z)), (3, .own 0), (4, .lit (.int .i64 (cutR 32 z i).2)), (5, .lit (.int .i64 i))] [some ⟨9, 1, (wR z i).length, txCells (wR z i)⟩]) ⟨0, by omega, ?_⟩ (fun i hi => ?_)
  · exact uE [0] (h1 := by simp [go_sem, cutR]) (h4 := by simp [go_sem, K5, wR, cutR])
  · have hc := cutR_le (c := 32) hi
    have hl := wR_len hi
    have hwr : i ≤ z.size → IntKind.i64.wrap ((i : Int) + 1) = (i : Int) + 1 := fun h => wrap_i64 (by omega)
    have step : (i = z.size ∨ byteAt z i = 32) → (cutR 32 z (i + 1)).2 = i + 1 := fun e => by rw [cutR_hit e]
    have grow : ∀ (hw : i ≤ z.size) (e : i = z.size ∨ byteAt z i = 32), (cutR 32 z i).2 < i → wR z (i + 1) = wR z i ++ [z.extract (cutR 32 z i).2 i] := fun hw e h => by rw [wR_hit hw e, if_pos h]
    have keep : ∀ (hw : i ≤ z.size) (e : i = z.size ∨ byteAt z i = 32), ¬ (cutR 32 z i).2 < i → wR z (i + 1) = wR z i := fun hw e h => by rw [wR_hit hw e, if_neg h]
    simp [go_sem]
    refine ⟨fun hw => ?_, fun hgt => ?_⟩
    · have hwr := hwr hw
      refine ⟨fun hne => ⟨by omega, fun hb => ⟨fun hlt => ⟨by omega, by omega, by omega, by omega, i + 1, by omega, by omega, ?_⟩, fun hge => ⟨i + 1, by omega, by omega, ?_⟩⟩, fun hb => ⟨i + 1, by omega, by omega, ?_⟩⟩, fun he => ⟨fun hlt => ⟨by omega, by omega, by omega, by omega, i + 1, by omega, by omega, ?_⟩, fun hge => ⟨i + 1, by omega, by omega, ?_⟩⟩⟩
      · have g := grow hw (.inr hb) hlt
        have s1 := step (.inr hb)
        exact uE [2] (h1 := by simp [go_sem, hwr, s1]) (h4 := by simp [go_sem, K5, g, tx_new])
      · have g := keep hw (.inr hb) (by omega)
        have s1 := step (.inr hb)
        exact uE [0] (h1 := by simp [go_sem, hwr, s1]) (h4 := by simp [go_sem, K5, g])
      · have s1 : cutR 32 z (i + 1) = cutR 32 z i := cutR_skip (by rintro (h | h); · omega
                                                                   · exact hb h)
        exact uE [0] (h1 := by simp [go_sem, hwr, s1]) (h4 := by simp [go_sem, K5, wR, s1])
      · have hz' : i = z.size := by omega
        have g := grow hw (.inl hz') hlt
        have s1 := step (.inl hz')
        exact uE [2] (h1 := by simp [go_sem, hwr, s1]) (h4 := by simp [go_sem, K5, g, tx_new])
      · have hz' : i = z.size := by omega
        have g := keep hw (.inl hz') (by omega)
        have s1 := step (.inl hz')
        exact uE [0] (h1 := by simp [go_sem, hwr, s1]) (h4 := by simp [go_sem, K5, g])
    · obtain rfl : i = z.size + 1 := by omega
      rw [← wR_fin]
      exact tx_same .rfl rfl rfl
end Go.Proofs.YtbhcicdjllcdjaaDoor.V
namespace Go.Proofs.YtbhcicdjllcdjaaDoor.V
open Go.RowKit
set_option linter.unusedVariables false
set_option linter.unusedSimpArgs false
set_option linter.constructorNameAsVariable false
structure PLin where
  ws : List ByteArray
  a : Nat
  b : Nat
deriving Inhabited
def PLin.cells (l : PLin) : List AV := [.sl 1 l.ws.length (txCells l.ws), .lit (.int .i64 l.a), .lit (.int .i64 l.b)]
def linAt (L : List PLin) (i : Nat) : PLin := L.getD i default
def linCells (L : List PLin) (i : Nat) : List AV := (linAt L i).cells
theorem linCells_at (L : List PLin) (i : Nat) : linCells L i = [.sl 1 (linAt L i).ws.length (txCells (linAt L i).ws), .lit (.int .i64 (linAt L i).a), .lit (.int .i64 (linAt L i).b)] := rfl
theorem linClosed (L : List PLin) (i : Nat) (c : AV) (h : c ∈ linCells L i) : Closed c := by
  rw [linCells_at] at h
  simp at h
  rcases h with rfl | rfl | rfl
  · exact .sl _ _ _ fun i c _ h => txClosed _ i c h
  · exact .lit _
  · exact .lit _
theorem cellsRn_closed {f : Nat → Nat} {m : Nat} : ∀ {l : List AV}, (∀ c, c ∈ l → Closed c) → CellsRn f m l l
  | [], _ => trivial
  | a :: r, h => ⟨.closed _ (h a (by simp)), cellsRn_closed fun c hc => h c (by simp [hc])⟩
@[go_sem] theorem linCells_ren (f : Nat → Nat) (L : List PLin) (i : Nat) : (linCells L i).map (ren1 f) = linCells L i := rfl
@[go_sem] theorem linCells_one (L : List PLin) (i : Nat) : (linCells L i).all oneAV = true := rfl
theorem linOut {g : Nat → Nat} {ks : List Nat} {ty n : Nat} {L : List PLin} : OutAt g ks ⟨ty, 3, n, linCells L⟩ (some (some ⟨ty, 3, n, linCells L⟩)) :=
  ⟨rfl, rfl, rfl, fun i hi => ⟨rfl, fun c hc => by
    have hc : c ∈ linCells L i := hc
    rw [linCells_at] at hc
    simp at hc
    rcases hc with rfl | rfl | rfl
    · exact .inr ⟨⟨_, _, _, rfl⟩, .sl _ _ _ fun i c _ h => txClosed _ i c h⟩
    · exact .inl rfl
    · exact .inl rfl, fun c hc q hq => by
    have hc : c ∈ linCells L i := hc
    rw [linCells_at] at hc
    simp at hc
    rcases hc with rfl | rfl | rfl <;> simp [owns1] at hq⟩⟩
def linRow (L : List PLin) : Option Ob := some ⟨35, 3, L.length, linCells L⟩
theorem KL : (∀ L, linRow L = some ⟨35, 3, L.length, linCells L⟩) ∧ (∀ L i c, (c ∈ linCells L i → Closed c) = True) ∧ (∀ g m L i, CellsRn g m (linCells L i) (linCells L i) = True) ∧ (∀ (g : Nat → Nat) ks ty n L, OutAt g ks ⟨ty, 3, n, linCells L⟩ (some (some ⟨ty, 3, n, linCells L⟩)) = True) :=
  ⟨fun _ => rfl, fun _ _ _ => eq_true (linClosed _ _ _), fun _ _ L i => eq_true (cellsRn_closed fun c h => linClosed L i c h), fun _ _ _ _ _ => eq_true linOut⟩
def lnR (z : ByteArray) (i : Nat) : List PLin := (cutR 10 z i).1.map fun p => ⟨wordsZ (z.extract p.1 p.2), p.1, p.2⟩
def linesP (z : ByteArray) : List PLin := lnR z (z.size + 1)
theorem lnR_hit {z : ByteArray} {i : Nat} (h : i = z.size ∨ byteAt z i = 10) : lnR z (i + 1) = lnR z i ++ [⟨wordsZ (z.extract (cutR 10 z i).2 i), (cutR 10 z i).2, i⟩] := by rw [lnR, cutR_hit h]; simp [lnR]
theorem lnR_len {z : ByteArray} {i : Nat} (h : i ≤ z.size + 1) : (lnR z i).length ≤ i := by rw [lnR, List.length_map]; exact (cutR_le h).2
theorem wordsZ_len (z : ByteArray) : (wordsZ z).length ≤ z.size + 1 := by rw [← wR_fin]; exact wR_len (Nat.le_refl _)
theorem linAt_app (T : List PLin) (x : PLin) (i : Nat) (hi : i < T.length + 1) : linAt (T ++ [x]) i = if i = T.length then x else linAt T i := by
  unfold linAt
  by_cases h : i = T.length
  · subst h
    rw [if_pos rfl, List.getD_eq_getElem?_getD, List.getElem?_append_right (Nat.le_refl _)]; simp
  · rw [if_neg h, List.getD_eq_getElem?_getD, List.getD_eq_getElem?_getD, List.getElem?_append_left (by omega)]
theorem lin_new {g : Nat → Nat} {m k : Nat} (T : List PLin) (ws : List ByteArray) (a b : Nat) : (∀ i, i < T.length + 1 → CellsRn g m (if i = T.length then (joinF T.length (linCells T) (fun q => [[AV.own k, AV.lit (.int .i64 a), AV.lit (.int .i64 b)]][q]?.getD []) i).set 0 (.sl 1 ws.length (txCells ws)) else joinF T.length (linCells T) (fun q => [[AV.own k, AV.lit (.int .i64 a), AV.lit (.int .i64 b)]][q]?.getD []) i) (linCells (T ++ [⟨ws, a, b⟩]) i)) = True := eq_true fun i hi => by
  have : (if i = T.length then (joinF T.length (linCells T) (fun q => [[AV.own k, AV.lit (.int .i64 a), AV.lit (.int .i64 b)]][q]?.getD []) i).set 0 (.sl 1 ws.length (txCells ws)) else joinF T.length (linCells T) (fun q => [[AV.own k, AV.lit (.int .i64 a), AV.lit (.int .i64 b)]][q]?.getD []) i) = linCells (T ++ [⟨ws, a, b⟩]) i := by
    unfold joinF
    rw [show linCells (T ++ [⟨ws, a, b⟩]) i = (linAt (T ++ [⟨ws, a, b⟩]) i).cells from rfl, linAt_app T _ i hi]
    by_cases h : i = T.length
    · subst h
      simp [PLin.cells]
    · rw [if_neg h, if_pos (by omega), if_neg h]
      rfl
  rw [this]
  exact cellsRn_closed fun c h => linClosed _ i c h
set_option maxRecDepth 100000 in
theorem c_l5Lines (z : ByteArray) (hz : z.size ≤ 1048576) : VProc Tryd.prog 9 [.lit (.string z)] [] [] (fun av mem maps => av = .own 0 ∧ mem = [linRow (linesP z)] ∧ maps = []) := by
  refine vproc_start Tryd.func9 (by kernel_rfl) rfl (by simp [Tryd.ntmps9]) ?_; simp only [Tryd.ntmps9, Tryd.results9]; simp [go_sem]
  refine vc_loopE (fun i : Nat => i ≤ z.size + 1) (fun i => z.size + 1 - i) (fun i => .of [(0, .lit (.string z)), (3, .own 0), (4, .lit (.int .i64 (cutR 10 z i).2)), (5, .lit (.int .i64 i))] [linRow (lnR z i)]) ⟨0, by omega, ?_⟩ (fun i hi => ?_)
  · exact uE [0] (h1 := by simp [go_sem, cutR]) (h4 := by simp [go_sem, KL, lnR, cutR])
  · have hc := cutR_le (c := 10) hi
    have hl := lnR_len hi
    have hwr : i ≤ z.size → IntKind.i64.wrap ((i : Int) + 1) = (i : Int) + 1 := fun h => wrap_i64 (by omega)
    simp [go_sem, KL]
    have step : (i = z.size ∨ byteAt z i = 10) → (cutR 10 z (i + 1)).2 = i + 1 := fun e => by rw [cutR_hit e]
    have hw1 := c_l5Words (z.extract (cutR 10 z i).2 i) (by rw [ByteArray.size_extract]; omega)
    have hwl := wordsZ_len (z.extract (cutR 10 z i).2 i)
    rw [ByteArray.size_extract] at hwl
    refine ⟨fun hw => ?_, fun hgt => ?_⟩
    · have hwr := hwr hw
      refine ⟨fun hne => ⟨by omega, fun hb => ⟨by omega, by omega, vcall_use hw1 (by simp [go_sem]) ?_⟩, fun hb => ⟨i + 1, by omega, by omega, ?_⟩⟩, fun he => ⟨by omega, by omega, vcall_use hw1 (by simp [go_sem]) ?_⟩⟩
      · rintro av obs ⟨rfl, rfl⟩
        simp [go_sem]
        have s1 := step (.inr hb)
        have g := lnR_hit (z := z) (i := i) (.inr hb)
        refine ⟨by omega, by omega, i + 1, by omega, by omega, ?_⟩
        refine Ent.trans (Ent.giveAt 3 1 (lnR z i).length 0 rfl (fun i _ c h => txClosed _ i c h) rfl (by decide) ?_) ?_
        · simp [joinF]
        · simp only [List.set_cons_succ, List.set_cons_zero]
          exact uE [3] (h1 := by simp [go_sem, hwr, s1]) (h4 := by simp [go_sem, KL, g, lin_new])
      · have s1 : cutR 10 z (i + 1) = cutR 10 z i := cutR_skip (by rintro (h | h); · omega
                                                                   · exact hb h)
        exact uE [0] (h1 := by simp [go_sem, hwr, s1]) (h4 := by simp [go_sem, KL, lnR, s1])
      · rintro av obs ⟨rfl, rfl⟩
        simp [go_sem]
        have hz' : i = z.size := by omega
        have s1 := step (.inl hz')
        have g := lnR_hit (z := z) (i := i) (.inl hz')
        refine ⟨by omega, by omega, i + 1, by omega, by omega, ?_⟩
        refine Ent.trans (Ent.giveAt 3 1 (lnR z i).length 0 rfl (fun i _ c h => txClosed _ i c h) rfl (by decide) ?_) ?_
        · simp [joinF]
        · simp only [List.set_cons_succ, List.set_cons_zero]
          exact uE [3] (h1 := by simp [go_sem, hwr, s1]) (h4 := by simp [go_sem, KL, g, lin_new])
    · obtain rfl : i = z.size + 1 := by omega
      exact uF [0] [linRow (linesP z)] (hm := by simp [go_sem, KL, linesP]) (hR := by simp [go_sem, KL])
end Go.Proofs.YtbhcicdjllcdjaaDoor.V
namespace Go.Proofs.YtbhcicdjllcdjaaDoor.V
open Go.RowKit
set_option linter.unusedVariables false
set_option linter.unusedSimpArgs false
set_option linter.constructorNameAsVariable false
theorem ba_kw {w : ByteArray} {l : List UInt8} : (w.toList = l) = (w = ⟨l.toArray⟩) := propext ⟨fun h => by
  rw [ByteArray.toList_eq] at h
  cases w
  simp only at h
  rw [← h], fun h => by rw [h, ByteArray.toList_eq]⟩
theorem KW5 : (∀ w : ByteArray, (w.toList = [98, 101, 103, 105, 110]) = (w = kwBegin)) ∧ (∀ w : ByteArray, (w.toList = [117, 115, 101]) = (w = kwUse)) ∧ (∀ w : ByteArray, (w.toList = [112, 114, 101, 102, 105, 120]) = (w = kwPre)) ∧ (∀ w : ByteArray, (w.toList = [105, 110, 102, 105, 120]) = (w = kwInf)) ∧ (∀ w : ByteArray, (w.toList = [112, 111, 115, 116, 102, 105, 120]) = (w = kwPost)) ∧ (∀ w : ByteArray, (w.toList = [108, 101, 102, 116]) = (w = kwLeft)) ∧ (∀ w : ByteArray, (w.toList = [114, 105, 103, 104, 116]) = (w = kwRight)) ∧ (∀ w : ByteArray, (w.toList = [110, 111, 110, 101]) = (w = kwNone)) :=
  ⟨fun _ => ba_kw, fun _ => ba_kw, fun _ => ba_kw, fun _ => ba_kw, fun _ => ba_kw, fun _ => ba_kw, fun _ => ba_kw, fun _ => ba_kw⟩
theorem KW6 : (¬ kwPost = kwPre) ∧ (¬ kwInf = kwPre) ∧ (¬ kwInf = kwPost) ∧ (¬ kwPre = kwPost) ∧ (¬ kwPre = kwInf) ∧ (¬ kwPost = kwInf) := by decide
def iOf : Option Nat → Int
  | some k => k
  | none => -1
def beginP (L : List PLin) : Option Nat := L.findIdx? fun l => isBegin l.ws
theorem linesP_ws (z : ByteArray) : (linesP z).map (·.ws) = linesZ z := by
  unfold linesP lnR linesZ
  rw [← cutR_fin]
  simp [List.map_map, Function.comp_def]
theorem beginP_eq (z : ByteArray) : beginP (linesP z) = beginAt (linesZ z) := by
  rw [← linesP_ws]
  unfold beginP beginAt
  rw [List.findIdx?_map]
  rfl
theorem beginP_none {L : List PLin} (h : ∀ j, j < L.length → isBegin (linAt L j).ws = false) : beginP L = none := by
  unfold beginP
  rw [List.findIdx?_eq_none_iff]
  intro x hx
  obtain ⟨j, hj⟩ := List.getElem?_of_mem hx
  have := h j (List.getElem?_eq_some_iff.1 hj).1
  unfold linAt at this
  rw [List.getD_eq_getElem?_getD, hj] at this
  exact this
theorem beginP_some {L : List PLin} {i : Nat} (hi : i < L.length) (h : ∀ j, j < i → isBegin (linAt L j).ws = false) (hb : isBegin (linAt L i).ws = true) : beginP L = some i := by
  unfold beginP
  rw [List.findIdx?_eq_some_iff_getElem]
  have e : ∀ j (hj : j < L.length), linAt L j = L[j] := fun j hj => by
    unfold linAt; rw [List.getD_eq_getElem?_getD, List.getElem?_eq_getElem hj]; rfl
  refine ⟨hi, by rw [← e i hi]; exact hb, fun j hj => ?_⟩
  rw [← e j (by omega), h j hj]
  simp
set_option maxRecDepth 100000 in
theorem c_l5Begin (L : List PLin) (hL : L.length ≤ 2000000) (hW : ∀ i, (linAt L i).ws.length ≤ 2000000) : VFun Tryd.prog 10 [.sl 3 L.length (linCells L)] (fun av obs => obs = [] ∧ av = .lit (.int .i64 (iOf (beginP L)))) := by
  refine vfun_start Tryd.func10 (by kernel_rfl) rfl (by simp [Tryd.ntmps10]) ?_; simp only [Tryd.ntmps10, Tryd.results10]; simp [go_sem]
  refine vc_loop (fun i : Nat => i ≤ L.length ∧ ∀ j, j < i → isBegin (linAt L j).ws = false) (fun i => L.length - i) (fun i => .of [(0, .sl 3 L.length (linCells L)), (3, .lit (.int .i64 i))] []) ⟨0, ⟨by omega, fun j h => by omega⟩, ?_⟩ (fun i hi => ?_)
  · simp [go_sem, KL]
  · obtain ⟨hi, hj⟩ := hi
    have hwr : i < L.length → IntKind.i64.wrap ((i : Int) + 1) = (i : Int) + 1 := fun h => wrap_i64 (by omega)
    have next : i < L.length → isBegin (linAt L i).ws = false → ∀ j, j < i + 1 → isBegin (linAt L j).ws = false := fun h e j h2 => by
      by_cases e2 : j = i
      · rw [e2]; exact e
      · exact hj j (by omega)
    have one : ∀ ws : List ByteArray, ws.length = 1 → ws = [txAt ws 0] := fun ws h => by
      obtain ⟨x, rfl⟩ := List.length_eq_one_iff.1 h
      rfl
    simp [go_sem, linCells_at, txCells_at, KW5, K5]
    refine ⟨by omega, fun h => ⟨h, ?_⟩, fun h => ?_⟩
    · have hwr := hwr h
      have hWi := hW i
      have cl : ∀ (i : Nat) (c : AV), i < L.length → (c = AV.sl 1 (linAt L i).ws.length (txCells (linAt L i).ws) ∨ c = AV.lit (Value.int IntKind.i64 ↑(linAt L i).a) ∨ c = AV.lit (Value.int IntKind.i64 ↑(linAt L i).b)) → Closed c := fun i c _ h => linClosed L i c (by rw [linCells_at]; simpa using h)
      refine ⟨by omega, fun h1 => ⟨h, by omega, fun h2 => ?_, fun h2 => ⟨i + 1, ⟨by omega, next h ?_⟩, by omega, cl, by rw [hwr]; rfl⟩⟩, fun h1 => ⟨i + 1, ⟨by omega, next h ?_⟩, by omega, cl, by rw [hwr]; rfl⟩⟩
      · have e := one (linAt L i).ws (by omega)
        rw [h2] at e
        rw [beginP_some h hj (by simp [isBegin, e])]
        rfl
      · simp only [isBegin, decide_eq_false_iff_not]
        intro e
        rw [e] at h2
        exact h2 rfl
      · simp only [isBegin, decide_eq_false_iff_not]
        intro e
        rw [e] at h1
        exact h1 rfl
    · rw [beginP_none fun j h2 => hj j (by omega)]
      rfl
def lvlI (w : ByteArray) : Int := match levelZ w with
  | some v => v
  | none => -1
set_option maxRecDepth 100000 in
theorem c_l5Level (w : ByteArray) (hw : w.size ≤ 1048576) : VFun Tryd.prog 20 [.lit (.string w)] (fun av obs => obs = [] ∧ av = .lit (.int .i64 (lvlI w))) := by
  have h1 := c_l2IsNumber w (by omega)
  refine vfun_start Tryd.func20 (by kernel_rfl) rfl (by simp [Tryd.ntmps20]) ?_; simp only [Tryd.ntmps20, Tryd.results20]; simp [go_sem]
  refine vcall_pure h1 (by simp [go_sem]) ?_
  simp [go_sem]
  have hlv : numZ w = true → w.size ≤ 6 → lvlI w = (decR w w.size : Nat) := fun h h2 => by unfold lvlI levelZ; rw [if_pos ⟨h, h2⟩]
  refine ⟨fun hn => ⟨fun h6 => ?_, fun h6 => ?_⟩, fun hn => ?_⟩
  · unfold lvlI levelZ
    rw [if_neg (by omega)]
  · refine vc_loop (fun i : Nat => i ≤ w.size) (fun i => w.size - i) (fun i => .of [(0, .lit (.string w)), (3, .lit (.int .i64 (decR w i))), (4, .lit (.int .i64 i))] []) ⟨0, by omega, ?_⟩ (fun i hi => ?_)
    · simp [go_sem, decR]
    · have hd := decR_lt hn i hi
      have hp : 10 ^ i ≤ 10 ^ 6 := Nat.pow_le_pow_right (by omega) (by omega)
      simp [go_sem]
      refine ⟨fun h => ⟨h, ?_⟩, fun h => ?_⟩
      · have hg : 48 ≤ byteAt w i ∧ byteAt w i ≤ 57 := by
          simp only [numZ, Bool.and_eq_true, List.all_eq_true, List.mem_range] at hn
          have := hn.1 i h
          simpa [isDg] using this
        have hd2 := decR_lt hn (i + 1) h
        have hp2 : 10 ^ (i + 1) ≤ 10 ^ 6 := Nat.pow_le_pow_right (by omega) (by omega)
        have e1 : IntKind.u8.wrap (byteAt w i - 48) = byteAt w i - 48 := u8_small (by omega)
        rw [e1]
        refine ⟨i + 1, h, by omega, ?_, wrap_succ (by omega)⟩
        have hk : decR w i ≤ 1000000 := by omega
        rw [wrap_i64 (n := byteAt w i - 48) (by omega), wrap_i64 (n := (decR w i : Int) * 10) (by omega), wrap_i64 (by omega)]
        rw [decR]
        omega
      · obtain rfl : i = w.size := by omega
        rw [hlv hn (by omega)]
  · unfold lvlI levelZ
    rw [if_neg (by simp [hn])]
set_option maxRecDepth 100000 in
theorem c_l5Side (w : ByteArray) : VFun Tryd.prog 21 [.lit (.string w)] (fun av obs => obs = [] ∧ av = .lit (.int .i64 (sideZ w : Nat))) := by
  refine vfun_start Tryd.func21 (by kernel_rfl) rfl (by simp [Tryd.ntmps21]) ?_; simp only [Tryd.ntmps21, Tryd.results21]; simp [go_sem]
  simp [go_sem, KW5]
  unfold sideZ
  refine ⟨fun h => by rw [if_pos h]; rfl, fun h => ⟨fun h2 => by rw [if_neg h, if_pos h2]; rfl, fun h2 => ⟨fun h3 => by rw [if_neg h, if_neg h2, if_pos h3]; rfl, fun h3 => by rw [if_neg h, if_neg h2, if_neg h3]; rfl⟩⟩⟩
def nilOp : POp := ⟨⟨#[]⟩, 0, 0, 0⟩
def declV (ws : List ByteArray) : List AV := match declZ ws with
  | some o => [.agg o.cells, .lit (.bool true)]
  | none => [.agg nilOp.cells, .lit (.bool false)]
theorem lvlI_none {w : ByteArray} (h : levelZ w = none) : lvlI w = -1 := by unfold lvlI; rw [h]
theorem lvlI_some {w : ByteArray} {v : Nat} (h : levelZ w = some v) : lvlI w = v := by unfold lvlI; rw [h]
theorem declV_short {ws : List ByteArray} (h : ws.length < 3) : declV ws = [.agg nilOp.cells, .lit (.bool false)] := by unfold declV declZ; rw [if_pos h]
theorem declV_lev {ws : List ByteArray} (h : levelZ (txAt ws 2) = none) : declV ws = [.agg nilOp.cells, .lit (.bool false)] := by
  unfold declV declZ
  have h : levelZ (wrdAt ws 2) = none := h
  rw [h]
  by_cases h2 : ws.length < 3 <;> simp only [h2, if_true, if_false]
theorem declV_go {ws : List ByteArray} {v : Nat} (hl : ¬ ws.length < 3) (h : levelZ (txAt ws 2) = some v) : declV ws = if txAt ws 0 = kwPre ∧ ws.length = 3 then [.agg (⟨txAt ws 1, 1, v, 0⟩ : POp).cells, .lit (.bool true)] else if txAt ws 0 = kwPost ∧ ws.length = 3 then [.agg (⟨txAt ws 1, 3, v, 0⟩ : POp).cells, .lit (.bool true)]
      else if txAt ws 0 = kwInf ∧ ws.length = 4 ∧ 0 < sideZ (txAt ws 3) then [.agg (⟨txAt ws 1, 2, v, sideZ (txAt ws 3)⟩ : POp).cells, .lit (.bool true)] else [.agg nilOp.cells, .lit (.bool false)] := by
  unfold declV declZ
  have h : levelZ (wrdAt ws 2) = some v := h
  rw [if_neg hl, h]
  show (match (if txAt ws 0 = kwPre ∧ ws.length = 3 then some (⟨txAt ws 1, 1, v, 0⟩ : POp) else if txAt ws 0 = kwPost ∧ ws.length = 3 then some ⟨txAt ws 1, 3, v, 0⟩ else if txAt ws 0 = kwInf ∧ ws.length = 4 ∧ 0 < sideZ (txAt ws 3) then some ⟨txAt ws 1, 2, v, sideZ (txAt ws 3)⟩ else none) with
    | some o => [AV.agg o.cells, .lit (.bool true)]
    | none => [.agg nilOp.cells, .lit (.bool false)]) = _
  by_cases hA : txAt ws 0 = kwPre ∧ ws.length = 3
  · rw [if_pos hA, if_pos hA]
  rw [if_neg hA, if_neg hA]
  by_cases hB : txAt ws 0 = kwPost ∧ ws.length = 3
  · rw [if_pos hB, if_pos hB]
  rw [if_neg hB, if_neg hB]
  by_cases hC : txAt ws 0 = kwInf ∧ ws.length = 4 ∧ 0 < sideZ (txAt ws 3)
  · rw [if_pos hC, if_pos hC]
  rw [if_neg hC, if_neg hC]
set_option maxRecDepth 100000 in
theorem c_l5OpOf (ws : List ByteArray) (hl : ws.length ≤ 2000000) (hB : ∀ i, (txAt ws i).size ≤ 1048576) : VFun Tryd.prog 11 [.sl 1 ws.length (txCells ws)] (fun av obs => obs = [] ∧ av = .tup (declV ws)) := by
  have h1 := c_l5Level (txAt ws 2) (hB 2)
  have h2 := c_l5Side (txAt ws 3)
  by_cases h3 : ws.length < 3
  · rw [declV_short h3]
    refine vfun_start Tryd.func11 (by kernel_rfl) rfl (by simp [Tryd.ntmps11]) ?_; simp only [Tryd.ntmps11, Tryd.results11]; simp [go_sem]
    simp [go_sem, txCells_at, KW5]
    exact ⟨by omega, fun h => absurd h (by omega), fun h => by simp [nilOp, POp.cells]⟩
  match hlev : levelZ (txAt ws 2) with
  | none =>
    rw [lvlI_none hlev] at h1
    rw [declV_lev hlev]
    refine vfun_start Tryd.func11 (by kernel_rfl) rfl (by simp [Tryd.ntmps11]) ?_; simp only [Tryd.ntmps11, Tryd.results11]; simp [go_sem]
    simp [go_sem, txCells_at, KW5]
    refine ⟨by omega, fun h => ⟨by omega, vcall_pure h1 (by simp [go_sem]) ?_⟩, fun h => absurd h (by omega)⟩
    simp [go_sem, nilOp, POp.cells]
  | some v =>
    rw [lvlI_some hlev] at h1
    rw [declV_go h3 hlev]
    refine vfun_start Tryd.func11 (by kernel_rfl) rfl (by simp [Tryd.ntmps11]) ?_; simp only [Tryd.ntmps11, Tryd.results11]; simp [go_sem]
    simp [go_sem, txCells_at, KW5]
    refine ⟨by omega, fun h => ⟨by omega, vcall_pure h1 (by simp [go_sem]) ?_⟩, fun h => absurd h (by omega)⟩
    simp [go_sem, txCells_at, KW5]
    refine ⟨fun h => absurd h (by omega), ?_⟩
    refine vc_drawn [9] (.q 0 <| .q 1 <| .q 2 <| .q 3 <| .q 4 <| .q 5 <| .or 6 (.q 7 <| .or 8 (.or 9 (.done) (.nil)) (.nil)) (.or 8 (.or 6 (.q 7 <| .or 9 (.done) (.nil)) (.nil)) (.nil))) (by kernel_rfl) ?_
    simp [go_sem, txCells_at, KW5]
    refine ⟨by omega, by omega, vcallV_pure h1 (by simp [go_sem]) ?_, vcallV_pure h1 (by simp [go_sem]) ?_⟩
    all_goals
      have e0 : 0 < ws.length := by omega
      have e1 : ws.length ≤ 9223372036854775807 := by omega
      by_cases a0 : txAt ws 0 = kwPre
      · by_cases a1 : ws.length = 3
        · simp [go_sem, txCells_at, KW5, KW6, a0, a1, POp.cells, nilOp]
        · have a2 : ¬ (ws.length : Int) = 3 := by omega
          simp [go_sem, txCells_at, KW5, KW6, a0, a1, a2, e0, e1, POp.cells, nilOp]
      by_cases b0 : txAt ws 0 = kwPost
      · by_cases a1 : ws.length = 3
        · simp [go_sem, txCells_at, KW5, KW6, b0, a1, POp.cells, nilOp]
        · have a2 : ¬ (ws.length : Int) = 3 := by omega
          simp [go_sem, txCells_at, KW5, KW6, b0, a1, a2, e0, e1, POp.cells, nilOp]
      by_cases c0 : txAt ws 0 = kwInf
      · by_cases a1 : ws.length = 4
        · simp [go_sem, txCells_at, KW5, KW6, c0, a1, POp.cells, nilOp]
          refine vcall_pure h2 (by simp [go_sem]) ?_
          simp [go_sem, txCells_at, KW5, KW6, c0, a1, POp.cells, nilOp]
          refine fun c2 => vcall_pure h2 (by simp [go_sem]) ?_
          simp [go_sem, c2, POp.cells]
        · have a2 : ¬ (ws.length : Int) = 4 := by omega
          simp [go_sem, txCells_at, KW5, KW6, c0, a1, a2, e0, e1, POp.cells, nilOp]
      · simp [go_sem, txCells_at, KW5, KW6, a0, b0, c0, e0, e1, POp.cells, nilOp]
end Go.Proofs.YtbhcicdjllcdjaaDoor.V
namespace Go.Proofs.YtbhcicdjllcdjaaDoor.V
open Go.RowKit
set_option linter.unusedVariables false
set_option linter.unusedSimpArgs false
set_option linter.constructorNameAsVariable false
def opRow5 (l : List POp) : Option Ob := some ⟨37, 4, l.length, opCells l⟩
theorem op_new5 {g : Nat → Nat} {m : Nat} (l : List POp) (o : POp) : (∀ i, i < l.length + 1 → CellsRn g m (joinF l.length (opCells l) (fun q => [[AV.lit (.string o.text), AV.lit (.int .i64 o.kind), AV.lit (.int .i64 o.level), AV.lit (.int .i64 o.side)]][q]?.getD []) i) (opCells (l ++ [o]) i)) = True := eq_true fun i hi => by
  have : joinF l.length (opCells l) (fun q => [[AV.lit (.string o.text), AV.lit (.int .i64 o.kind), AV.lit (.int .i64 o.level), AV.lit (.int .i64 o.side)]][q]?.getD []) i = opCells (l ++ [o]) i := by
    unfold joinF
    by_cases h : i < l.length
    · rw [if_pos h]
      show (l.getD i default).cells = ((l ++ [o]).getD i default).cells
      rw [List.getD_eq_getElem?_getD, List.getD_eq_getElem?_getD, List.getElem?_append_left h]
    · have : i = l.length := by omega
      subst this
      rw [if_neg h]
      show _ = ((l ++ [o]).getD l.length default).cells
      rw [List.getD_eq_getElem?_getD, List.getElem?_append_right (by omega)]
      simp [POp.cells]
  rw [this]
  exact cellsRn_lits (opLit _ i)
theorem argSl_own5 {mem : List (Option Ob)} {k sz n N ty : Nat} {f f' : Nat → List AV} (hk : mem[k]? = some (some ⟨ty, sz, N, f⟩)) (hsz : 0 < sz) (hn : N = n) (h : ∀ i, i < n → f i = f' i) (hc : ∀ (i : Nat) c, i < n → c ∈ f' i → Closed c) : ArgSl mem (.own k) sz n f' :=
  ⟨hsz, f, by simp [contents, hk, hn], fun i hi => ⟨h i hi, fun c hc' => hc i c hi hc'⟩⟩
theorem ext_end (z : ByteArray) : z.extract z.size z.size = ⟨#[]⟩ := by
  apply ByteArray.ext
  rw [ByteArray.data_extract]
  simp
def untR (u : Unt) (c ln : Int) (av : AV) (obs : List Ob) : Prop := av = .tup [.agg [.own 0, .own 1, .lit (.string u.body)], .lit (.int .i64 c), .lit (.int .i64 ln)] ∧ obs = [⟨9, 1, u.uses.length, txCells u.uses⟩, ⟨37, 4, u.ops.length, opCells u.ops⟩]
def untNil (u : Unt) (c ln : Int) (av : AV) (obs : List Ob) : Prop := av = .tup [.agg [.lit (.slice none 0 0), .lit (.slice none 0 0), .lit (.string u.body)], .lit (.int .i64 c), .lit (.int .i64 ln)] ∧ obs = [] ∧ u.uses = [] ∧ u.ops = []
theorem wordsZ_size {z w : ByteArray} (h : w ∈ wordsZ z) : w.size ≤ z.size := by
  rw [← wR_fin] at h
  unfold wR at h
  have h := (List.mem_filter.1 h).1
  rw [List.mem_map] at h
  obtain ⟨p, _, rfl⟩ := h
  rw [ByteArray.size_extract]; omega
theorem linAt_def {z : ByteArray} {i : Nat} : (linAt (linesP z) i) = if i < (linesP z).length then ⟨wordsZ (z.extract (posZ 10 z i).1 (posZ 10 z i).2), (posZ 10 z i).1, (posZ 10 z i).2⟩ else default := by
  unfold linAt linesP lnR posZ
  rw [List.getD_eq_getElem?_getD, List.getElem?_map, List.length_map]
  by_cases h : i < (cutR 10 z (z.size + 1)).1.length
  · rw [if_pos h, List.getD_eq_getElem?_getD, List.getElem?_eq_getElem h]; rfl
  · rw [if_neg h, List.getElem?_eq_none (by omega)]; rfl
theorem linWs_len (z : ByteArray) (i : Nat) : (linAt (linesP z) i).ws.length ≤ z.size + 1 := by
  rw [linAt_def]
  split
  · have := wordsZ_len (z.extract (posZ 10 z i).1 (posZ 10 z i).2)
    rw [ByteArray.size_extract] at this
    simp only
    omega
  · exact Nat.zero_le _
theorem linWs_size (z : ByteArray) (i j : Nat) : (txAt (linAt (linesP z) i).ws j).size ≤ z.size := by
  rw [linAt_def]
  split
  · simp only [txAt]
    rw [List.getD_eq_getElem?_getD]
    cases h : (wordsZ (z.extract (posZ 10 z i).1 (posZ 10 z i).2))[j]? with
    | none => exact Nat.zero_le _
    | some w =>
      have := wordsZ_size (List.mem_of_getElem? h)
      rw [ByteArray.size_extract] at this
      simp only [Option.getD_some]
      omega
  · exact Nat.zero_le _
theorem linesP_len (z : ByteArray) : (linesP z).length = (cutZ 10 z).length := by unfold linesP lnR; rw [List.length_map, pos_len]
theorem linesP_le (z : ByteArray) : (linesP z).length ≤ z.size + 1 := lnR_len (Nat.le_refl _)
theorem linesZ_len (z : ByteArray) : (linesZ z).length = (linesP z).length := by rw [← linesP_ws, List.length_map]
theorem linWs (z : ByteArray) (i : Nat) : (linesZ z).getD i [] = (linAt (linesP z) i).ws := by
  rw [← linesP_ws]
  unfold linAt
  rw [List.getD_eq_getElem?_getD, List.getD_eq_getElem?_getD, List.getElem?_map]
  cases (linesP z)[i]? <;> rfl
theorem usR_len (L : List (List ByteArray)) : ∀ i, (usR L i).uses.length ≤ i ∧ (usR L i).ops.length ≤ i
  | 0 => by simp [usR]
  | i + 1 => by
    have := usR_len L i
    unfold usR usStep
    split
    · omega
    · split
      · simp; omega
      · split
        · simp; omega
        · simp; omega
theorem usR_stick {L : List (List ByteArray)} {i : Nat} (h : (usR L i).bad ≠ 0) : ∀ k, (usR L (i + k)).bad = (usR L i).bad
  | 0 => rfl
  | k + 1 => by
    have ih := usR_stick h k
    show (usStep (usR L (i + k)) (i + k) _).bad = _
    unfold usStep
    split
    · exact ih
    · split
      · exact ih
      · split
        · exact ih
        · rw [if_neg (by rw [ih]; exact h)]; exact ih
theorem usStep_op {st : US} {i : Nat} {ws : List ByteArray} {o : POp} (h : declZ ws = some o) : usStep st i ws = { st with ops := st.ops ++ [o] } := by
  unfold usStep
  rw [if_neg (by rintro rfl; simp [declZ] at h), h]
theorem usStep_use {st : US} {i : Nat} {ws : List ByteArray} (h : declZ ws = none) (h2 : ws.length = 2) (h3 : txAt ws 0 = kwUse) : usStep st i ws = { st with uses := st.uses ++ [txAt ws 1] } := by
  unfold usStep
  rw [if_neg (by rintro rfl; simp at h2), h]
  simp only
  rw [if_pos ⟨h2, h3⟩]; rfl
theorem usStep_bad {st : US} {i : Nat} {ws : List ByteArray} (h : declZ ws = none) (h2 : ¬ (ws.length = 2 ∧ txAt ws 0 = kwUse)) (h3 : 0 < ws.length) (h0 : st.bad = 0) : usStep st i ws = { st with bad := i + 1 } := by
  unfold usStep
  rw [if_neg (by rintro rfl; simp at h3), h]
  simp only
  have h2 : ¬ (ws.length = 2 ∧ wrdAt ws 0 = kwUse) := h2
  rw [if_neg h2, if_pos h0]
theorem usStep_nil {st : US} {i : Nat} {ws : List ByteArray} (h : ws.length = 0) : usStep st i ws = st := by
  unfold usStep
  rw [if_pos (List.length_eq_zero_iff.1 h)]
def endZ (z : ByteArray) (B : Int) (E : Nat) : Prop := (B = -1 ∧ E = (linesP z).length ∧ beginP (linesP z) = none) ∨ (B = E ∧ E < (linesP z).length ∧ beginP (linesP z) = some E)
theorem endZ_ex (z : ByteArray) : ∃ B E, iOf (beginP (linesP z)) = B ∧ endZ z B E := by
  match h : beginP (linesP z) with
  | none => exact ⟨-1, (linesP z).length, rfl, .inl ⟨rfl, rfl, h⟩⟩
  | some k =>
    refine ⟨k, k, rfl, .inr ⟨rfl, ?_, h⟩⟩
    unfold beginP at h
    rw [List.findIdx?_eq_some_iff_getElem] at h
    exact h.1
theorem unit_bad {z : ByteArray} {B : Int} {E : Nat} (hz : ¬ 20000 < z.size) (hE : endZ z B E) (h : (usR (linesZ z) E).bad ≠ 0) : unitZ z = ((⟨[], [], ⟨#[]⟩⟩ : Unt), (2 : Int), ((usR (linesZ z) E).bad : Int)) := by
  unfold unitZ
  rw [if_neg hz, ← beginP_eq]
  rcases hE with ⟨_, rfl, e⟩ | ⟨_, _, e⟩
  · rw [e]; simp only [linesZ_len]; rw [if_neg h]
  · rw [e]; simp only; rw [if_neg h]
theorem unit_none {z : ByteArray} {B : Int} {E : Nat} (hz : ¬ 20000 < z.size) (hE : endZ z B E) (hB : B < 0) (h : (usR (linesZ z) E).bad = 0) : unitZ z = ((⟨[], [], ⟨#[]⟩⟩ : Unt), (3 : Int), (0 : Int)) := by
  unfold unitZ
  rw [if_neg hz, ← beginP_eq]
  rcases hE with ⟨_, rfl, e⟩ | ⟨e1, _, e⟩
  · rw [e]; simp only [linesZ_len]; rw [if_pos h]
  · omega
theorem unit_some {z : ByteArray} {B : Int} {E : Nat} (hz : ¬ 20000 < z.size) (hE : endZ z B E) (hB : ¬ B < 0) (h : (usR (linesZ z) E).bad = 0) :
    unitZ z = (⟨(usR (linesZ z) E).uses, (usR (linesZ z) E).ops, z.extract (min ((linAt (linesP z) E).b + 1) z.size) z.size⟩, 0, 0) ∧ (linAt (linesP z) E).b ≤ z.size := by
  rcases hE with ⟨rfl, _⟩ | ⟨e1, e2, e⟩
  · omega
  have hp := pos_far 10 z E (by rw [← linesP_len]; exact e2)
  have hb : (linAt (linesP z) E).b = (posZ 10 z E).2 := by rw [linAt_def, if_pos e2]
  refine ⟨?_, by rw [hb]; exact hp.2.2.2.1⟩
  unfold unitZ
  rw [if_neg hz, ← beginP_eq, e]
  simp only
  rw [if_pos h, ← hp.2.1, hb]
set_option maxRecDepth 100000 in
theorem c_specReadUnit1 (z : ByteArray) (hz : z.size ≤ 1048576) : VFun Tryd.prog 4 [.lit (.string z)] (fun av obs => untR (unitZ z).1 (unitZ z).2.1 (unitZ z).2.2 av obs ∨ untNil (unitZ z).1 (unitZ z).2.1 (unitZ z).2.2 av obs) := by
  have h1 := c_l5Lines z hz
  refine vfun_start Tryd.func4 (by kernel_rfl) rfl (by simp [Tryd.ntmps4]) ?_; simp only [Tryd.ntmps4, Tryd.results4]; simp [go_sem]
  refine ⟨fun hbig => .inr ?_, fun hsm => ?_⟩
  · have e : unitZ z = ((⟨[], [], ⟨#[]⟩⟩ : Unt), (1 : Int), (0 : Int)) := by unfold unitZ; rw [if_pos (by omega)]
    rw [e]
    exact ⟨rfl, rfl, rfl, rfl⟩
  · have hsm : ¬ 20000 < z.size := by omega
    have hL1 := linesP_le z
    have hL2 := linWs_len z
    have hL3 := linWs_size z
    have hws := linWs z
    have hul := usR_len (linesZ z)
    obtain ⟨B, E, hB, hE⟩ := endZ_ex z
    have h2 := c_l5Begin (linesP z) (by omega) (fun i => by have := hL2 i; omega)
    rw [hB] at h2
    have u1 := fun h => unit_bad (z := z) hsm hE h
    have u2 := fun h h' => unit_none (z := z) hsm hE h h'
    have u3 := fun h h' => unit_some (z := z) hsm hE h h'
    have hE1 : E ≤ (linesP z).length := by rcases hE with ⟨_, e, _⟩ | ⟨_, e, _⟩ <;> omega
    have hE2 : B < 0 → E = (linesP z).length := fun h => by rcases hE with ⟨_, e, _⟩ | ⟨e, _, _⟩ <;> omega
    have hE3 : ¬ B < 0 → B = E ∧ E < (linesP z).length := fun h => by rcases hE with ⟨e, _, _⟩ | ⟨e, e2, _⟩ <;> omega
    refine uS [] h1 ?_
    rintro av mem' maps' ⟨rfl, rfl, rfl⟩
    simp [go_sem, KL]
    refine vcall_pure h2 (by simp [go_sem]; exact argSl_own5 rfl (by omega) rfl (fun _ _ => rfl) fun i c _ h => linClosed _ i c h) ?_
    simp [go_sem]
    refine ⟨fun hB0 => ⟨by omega, ?_⟩, fun hB0 => ?_⟩
    case' refine_1 => have e7 : ((linesP z).length : Int) = E := by rw [hE2 hB0]
    case' refine_2 => have e7 : B = E := (hE3 (by omega)).1
    all_goals
      refine vc_loopE (fun i : Nat => i ≤ E ∧ (usR (linesZ z) i).bad = 0) (fun i => E - i) (fun i => .of [(0, .lit (.string z)), (2, .ptr 0 3 0 0), (5, .own 1), (6, .lit (.int .i64 B)), (7, .lit (.int .i64 E)), (8, .ptr 4 3 0 0), (9, .lit (.int .i64 i))]
        [some ⟨25, 3, 1, fun _ => [.lit (.slice none 0 0), .lit (.slice none 0 0), .lit (.string ⟨#[]⟩)]⟩, linRow (linesP z), txRow (usR (linesZ z) i).uses, opRow5 (usR (linesZ z) i).ops, some ⟨25, 3, 1, fun _ => [.own 2, .own 3, .lit (.string ⟨#[]⟩)]⟩]) ⟨0, ⟨by omega, rfl⟩, ?_⟩ (fun i hi => ?_)
      · exact uE [0, 1, 2, 3, 4] (h1 := by simp [go_sem, e7]) (h4 := by simp [go_sem, KL, K5, opRow5, usR])
      · obtain ⟨hi1, hi2⟩ := hi
        have hl := hul i
        have hwl := hL2 i
        have h3 := c_l5OpOf (linAt (linesP z) i).ws (by omega) (fun j => by have := hL3 i j; omega)
        have hnx : usR (linesZ z) (i + 1) = usStep (usR (linesZ z) i) i (linAt (linesP z) i).ws := by rw [← hws]; rfl
        have hwr : IntKind.i64.wrap ((i : Int) + 1) = (i : Int) + 1 := wrap_i64 (by omega)
        simp [go_sem, KL, K5, opRow5, linCells_at]
        refine ⟨fun h => ⟨by omega, ?_⟩, fun h => ?_⟩
        · cases hd : declZ (linAt (linesP z) i).ws with
          | some o =>
            rw [declV, hd] at h3
            rw [usStep_op hd] at hnx
            refine vcall_use h3 (by simp [go_sem]; exact argSl_refl (by omega) fun i c _ h => txClosed _ i c h) ?_
            rintro av obs ⟨rfl, rfl⟩
            simp [go_sem, POp.cells]
            refine ⟨by omega, by omega, i + 1, ⟨by omega, by rw [hnx]; exact hi2⟩, by omega, ?_⟩
            exact uE [0, 1, 2, 7, 4] (h1 := by simp [go_sem, hwr]) (h4 := by simp [go_sem, KL, K5, hnx, op_new5])
          | none =>
            rw [declV, hd] at h3
            refine vcall_use h3 (by simp [go_sem]; exact argSl_refl (by omega) fun i c _ h => txClosed _ i c h) ?_
            rintro av obs ⟨rfl, rfl⟩
            simp [go_sem, nilOp, POp.cells, txCells_at, KW5]
            have bad : ∀ (h2 : ¬ ((linAt (linesP z) i).ws.length = 2 ∧ txAt (linAt (linesP z) i).ws 0 = kwUse)) (h3 : 0 < (linAt (linesP z) i).ws.length), unitZ z = ((⟨[], [], ⟨#[]⟩⟩ : Unt), (2 : Int), ((i + 1 : Nat) : Int)) := fun g1 g2 => by
              rw [usStep_bad hd g1 g2 hi2] at hnx
              have s1 : (usR (linesZ z) (i + 1)).bad ≠ 0 := by rw [hnx]; simp
              have s2 := usR_stick s1 (E - (i + 1))
              rw [show i + 1 + (E - (i + 1)) = E by omega] at s2
              rw [u1 (by rw [s2]; exact s1), s2, hnx]
            have nil : (linAt (linesP z) i).ws = [] → usR (linesZ z) (i + 1) = usR (linesZ z) i := fun g => by rw [hnx, usStep_nil (by rw [g]; rfl)]
            refine ⟨by omega, fun g1 => ⟨by omega, fun g2 => ?_, fun g2 => ⟨by omega, fun g3 => .inr ?_, fun g3 => ⟨i + 1, ⟨by omega, by rw [nil g3]; exact hi2⟩, by omega, ?_⟩⟩⟩, fun g1 => ⟨by omega, fun g3 => .inr ?_, fun g3 => ⟨i + 1, ⟨by omega, by rw [nil g3]; exact hi2⟩, by omega, ?_⟩⟩⟩
            · refine vc_drawn [6,8] (.q 0 <| .q 1 <| .q 2 <| .q 3 <| .q 4 <| .or 5 (.or 6 (.q 7 <| .or 8 (.done) (.nil)) (.nil)) (.nil)) (by kernel_rfl) ?_
              simp [go_sem, txCells_at]
              rw [usStep_use hd (by omega) g2] at hnx
              refine ⟨by omega, by omega, by omega, i + 1, ⟨by omega, by rw [hnx]; exact hi2⟩, by omega, ?_⟩
              exact uE [0, 1, 7, 3, 4] (h1 := by simp [go_sem, hwr]) (h4 := by simp [go_sem, KL, K5, hnx, tx_new])
            · rw [bad (fun g => g2 g.2) g3]
              exact ⟨by rw [hwr]; rfl, rfl, rfl, rfl⟩
            · exact uE [0, 1, 2, 3, 4] (h1 := by simp [go_sem, hwr]) (h4 := by simp [go_sem, KL, K5, nil g3])
            · rw [bad (fun g => g1 (by rw [g.1]; rfl)) g3]
              exact ⟨by rw [hwr]; rfl, rfl, rfl, rfl⟩
            · exact uE [0, 1, 2, 3, 4] (h1 := by simp [go_sem, hwr]) (h4 := by simp [go_sem, KL, K5, nil g3])
        · have hiE : i = E := by omega
          subst hiE
          refine ⟨fun g => .inr ?_, fun g => ?_⟩
          · rw [u2 g hi2]
            exact ⟨rfl, rfl, rfl, rfl⟩
          · obtain ⟨g1, g2⟩ := hE3 (by omega)
            obtain ⟨g3, g4⟩ := u3 (by omega) hi2
            have e8 : B.toNat = i := by omega
            have hw : IntKind.i64.wrap (((linAt (linesP z) i).b : Int) + 1) = ((linAt (linesP z) i).b : Int) + 1 := wrap_i64 (by omega)
            have e9 : (((linAt (linesP z) i).b : Int) + 1).toNat = (linAt (linesP z) i).b + 1 := by omega
            have o1 : ObsSame [⟨9, 1, (usR (linesZ z) i).uses.length, txCells (usR (linesZ z) i).uses⟩, ⟨37, 4, (usR (linesZ z) i).ops.length, opCells (usR (linesZ z) i).ops⟩] [⟨9, 1, (usR (linesZ z) i).uses.length, txCells (usR (linesZ z) i).uses⟩, ⟨37, 4, (usR (linesZ z) i).ops.length, opCells (usR (linesZ z) i).ops⟩] :=
              ⟨⟨rfl, rfl, rfl, fun j hj => ⟨rfl, txLit _ j⟩⟩, ⟨rfl, rfl, rfl, fun j hj => ⟨rfl, opLit _ j⟩⟩, trivial⟩
            rw [e8, g3, hw, e9]
            refine ⟨by omega, by omega, g2, fun g5 => ⟨by omega, by omega, g2, by omega, by omega, _, o1, .inl ⟨?_, rfl⟩⟩, fun g5 => ⟨_, o1, .inl ⟨?_, rfl⟩⟩⟩
            · simp only
              rw [Nat.min_eq_left (by omega)]; rfl
            · simp only
              rw [Nat.min_eq_right (by omega), ext_end]; rfl
end Go.Proofs.YtbhcicdjllcdjaaDoor.V
namespace Go.Proofs.YtbhcicdjllcdjaaDoor.V
open Go.RowKit
set_option linter.unusedVariables false
set_option linter.unusedSimpArgs false
section
variable {P : Program} {n : Nat} {base : Fr} {w0 w : World} {hd : Nat → Value} {s : VS} {a : Act}
theorem RelH.rowSub (h : RelH n base w0 hd s a w) {k : Nat} {ob : Ob} (hk : s.mem[k]? = some (some ob)) (hc : ∀ i, i < ob.n → ∀ c, c ∈ ob.f i → Closed c) {m c : Nat} {A : Option Addr} (hm : m ≤ ob.n) (hmc : m ≤ c)
    (hA : 0 < m → ∃ b n' c', hd k = .slice (some ⟨b, 0, none⟩) n' c' ∧ A = some ⟨b, 0, none⟩) : Rep w (okOf (s.mem.set k none) hd) hd (s.mem.set k none).length (.sl ob.sz m ob.f) (.slice A m c) := by
  obtain ⟨hs, vals, ho, hr⟩ := h.me.obs k ob hk
  rcases id ho.2 with ⟨e, h0⟩ | ⟨g, cap, cur, e, h3, h1, h2, h4⟩
  · have hm0 : m = 0 := by omega
    subst hm0
    exact .sl _ _ _ A c (fun _ _ => undef) hmc (by omega) hs (fun i hi => by omega) (fun hp => by omega) (fun i j av hi => by omega)
  · have hcells := fun i hi => h.cells_ hk e (i := i) hi
    have hown : (hd k).ownBlock = some g := by rw [e]; rfl
    refine .sl _ _ _ _ _ (fun i j => (w.cell? ((⟨g, i * ob.sz, none⟩ : Addr).add j)).getD undef) hmc (by simp only [maxLen] at h2; omega) hs (fun i hi => (hr i (by omega)).1) (fun hp => ?_) fun i j av hi hj => ?_
    · obtain ⟨b, n', c', e5, rfl⟩ := hA hp
      rw [e] at e5
      simp only [Value.slice.injEq, Option.some.injEq, Addr.mk.injEq, and_true] at e5
      obtain ⟨rfl, _, _⟩ := e5
      refine ⟨_, rfl, ⟨fun q ob' hq e' => ?_, h.ownTail (h.me.alw k ob hk g hown)⟩, fun i j hi hj => ?_⟩
      · obtain ⟨hq1, hq2⟩ := free_get hq
        rcases h.me.apart q k ob' ob hq1 hk hq2 with e2 | e2
        · rw [e'] at e2; cases e2
        · exact e2 (by rw [e', hown])
      · obtain ⟨u, h1, _⟩ := hcells i (by omega) j _ (List.getElem?_eq_getElem (by rw [(hr i (by omega)).1]; exact hj))
        have e3 : ((⟨g, 0, none⟩ : Addr).add (i * ob.sz + j)) = (⟨g, i * ob.sz, none⟩ : Addr).add j := by
          by_cases hj0 : j = 0
          · subst hj0
            by_cases hi0 : i * ob.sz = 0
            · simp [Addr.add, hi0]
            · simp only [Addr.add, Nat.add_zero]; rw [if_neg hi0]; simp
          · have hne : ¬ (i * ob.sz + j = 0) := by omega
            simp only [Addr.add]; rw [if_neg hne, if_neg hj0]; simp
        rw [e3, h1]; rfl
    · obtain ⟨u, h1, h2⟩ := hcells i (by omega) j av hj
      simp only [h1]
      exact Rep.closed (hc i (by omega) av (List.mem_of_getElem? hj)) (fun ad u' g1 g2 => ⟨g2, free_ok _ _ _ _ g1⟩) h2
end
theorem Rep.slExt {w : World} {ok : Nat → Prop} {hd : Nat → Value} {m sz n : Nat} {f f' : Nat → List AV} {v : Value} (h : Rep w ok hd m (.sl sz n f) v) (e : ∀ i, i < n → f i = f' i) : Rep w ok hd m (.sl sz n f') v := by
  cases h with
  | sl _ _ _ A c u hc hm hsz hl ha h => exact .sl _ _ _ A c u hc hm hsz (fun i hi => by rw [← e i hi]; exact hl i hi) ha fun i j a hi hj => h i j a hi (by rw [e i hi]; exact hj)
theorem VProc.giveR {P : Program} {f : FuncId} {args : List AV} {R R' : AV → List (Option Ob) → List (Nat × Mp) → Prop} (h : VProc P f args [] [] R)
    (hr : ∀ av mem maps, R av mem maps → ∃ ob m f', (∀ i, i < m → ob.f i = f' i) ∧ mem = [some ob] ∧ maps = [] ∧ m ≤ ob.n ∧ (∀ i, i < ob.n → ∀ c, c ∈ ob.f i → Closed c) ∧ (av = .own 0 ∧ m = ob.n ∨ av = .sub 0 ob.sz 0 m) ∧ R' (.sl ob.sz m f') [] []) : VProc P f args [] [] R' := by
  refine ⟨h.1, fun w vs hd0 hl hv hm hmp ht => (h.2 w vs hd0 hl hv hm hmp ht).mono fun e w' ⟨v, e1, g, hd, av, mem, maps, r, po, hx, me, mp, rp⟩ => ?_⟩
  obtain ⟨ob, m, f', hff, rfl, rfl, hmn, hcl, hav, r'⟩ := hr av mem maps r
  have h : RelH 0 ⟨P, Sh w hd0 [] [], hd0, []⟩ w hd ⟨[], [some ob], [], 0⟩ ⟨#[], []⟩ w' :=
    ⟨rfl, rfl, g, ⟨fun b hb => .inl hb, hl.2.1, hl.2.2⟩, Nat.zero_le _, ⟨fun k hk => absurd hk (Nat.not_lt_zero k), hx.2, ht⟩, mp, fun t => .undef _, me⟩
  have hcl' : Closed (.sl ob.sz m ob.f) := .sl _ _ _ fun i c hi hc => hcl i (by omega) c hc
  have fin : ∀ {v}, Rep w' (okOf ([some ob].set 0 none) hd) hd ([some ob].set 0 none).length (.sl ob.sz m ob.f) v → Rep w' (okOf [] hd) hd 0 (.sl ob.sz m ob.f) v := fun hrep =>
    Rep.closed hcl' (fun ad u g1 g2 => ⟨g2, fun k ob hk => by simp at hk, g1.2⟩) hrep
  have hsz : ∃ v', v = v' ∧ Rep w' (okOf [] hd) hd 0 (.sl ob.sz m ob.f) v' := by
    rcases hav with ⟨rfl, rfl⟩ | rfl
    · cases rp with
      | own _ _ => exact ⟨_, rfl, fin (h.rowSl (k := 0) rfl hcl)⟩
    · cases rp with
      | sub _ _ _ _ A c hk hc ha => exact ⟨_, rfl, fin (h.rowSub (k := 0) rfl hcl hmn hc (fun hp => by obtain ⟨b, n', c', q1, q2⟩ := ha hp; exact ⟨b, n', c', q1, by rw [q2]; simp⟩))⟩
  obtain ⟨v', rfl, hrep⟩ := hsz
  have hcl2 : Closed (.sl ob.sz m f') := .sl _ _ _ fun i c hi hc => hcl i (by omega) c (by rw [hff i hi]; exact hc)
  exact ⟨v, e1, g, hd, _, _, _, r', ⟨Nat.zero_le _, .inr hcl2, fun k ob hk => by simp at hk, fun b hb => hb⟩, ⟨fun k hk => by simp at hk, hx.2⟩, ⟨fun k ob hk => by simp at hk, fun k ob hk => by simp at hk, fun k hk => absurd hk (Nat.not_lt_zero k), fun k k' o o' hk => by simp at hk⟩, mp, hrep.slExt hff⟩
end Go.Proofs.YtbhcicdjllcdjaaDoor.V
namespace Go.Proofs.YtbhcicdjllcdjaaDoor.V
open Go.RowKit
set_option linter.unusedVariables false
set_option linter.unusedSimpArgs false
set_option linter.constructorNameAsVariable false
def emptyFn : Value := .func (.func 30) #[] #[]
theorem c_wordsFn (z : ByteArray) : VFun Tryd.prog 30 [.lit (.string z)] (fun av obs => obs = [] ∧ av = .lit (.bool (decide (z = ByteArray.empty)))) := by
  refine vfun_start Tryd.func30 (by kernel_rfl) rfl (by simp [Tryd.ntmps30]) ?_; simp only [Tryd.ntmps30, Tryd.results30]; simp [go_sem]
  show z.toList.isEmpty = _
  rw [ba_empty]
  rfl
def firstE (ws : List ByteArray) : Option Nat := ws.findIdx? fun w => decide (w = ByteArray.empty)
theorem firstE_none {ws : List ByteArray} (h : ∀ j, j < ws.length → ¬ txAt ws j = ByteArray.empty) : firstE ws = none := by
  unfold firstE
  rw [List.findIdx?_eq_none_iff]
  intro x hx
  obtain ⟨j, hj⟩ := List.getElem?_of_mem hx
  have := h j (List.getElem?_eq_some_iff.1 hj).1
  unfold txAt at this
  rw [List.getD_eq_getElem?_getD, hj] at this
  simpa using this
theorem firstE_some {ws : List ByteArray} {i : Nat} (hi : i < ws.length) (h : ∀ j, j < i → ¬ txAt ws j = ByteArray.empty) (hb : txAt ws i = ByteArray.empty) : firstE ws = some i := by
  unfold firstE
  rw [List.findIdx?_eq_some_iff_getElem]
  have e : ∀ j (hj : j < ws.length), txAt ws j = ws[j] := fun j hj => by
    unfold txAt; rw [List.getD_eq_getElem?_getD, List.getElem?_eq_getElem hj]; rfl
  refine ⟨hi, by rw [← e i hi]; simpa using hb, fun j hj => ?_⟩
  rw [← e j (by omega)]
  simpa using h j hj
set_option maxRecDepth 100000 in
theorem c_indexFunc (ws : List ByteArray) (hl : ws.length ≤ 2000000) : VFun Tryd.prog 39 [.sl 1 ws.length (txCells ws), .lit emptyFn] (fun av obs => obs = [] ∧ av = .lit (.int .i64 (iOf (firstE ws)))) := by
  refine vfun_start Tryd.func39 (by kernel_rfl) rfl (by simp [Tryd.ntmps39]) ?_; simp only [Tryd.ntmps39, Tryd.results39]; simp [go_sem]
  simp [go_sem, K5, emptyFn]
  refine ⟨by omega, vc_loop (fun i : Nat => i ≤ ws.length ∧ ∀ j, j < i → ¬ txAt ws j = ByteArray.empty) (fun i => ws.length - i) (fun i => .of [(0, .sl 1 ws.length (txCells ws)), (1, .lit (.func (.func 30) #[] #[])), (7, .lit (.int .i64 ws.length)), (8, .lit (.int .i64 i))] []) ⟨0, ⟨by omega, fun j h => by omega⟩, ?_⟩ (fun i hi => ?_)⟩
  · simp [go_sem, K5]
  · obtain ⟨hi, hj⟩ := hi
    simp [go_sem, K5, txCells_at]
    refine ⟨fun h => ⟨h, vcall_pure (c_wordsFn (txAt ws i)) (by simp [go_sem]) ?_⟩, fun h => ?_⟩
    · simp [go_sem]
      refine ⟨fun h2 => ?_, fun h2 => ⟨i + 1, ⟨h, fun j h3 => ?_⟩, by omega, fun i c _ h => txClosed ws i c h, wrap_succ (by omega)⟩⟩
      · rw [firstE_some h hj h2]; rfl
      · by_cases e : j = i
        · rw [e]; exact h2
        · exact hj j (by omega)
    · rw [firstE_none fun j h2 => hj j (by omega)]; rfl
def delR (ws : List ByteArray) (i : Nat) : List ByteArray := (ws.take i).filter fun w => decide (0 < w.size)
theorem delR_len (ws : List ByteArray) (i : Nat) : (delR ws i).length ≤ i := Nat.le_trans (List.length_filter_le _ _) (by rw [List.length_take]; omega)
theorem delR_fin (ws : List ByteArray) : delR ws ws.length = ws.filter fun w => decide (0 < w.size) := by unfold delR; rw [List.take_length]
theorem delR_succ {ws : List ByteArray} {i : Nat} (h : i < ws.length) : delR ws (i + 1) = if txAt ws i = ByteArray.empty then delR ws i else delR ws i ++ [txAt ws i] := by
  unfold delR
  rw [List.take_succ_eq_append_getElem h, List.filter_append]
  have e : txAt ws i = ws[i] := by unfold txAt; rw [List.getD_eq_getElem?_getD, List.getElem?_eq_getElem h]; rfl
  rw [e]
  by_cases h2 : ws[i] = ByteArray.empty
  · rw [if_pos h2, List.filter_cons_of_neg (by rw [h2]; simp)]; simp
  · rw [if_neg h2, List.filter_cons_of_pos (by simp; exact Nat.pos_of_ne_zero fun h0 => h2 (by apply ByteArray.ext; exact Array.eq_empty_of_size_eq_zero h0))]; simp
theorem delR_first {ws : List ByteArray} {k : Nat} (hk : firstE ws = some k) : k < ws.length ∧ (∀ j, j < k → ¬ txAt ws j = ByteArray.empty) ∧ txAt ws k = ByteArray.empty := by
  unfold firstE at hk
  rw [List.findIdx?_eq_some_iff_getElem] at hk
  obtain ⟨h1, h2, h3⟩ := hk
  have e : ∀ j (hj : j < ws.length), txAt ws j = ws[j] := fun j hj => by
    unfold txAt; rw [List.getD_eq_getElem?_getD, List.getElem?_eq_getElem hj]; rfl
  refine ⟨h1, fun j hj => ?_, by rw [e k h1]; simpa using h2⟩
  rw [e j (by omega)]
  simpa using h3 j hj
theorem delR_pre {ws : List ByteArray} {k : Nat} (hk : ∀ j, j < k → ¬ txAt ws j = ByteArray.empty) (hl : k ≤ ws.length) : delR ws k = ws.take k := by
  induction k with
  | zero => simp [delR]
  | succ k ih =>
    rw [delR_succ (by omega), if_neg (hk k (by omega)), ih (fun j hj => hk j (by omega)) (by omega), List.take_succ_eq_append_getElem (by omega)]
    congr 2
    unfold txAt; rw [List.getD_eq_getElem?_getD, List.getElem?_eq_getElem (by omega)]; rfl
def rowD (ws : List ByteArray) (j : Nat) : List ByteArray := delR ws j ++ ws.drop (delR ws j).length
theorem rowD_len {ws : List ByteArray} {j : Nat} (h : j ≤ ws.length) : (rowD ws j).length = ws.length := by
  have := delR_len ws j
  unfold rowD
  rw [List.length_append, List.length_drop]; omega
theorem rowD_at {ws : List ByteArray} {j : Nat} : txAt (rowD ws j) j = txAt ws j := by
  have := delR_len ws j
  unfold txAt rowD
  rw [List.getD_eq_getElem?_getD, List.getD_eq_getElem?_getD, List.getElem?_append_right (by omega), List.getElem?_drop]
  congr 2; omega
theorem rowD_put {ws : List ByteArray} {j : Nat} (h : j < ws.length) (hn : ¬ txAt ws j = ByteArray.empty) : rowD ws (j + 1) = (rowD ws j).set (delR ws j).length (txAt ws j) := by
  have hd := delR_len ws j
  unfold rowD
  rw [delR_succ h, if_neg hn, List.set_append_right _ _ (Nat.le_refl _), Nat.sub_self, List.length_append, List.length_singleton]
  rw [List.drop_eq_getElem_cons (i := (delR ws j).length) (by omega), List.set_cons_zero, List.append_assoc]
  rfl
theorem rowD_keep {ws : List ByteArray} {j : Nat} (h : j < ws.length) (hn : txAt ws j = ByteArray.empty) : rowD ws (j + 1) = rowD ws j := by
  unfold rowD
  rw [delR_succ h, if_pos hn]
theorem tx_put {g : Nat → Nat} {m n k : Nat} {l : List ByteArray} {x : ByteArray} (hn : l.length = n) (hk : k < n) : (∀ i, i < n → CellsRn g m (updF n (txCells l) k 0 [AV.lit (.string x)] i) (txCells (l.set k x) i)) := fun i hi => by
  have : updF n (txCells l) k 0 [AV.lit (.string x)] i = txCells (l.set k x) i := by
    unfold updF txCells txAt splice
    simp only [List.getD_eq_getElem?_getD, List.getElem?_set]
    by_cases e : n = 1
    · have e1 : k = 0 := by omega
      have e2 : i = 0 := by omega
      subst e1; subst e2
      simp [e, hn]
    · by_cases e2 : i = k
      · subst e2; simp [e, hn, hi]
      · have e3 : ¬ k = i := fun h => e2 h.symm
        simp [e, e2, e3]
  rw [this]
  exact cellsRn_lits (txLit _ i)
def delPost (ws : List ByteArray) (av : AV) (mem : List (Option Ob)) (maps : List (Nat × Mp)) : Prop := maps = [] ∧ ∃ f m, mem = [some ⟨9, 1, ws.length, f⟩] ∧ m = (ws.filter fun w => decide (0 < w.size)).length ∧ (av = .own 0 ∧ m = ws.length ∨ av = .sub 0 1 0 m) ∧
    (∀ i, (f i).all isLit = true) ∧ ∀ i, i < m → f i = txCells (ws.filter fun w => decide (0 < w.size)) i
set_option maxRecDepth 100000 in
theorem c_deleteFunc (ws : List ByteArray) (hl : ws.length ≤ 2000000) : VProc Tryd.prog 29 [.own 0, .lit emptyFn] [txRow ws] [] (delPost ws) := by
  have h1 := c_indexFunc ws hl
  match hf : firstE ws with
  | none =>
    rw [hf] at h1
    refine vproc_start Tryd.func29 (by kernel_rfl) rfl (by simp [Tryd.ntmps29]) ?_; simp only [Tryd.ntmps29, Tryd.results29]; simp [go_sem]
    simp [go_sem, K5]
    refine vcall_pure h1 (by simp [go_sem]; exact argSl_own5 rfl (by omega) rfl (fun _ _ => rfl) fun i c _ h => txClosed ws i c h) ?_
    simp [go_sem, iOf]
    have e : (ws.filter fun w => decide (0 < w.size)) = ws := by
      rw [← delR_fin, delR_pre (fun j hj e => ?_) (Nat.le_refl _), List.take_length]
      unfold firstE at hf
      rw [List.findIdx?_eq_none_iff] at hf
      have := hf (txAt ws j) (by unfold txAt; rw [List.getD_eq_getElem?_getD, List.getElem?_eq_getElem hj]; exact List.getElem_mem hj)
      simp [e] at this
    refine uF [] [txRow ws] (hR := ⟨rfl, txCells ws, ws.length, rfl, by rw [e], .inl ⟨rfl, rfl⟩, fun i => txLit _ i, fun i hi => by rw [e]⟩)
  | some k =>
    rw [hf] at h1
    obtain ⟨f1, f2, f3⟩ := delR_first hf
    refine vproc_start Tryd.func29 (by kernel_rfl) rfl (by simp [Tryd.ntmps29]) ?_; simp only [Tryd.ntmps29, Tryd.results29]; simp [go_sem]
    simp [go_sem, K5]
    refine vcall_pure h1 (by simp [go_sem]; exact argSl_own5 rfl (by omega) rfl (fun _ _ => rfl) fun i c _ h => txClosed ws i c h) ?_
    simp [go_sem, iOf]
    refine vc_loopE (fun j : Nat => j ≤ ws.length) (fun j => ws.length - j) (fun j => ⟨[(0, .own 0), (1, .lit (.func (.func 30) #[] #[])), (5, .lit (.int .i64 (delR ws j).length)), (6, .lit (.int .i64 j))], [txRow (rowD ws j)], [], 1⟩) ⟨k + 1, by omega, ?_⟩ (fun j hj => ?_)
    · have e0 : delR ws (k + 1) = ws.take k := by rw [delR_succ f1, if_pos f3, delR_pre f2 (by omega)]
      have e1 : (delR ws (k + 1)).length = k := by rw [e0, List.length_take]; omega
      have e2 : rowD ws (k + 1) = ws := by unfold rowD; rw [e1, e0, List.take_append_drop]
      have hwr : IntKind.i64.wrap ((k : Int) + 1) = (k : Int) + 1 := wrap_i64 (by omega)
      exact uE [0] (h1 := by simp [go_sem, e1, hwr, emptyFn]) (h4 := by simp [go_sem, K5, e2])
    · have hd := delR_len ws j
      have hr := rowD_len hj
      have ha := rowD_at (ws := ws) (j := j)
      simp [go_sem, K5, hr, txCells_at, ha]
      refine ⟨by omega, fun h => ⟨h, vcall_pure (c_wordsFn (txAt ws j)) (by simp [go_sem]) ?_⟩, fun h => ?_⟩
      · have hwr : IntKind.i64.wrap ((j : Int) + 1) = (j : Int) + 1 := wrap_i64 (by omega)
        have hwd : IntKind.i64.wrap (((delR ws j).length : Int) + 1) = ((delR ws j).length : Int) + 1 := wrap_i64 (by omega)
        simp [go_sem]
        refine ⟨fun hn => ⟨by omega, j + 1, h, by omega, ?_⟩, fun hn => ⟨j + 1, h, by omega, ?_⟩⟩
        · have s1 : delR ws (j + 1) = delR ws j ++ [txAt ws j] := by rw [delR_succ h, if_neg hn]
          have s2 := rowD_put h hn
          have s3 : (rowD ws (j + 1)).length = ws.length := rowD_len h
          exact uE [0] (h1 := by simp [go_sem, hwr, hwd, s1]) (h4 := by simp [go_sem, K5, s3]; rw [s2]; exact .inr (tx_put hr (by omega)))
        · have s1 : delR ws (j + 1) = delR ws j := by rw [delR_succ h, if_pos hn]
          have s2 := rowD_keep h hn
          exact uE [0] (h1 := by simp [go_sem, hwr, s1]) (h4 := by simp [go_sem, K5, s2, hr])
      · obtain rfl : j = ws.length := by omega
        have hz0 : zeroIs Tryd.prog 9 (.string ⟨#[]⟩) := fun w => Tryd.zeroValue9 w
        refine ⟨by omega, by omega, .string ⟨#[]⟩, hz0, rfl, rfl, by omega, ?_⟩
        refine uF [] [some ⟨9, 1, ws.length, clrF (txCells (rowD ws ws.length)) (delR ws ws.length).length (ws.length - (delR ws ws.length).length) (.string ⟨#[]⟩)⟩] (hm := ?_) (hR := ⟨rfl, _, (delR ws ws.length).length, rfl, by rw [delR_fin], .inr rfl, fun i => ?_, fun i hi => ?_⟩)
        · simp [go_sem]
          exact of_eq_true (outAt_all fun i => by
            simp only
            unfold clrF
            split
            · rfl
            · exact txLit _ i)
        · unfold clrF
          split
          · rfl
          · exact txLit _ i
        · unfold clrF
          rw [if_neg (by omega)]
          have : txAt (rowD ws ws.length) i = txAt (delR ws ws.length) i := by
            unfold txAt rowD
            rw [List.getD_eq_getElem?_getD, List.getD_eq_getElem?_getD, List.getElem?_append_left hi]
          simp only [txCells_at, this, delR_fin]
theorem ren_lits {g : Nat → Nat} : ∀ {l : List AV}, l.all isLit = true → l.map (ren1 g) = l
  | [], _ => rfl
  | a :: r, h => by
    simp only [List.all_cons, Bool.and_eq_true] at h
    rw [List.map_cons, ren_lits h.2]
    cases a <;> simp [isLit] at h <;> rfl
theorem c_words (z : ByteArray) (hz : z.size ≤ 1048576) : VProc Tryd.prog 23 [.lit (.string z)] [] [] (fun av mem maps => av = .sl 1 (wordsZ z).length (txCells (wordsZ z)) ∧ mem = [] ∧ maps = []) := by
  have hl := cutZ_len 32 z
  have h1 := c_split 32 z hz
  have h2 := c_deleteFunc (cutZ 32 z) (by omega)
  have h : VProc Tryd.prog 23 [.lit (.string z)] [] [] (delPost (cutZ 32 z)) := by
    refine vproc_start Tryd.func23 (by kernel_rfl) rfl (by simp [Tryd.ntmps23]) ?_; simp only [Tryd.ntmps23, Tryd.results23]; simp [go_sem]
    refine vcall_use h1 (by simp [go_sem]) ?_
    rintro av obs ⟨rfl, rfl⟩
    simp [go_sem]
    refine uS [0] h2 ?_ (ha := by simp [go_sem, K5]; rfl)
    rintro av mem maps ⟨rfl, f, m, rfl, hm, hav, hlit, hf⟩
    have hren : (fun i => List.map (ren1 (backN [0] 1)) (f i)) = f := funext fun i => ren_lits (hlit i)
    rcases hav with ⟨rfl, hav⟩ | rfl
    · simp [go_sem]
      rw [hren]
      exact uF [0] [some ⟨9, 1, (cutZ 32 z).length, f⟩] (hm := by simp [go_sem]; exact of_eq_true (outAt_all hlit)) (hR := ⟨rfl, f, m, rfl, hm, .inl ⟨rfl, hav⟩, hlit, hf⟩)
    · simp [go_sem]
      rw [hren]
      exact uF [0] [some ⟨9, 1, (cutZ 32 z).length, f⟩] (hm := by simp [go_sem]; exact of_eq_true (outAt_all hlit)) (hR := ⟨rfl, f, m, rfl, hm, .inr rfl, hlit, hf⟩)
  refine h.giveR fun av mem maps hp => ?_
  obtain ⟨rfl, f, m, rfl, hm, hav, hlit, hf⟩ := hp
  refine ⟨_, m, txCells (wordsZ z), hf, rfl, rfl, ?_, fun i hi c hc => ?_, hav, ?_⟩
  · rw [hm]; exact List.length_filter_le _ _
  · have := List.all_eq_true.1 (hlit i) c hc
    cases c with
    | lit v => exact .lit v
    | _ => simp [isLit] at this
  · rw [hm]; exact ⟨rfl, rfl, rfl⟩
end Go.Proofs.YtbhcicdjllcdjaaDoor.V
namespace Go.Proofs.YtbhcicdjllcdjaaDoor.V
open Go.RowKit
set_option linter.unusedVariables false
set_option linter.unusedSimpArgs false
set_option linter.constructorNameAsVariable false
theorem vfun_below2 {P : Program} {f : FuncId} {vs : List Value} {x y : Value} (hf : FnOk P f) (h : ∀ w, Calls P f vs.toArray w fun e w' => e = .returned (.tuple #[x, y]) ∧ Below w.heap.size w w') : VFun P f (vs.map .lit) (fun av obs => obs = [] ∧ av = .tup [.lit x, .lit y]) := by
  refine ⟨hf, fun w us hl hu => ?_⟩
  have e : us = vs := by
    have hl' : vs.length = us.length := by simpa using hl.1
    apply List.ext_getElem hl'.symm
    intro j h1 h2
    have := hu j (.lit vs[j]) us[j] (by simp [h2]) (List.getElem?_eq_getElem h1)
    generalize us[j] = x at this
    generalize vs[j] = y at this
    cases this
    rfl
  subst e
  refine (h w).mono fun e w' ⟨he, hw⟩ => ?_
  subst he
  refine ⟨_, rfl, ⟨hw.os, hw.tape, hw.output, hw.size, fun k hk _ => hw.block k hk⟩, fun _ => undef, .tup [.lit x, .lit y], [], ⟨rfl, rfl⟩, rfl, fun ob h => by simp at h, ⟨fun k ob h => by simp at h, fun k ob h => by simp at h, fun k h => by simp at h, fun k k' o o' h => by simp at h⟩, .tup _ [x, y] rfl fun j a u ha hu => ?_⟩
  match j with
  | 0 => simp at ha hu; subst ha; subst hu; exact .lit _
  | 1 => simp at ha hu; subst ha; subst hu; exact .lit _
  | j + 2 => simp at ha
theorem c_atoi {w : ByteArray} (h : numZ w = true) (hs : w.size ≤ 6) : VFun Tryd.prog 41 [.lit (.string w)] (fun av obs => obs = [] ∧ av = .tup [.lit (.int .i64 (decR w w.size : Nat)), .lit .nilIface]) :=
  vfun_below2 (vs := [.string w]) ⟨_, Tryd.func41, rfl, rfl⟩ fun W => (Any.strconv_Atoi Tryd.lays172 w _ (by omega) (atoi_dec h) W).mono fun e w' ⟨he, t, hw⟩ => ⟨he, by rw [hw]; exact Lib.bytesWorld_below W _ t⟩
set_option maxRecDepth 100000 in
theorem c_levelOf (w : ByteArray) (hw : w.size ≤ 1048576) : VFun Tryd.prog 33 [.lit (.string w)] (fun av obs => obs = [] ∧ av = .tup (match levelZ w with | some v => [.lit (.int .i64 v), .lit (.bool true)] | none => [.lit (.int .i64 0), .lit (.bool false)])) := by
  have h1 := c_trim w (by omega)
  have lvN : ¬ (numZ w = true ∧ w.size ≤ 6) → levelZ w = none := fun h => by unfold levelZ; rw [if_neg h]
  have lvS : (numZ w = true ∧ w.size ≤ 6) → levelZ w = some (decR w w.size) := fun h => by unfold levelZ; rw [if_pos h]
  refine vfun_start Tryd.func33 (by kernel_rfl) rfl (by simp [Tryd.ntmps33]) ?_; simp only [Tryd.ntmps33, Tryd.results33]; simp [go_sem]
  refine ⟨fun hp => ⟨fun h6 => ?_, fun h6 => ?_⟩, fun hp => ?_⟩
  · have hn := trimDg_num w (by omega)
    refine vcall_pure h1 (by simp [go_sem, digitBytes]) ?_
    simp [go_sem]
    refine ⟨fun hd => ?_, fun hd => ?_⟩
    · have hnz : ¬ numZ w = true := fun e => hd (by
        rw [← hn] at e
        rw [of_decide_eq_true e, ByteArray.toList_eq])
      rw [lvN (fun h => hnz h.1)]
    · have hnz : numZ w = true := by
        rw [← hn]
        exact decide_eq_true (ByteArray.ext (by rw [ByteArray.toList_eq] at hd; exact Array.toList_inj.1 (by rw [hd])))
      have h2 := c_atoi hnz (by omega)
      rw [lvS ⟨hnz, by omega⟩]
      refine vcall_use h2 (by simp [go_sem]) ?_
      rintro av obs ⟨rfl, rfl⟩
      simp [go_sem]
      refine vc_drawn [] (.q 0 <| .q 1 <| .q 2 <| .q 3 <| .q 4 <| .done) (by kernel_rfl) ?_
      simp [go_sem]
  · rw [lvN (fun h => by omega)]
  · rw [lvN (fun h => by
      have := h.1
      simp only [numZ, Bool.and_eq_true, decide_eq_true_eq] at this
      omega)]
def atI (ws : List ByteArray) (x : ByteArray) : Option Nat := ws.findIdx? fun w => decide (w = x)
theorem atI_none {ws : List ByteArray} {x : ByteArray} (h : ∀ j, j < ws.length → ¬ txAt ws j = x) : atI ws x = none := by
  unfold atI
  rw [List.findIdx?_eq_none_iff]
  intro y hy
  obtain ⟨j, hj⟩ := List.getElem?_of_mem hy
  have := h j (List.getElem?_eq_some_iff.1 hj).1
  unfold txAt at this
  rw [List.getD_eq_getElem?_getD, hj] at this
  simpa using this
theorem atI_some {ws : List ByteArray} {x : ByteArray} {i : Nat} (hi : i < ws.length) (h : ∀ j, j < i → ¬ txAt ws j = x) (hb : txAt ws i = x) : atI ws x = some i := by
  unfold atI
  rw [List.findIdx?_eq_some_iff_getElem]
  have e : ∀ j (hj : j < ws.length), txAt ws j = ws[j] := fun j hj => by
    unfold txAt; rw [List.getD_eq_getElem?_getD, List.getElem?_eq_getElem hj]; rfl
  refine ⟨hi, by rw [← e i hi]; simpa using hb, fun j hj => ?_⟩
  rw [← e j (by omega)]
  simpa using h j hj
set_option maxRecDepth 100000 in
theorem c_indexS (ws : List ByteArray) (hl : ws.length ≤ 2000000) (x : ByteArray) : VFun Tryd.prog 31 [.sl 1 ws.length (txCells ws), .lit (.string x)] (fun av obs => obs = [] ∧ av = .lit (.int .i64 (iOf (atI ws x)))) := by
  refine vfun_start Tryd.func31 (by kernel_rfl) rfl (by simp [Tryd.ntmps31]) ?_; simp only [Tryd.ntmps31, Tryd.results31]; simp [go_sem]
  refine ⟨by omega, vc_loop (fun i : Nat => i ≤ ws.length ∧ ∀ j, j < i → ¬ txAt ws j = x) (fun i => ws.length - i) (fun i => .of [(0, .sl 1 ws.length (txCells ws)), (1, .lit (.string x)), (7, .lit (.int .i64 ws.length)), (8, .lit (.int .i64 i))] []) ⟨0, ⟨by omega, fun j h => by omega⟩, ?_⟩ (fun i hi => ?_)⟩
  · simp [go_sem, K5]
  · obtain ⟨hi, hj⟩ := hi
    simp [go_sem, K5, txCells_at]
    refine ⟨fun h => ⟨h, fun e => ?_, fun e => ⟨i + 1, ⟨h, fun j h3 => ?_⟩, by omega, wrap_succ (by omega)⟩⟩, fun h => ?_⟩
    · rw [atI_some h hj ((ba_toList _ _).1 e).symm]; rfl
    · by_cases e2 : j = i
      · rw [e2]; exact fun e3 => e (by rw [e3])
      · exact hj j (by omega)
    · rw [atI_none fun j h2 => hj j (by omega)]; rfl
def kindL : List ByteArray := [⟨#[]⟩, kwPre, kwInf, kwPost]
def sideL : List ByteArray := [⟨#[]⟩, kwLeft, kwRight, kwNone]
theorem row4 {a b c d : ByteArray} {ty : Nat} : ObsSame [⟨ty, 1, 4, fun i => [[AV.lit (.string a)], [AV.lit (.string b)], [AV.lit (.string c)], [AV.lit (.string d)]][i]?.getD []⟩] [⟨ty, 1, 4, txCells [a, b, c, d]⟩] :=
  obsSame_one.mpr ⟨⟨ty, 1, 4, txCells [a, b, c, d]⟩, ⟨rfl, rfl, rfl, fun j hj => ⟨by
    match j, hj with
    | 0, _ => rfl
    | 1, _ => rfl
    | 2, _ => rfl
    | 3, _ => rfl
    | j + 4, hj => exact absurd hj (by simp only; omega), by
    match j, hj with
    | 0, _ => rfl
    | 1, _ => rfl
    | 2, _ => rfl
    | 3, _ => rfl
    | j + 4, hj => exact absurd hj (by simp only; omega)⟩⟩, rfl⟩
theorem c_kindNames : VFun Tryd.prog 32 [] (fun av obs => av = .own 0 ∧ obs = [⟨9, 1, 4, txCells kindL⟩]) := by
  refine vfun_start Tryd.func32 (by kernel_rfl) rfl (by simp [Tryd.ntmps32]) ?_; simp only [Tryd.ntmps32, Tryd.results32]; simp [go_sem]
  exact row4
theorem c_sideNames : VFun Tryd.prog 34 [] (fun av obs => av = .own 0 ∧ obs = [⟨9, 1, 4, txCells sideL⟩]) := by
  refine vfun_start Tryd.func34 (by kernel_rfl) rfl (by simp [Tryd.ntmps34]) ?_; simp only [Tryd.ntmps34, Tryd.results34]; simp [go_sem]
  exact row4
end Go.Proofs.YtbhcicdjllcdjaaDoor.V
namespace Go.Proofs.YtbhcicdjllcdjaaDoor.V
open Go.RowKit
set_option linter.unusedVariables false
set_option linter.unusedSimpArgs false
set_option linter.constructorNameAsVariable false
theorem declZ_short {ws : List ByteArray} (h : ws.length < 3) : declZ ws = none := by unfold declZ; rw [if_pos h]
theorem declZ_lev {ws : List ByteArray} (h : levelZ (txAt ws 2) = none) : declZ ws = none := by
  unfold declZ
  have h : levelZ (wrdAt ws 2) = none := h
  rw [h]
  by_cases h2 : ws.length < 3 <;> simp only [h2, if_true, if_false]
theorem declZ_go {ws : List ByteArray} {v : Nat} (hl : ¬ ws.length < 3) (h : levelZ (txAt ws 2) = some v) : declZ ws = if txAt ws 0 = kwPre ∧ ws.length = 3 then some (⟨txAt ws 1, 1, v, 0⟩ : POp) else if txAt ws 0 = kwPost ∧ ws.length = 3 then some ⟨txAt ws 1, 3, v, 0⟩
      else if txAt ws 0 = kwInf ∧ ws.length = 4 ∧ 0 < sideZ (txAt ws 3) then some ⟨txAt ws 1, 2, v, sideZ (txAt ws 3)⟩ else none := by
  unfold declZ
  have h : levelZ (wrdAt ws 2) = some v := h
  rw [if_neg hl, h]
  rfl
theorem declZ_no {ws : List ByteArray} (h : ¬ (txAt ws 0 = kwPre ∧ ws.length = 3) ∧ ¬ (txAt ws 0 = kwPost ∧ ws.length = 3) ∧ ¬ (txAt ws 0 = kwInf ∧ ws.length = 4 ∧ 0 < sideZ (txAt ws 3))) : declZ ws = none := by
  by_cases h3 : ws.length < 3
  · exact declZ_short h3
  · cases hv : levelZ (txAt ws 2) with
    | none => exact declZ_lev hv
    | some v => rw [declZ_go h3 hv, if_neg h.1, if_neg h.2.1, if_neg h.2.2]
theorem kind_cases (w : ByteArray) : (w = kwPre ∧ iOf (atI kindL w) = 1) ∨ (w = kwInf ∧ iOf (atI kindL w) = 2) ∨ (w = kwPost ∧ iOf (atI kindL w) = 3) ∨ (¬ w = kwPre ∧ ¬ w = kwInf ∧ ¬ w = kwPost ∧ iOf (atI kindL w) < 1) := by
  by_cases h1 : w = kwPre
  · exact .inl ⟨h1, by rw [h1]; rfl⟩
  by_cases h2 : w = kwInf
  · exact .inr (.inl ⟨h2, by rw [h2]; rfl⟩)
  by_cases h3 : w = kwPost
  · exact .inr (.inr (.inl ⟨h3, by rw [h3]; rfl⟩))
  refine .inr (.inr (.inr ⟨h1, h2, h3, ?_⟩))
  by_cases h4 : w = ⟨#[]⟩
  · rw [h4]; decide
  · have e : ∀ {x : ByteArray}, ¬ w = x → decide (x = w) = false := fun h => decide_eq_false fun h' => h h'.symm
    have : atI kindL w = none := by
      unfold atI kindL
      simp only [List.findIdx?_cons, e h1, e h2, e h3, e h4, List.findIdx?_nil]
      rfl
    rw [this]; decide
theorem side_cases (w : ByteArray) : (0 < sideZ w ∧ iOf (atI sideL w) = sideZ w) ∨ (sideZ w = 0 ∧ iOf (atI sideL w) ≤ 0) := by
  by_cases h1 : w = kwLeft
  · rw [h1]; exact .inl (by decide)
  by_cases h2 : w = kwRight
  · rw [h2]; exact .inl (by decide)
  by_cases h3 : w = kwNone
  · rw [h3]; exact .inl (by decide)
  refine .inr ⟨by unfold sideZ; rw [if_neg h1, if_neg h2, if_neg h3], ?_⟩
  by_cases h4 : w = ⟨#[]⟩
  · rw [h4]; decide
  · have e : ∀ {x : ByteArray}, ¬ w = x → decide (x = w) = false := fun h => decide_eq_false fun h' => h h'.symm
    have : atI sideL w = none := by
      unfold atI sideL
      simp only [List.findIdx?_cons, e h1, e h2, e h3, e h4, List.findIdx?_nil]
      rfl
    rw [this]; decide
def declPost (ws : List ByteArray) (av : AV) (obs : List Ob) : Prop := obs = [] ∧ ∃ o', av = .tup [.agg (POp.cells o'), .lit (.bool (declZ ws).isSome)] ∧ ∀ o, declZ ws = some o → o' = o
theorem c_kindIx (w : ByteArray) : VFun Tryd.prog 31 [.sl 1 4 (txCells kindL), .lit (.string w)] (fun av obs => obs = [] ∧ av = .lit (.int .i64 (iOf (atI kindL w)))) := c_indexS kindL (by decide) w
theorem c_sideIx (w : ByteArray) : VFun Tryd.prog 31 [.sl 1 4 (txCells sideL), .lit (.string w)] (fun av obs => obs = [] ∧ av = .lit (.int .i64 (iOf (atI sideL w)))) := c_indexS sideL (by decide) w
set_option maxRecDepth 100000 in
theorem c_declared (ws : List ByteArray) (hl : ws.length ≤ 2000000) (h0 : 0 < ws.length) (hB : ∀ i, (txAt ws i).size ≤ 1048576) : VFun Tryd.prog 24 [.sl 1 ws.length (txCells ws)] (declPost ws) := by
  have h1 := c_kindIx (txAt ws 0)
  have h2 := c_sideIx (txAt ws 3)
  have h3 := c_levelOf (txAt ws 2) (hB 2)
  have hk := kind_cases (txAt ws 0)
  have hs := side_cases (txAt ws 3)
  generalize iOf (atI kindL (txAt ws 0)) = kI at *
  generalize iOf (atI sideL (txAt ws 3)) = sI at *
  have fin : declZ ws = none → declPost ws (.tup [.agg [AV.lit (Value.string { data := #[] }), AV.lit (Value.int IntKind.i64 0), AV.lit (Value.int IntKind.i64 0), AV.lit (Value.int IntKind.i64 0)], .lit (.bool false)]) [] := fun hn => ⟨rfl, ⟨⟨#[]⟩, 0, 0, 0⟩, by rw [hn]; rfl, fun o h => by rw [hn] at h; cases h⟩
  have k6 := KW6
  have n1 : kI < 1 → declZ ws = none := fun h => declZ_no (by
    rcases hk with ⟨e, e1⟩ | ⟨e, e1⟩ | ⟨e, e1⟩ | ⟨e, e1, e2, _⟩
    · omega
    · omega
    · omega
    · exact ⟨fun h => e h.1, fun h => e2 h.1, fun h => e1 h.1⟩)
  have n2 : kI = 2 → ¬ ws.length = 4 → declZ ws = none := fun h h4 => declZ_no (by
    rcases hk with ⟨e, e1⟩ | ⟨e, e1⟩ | ⟨e, e1⟩ | ⟨e, e1, e2, _⟩
    · omega
    · exact ⟨fun h => k6.2.1 (e ▸ h.1), fun h => k6.2.2.1 (e ▸ h.1), fun h => h4 h.2.1⟩
    · omega
    · omega)
  have n3 : ¬ kI = 2 → 1 ≤ kI → ¬ ws.length = 3 → declZ ws = none := fun h h' h4 => declZ_no (by
    rcases hk with ⟨e, e1⟩ | ⟨e, e1⟩ | ⟨e, e1⟩ | ⟨e, e1, e2, _⟩
    · exact ⟨fun h => h4 h.2, fun h => h4 h.2, fun h => k6.2.1 (h.1 ▸ e)⟩
    · omega
    · exact ⟨fun h => h4 h.2, fun h => h4 h.2, fun h => k6.2.2.1 (h.1 ▸ e)⟩
    · omega)
  have f1 : ∀ {v : Nat}, ¬ kI = 2 → 1 ≤ kI → ws.length = 3 → levelZ (txAt ws 2) = some v → declPost ws (.tup [.agg [.lit (.string (txAt ws 1)), .lit (.int .i64 kI), .lit (.int .i64 v), .lit (.int .i64 0)], .lit (.bool true)]) [] := fun {v} g1 g2 g3 g4 => by
    rcases hk with ⟨e, e1⟩ | ⟨e, e1⟩ | ⟨e, e1⟩ | ⟨e, e1, e2, _⟩
    · have hd : declZ ws = some ⟨txAt ws 1, 1, v, 0⟩ := by rw [declZ_go (by omega) g4, if_pos ⟨e, g3⟩]
      subst e1
      exact ⟨rfl, ⟨txAt ws 1, 1, v, 0⟩, by rw [hd]; rfl, fun o h => by rw [hd] at h; cases h; rfl⟩
    · omega
    · have hd : declZ ws = some ⟨txAt ws 1, 3, v, 0⟩ := by rw [declZ_go (by omega) g4, if_neg (fun h => k6.1 (e ▸ h.1)), if_pos ⟨e, g3⟩]
      subst e1
      exact ⟨rfl, ⟨txAt ws 1, 3, v, 0⟩, by rw [hd]; rfl, fun o h => by rw [hd] at h; cases h; rfl⟩
    · omega
  have f2 : ∀ {v : Nat}, kI = 2 → ws.length = 4 → levelZ (txAt ws 2) = some v → declPost ws (.tup [.agg [.lit (.string (txAt ws 1)), .lit (.int .i64 2), .lit (.int .i64 v), .lit (.int .i64 sI)], .lit (.bool (decide (0 < sI)))]) [] := fun {v} g1 g3 g4 => by
    rcases hk with ⟨e, e1⟩ | ⟨e, e1⟩ | ⟨e, e1⟩ | ⟨e, e1, e2, _⟩
    · omega
    · have hd : declZ ws = if txAt ws 0 = kwInf ∧ ws.length = 4 ∧ 0 < sideZ (txAt ws 3) then some ⟨txAt ws 1, 2, v, sideZ (txAt ws 3)⟩ else none := by rw [declZ_go (by omega) g4, if_neg (fun h => k6.2.1 (e ▸ h.1)), if_neg (fun h => k6.2.2.1 (e ▸ h.1))]
      rcases hs with ⟨s1, s2⟩ | ⟨s1, s2⟩
      · rw [if_pos ⟨e, g3, s1⟩] at hd
        subst s2
        exact ⟨rfl, ⟨txAt ws 1, 2, v, sideZ (txAt ws 3)⟩, by rw [hd]; simp [POp.cells]; exact s1, fun o h => by rw [hd] at h; cases h; rfl⟩
      · rw [if_neg (fun h => by omega)] at hd
        exact ⟨rfl, ⟨txAt ws 1, 2, v, sI⟩, by rw [hd]; simp [POp.cells]; exact s2, fun o h => by rw [hd] at h; cases h⟩
    · omega
    · omega
  refine vfun_start Tryd.func24 (by kernel_rfl) rfl (by simp [Tryd.ntmps24]) ?_; simp only [Tryd.ntmps24, Tryd.results24]; simp [go_sem]
  refine vc_drawn [7] (.q 1 <| .q 2 <| .q 3 <| .or 0 (.or 4 (.q 5 <| .or 6 (.or 7 (.done) (.nil)) (.nil)) (.or 6 (.or 4 (.q 5 <| .or 7 (.done) (.nil)) (.nil)) (.nil))) (.or 6 (.or 0 (.or 4 (.q 5 <| .or 7 (.done) (.nil)) (.nil)) (.nil)) (.nil))) (by kernel_rfl) ?_
  simp [go_sem, txCells_at]
  refine ⟨h0, vcallV_use c_kindNames (by simp [go_sem]) ?_, vcallV_use c_kindNames (by simp [go_sem]) ?_⟩
  all_goals rintro av obs ⟨rfl, rfl⟩
  all_goals simp [go_sem, txCells_at]
  all_goals first
    | refine ⟨vcallV_use h1 (by simp [go_sem]; exact argSl_own5 rfl (by decide) rfl (fun _ _ => rfl) fun i c _ h => txClosed _ i c h) ?_, vcallV_use h1 (by simp [go_sem]; exact argSl_own5 rfl (by decide) rfl (fun _ _ => rfl) fun i c _ h => txClosed _ i c h) ?_⟩
    | refine vcallV_use h1 (by simp [go_sem]; exact argSl_own5 rfl (by decide) rfl (fun _ _ => rfl) fun i c _ h => txClosed _ i c h) ?_
  all_goals rintro av obs ⟨rfl, rfl⟩
  all_goals simp [go_sem, txCells_at]
  all_goals refine ⟨fun e => ⟨fun e1 => ⟨by omega, fun e2 => fin (n2 e (by omega)), fun e2 => ⟨by omega, by omega, ?_⟩⟩, fun e2 => fin (n1 e2)⟩, fun e => ⟨fun e1 => ⟨by omega, fun e2 => fin (n3 e e1 (by omega)), fun e2 => ⟨by omega, by omega, ?_⟩⟩, fun e2 => fin (n1 e2)⟩⟩
  all_goals
    cases hlev : levelZ (txAt ws 2) with
    | none =>
      rw [hlev] at h3
      refine vcall_use h3 (by simp [go_sem]) ?_
      rintro av obs ⟨rfl, rfl⟩
      simp [go_sem]
      exact fin (declZ_lev hlev)
    | some v =>
      rw [hlev] at h3
      refine vcall_use h3 (by simp [go_sem]) ?_
      rintro av obs ⟨rfl, rfl⟩
      simp [go_sem, e]
      first
        | exact f1 e e1 (by omega) hlev
        | (refine vc_drawn [6] (.q 1 <| .q 2 <| .q 3 <| .or 0 (.or 4 (.q 5 <| .or 6 (.done) (.nil)) (.nil)) (.nil)) (by kernel_rfl) ?_
           simp [go_sem, txCells_at]
           refine ⟨by omega, vcallV_use c_sideNames (by simp [go_sem]) ?_⟩
           rintro av obs ⟨rfl, rfl⟩
           simp [go_sem, txCells_at]
           refine vcallV_use h2 (by simp [go_sem]; exact argSl_own5 rfl (by decide) rfl (fun _ _ => rfl) fun i c _ h => txClosed _ i c h) ?_
           rintro av obs ⟨rfl, rfl⟩
           simp [go_sem]
           exact f2 e (by omega) hlev)
end Go.Proofs.YtbhcicdjllcdjaaDoor.V
namespace Go.Proofs.YtbhcicdjllcdjaaDoor.V
open Go.RowKit
set_option linter.unusedVariables false
set_option linter.unusedSimpArgs false
set_option linter.constructorNameAsVariable false
@[go_sem] theorem opOne (l : List POp) (i : Nat) : (opCells l i).all oneAV = true := rfl
end Go.Proofs.YtbhcicdjllcdjaaDoor.V
namespace Go.Proofs.YtbhcicdjllcdjaaDoor.V
open Go.RowKit
open Go.Maps (Keyed)
set_option linter.unusedVariables false
set_option linter.unusedSimpArgs false
set_option linter.constructorNameAsVariable false
def i64 (n : Int) : Prop := -9223372036854775808 ≤ n ∧ n ≤ 9223372036854775807
def POp.rng (o : POp) : Prop := i64 o.kind ∧ i64 o.level ∧ i64 o.side
def opV (o : POp) : Value := .agg #[.string o.text, .int .i64 o.kind, .int .i64 o.level, .int .i64 o.side]
theorem rowOp : (37 : TypeId) < Tryd.prog.types.size := of_decide_eq_true (by kernel_rfl)
theorem co_op : Tryd.prog.cellsOf 37 = 4 := by kernel_rfl
theorem keyedOp : Keyed Tryd.prog 37 := Keyed.of_law (deep_law_laid laidOut (m := 2) (by omega) rowOp (by kernel_rfl) (by kernel_rfl))
theorem keyOp {o : POp} (h : o.wf) (hr : o.rng) : ∃ l, keyOf Tryd.prog 37 (opV o) = some l := by
  obtain ⟨z, k, lv, sd⟩ := o
  obtain ⟨h1, h2, h3⟩ := hr
  refine keyOf_struct Tryd.underlying37 (by kernel_rfl) co_op.symm (by kernel_rfl) size1 fun d => ?_
  simp only [List.mapM_cons, List.mapM_nil, co_string, co_int, List.drop_zero, List.take_succ_cons, List.take_zero, List.drop_succ_cons, keyLits_str Tryd.underlying9 h, keyLits_int Tryd.underlying3 h1, keyLits_int Tryd.underlying3 h2, keyLits_int Tryd.underlying3 h3]
  exact ⟨_, rfl⟩
end Go.Proofs.YtbhcicdjllcdjaaDoor.V
namespace Go.Proofs.YtbhcicdjllcdjaaDoor.V
open Go.RowKit
set_option linter.unusedVariables false
set_option linter.unusedSimpArgs false
set_option linter.constructorNameAsVariable false
noncomputable def lmR (L : List (List ByteArray)) : Nat → List (Value × Value)
  | 0 => []
  | i + 1 => match declZ (L.getD i []) with
    | some o => mput (lmR L i) (opV o) (.int .i64 i)
    | none => lmR L i
def lnZ (z : ByteArray) (j : Nat) : List ByteArray := (linesZ z).getD j []
theorem begin_none {z : ByteArray} (h : ∀ j, j < (cutZ 10 z).length → isBegin (lnZ z j) = false) : beginAt (linesZ z) = none := by
  rw [← beginP_eq]
  exact beginP_none fun j hj => by rw [← linWs]; exact h j (by rw [← linesP_len]; exact hj)
theorem begin_some {z : ByteArray} {i : Nat} (hi : i < (cutZ 10 z).length) (h : ∀ j, j < i → isBegin (lnZ z j) = false) (hb : isBegin (lnZ z i) = true) : beginAt (linesZ z) = some i := by
  rw [← beginP_eq]
  exact beginP_some (by rw [linesP_len]; exact hi) (fun j hj => by rw [← linWs]; exact h j hj) (by rw [← linWs]; exact hb)
theorem unitZ_bad {z : ByteArray} {k : Nat} (hz : ¬ 20000 < z.size) (h : beginAt (linesZ z) = some k ∨ beginAt (linesZ z) = none ∧ k = (cutZ 10 z).length) (hb : 0 < (usR (linesZ z) k).bad) : unitZ z = ((⟨[], [], ⟨#[]⟩⟩ : Unt), (2 : Int), ((usR (linesZ z) k).bad : Int)) := by
  unfold unitZ
  rw [if_neg hz]
  rcases h with e | ⟨e, rfl⟩
  · rw [e]; simp only; rw [if_neg (by omega)]
  · rw [e]; simp only [linesZ_len, linesP_len]; rw [if_neg (by omega)]
theorem unitZ_none {z : ByteArray} (hz : ¬ 20000 < z.size) (e : beginAt (linesZ z) = none) (hb : (usR (linesZ z) (cutZ 10 z).length).bad = 0) : unitZ z = ((⟨[], [], ⟨#[]⟩⟩ : Unt), (3 : Int), (0 : Int)) := by
  unfold unitZ
  rw [if_neg hz, e]; simp only [linesZ_len, linesP_len]; rw [if_pos hb]
theorem unitZ_some {z : ByteArray} {k : Nat} (hz : ¬ 20000 < z.size) (e : beginAt (linesZ z) = some k) (hb : (usR (linesZ z) k).bad = 0) : unitZ z = ((⟨(usR (linesZ z) k).uses, (usR (linesZ z) k).ops, z.extract (min (farZ (cutZ 10 z) (k + 1)) z.size) z.size⟩ : Unt), (0 : Int), (0 : Int)) := by
  unfold unitZ
  rw [if_neg hz, e]; simp only; rw [if_pos hb]
def srcOb (u : Unt) (b : Nat) (n : Nat) (k1 k2 k3 : Nat) : Option Ob := some ⟨45, 6, 1, fun _ => [.own k1, .own k2, .lit (.string u.body), .own k3, .lit (.map (some b)), .lit (.int .i64 n)]⟩
def srcPost (z : ByteArray) (av : AV) (mem : List (Option Ob)) (maps : List (Nat × Mp)) : Prop :=
  (∃ k b, beginAt (linesZ z) = some k ∧ (unitZ z).2 = (0, 0) ∧ av = .tup [.ptr 0 6 0 0, .lit (.int .i64 0), .lit (.int .i64 0)] ∧ mem = [srcOb (unitZ z).1 b (min (farZ (cutZ 10 z) (k + 1)) z.size) 1 2 3, txRow (unitZ z).1.uses, opRow5 (unitZ z).1.ops, txRow ((cutZ 10 z).take k)] ∧ maps = [(b, ⟨37, lmR (linesZ z) k⟩)]) ∨
  (¬ (unitZ z).2.1 = 0 ∧ (unitZ z).1.uses = [] ∧ (unitZ z).1.ops = [] ∧ (unitZ z).1.body = ⟨#[]⟩ ∧ av = .tup [.lit (.pointer none), .lit (.int .i64 (unitZ z).2.1), .lit (.int .i64 (unitZ z).2.2)] ∧ mem = [])
theorem usStep_bad1 {st : US} {i : Nat} {ws : List ByteArray} (h : declZ ws = none) (h2 : ¬ (ws.length = 2 ∧ txAt ws 0 = kwUse)) (h0 : ¬ st.bad = 0) : usStep st i ws = st := by
  unfold usStep
  split
  · rfl
  · rw [h]
    simp only
    have h2 : ¬ (ws.length = 2 ∧ wrdAt ws 0 = kwUse) := h2
    rw [if_neg h2]
    first
      | done
      | rfl
      | rw [if_neg h0]
theorem declZ_ok {ws : List ByteArray} {o : POp} (h : declZ ws = some o) (hB : ∀ i, (txAt ws i).size ≤ 1048576) : o.wf ∧ o.rng := by
  by_cases h3 : ws.length < 3
  · rw [declZ_short h3] at h; cases h
  cases hv : levelZ (txAt ws 2) with
  | none => rw [declZ_lev hv] at h; cases h
  | some v =>
    have hlt : v < 1000000 := by
      unfold levelZ at hv
      split at hv
      · rename_i hh
        cases hv
        have := decR_lt hh.1 _ (Nat.le_refl _)
        have hp : 10 ^ (txAt ws 2).size ≤ 10 ^ 6 := Nat.pow_le_pow_right (by omega) hh.2
        omega
      · cases hv
    have hsd : sideZ (txAt ws 3) ≤ 3 := by unfold sideZ; (repeat' split) <;> omega
    have hb := hB 1
    rw [declZ_go h3 hv] at h
    split at h
    · cases h; exact ⟨by simp only [POp.wf, maxLen]; omega, by simp only [POp.rng, i64]; omega⟩
    · split at h
      · cases h; exact ⟨by simp only [POp.wf, maxLen]; omega, by simp only [POp.rng, i64]; omega⟩
      · split at h
        · cases h; exact ⟨by simp only [POp.wf, maxLen]; omega, by simp only [POp.rng, i64]; omega⟩
        · cases h
theorem srcOut {ty : Nat} {x y u : Value} : OutAt (idxOut 0 [0, 2, 3, 4]) [0, 2, 3, 4] ⟨ty, 6, 1, fun _ => [.own 1, .own 2, .lit x, .own 3, .lit y, .lit u]⟩ (some (some ⟨ty, 6, 1, fun _ => [.own 2, .own 3, .lit x, .own 4, .lit y, .lit u]⟩)) :=
  ⟨rfl, rfl, rfl, fun i hi => ⟨rfl, fun c hc => by
    simp at hc
    rcases hc with rfl | rfl | rfl | rfl | rfl | rfl <;> exact .inl rfl, fun c hc q hq => by
    simp at hc
    rcases hc with rfl | rfl | rfl | rfl | rfl | rfl <;> simp [owns1] at hq <;> simp [hq]⟩⟩
theorem farZ_le (z : ByteArray) {i : Nat} (h : i ≤ (cutZ 10 z).length) : farZ (cutZ 10 z) i ≤ z.size + 1 := by
  cases i with
  | zero => simp [farZ]
  | succ i =>
    obtain ⟨_, h2, _, h4, _⟩ := pos_far 10 z i h
    rw [← h2]; omega
theorem pieceZ_size {c : UInt8} {z : ByteArray} (i : Nat) : (txAt (cutZ c z) i).size ≤ z.size := by
  by_cases h : i < (cutZ c z).length
  · obtain ⟨_, _, _, _, h5⟩ := pos_far c z i h
    have : txAt (cutZ c z) i = (cutZ c z).getD i ByteArray.empty := rfl
    rw [this, ← h5, ByteArray.size_extract]; omega
  · unfold txAt
    rw [List.getD_eq_getElem?_getD, List.getElem?_eq_none (by omega)]
    exact Nat.zero_le _
theorem linesZ_at (z : ByteArray) {i : Nat} (h : i < (cutZ 10 z).length) : wordsZ (txAt (cutZ 10 z) i) = (linesZ z).getD i [] := by
  unfold linesZ txAt
  rw [List.getD_eq_getElem?_getD, List.getD_eq_getElem?_getD, List.getElem?_map, List.getElem?_eq_getElem h]
  rfl
theorem usR_bad (L : List (List ByteArray)) : ∀ i, (usR L i).bad ≤ i
  | 0 => Nat.le_refl _
  | i + 1 => by
    have := usR_bad L i
    show (usStep (usR L i) i _).bad ≤ _
    unfold usStep
    split
    · omega
    · split
      · simp only; omega
      · split
        · simp only; omega
        · simp only; split <;> omega
set_option maxHeartbeats 2000000 in
set_option maxRecDepth 100000 in
theorem c_sourceOf (z : ByteArray) (hz : z.size ≤ 1048576) : VProc Tryd.prog 12 [.lit (.string z)] [] [] (srcPost z) := by
  have h1 := c_split 10 z hz
  refine vproc_start Tryd.func12 (by kernel_rfl) rfl (by simp [Tryd.ntmps12]) ?_; simp only [Tryd.ntmps12, Tryd.results12]; simp [go_sem]
  refine ⟨fun hbig => ?_, fun hsm => ?_⟩
  · have e : unitZ z = ((⟨[], [], ⟨#[]⟩⟩ : Unt), (1 : Int), (0 : Int)) := by unfold unitZ; rw [if_pos (by omega)]
    exact uF [] [] (hR := .inr (by rw [e]; exact ⟨by decide, rfl, rfl, rfl, rfl, rfl⟩))
  · intro b
    have hsm : ¬ 20000 < z.size := by omega
    have hpl := cutZ_len 10 z
    refine vcall_use h1 (by simp [go_sem]) ?_
    rintro av obs ⟨rfl, rfl⟩
    simp [go_sem]
    refine ⟨by omega, ?_⟩
    refine vc_loopE (fun i : Nat => i ≤ (cutZ 10 z).length ∧ ∀ j, j < i → isBegin (lnZ z j) = false) (fun i => (cutZ 10 z).length - i)
      (fun i => ⟨[(0, .lit (.string z)), (5, .ptr 0 6 0 0), (6, .lit (.int .i64 (farZ (cutZ 10 z) i))), (7, .lit (.int .i64 (usR (linesZ z) i).bad)), (20, .own 1), (21, .lit (.int .i64 (cutZ 10 z).length)), (22, .lit (.int .i64 i))],
        [some ⟨45, 6, 1, fun _ => [.own 2, .own 3, .lit (.string ⟨#[]⟩), .own 4, .lit (.map (some b)), .lit (.int .i64 (-1))]⟩, txRow (cutZ 10 z), txRow (usR (linesZ z) i).uses, opRow5 (usR (linesZ z) i).ops, txRow ((cutZ 10 z).take i)],
        [(b, ⟨37, lmR (linesZ z) i⟩)], 0⟩) ⟨0, ⟨by omega, fun j h => by omega⟩, ?_⟩ (fun i hi => ?_)
    · refine (Ent.adopt (j := 0) rfl rfl (c := 0) rfl 9 1 (by omega) (txCells [])).trans ?_
      refine (Ent.adopt (j := 0) rfl rfl (c := 1) rfl 37 4 (by omega) (opCells [])).trans ?_
      refine (Ent.adopt (j := 0) rfl rfl (c := 3) rfl 9 1 (by omega) (txCells [])).trans ?_
      exact uE [0, 1, 2, 3, 4] (h1 := by simp [go_sem, farZ, usR]) (h4 := by simp [go_sem, K5, opRow5, usR]) (hM := by simp [go_sem, lmR])
    · obtain ⟨hi1, hi2⟩ := hi
      have hmin : min i (cutZ 10 z).length = i := Nat.min_eq_left hi1
      have hf := farZ_le z hi1
      simp [go_sem, K5, opRow5, txCells_at, hmin]
      refine ⟨fun h => ⟨h, ?_⟩, fun h => ?_⟩
      · have hps := pieceZ_size (c := 10) (z := z) i
        have hW : wordsZ (txAt (cutZ 10 z) i) = (linesZ z).getD i [] := linesZ_at z h
        have hwl := linWs_len z i
        have hB := linWs_size z i
        have hnx : usR (linesZ z) (i + 1) = usStep (usR (linesZ z) i) i ((linesZ z).getD i []) := rfl
        have hlm : lmR (linesZ z) (i + 1) = match declZ ((linesZ z).getD i []) with
          | some o => mput (lmR (linesZ z) i) (opV o) (.int .i64 i)
          | none => lmR (linesZ z) i := rfl
        have hfz : farZ (cutZ 10 z) (i + 1) = farZ (cutZ 10 z) i + (txAt (cutZ 10 z) i).size + 1 := rfl
        have hul := usR_len (linesZ z) i
        have hbd := usR_bad (linesZ z) i
        have hf2 := farZ_le z (i := i + 1) h
        rw [← linWs] at hwl
        have hB : ∀ j, (txAt ((linesZ z).getD i []) j).size ≤ z.size := fun j => by rw [linWs]; exact hB j
        have w1 : IntKind.i64.wrap (((txAt (cutZ 10 z) i).size : Int) + 1) = ((txAt (cutZ 10 z) i).size : Int) + 1 := wrap_i64 (by omega)
        have w2 : IntKind.i64.wrap ((farZ (cutZ 10 z) i : Int) + (((txAt (cutZ 10 z) i).size : Int) + 1)) = (farZ (cutZ 10 z) (i + 1) : Int) := by rw [wrap_i64 (by omega), hfz]; omega
        have w3 : IntKind.i64.wrap ((i : Int) + 1) = (i : Int) + 1 := wrap_i64 (by omega)
        have hw1 := c_words (txAt (cutZ 10 z) i) (by omega)
        rw [hW] at hw1
        rw [w1, w2]
        have nxt : isBegin (lnZ z i) = false → ∀ j, j < i + 1 → isBegin (lnZ z j) = false := fun e j h2 => by
          by_cases e2 : j = i
          · rw [e2]; exact e
          · exact hi2 j (by omega)
        have hlz : lnZ z i = (linesZ z).getD i [] := rfl
        generalize hWs : (linesZ z).getD i [] = W at *
        refine uS [] hw1 ?_
        rintro av mem maps ⟨rfl, rfl, rfl⟩
        simp [go_sem, K5, txCells_at, KW5]
        refine ⟨by omega, fun g1 => ⟨by omega, fun g2 => ?_, fun g2 => ?_⟩, fun g1 => ?_⟩
        · have hq : (if z.size < farZ (cutZ 10 z) (i + 1) then (z.size : Int) else (farZ (cutZ 10 z) (i + 1) : Int)) = ((min (farZ (cutZ 10 z) (i + 1)) z.size : Nat) : Int) := by split <;> omega
          have hbs := begin_some h hi2 (by
            rw [hlz]
            obtain ⟨x, rfl⟩ := List.length_eq_one_iff.1 (show W.length = 1 by omega)
            have : x = kwBegin := g2
            rw [this]; rfl)
          rw [hq]
          refine ⟨fun g => ?_, fun g => ⟨fun g3 => by omega, fun g3 => ⟨by omega, by omega, ?_⟩⟩⟩
          · have hu := unitZ_bad hsm (.inl hbs) g
            exact uF [] [] (hR := .inr (by rw [hu]; exact ⟨(by decide : ¬ (2 : Int) = 0), rfl, rfl, rfl, rfl, rfl⟩))
          · have hu := unitZ_some hsm hbs g
            refine uF [0, 2, 3, 4] [srcOb (unitZ z).1 b (min (farZ (cutZ 10 z) (i + 1)) z.size) 1 2 3, txRow (unitZ z).1.uses, opRow5 (unitZ z).1.ops, txRow ((cutZ 10 z).take i)] (hm := ?_) (hR := .inl ⟨i, b, hbs, by rw [hu], ?_, rfl, rfl⟩)
            · simp [go_sem, K5, srcOb, opRow5, hu, hmin]
              exact srcOut
            · simp [go_sem]
        case' refine_2 =>
          have hnb : isBegin (lnZ z i) = false := by
            simp only [isBegin, decide_eq_false_iff_not]
            intro e; rw [hlz] at e; rw [e] at g2; exact g2 rfl
        case' refine_3 =>
          have hnb : isBegin (lnZ z i) = false := by
            simp only [isBegin, decide_eq_false_iff_not]
            intro e; rw [hlz] at e; rw [e] at g1; exact g1 rfl
        all_goals
          have hTk : (cutZ 10 z).take (i + 1) = (cutZ 10 z).take i ++ [txAt (cutZ 10 z) i] := by
            rw [List.take_succ_eq_append_getElem h]
            congr 2
            unfold txAt; rw [List.getD_eq_getElem?_getD, List.getElem?_eq_getElem h]; rfl
          have hTn := fun g m => tx_new (g := g) (m := m) ((cutZ 10 z).take i) (txAt (cutZ 10 z) i)
          simp only [List.length_take, hmin] at hTn
          have hmin2 : min (i + 1) (cutZ 10 z).length = i + 1 := Nat.min_eq_left h
          refine ⟨by omega, by omega, by omega, fun g => ⟨i + 1, ⟨h, nxt hnb⟩, by omega, ?_⟩, fun g => ?_⟩
          · have hdn : declZ W = none := by rw [g]; rfl
            rw [usStep_nil (by rw [g]; rfl)] at hnx
            rw [hdn] at hlm
            exact uE [0, 1, 2, 3, 6] (h1 := by simp [go_sem, w3, hnx]) (h4 := by simp [go_sem, K5, opRow5, hnx, hTk, hmin, hmin2]; exact .inr (of_eq_true (hTn _ _))) (hM := by simp [go_sem, hlm])
          · have hpos : 0 < W.length := List.length_pos_iff.2 g
            have hdc := c_declared W (by omega) hpos (fun j => by have := hB j; omega)
            cases hd : declZ W with
            | some o =>
              rw [usStep_op hd] at hnx
              rw [hd] at hlm
              refine vcall_use hdc (by simp [go_sem]; exact argSl_refl (by omega) fun i c _ h => txClosed _ i c h) ?_
              rintro av obs ⟨rfl, o', rfl, ho⟩
              obtain rfl := ho o hd
              have hky := keyOp (declZ_ok hd fun j => by have := hB j; omega).1 (declZ_ok hd fun j => by have := hB j; omega).2
              rw [hd]
              simp [go_sem, POp.cells]
              refine vc_drawn [8,12] (.q 1 <| .q 2 <| .q 3 <| .q 4 <| .q 5 <| .q 6 <| .or 0 (.or 7 (.or 8 (.q 9 <| .q 10 <| .q 11 <| .or 12 (.done) (.nil)) (.nil)) (.nil)) (.or 7 (.or 0 (.or 8 (.q 9 <| .q 10 <| .q 11 <| .or 12 (.done) (.nil)) (.nil)) (.or 8 (.q 0 <| .q 9 <| .q 10 <| .q 11 <| .or 12 (.done) (.nil)) (.nil))) (.nil))) (by kernel_rfl) ?_
              simp [go_sem]
              refine ⟨⟨by omega, by omega, ?_⟩, ⟨by omega, by omega, ?_⟩, by omega, by omega, ?_⟩
              all_goals
                refine vc_drawn [6] (.q 0 <| .q 1 <| .q 2 <| .q 3 <| .q 4 <| .q 5 <| .or 6 (.done) (.nil)) (by kernel_rfl) ?_
                simp [go_sem]
                refine vmsetK_use keyedOp hky ?_
                simp [go_sem]
                refine ⟨i + 1, ⟨h, nxt hnb⟩, by omega, ?_⟩
                exact uE [0, 1, 2, 9, 6] (h1 := by simp [go_sem, w3, hnx]) (h4 := by simp [go_sem, K5, opRow5, hnx, hTk, hmin, hmin2, op_new5]; exact .inr (of_eq_true (hTn _ _))) (hM := by simp [go_sem, hlm, opV])
            | none =>
              rw [hd] at hlm
              refine vcall_use hdc (by simp [go_sem]; exact argSl_refl (by omega) fun i c _ h => txClosed _ i c h) ?_
              rintro av obs ⟨rfl, o', rfl, ho⟩
              rw [hd]
              simp [go_sem, POp.cells, txCells_at, KW5]
              have nb0 : ∀ (h2 : ¬ (W.length = 2 ∧ txAt W 0 = kwUse)), (usR (linesZ z) i).bad = 0 → usR (linesZ z) (i + 1) = { usR (linesZ z) i with bad := i + 1 } := fun h2 h3 => by rw [hnx, usStep_bad hd h2 hpos h3]
              have nb1 : ∀ (h2 : ¬ (W.length = 2 ∧ txAt W 0 = kwUse)), ¬ (usR (linesZ z) i).bad = 0 → usR (linesZ z) (i + 1) = usR (linesZ z) i := fun h2 h3 => by rw [hnx, usStep_bad1 hd h2 h3]
              have hlm' : lmR (linesZ z) (i + 1) = lmR (linesZ z) i := hlm
              refine ⟨by omega, fun g1 => ⟨by omega, fun g2 => ?_, fun g2 => ⟨fun g3 => ⟨i + 1, ⟨h, nxt hnb⟩, by omega, ?_⟩, fun g3 => ⟨i + 1, ⟨h, nxt hnb⟩, by omega, ?_⟩⟩⟩, fun g1 => ⟨fun g3 => ⟨i + 1, ⟨h, nxt hnb⟩, by omega, ?_⟩, fun g3 => ⟨i + 1, ⟨h, nxt hnb⟩, by omega, ?_⟩⟩⟩
              · rw [usStep_use hd (by omega) g2] at hnx
                refine vc_drawn [10,14] (.q 1 <| .q 2 <| .q 3 <| .q 4 <| .q 5 <| .q 6 <| .q 7 <| .q 8 <| .or 0 (.or 9 (.or 10 (.q 11 <| .q 12 <| .q 13 <| .or 14 (.done) (.nil)) (.nil)) (.nil)) (.or 9 (.or 0 (.or 10 (.q 11 <| .q 12 <| .q 13 <| .or 14 (.done) (.nil)) (.nil)) (.or 10 (.q 0 <| .q 11 <| .q 12 <| .q 13 <| .or 14 (.done) (.nil)) (.nil))) (.nil))) (by kernel_rfl) ?_
                simp [go_sem, txCells_at]
                refine ⟨by omega, ⟨by omega, by omega, i + 1, ⟨h, nxt hnb⟩, by omega, ?_⟩, ⟨by omega, by omega, i + 1, ⟨h, nxt hnb⟩, by omega, ?_⟩, by omega, by omega, i + 1, ⟨h, nxt hnb⟩, by omega, ?_⟩
                all_goals exact uE [0, 1, 9, 3, 6] (h1 := by simp [go_sem, w3, hnx]) (h4 := by simp [go_sem, K5, opRow5, hnx, hTk, hmin, hmin2, tx_new]; exact .inr (of_eq_true (hTn _ _))) (hM := by simp [go_sem, hlm'])
              · have hn := nb0 (fun e => g2 e.2) g3
                exact uE [0, 1, 2, 3, 6] (h1 := by simp [go_sem, w3, hn]) (h4 := by simp [go_sem, K5, opRow5, hn, hTk, hmin, hmin2]; exact .inr (of_eq_true (hTn _ _))) (hM := by simp [go_sem, hlm'])
              · have hn := nb1 (fun e => g2 e.2) g3
                exact uE [0, 1, 2, 3, 6] (h1 := by simp [go_sem, w3, hn]) (h4 := by simp [go_sem, K5, opRow5, hn, hTk, hmin, hmin2]; exact .inr (of_eq_true (hTn _ _))) (hM := by simp [go_sem, hlm'])
              · have hn := nb0 (fun e => g1 (by rw [e.1]; rfl)) g3
                exact uE [0, 1, 2, 3, 6] (h1 := by simp [go_sem, w3, hn]) (h4 := by simp [go_sem, K5, opRow5, hn, hTk, hmin, hmin2]; exact .inr (of_eq_true (hTn _ _))) (hM := by simp [go_sem, hlm'])
              · have hn := nb1 (fun e => g1 (by rw [e.1]; rfl)) g3
                exact uE [0, 1, 2, 3, 6] (h1 := by simp [go_sem, w3, hn]) (h4 := by simp [go_sem, K5, opRow5, hn, hTk, hmin, hmin2]; exact .inr (of_eq_true (hTn _ _))) (hM := by simp [go_sem, hlm'])
      · have e : i = (cutZ 10 z).length := by omega
        subst e
        have hbn := begin_none hi2
        refine ⟨fun g => ?_, fun g => ?_⟩
        · have hu := unitZ_bad hsm (.inr ⟨hbn, rfl⟩) g
          exact uF [] [] (hR := .inr (by rw [hu]; exact ⟨(by decide : ¬ (2 : Int) = 0), rfl, rfl, rfl, rfl, rfl⟩))
        · have hu := unitZ_none hsm hbn g
          exact uF [] [] (hR := .inr (by rw [hu]; exact ⟨by decide, rfl, rfl, rfl, rfl, rfl⟩))
end Go.Proofs.YtbhcicdjllcdjaaDoor.V
namespace Go.Proofs.YtbhcicdjllcdjaaDoor.V
open Go.RowKit
set_option linter.unusedVariables false
set_option linter.unusedSimpArgs false
set_option linter.constructorNameAsVariable false
set_option maxRecDepth 100000 in
theorem c_implReadUnit1 (z : ByteArray) (hz : z.size ≤ 1048576) : VFun Tryd.prog 5 [.lit (.string z)] (fun av obs => untR (unitZ z).1 (unitZ z).2.1 (unitZ z).2.2 av obs ∨ untNil (unitZ z).1 (unitZ z).2.1 (unitZ z).2.2 av obs) := by
  have h1 := c_sourceOf z hz
  refine vfun_start Tryd.func5 (by kernel_rfl) rfl (by simp [Tryd.ntmps5]) ?_; simp only [Tryd.ntmps5, Tryd.results5]; simp [go_sem]
  refine uS [] h1 ?_
  rintro av mem maps (⟨k, b, hb, hu, rfl, rfl, rfl⟩ | ⟨hu, e1, e2, e3, rfl, rfl⟩)
  · simp [go_sem, K5, opRow5, srcOb]
    have o1 : ∀ u : Unt, ObsSame [⟨9, 1, u.uses.length, txCells u.uses⟩, ⟨37, 4, u.ops.length, opCells u.ops⟩] [⟨9, 1, u.uses.length, txCells u.uses⟩, ⟨37, 4, u.ops.length, opCells u.ops⟩] :=
      fun u => ⟨⟨rfl, rfl, rfl, fun j hj => ⟨rfl, txLit _ j⟩⟩, ⟨rfl, rfl, rfl, fun j hj => ⟨rfl, opLit _ j⟩⟩, trivial⟩
    rw [hu]
    exact ⟨_, o1 _, .inl ⟨rfl, rfl⟩⟩
  · simp [go_sem]
    refine ⟨fun _ => .inr ⟨by rw [e3], rfl, e1, e2⟩, fun h => absurd h hu⟩
theorem VFun.adoptU {P : Program} {f : FuncId} {args : List AV} {R R' : AV → List Ob → Prop} (h : VFun P f args R) (t1 t2 : Nat) (g1 g2 : Nat → List AV)
    (hr : ∀ av obs, R av obs → R' av obs ∨ ∃ (y : Value) (xs : List Value), av = .tup (.agg [.lit (.slice none 0 0), .lit (.slice none 0 0), .lit y] :: xs.map .lit) ∧ obs = [] ∧ R' (.tup (.agg [.own 0, .own 1, .lit y] :: xs.map .lit)) [⟨t1, 1, 0, g1⟩, ⟨t2, 4, 0, g2⟩]) : VFun P f args R' := by
  refine ⟨h.1, fun w vs hl hv => (h.2 w vs hl hv).mono fun e w' ⟨v, e1, gr, hd, av, obs, r, fl, hlit, hm, hrep⟩ => ?_⟩
  rcases hr av obs r with r' | ⟨y, xs, rfl, rfl, r'⟩
  · exact ⟨v, e1, gr, hd, av, obs, r', fl, hlit, hm, hrep⟩
  · have two : ∀ (k : Nat) (ob : Ob), ([⟨t1, 1, 0, g1⟩, ⟨t2, 4, 0, g2⟩] : List Ob)[k]? = some ob → 0 < ob.sz ∧ ob.n = 0 := fun k ob hk => by
      match k with
      | 0 => simp at hk; subst hk; exact ⟨Nat.one_pos, rfl⟩
      | 1 => simp at hk; subst hk; exact ⟨Nat.succ_pos 3, rfl⟩
      | k + 2 => simp at hk
    have two' : ∀ (k : Nat) (ob : Ob), (([⟨t1, 1, 0, g1⟩, ⟨t2, 4, 0, g2⟩] : List Ob).map some)[k]? = some (some ob) → 0 < ob.sz ∧ ob.n = 0 := fun k ob hk => by
      rw [List.getElem?_map, Option.map_eq_some_iff] at hk
      obtain ⟨x, hx, hx2⟩ := hk
      cases hx2
      exact two k ob hx
    refine ⟨v, e1, gr, fun _ => .slice none 0 0, _, _, r', ?_, fun ob ho i hi => ?_, ⟨fun k ob hk b hb => ?_, fun k ob hk => ?_, fun k hk => ⟨none, 0, 0, rfl⟩, fun k k' o o' hk hk' hne => .inl rfl⟩, ?_⟩
    · simp [flatV, flat2, flat1]
    · obtain ⟨k, hk⟩ := List.getElem?_of_mem ho
      have := (two k ob hk).2
      omega
    · simp [Value.ownBlock] at hb
    · obtain ⟨h1, h2⟩ := two' k ob hk
      exact ⟨h1, [], ⟨by rw [h2]; simp, .inl ⟨rfl, h2⟩⟩, fun i hi => by omega⟩
    · cases hrep with
      | tup _ us hl2 hr2 =>
        match us, hl2 with
        | u1 :: us, hl2 =>
          have q1 := hr2 0 _ u1 rfl rfl
          cases q1 with
          | agg _ ws hl3 hr3 =>
            match ws, hl3 with
            | [x1, x2, x3], _ =>
              have q1 := hr3 0 _ x1 rfl rfl
              have q2 := hr3 1 _ x2 rfl rfl
              have q3 := hr3 2 _ x3 rfl rfl
              cases q1; cases q2; cases q3
              refine .tup _ (.agg #[.slice none 0 0, .slice none 0 0, y] :: us) (by simpa using hl2) fun j a u ha hu => ?_
              cases j with
              | zero =>
                simp only [List.getElem?_cons_zero, Option.some.injEq] at ha hu
                subst ha; subst hu
                refine .agg _ [.slice none 0 0, .slice none 0 0, y] rfl fun j a u ha hu => ?_
                match j with
                | 0 => simp at ha hu; subst ha; subst hu; exact .own (hd := fun _ => .slice none 0 0) 0 (by simp)
                | 1 => simp at ha hu; subst ha; subst hu; exact .own (hd := fun _ => .slice none 0 0) 1 (by simp)
                | 2 => simp at ha hu; subst ha; subst hu; exact .lit _
                | j + 3 => simp at ha
              | succ j =>
                simp only [List.getElem?_cons_succ] at ha hu
                have := hr2 (j + 1) a u (by simpa using ha) (by simpa using hu)
                rw [List.getElem?_map, Option.map_eq_some_iff] at ha
                obtain ⟨y, hy, rfl⟩ := ha
                cases this
                exact .lit _
theorem untR_own {u : Unt} {c ln : Int} {av : AV} {obs : List Ob} (h : untR u c ln av obs ∨ untNil u c ln av obs) : untR u c ln av obs ∨ ∃ (y : Value) (xs : List Value), av = .tup (.agg [.lit (.slice none 0 0), .lit (.slice none 0 0), .lit y] :: xs.map .lit) ∧ obs = [] ∧ untR u c ln (.tup (.agg [.own 0, .own 1, .lit y] :: xs.map .lit)) [⟨9, 1, 0, txCells []⟩, ⟨37, 4, 0, opCells []⟩] := by
  rcases h with h | ⟨rfl, rfl, h1, h2⟩
  · exact .inl h
  · exact .inr ⟨.string u.body, [.int .i64 c, .int .i64 ln], rfl, rfl, rfl, by rw [h1, h2]; rfl⟩
theorem c_specReadUnit (z : ByteArray) (hz : z.size ≤ 1048576) : VFun Tryd.prog 4 [.lit (.string z)] (untR (unitZ z).1 (unitZ z).2.1 (unitZ z).2.2) :=
  (c_specReadUnit1 z hz).adoptU _ _ _ _ fun av obs h => untR_own h
theorem c_implReadUnit (z : ByteArray) (hz : z.size ≤ 1048576) : VFun Tryd.prog 5 [.lit (.string z)] (untR (unitZ z).1 (unitZ z).2.1 (unitZ z).2.2) :=
  (c_implReadUnit1 z hz).adoptU _ _ _ _ fun av obs h => untR_own h
end Go.Proofs.YtbhcicdjllcdjaaDoor.V
namespace Go.Proofs.YtbhcicdjllcdjaaDoor.V
open Go.RowKit
set_option linter.unusedVariables false
set_option linter.unusedSimpArgs false
set_option linter.constructorNameAsVariable false
def txsEq (a b : List ByteArray) : Bool := decide (a = b)
theorem txAt_ext {a b : List ByteArray} (hl : a.length = b.length) (h : ∀ i, i < a.length → txAt a i = txAt b i) : a = b := by
  refine List.ext_getElem hl fun i h1 h2 => ?_
  have := h i h1
  unfold txAt at this
  rwa [List.getD_eq_getElem?_getD, List.getD_eq_getElem?_getD, List.getElem?_eq_getElem h1, List.getElem?_eq_getElem h2] at this
set_option maxRecDepth 100000 in
theorem c_eqStringS (a b : List ByteArray) (ha : a.length ≤ 9223372036854775807) (hb : b.length ≤ 9223372036854775807) : VFun Tryd.prog 13 [.sl 1 a.length (txCells a), .sl 1 b.length (txCells b)] (fun av obs => obs = [] ∧ av = .lit (.bool (txsEq a b))) := by
  refine vfun_start Tryd.func13 (by kernel_rfl) rfl (by simp [Tryd.ntmps13]) ?_; simp only [Tryd.ntmps13, Tryd.results13]; simp [go_sem]
  refine ⟨by omega, by omega, fun hne => ?_, fun hl => ?_⟩
  · have : a ≠ b := fun e => hne (by rw [e])
    simp [txsEq, this]
  refine vc_loop (fun i : Nat => i ≤ a.length ∧ ∀ j, j < i → txAt a j = txAt b j) (fun i => a.length - i) (fun i => .of [(0, .sl 1 a.length (txCells a)), (1, .sl 1 b.length (txCells b)), (5, .lit (.int .i64 i))] []) ⟨0, ⟨by omega, fun j h => by omega⟩, ?_⟩ (fun i hi => ?_)
  · simp [go_sem, K5]
  · obtain ⟨hi, hj⟩ := hi
    have cl : (∀ (i : Nat) (c : AV), i < a.length → c ∈ txCells a i → Closed c) ∧ ∀ (i : Nat) (c : AV), i < b.length → c ∈ txCells b i → Closed c := ⟨fun i c _ h => txClosed a i c h, fun i c _ h => txClosed b i c h⟩
    simp [go_sem]
    refine ⟨by omega, fun h => ?_, fun h => ?_⟩
    · refine vc_drawn [] (.q 0 <| .q 1 <| .q 2 <| .q 3 <| .q 4 <| .q 5 <| .q 6 <| .q 7 <| .q 8 <| .done) (by kernel_rfl) ?_
      simp [go_sem, txCells_at, ba_toList]
      refine ⟨h, by omega, fun e => ?_, fun e => ⟨i + 1, ⟨h, fun j h3 => ?_⟩, by omega, ?_⟩⟩
      · simp only [txsEq, decide_eq_false_iff_not]
        exact fun e2 => e (by rw [e2])
      · by_cases e2 : j = i
        · rw [e2]; exact e
        · exact hj j (by omega)
      · rw [wrap_i64 (by omega)]; rfl
    · have : a = b := txAt_ext (by omega) fun j h2 => hj j (by omega)
      simp [txsEq, this]
def markTs (n k : Nat) : List ByteArray := (List.range n).map fun i => mtext (k + i)
theorem markTs_len (n k : Nat) : (markTs n k).length = n := by simp [markTs]
def mixTs (l : List ByteArray) (k i : Nat) : List ByteArray := markTs i k ++ l.drop i
theorem mixTs_len {l : List ByteArray} {k i : Nat} (h : i ≤ l.length) : (mixTs l k i).length = l.length := by simp [mixTs, markTs_len]; omega
theorem mixTs_set {l : List ByteArray} {k i : Nat} (h : i < l.length) : (mixTs l k i).set i (mtext (k + i)) = mixTs l k (i + 1) := by
  unfold mixTs
  rw [List.set_append_right _ _ (by rw [markTs_len]; omega), markTs_len, Nat.sub_self, List.drop_eq_getElem_cons h, List.set_cons_zero]
  simp only [markTs, List.range_succ, List.map_append, List.map_cons, List.map_nil, List.append_assoc, List.singleton_append]
theorem mixTs_end (l : List ByteArray) (k : Nat) : mixTs l k l.length = markTs l.length k := by simp [mixTs]
set_option maxRecDepth 100000 in
theorem c_markStringS (l : List ByteArray) (k : Nat) (hl : l.length ≤ 1048576) (hk : 0 < k ∧ k ≤ 1000000000) : VProc Tryd.prog 15 [.own 0, .lit (.int .i64 k)] [txRow l] [] (fun av mem maps => av = .lit (.int .i64 (k + l.length : Nat)) ∧ mem = [txRow (markTs l.length k)] ∧ maps = []) := by
  refine vproc_start Tryd.func15 (by kernel_rfl) rfl (by simp [Tryd.ntmps15]) ?_; simp only [Tryd.ntmps15, Tryd.results15]; simp [go_sem]
  refine vc_loopE (fun i : Nat => i ≤ l.length) (fun i => l.length - i) (fun i => ⟨[(0, .own 0), (1, .lit (.int .i64 (k + i : Nat))), (5, .lit (.int .i64 i))], [txRow (mixTs l k i)], [], 1⟩) ⟨0, by omega, uE [0] (by simp [go_sem, K5, mixTs, markTs])⟩ (fun i hi => ?_)
  have hm := mixTs_len (k := k) hi
  simp [go_sem, K5, hm]
  refine ⟨by omega, fun h => vcall_pure (c_markText (k + i) (by omega)) ?_ ?_, fun h => ?_⟩
  · simp [go_sem]
  · simp [go_sem]
    refine ⟨h, i + 1, h, by omega, ?_⟩
    have w1 : IntKind.i64.wrap ((i : Int) + 1) = (i : Int) + 1 := wrap_i64 (by omega)
    have w2 : IntKind.i64.wrap ((k : Int) + i + 1) = (k : Int) + (i + 1) := by rw [wrap_i64 (by omega)]; omega
    have hm2 := mixTs_len (k := k) (i := i + 1) h
    exact uE [0] (h1 := by simp [go_sem, w1, w2]) (h4 := by simp [go_sem, K5, hm2]; rw [← mixTs_set h]; exact .inr (tx_put hm h))
  · obtain rfl : i = l.length := by omega
    exact uF [] [txRow (markTs l.length k)] (hm := by simp [go_sem, K5, mixTs_end, markTs_len]) (hR := by simp [go_sem, K5])
set_option maxRecDepth 100000 in
theorem c_heldStringS (n k : Nat) (hl : n ≤ 1048576) (hk : 0 < k ∧ k ≤ 1000000000) : VFun Tryd.prog 17 [.sl 1 n (txCells (markTs n k)), .lit (.int .i64 k)] (fun av obs => obs = [] ∧ av = .lit (.int .i64 (k + n : Nat))) := by
  have cl : ∀ (i : Nat) (c : AV), i < n → c ∈ txCells (markTs n k) i → Closed c := fun i c _ h => txClosed _ i c h
  have at_ : ∀ i, i < n → txAt (markTs n k) i = mtext (k + i) := fun i h => by
    unfold txAt markTs
    rw [List.getD_eq_getElem?_getD, List.getElem?_map, List.getElem?_range h]; rfl
  refine vfun_start Tryd.func17 (by kernel_rfl) rfl (by simp [Tryd.ntmps17]) ?_; simp only [Tryd.ntmps17, Tryd.results17]; simp [go_sem]
  refine vc_loop (fun i : Nat => i ≤ n) (fun i => n - i) (fun i => .of [(0, .sl 1 n (txCells (markTs n k))), (1, .lit (.int .i64 (k + i : Nat))), (5, .lit (.int .i64 i))] []) ⟨0, by omega, ?_⟩ (fun i hi => ?_)
  · simp [go_sem]
    exact cl
  · simp [go_sem]
    refine ⟨by omega, fun h => ?_, fun h => ?_⟩
    · refine vc_drawn [] (.q 0 <| .q 1 <| .q 2 <| .q 3 <| .q 4 <| .or 5 (.q 6 <| .done) (.nil)) (by kernel_rfl) ?_
      simp [go_sem, txCells_at]
      refine ⟨h, vcallV_pure (c_markText (k + i) (by omega)) (by simp [go_sem]) ?_⟩
      simp [go_sem, at_ i h]
      exact ⟨i + 1, h, by omega, cl, by rw [wrap_i64 (by omega)]; omega, by rw [wrap_i64 (by omega)]; rfl⟩
    · obtain rfl : i = n := by omega
      rfl
def untEq (a b : Unt) : Bool := txsEq a.uses b.uses && opsEq a.ops b.ops && decide (a.body = b.body)
theorem c_eqUnit (a b : Unt) (ha : a.uses.length ≤ 1048576 ∧ a.ops.length ≤ 1048576) (hb : b.uses.length ≤ 1048576 ∧ b.ops.length ≤ 1048576) : VFun Tryd.prog 6 [.agg [.sl 1 a.uses.length (txCells a.uses), .sl 4 a.ops.length (opCells a.ops), .lit (.string a.body)], .agg [.sl 1 b.uses.length (txCells b.uses), .sl 4 b.ops.length (opCells b.ops), .lit (.string b.body)]]
    (fun av obs => obs = [] ∧ av = .lit (.bool (untEq a b))) := by
  have h1 := c_eqStringS a.uses b.uses (by omega) (by omega)
  have h2 := c_eqOpS a.ops b.ops (by omega) (by omega)
  refine vfun_start Tryd.func6 (by kernel_rfl) rfl (by simp [Tryd.ntmps6]) ?_; simp only [Tryd.ntmps6, Tryd.results6]; simp [go_sem]
  refine vcall_pure h1 (by simp [go_sem]; exact ⟨argSl_refl (by omega) fun i c _ h => txClosed _ i c h, argSl_refl (by omega) fun i c _ h => txClosed _ i c h⟩) ?_
  simp [go_sem]
  refine ⟨fun e => by simp [untEq, e], fun e => ?_⟩
  refine vcall_pure h2 (by simp [go_sem]; exact ⟨argSl_refl (by omega) fun i c _ h => opClosed _ i c h, argSl_refl (by omega) fun i c _ h => opClosed _ i c h⟩) ?_
  simp [go_sem]
  refine ⟨fun e2 => by simp [untEq, e2], fun e2 => ?_⟩
  simp only [ba_toList]
  exact ⟨fun e3 => by simp [untEq, e3], fun e3 => by simp [untEq, e, e2, e3]⟩
theorem c_markUnit (u : Unt) (k : Nat) (hu : u.uses.length ≤ 1048576 ∧ u.ops.length ≤ 1048576) (hk : 0 < k ∧ k ≤ 1000000) : VProc Tryd.prog 7 [.agg [.own 0, .own 1, .lit (.string u.body)], .lit (.int .i64 k)] [txRow u.uses, opRow5 u.ops] []
    (fun av mem maps => av = .lit (.int .i64 (k + u.uses.length + 4 * u.ops.length : Nat)) ∧ mem = [txRow (markTs u.uses.length k), some ⟨37, 4, u.ops.length, markCells (k + u.uses.length)⟩] ∧ maps = []) := by
  have h1 := c_markStringS u.uses k hu.1 (by omega)
  have h2 := c_markOpS u.ops (k + u.uses.length) hu.2 (by omega)
  refine vproc_start Tryd.func7 (by kernel_rfl) rfl (by simp [Tryd.ntmps7]) ?_; simp only [Tryd.ntmps7, Tryd.results7]; simp [go_sem]
  refine uS [0] h1 ?_
  rintro av mem maps ⟨rfl, rfl, rfl⟩
  simp [go_sem, K5, opRow5]
  refine vcall_share [1] h2 (by simp) (by simp [go_sem]) (by simp [go_sem, K5]) (by simp [go_sem]) ?_
  rintro av mem maps ⟨rfl, rfl, rfl⟩
  simp [go_sem]
  exact uF [] [txRow (markTs u.uses.length k), some ⟨37, 4, u.ops.length, markCells (k + u.uses.length)⟩] (hm := by simp [go_sem, K5]; exact of_eq_true (outAt_all fun i => rfl)) (hR := by simp [go_sem, K5])
theorem c_heldUnit (n m : Nat) (z : ByteArray) (k : Nat) (hu : n ≤ 1048576 ∧ m ≤ 1048576) (hk : 0 < k ∧ k ≤ 1000000) : VFun Tryd.prog 8 [.agg [.sl 1 n (txCells (markTs n k)), .sl 4 m (markCells (k + n)), .lit (.string z)], .lit (.int .i64 k)] (fun av obs => obs = [] ∧ av = .lit (.int .i64 (k + n + 4 * m : Nat))) := by
  have h1 := c_heldStringS n k hu.1 (by omega)
  have h2 := c_heldOpS m (k + n) hu.2 (by omega)
  refine vfun_start Tryd.func8 (by kernel_rfl) rfl (by simp [Tryd.ntmps8]) ?_; simp only [Tryd.ntmps8, Tryd.results8]; simp [go_sem]
  refine vcall_pure h1 (by simp [go_sem]; exact argSl_refl (by omega) fun i c _ h => txClosed _ i c h) ?_
  simp [go_sem]
  refine ⟨fun e => absurd e (by omega), fun e => vcall_pure h2 (by simp [go_sem]; exact argSl_refl (by omega) fun i c _ h => markClosed _ i c h) ?_⟩
  simp [go_sem]
  omega
end Go.Proofs.YtbhcicdjllcdjaaDoor.V
namespace Go.Proofs.YtbhcicdjllcdjaaDoor.V
open Go.RowKit
set_option linter.unusedVariables false
set_option linter.unusedSimpArgs false
set_option linter.constructorNameAsVariable false
theorem untEq_refl (u : Unt) : untEq u u = true := by simp [untEq, txsEq, opsEq_refl]
theorem unitZ_len (z : ByteArray) : (unitZ z).1.uses.length ≤ 20001 ∧ (unitZ z).1.ops.length ≤ 20001 := by
  have hl := linesP_le z
  have hn : ∀ k, k ≤ (linesZ z).length → (usR (linesZ z) k).uses.length ≤ z.size + 1 ∧ (usR (linesZ z) k).ops.length ≤ z.size + 1 := fun k hk => by
    have := usR_len (linesZ z) k
    rw [linesZ_len] at hk
    omega
  unfold unitZ
  split
  · simp
  · split
    · split <;> simp
    · rename_i k hk
      have hk2 : k ≤ (linesZ z).length := by
        unfold beginAt at hk
        rw [List.findIdx?_eq_some_iff_getElem] at hk
        obtain ⟨h, _⟩ := hk
        omega
      split
      · have := hn k hk2
        simp only
        omega
      · simp
set_option maxRecDepth 100000 in
theorem c_FnExactReadUnit (z : ByteArray) : VFun Tryd.prog 3 [.lit (.string z)] (fun av _ => av = .lit (.bool true)) := by
  by_cases hz : z.size ≤ 1048576
  · have h1 := c_specReadUnit z hz
    have h2 := c_implReadUnit z hz
    have hn := unitZ_len z
    generalize unitZ z = U at *
    obtain ⟨u, c, ln⟩ := U
    simp only at h1 h2 hn
    have h3 := c_eqUnit u u (by omega) (by omega)
    have h4 := c_markUnit u 1 (by omega) (by omega)
    have h5 := c_heldUnit u.uses.length u.ops.length u.body 1 (by omega) (by omega)
    rw [untEq_refl] at h3
    refine vfun_start Tryd.func3 (by kernel_rfl) rfl (by simp [Tryd.ntmps3]) ?_; simp only [Tryd.ntmps3, Tryd.results3]; simp [go_sem]
    refine fun _ => vcall_use h1 (by simp [go_sem]) ?_
    rintro av obs ⟨rfl, rfl⟩
    simp [go_sem]
    refine vcall_use h2 (by simp [go_sem]) ?_
    rintro av obs ⟨rfl, rfl⟩
    simp [go_sem]
    refine vcall_pure h3 (by simp [go_sem]; exact ⟨⟨argSl_own5 (sz := 1) rfl Nat.one_pos rfl (fun _ _ => rfl) (fun i c _ h => txClosed _ i c h), argSl_own5 (sz := 4) rfl (Nat.succ_pos 3) rfl (fun _ _ => rfl) (fun i c _ h => opClosed _ i c h)⟩, argSl_own5 (sz := 1) rfl Nat.one_pos rfl (fun _ _ => rfl) (fun i c _ h => txClosed _ i c h), argSl_own5 (sz := 4) rfl (Nat.succ_pos 3) rfl (fun _ _ => rfl) (fun i c _ h => opClosed _ i c h)⟩) ?_
    simp [go_sem]
    refine uS [3, 4] h4 ?_ (hs := by simp [go_sem, K5, opRow5])
    rintro av mem maps ⟨rfl, rfl, rfl⟩
    simp [go_sem, K5]
    refine vcall_pure h5 (by simp [go_sem]; exact ⟨argSl_own5 (sz := 1) rfl Nat.one_pos (markTs_len _ _) (fun _ _ => rfl) (fun i c _ h => txClosed _ i c h), argSl_own5 (sz := 4) rfl (Nat.succ_pos 3) rfl (fun _ _ => rfl) (fun i c _ h => markClosed _ i c h)⟩) ?_
    simp [go_sem]
    refine ⟨by omega, fun _ => ?_⟩
    refine vcall_use h2 (by simp [go_sem]) ?_
    rintro av obs ⟨rfl, rfl⟩
    simp [go_sem]
    refine vcall_pure h3 (by simp [go_sem]; exact ⟨⟨argSl_own5 (sz := 1) rfl Nat.one_pos rfl (fun _ _ => rfl) (fun i c _ h => txClosed _ i c h), argSl_own5 (sz := 4) rfl (Nat.succ_pos 3) rfl (fun _ _ => rfl) (fun i c _ h => opClosed _ i c h)⟩, argSl_own5 (sz := 1) rfl Nat.one_pos rfl (fun _ _ => rfl) (fun i c _ h => txClosed _ i c h), argSl_own5 (sz := 4) rfl (Nat.succ_pos 3) rfl (fun _ _ => rfl) (fun i c _ h => opClosed _ i c h)⟩) ?_
    simp [go_sem]
    refine vcall_pure h5 (by simp [go_sem]; exact ⟨argSl_own5 (sz := 1) rfl Nat.one_pos (markTs_len _ _) (fun _ _ => rfl) (fun i c _ h => txClosed _ i c h), argSl_own5 (sz := 4) rfl (Nat.succ_pos 3) rfl (fun _ _ => rfl) (fun i c _ h => markClosed _ i c h)⟩) ?_
    simp [go_sem]
    omega
  · refine vfun_start Tryd.func3 (by kernel_rfl) rfl (by simp [Tryd.ntmps3]) ?_; simp only [Tryd.ntmps3, Tryd.results3]; simp [go_sem]
    exact fun h => absurd h (by omega)
end Go.Proofs.YtbhcicdjllcdjaaDoor.V
namespace Go.Proofs.YtbhcicdjllcdjaaDoor.V
open Go.RowKit
set_option linter.unusedVariables false
set_option linter.unusedSimpArgs false
set_option linter.constructorNameAsVariable false
@[go_sem] theorem tokOne (l : List PTok) (i : Nat) : (tokCells l i).all oneAV = true := rfl
end Go.Proofs.YtbhcicdjllcdjaaDoor.V
namespace Go.Proofs.YtbhcicdjllcdjaaDoor.V
open Go.RowKit
set_option linter.unusedVariables false
set_option linter.unusedSimpArgs false
set_option linter.constructorNameAsVariable false
def intAt (l : List Int) (i : Nat) : Int := l.getD i 0
def intCells (l : List Int) (i : Nat) : List AV := [.lit (.int .i64 (intAt l i))]
end Go.Proofs.YtbhcicdjllcdjaaDoor.V
namespace Go.Proofs.YtbhcicdjllcdjaaDoor.V
open Go.RowKit
set_option linter.unusedVariables false
set_option linter.unusedSimpArgs false
set_option linter.constructorNameAsVariable false
def boolCells (f : Nat → Bool) (i : Nat) : List AV := [.lit (.bool (f i))]
@[go_sem] theorem boolOne (f : Nat → Bool) (i : Nat) : (boolCells f i).all oneAV = true := rfl
@[go_sem] theorem intOne (a : List Int) (i : Nat) : (intCells a i).all oneAV = true := rfl
end Go.Proofs.YtbhcicdjllcdjaaDoor.V
namespace Go.Proofs.YtbhcicdjllcdjaaDoor.V
open Go.RowKit
set_option linter.unusedVariables false
set_option linter.unusedSimpArgs false
set_option linter.constructorNameAsVariable false
structure Rd where
  n : Nat
  f : Nat → Nat
  p : Nat
def Rd.v (r : Rd) : Nat := if r.p < r.n then r.f r.p else 0
def Rd.nx (r : Rd) : Rd := if r.p < r.n then { r with p := r.p + 1 } else r
end Go.Proofs.YtbhcicdjllcdjaaDoor.V
