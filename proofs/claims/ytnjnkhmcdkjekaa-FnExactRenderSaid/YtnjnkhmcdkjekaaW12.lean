/- Contracts: what a valid table is, by the program. -/
import Derived.Test.YtnjnkhmcdkjekaaW11
import Derived.DeepKeys5
namespace Go.Proofs.Ytnjnkhmcdkjekaa.V
open Go.RowKit
open Go.Maps (Keyed)
set_option linter.unusedVariables false
set_option linter.unusedSimpArgs false
set_option linter.constructorNameAsVariable false
open Classical in
theorem mget_mput : ∀ (es : List (Value × Value)) (x u y : Value), mget (mput es x u) y = if x = y then some u else mget es y
  | [], x, u, y => by
    simp only [mput, mget]
  | (k, v) :: r, x, u, y => by
    simp only [mput]
    by_cases h : k = x
    · subst h
      rw [if_pos rfl]
      simp only [mget]
      split <;> rfl
    · rw [if_neg h]
      simp only [mget]
      by_cases h2 : k = y
      · subst h2
        rw [if_pos rfl, if_neg (fun e : x = k => h e.symm)]
        simp [mget]
      · rw [if_neg h2, if_neg h2]
        exact mget_mput r x u y
theorem keyOf_struct {P : Program} {k : TypeId} {fs : Array Field} {cs : Array Value} (hu : P.underlying k = some (.struct fs)) (hkt : P.keyType k = true) (hc : cs.size = P.cellsOf k) (hn : fs.all (·.name != "_") = true) (hsz : 1 ≤ P.types.size)
    (hm : ∀ d, ∃ lss, (fs.toList.mapM fun f => P.keyLits (d + 1) f.type ((cs.toList.drop f.offset).take (P.cellsOf f.type))) = some lss) : ∃ l, keyOf P k (.agg cs) = some l := by
  obtain ⟨n, hn1⟩ : ∃ n, P.types.size = n + 1 := ⟨P.types.size - 1, by omega⟩
  obtain ⟨lss, hl⟩ := hm n
  have h1 : P.keyLits (P.types.size + 1) k cs.toList = some lss.flatten := by
    rw [hn1]
    unfold Program.keyLits
    simp only [hu, Array.length_toList, hc, hn, and_self, if_true, hl, Option.map_some]
  refine ⟨.string (keyBytes lss.flatten), ?_⟩
  unfold keyOf
  rw [hu]
  simp only [hkt, Value.formed, hu, hc, beq_self_eq_true, Bool.and_self, if_true, Value.cells, h1, Option.map_some]
theorem keyLits_str {P : Program} {t : TypeId} (hu : P.underlying t = some .string) {z : ByteArray} (h : z.size ≤ maxLen) (d : Nat) : P.keyLits (d + 1) t [.string z] = some [.string z.data.toList] := by
  unfold Program.keyLits; simp only [hu, if_pos h]
theorem keyLits_bool {P : Program} {t : TypeId} (hu : P.underlying t = some .bool) {b : Bool} (d : Nat) : P.keyLits (d + 1) t [.bool b] = some [.bool b] := by
  unfold Program.keyLits; simp only [hu]
theorem int_wf {n : Int} (h : -9223372036854775808 ≤ n ∧ n ≤ 9223372036854775807) : (Lit.int .i64 n).wf = true := by
  simp only [Lit.wf, IntKind.min, IntKind.max, IntKind.bits, IntKind.signed, decide_eq_true_eq, Bool.and_eq_true]
  exact h
theorem keyLits_int {P : Program} {t : TypeId} (hu : P.underlying t = some (.int .i64)) {n : Int} (h : -9223372036854775808 ≤ n ∧ n ≤ 9223372036854775807) (d : Nat) : P.keyLits (d + 1) t [.int .i64 n] = some [.int .i64 n] := by
  unfold Program.keyLits; simp only [hu, int_wf h, and_self, if_true]
theorem size1 : 1 ≤ Try.prog.types.size := of_decide_eq_true (by kernel_rfl)
theorem rowPlace : (93 : TypeId) < Try.prog.types.size := of_decide_eq_true (by kernel_rfl)
theorem co_place : Try.prog.cellsOf 93 = 2 := by kernel_rfl
theorem co_string : Try.prog.cellsOf 9 = 1 := by kernel_rfl
theorem co_bool : Try.prog.cellsOf 4 = 1 := by kernel_rfl
theorem co_int : Try.prog.cellsOf 3 = 1 := by kernel_rfl
theorem keyedPlace : Keyed Try.prog 93 := Keyed.of_law (deep_law_laid laidOut (m := 2) (by omega) rowPlace (by kernel_rfl) (by kernel_rfl))
theorem keyedInt : Keyed Try.prog 3 := Go.Maps.int_keyed Try.underlying3
theorem keyedString : Keyed Try.prog 9 := Go.Maps.string_keyed Try.underlying9
theorem keyInt {n : Int} (h : -9223372036854775808 ≤ n ∧ n ≤ 9223372036854775807) : ∃ l, keyOf Try.prog 3 (.int .i64 n) = some l :=
  ⟨_, Go.Maps.keyOf_int_mk Try.underlying3 (int_wf h)⟩
theorem keyString {z : ByteArray} (h : z.size ≤ maxLen) : ∃ l, keyOf Try.prog 9 (.string z) = some l := ⟨_, Go.WideMaps.keyOf_string_mk Try.underlying9 h⟩
theorem keyPlace {z : ByteArray} {b : Bool} (h : z.size ≤ maxLen) : ∃ l, keyOf Try.prog 93 (.agg #[.string z, .bool b]) = some l := by
  refine keyOf_struct Try.underlying93 (by kernel_rfl) co_place.symm (by kernel_rfl) size1 fun d => ?_
  simp only [List.mapM_cons, List.mapM_nil, co_string, co_bool, List.drop_zero, List.take_succ_cons, List.take_zero, List.drop_succ_cons, keyLits_str Try.underlying9 h, keyLits_bool Try.underlying4]
  exact ⟨_, rfl⟩
theorem zeroInt : zeroIs Try.prog 3 (.int .i64 0) := fun w => Try.zeroValue3 w
end Go.Proofs.Ytnjnkhmcdkjekaa.V
