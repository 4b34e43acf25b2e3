import Derived.Test.YtbhcicdjllcdjaaDoorCards
import Derived.Test.YtbhcicdjllcdjaaDoorTie
import Derived.Test.YtbhcicdjllcdjaaDoorMC
import Derived.Test.YtbhcicdjllcdjaaDoorMB
import Derived.LaidMore
import Derived.Lay
import Derived.SevenTiedAt
import Derived.Stop.Joined
import Derived.HandedShaped
import Derived.Lib.LaidTab
import Derived.LaidSub
/- The law FnExactReadUnit returns true for every argument (the card: the tables that its row lists are tied to the program's text). No conditions. -/
namespace Go.Proofs.YtbhcicdjllcdjaaDoor.V
open Go.ChangeShapes Go.WideShapes Go.ChangeAt Go.RowKit
set_option linter.unusedVariables false
set_option linter.unusedSimpArgs false
set_option linter.constructorNameAsVariable false
/-- the wrap, the world's shape and what the row lists kept -/
theorem returnsIn_both {H : Type} {enc : TypeId × Value → H} {a : Assume} {C : Checked} {os : Os} {f : FuncId} {fn : Func} {s : ChangeSpec} {conds : List PathCond} {apart fresh handsOn again : Bool} {X : World → Array Value → Prop}
    (hX : ∀ (w w' : World) (args : Array Value), w.heap = w'.heap → X w args → X w' args)
    (own : ownKnob C.prog.godebug = none) (started : os.Started) (noInit : C.prog.inits.idxOf? f = none) (hfn : C.prog.funcs[f]? = some fn)
    (witness : ∃ (w : World) (tape : Tape) (i : Input), w.os = os ∧ (w.forCall tape i).Shaped C.prog ∧ i.vars = [] ∧ Input.okWide C.prog (w.forCall tape i) .any w.heap.size f i ∧
      ((s.pre enc C.prog fn conds apart (w.forCall tape i).memory i.args ∧ X (w.forCall tape i).memory i.args) ∧ sizedMet enc C.prog fn (OpenSpec.ofChange s) apart (w.forCall tape i).memory i.args) ∧ a.holds C.prog (lone (Frame.enter C.prog f i.args .normal) [] (w.forCall tape i)))
    (contract : ∀ (W : World) (base : Nat) (args : Array Value) (ds gs : List (DataW H)) (before : List MemPlace),
      (∀ (j : Nat) t v, fn.params[j]? = some t → args[j]? = some v → Value.okWide C.prog W .any base t v) →
      DataW.Whole enc C.prog fn.params.toList s.vars apart W args.toList ds gs before →
      conds.all (PathCond.test C.prog ⟨fn.params.toList, ds, s.plain.varTypes C.prog, gs⟩) = true →
      X W args → W.ShapedOpen C.prog →
      Calls C.prog f args W fun e W' => ∃ v, e = .returned v ∧ s.post enc C.prog fn apart fresh handsOn again W args v W') :
    ReturnsInHanded a C os f .any (fun w args => (s.pre enc C.prog fn conds apart w args ∧ X w args) ∧ sizedMet enc C.prog fn (OpenSpec.ofChange s) apart w args) (s.post enc C.prog fn apart fresh handsOn again) := by
  refine returnsInHanded_of_calls own started noInit witness ?_
  intro w tape i _ hsh _ hok hpre hholds
  obtain ⟨_, _, _, fn', hfn', _, _, _, _, hval⟩ := hok
  have e : fn' = fn := Option.some.inj (hfn'.symm.trans hfn)
  subst e
  obtain ⟨⟨⟨ds, gs, before, hw, hc⟩, hx⟩, hz⟩ := hpre
  have hw' := DataW.Whole.of_heap (w' := w.forCall tape i) (by rfl) hw
  refine (contract (w.forCall tape i) w.heap.size i.args ds gs before hval hw' hc (hX _ _ _ (by rfl) hx) hsh).mono fun e W' ⟨v, he, hp⟩ => ?_
  subst he
  exact ChangeSpec.post_blind hp
/-- a variable of the name is a table of that kind -/
def tabAt (P : Program) (name : String) : Bool := match P.globalNamed name with
  | none => false
  | some g => match (P.globals[g]?).map (·.type) with
    | none => false
    | some t => match P.underlying t with
      | some (.array n e) => (match P.underlying e with
        | some (.int .u64) => true
        | _ => false) && P.cellsOf e == 1 && P.cellsOf t == n
      | _ => false
theorem tabAt_is {P : Program} {name : String} {W : World} {zs : List Int} (h : tabAt P name = true) (hl : laidMet P [(name, Lib.tabData .u64 zs)] W) : Lib.TabIs P W name .u64 zs := by
  unfold tabAt at h
  split at h
  · cases h
  · rename_i g hg
    split at h
    · cases h
    · rename_i t ht
      split at h
      · rename_i n e hu
        simp only [Bool.and_eq_true, beq_iff_eq] at h
        obtain ⟨⟨h1, h2⟩, h3⟩ := h
        split at h1
        · rename_i he
          exact Lib.tabIs_of_head hg ht hu he h2 h3 hl
        · cases h1
      · cases h
theorem gw_of {W : World} (hs : W.ShapedOpen Tryd.prog) (hx : laidMetH Tryd.prog Rows.fnExactReadUnitRow.laid W) : GW Tryd.prog W := by
  refine ⟨?_, W, hs, ?_, fun _ _ => rfl⟩
  · have hp : decide (0 < Tryd.prog.globals.size) = true := by kernel_rfl
    have hp := of_decide_eq_true hp
    obtain ⟨⟨zero, t⟩, hz⟩ := Option.isSome_iff_exists.1 (show (((begin Tryd.prog (fun _ _ => 0) default).world.heap[Tryd.prog.globals.size - 1]?).bind Obj.row?).isSome = true by kernel_rfl)
    obtain ⟨cs, hc, _⟩ := hs.1 (Tryd.prog.globals.size - 1) zero t (by omega) hz
    have := (Array.getElem?_eq_some_iff.1 hc).1
    omega
  · have h1 := hx.filter fun x => x.1 == "internal/strconv.uint64pow10"
    have h2 := (laidMetH_iff.1 h1).1
    exact tabAt_is (by kernel_rfl) h2
set_option maxRecDepth 100000 in
theorem fnExactReadUnit_lifted (os : Os) (started : os.Started) (H : Type) (enc : TypeId × Value → H) :
    ReturnsInHanded {} Tryd.checked os 3 .any (fun w args => (Rows.fnExactReadUnitSpec.pre enc Tryd.prog Tryd.f3 Rows.fnExactReadUnitRow.domain false w args ∧ laidMetH Tryd.prog Rows.fnExactReadUnitRow.laid w) ∧ sizedMet enc Tryd.prog Tryd.f3 (OpenSpec.ofChange Rows.fnExactReadUnitSpec) false w args)
      (Rows.fnExactReadUnitSpec.post enc Tryd.prog Tryd.f3 false true false false) := by
  refine returnsIn_both (C := Tryd.checked) (X := fun w _ => laidMetH Tryd.prog Rows.fnExactReadUnitRow.laid w) (fun _ _ _ hh h => h.of_heap hh) own started (by kernel_rfl) Tryd.func3
    (ChangeSpec.witness_shaped (enc := enc) (C := Tryd.checked) (os := os) (X := fun w _ => laidMetH Tryd.prog Rows.fnExactReadUnitRow.laid w) false (World.laidAll Tryd.prog os Rows.fnExactReadUnitRow.laid) #[.string ByteArray.empty] 8 (World.laidAll_os _ _ _)
      (World.shaped_of_ZipB (by kernel_rfl) (by kernel_rfl)) (by kernel_rfl) (by kernel_rfl) (by kernel_rfl)
      (by rw [MakeChecks.laidMetH_plain _ _ _ (by kernel_rfl)]; exact laidMet_laidAll _ (by kernel_rfl) (by kernel_rfl))) ?_
  intro W base args ds gs before hval hW hcnd hx hsh
  refine law_of 6 laidOut fullSlices rfl (fun t h => by simpa using each_of (p := fun t => decide (t < Tryd.prog.types.size) && Tryd.prog.readableRec t) (by kernel_rfl) t h) (fun ds h => ?_) (by kernel_rfl) Tryd.underlying4 (fun ass h => ?_) hval hW (gw_of hsh hx)
  · match ds, h with
    | [a], _ => rfl
  · rw [Tryd.params3] at h ⊢
    simp only [List.toList_toArray, all2_cons, all2_nil] at h
    obtain ⟨_, _, rfl, h1, rfl⟩ := h
    obtain ⟨z, rfl, hz⟩ := shape_string Tryd.underlying9 h1
    have := c_FnExactReadUnit z
    simpa [avOf, go_sem] using this
theorem fnExactReadUnit_over : Rows.fnExactReadUnitRow.holds Tryd.pinned (OpenSpec.ofChange Rows.fnExactReadUnitSpec) :=
  OpenClaim.holds_of_wide 3 Tryd.f3 rfl rfl rfl rfl rfl rfl rfl ⟨rfl, rfl, rfl, rfl, rfl⟩ rfl rfl rfl rfl rfl (by kernel_rfl) Tryd.func3 (by kernel_rfl)
    (of_decide_eq_true (by kernel_rfl)) (by unfold Func.isWrapper; first | (rw [if_pos (by decide +kernel)]; kernel_rfl) | (rw [if_neg (by decide +kernel)]; exact ⟨rfl, rfl⟩))
    (fun os started H enc _ => fnExactReadUnit_lifted os started H enc)
end Go.Proofs.YtbhcicdjllcdjaaDoor.V
namespace Go.Proofs.YtbhcicdjllcdjaaDoor
open Go
theorem fnExactReadUnit_holds : Rows.FnExactReadUnitCardSaid :=
  Claim7.holds_tied_plain_at .later [] [.data, .data, .data, .data, .sentinel, .sentinel, .pinned] true Rows.fnExactReadUnitCard.stood.harness true V.fnExactReadUnit_over (fun _ h => by cases h) (by kernel_rfl) (fun _ h => by cases h) fnExactReadUnit_row_tie rfl ⟨rfl, rfl⟩ (by kernel_rfl) rfl
    (fun f fn hf hfn => by
      obtain rfl : f = 3 := Option.some.inj ((show Tryd.prog.funcNamed "loop.example/s0059/laws.FnExactReadUnit" = some 3 by kernel_rfl).symm.trans hf) |>.symm
      obtain rfl : fn = Tryd.f3 := (Option.some.inj (Tryd.func3.symm.trans hfn)).symm
      exact ⟨by kernel_rfl, fun j t ht => by
        rw [Tryd.params3] at ht
        have hm : t ∈ [9] := by simpa using Array.mem_of_getElem? ht
        have hall : ([9].all fun u => !Tryd.prog.wantsStandIn u) = true := by kernel_rfl
        exact (show Tryd.prog.wantsStandIn t = false by simpa using List.all_eq_true.1 hall t hm)⟩)
    (by kernel_rfl)
#print axioms fnExactReadUnit_holds
end Go.Proofs.YtbhcicdjllcdjaaDoor
