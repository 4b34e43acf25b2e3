/-
  No cell of these rows narrows 'for every input' (looked for: loops, veiled, ifaces, maps, wideKeys, modest, calm, conditions, laid).
  DERIVED. THE GIVEN ROWS OF THIS SEAT. 7 by the template 'for every input the law returns true; each argument reads behind the call as it read before'; 0 by the template 'total and deterministic' (their statements: YtnjnkhmcdkjekaaTotals.lean).
  GIVEN WITH THE SEED: the statements are not yours to turn. If you find one false, say at which input.
  Laid BY PROGRAM, IN A SANDBOX (cutbox-rows.mjs): the forced cells as the released guide's own fill.sh prints them over the translation 230bc987e41b792c… (all of the seat's roots in one cut). By AI agents, Wed Nov 11 2026. No macro, syntax, notation, axiom, sorry.
-/
import Derived.Test.YtnjnkhmcdkjekaaChecked
import GoSem.Claim
import GoSem.ClaimJoined
import GoSem.ClaimMapViews
import Derived.JoinedTies
import Derived.KernelRfl
namespace Go.Proofs.Ytnjnkhmcdkjekaa
/- THE CELL 'sum', in the pinned program and in every row, IS THE sha256 OF THE DUMP (.gsa) THAT YtnjnkhmcdkjekaaProg.lean LOADS. Nothing in Lean hashes anything: it is a label: what it is worth is what the hold of that sum in a sandbox is worth. -/
noncomputable def Try.pinned : Pinned := { name := "ytnjnkhmcdkjekaa", sum := "230bc987e41b792ce1ea9fd5975690220e86d6e2d0d306809c08fd47bfab09a6", checked := Try.checked }
namespace Rows
def none {H : Type} : Left H := { results := [], args := [] }

/-- 'laws.FnExactRender': WHATEVER THE INPUT: true; the input reads as it did. -/
def fnExactRenderSpec : ChangeSpec := { name := "fnExactRender", fn := fun _ => fun
  | [d] => { results := [.lit (.bool true)], args := [d] }
  | _ => none }
def fnExactRenderRow : OpenClaim := { program := "ytnjnkhmcdkjekaa", sum := "230bc987e41b792ce1ea9fd5975690220e86d6e2d0d306809c08fd47bfab09a6", func := "loop.example/s0059/laws.FnExactRender", spec := "fnExactRender", inPlace := ["internal/abi.NoEscape"], plainKeys := false, apart := false }
def FnExactRenderSaid : Prop := fnExactRenderRow.holds Try.pinned (OpenSpec.ofChange fnExactRenderSpec)

/-- ITS FALSE NEIGHBOUR: 'it returns false'. Refute it at one input. -/
def fnExactRenderWrong : ChangeSpec := { name := "fnExactRender", fn := fun _ => fun
  | [d] => { results := [.lit (.bool false)], args := [d] }
  | _ => none }
def FnExactRenderWrongFalsely : Prop := fnExactRenderRow.holds Try.pinned (OpenSpec.ofChange fnExactRenderWrong)

/-- 'laws.FnExactUnion': WHATEVER THE INPUT: true; the input reads as it did. -/
def fnExactUnionSpec : ChangeSpec := { name := "fnExactUnion", fn := fun _ => fun
  | [d1, d2] => { results := [.lit (.bool true)], args := [d1, d2] }
  | _ => none }
def fnExactUnionRow : OpenClaim := { program := "ytnjnkhmcdkjekaa", sum := "230bc987e41b792ce1ea9fd5975690220e86d6e2d0d306809c08fd47bfab09a6", func := "loop.example/s0059/laws.FnExactUnion", spec := "fnExactUnion", plainKeys := false, apart := false }
def FnExactUnionSaid : Prop := fnExactUnionRow.holds Try.pinned (OpenSpec.ofChange fnExactUnionSpec)

/-- ITS FALSE NEIGHBOUR: 'it returns false'. Refute it at one input. -/
def fnExactUnionWrong : ChangeSpec := { name := "fnExactUnion", fn := fun _ => fun
  | [d1, d2] => { results := [.lit (.bool false)], args := [d1, d2] }
  | _ => none }
def FnExactUnionWrongFalsely : Prop := fnExactUnionRow.holds Try.pinned (OpenSpec.ofChange fnExactUnionWrong)

/-- 'laws.FnExactTableOk': WHATEVER THE INPUT: true; the input reads as it did. -/
def fnExactTableOkSpec : ChangeSpec := { name := "fnExactTableOk", fn := fun _ => fun
  | [d] => { results := [.lit (.bool true)], args := [d] }
  | _ => none }
def fnExactTableOkRow : OpenClaim := { program := "ytnjnkhmcdkjekaa", sum := "230bc987e41b792ce1ea9fd5975690220e86d6e2d0d306809c08fd47bfab09a6", func := "loop.example/s0059/laws.FnExactTableOk", spec := "fnExactTableOk", inPlace := ["internal/bytealg.IndexByteString"], plainKeys := false, apart := false }
def FnExactTableOkSaid : Prop := fnExactTableOkRow.holds Try.pinned (OpenSpec.ofChange fnExactTableOkSpec)

/-- ITS FALSE NEIGHBOUR: 'it returns false'. Refute it at one input. -/
def fnExactTableOkWrong : ChangeSpec := { name := "fnExactTableOk", fn := fun _ => fun
  | [d] => { results := [.lit (.bool false)], args := [d] }
  | _ => none }
def FnExactTableOkWrongFalsely : Prop := fnExactTableOkRow.holds Try.pinned (OpenSpec.ofChange fnExactTableOkWrong)

/-- 'laws.FnExactLex': WHATEVER THE INPUT: true; the input reads as it did. -/
def fnExactLexSpec : ChangeSpec := { name := "fnExactLex", fn := fun _ => fun
  | [d1, d2] => { results := [.lit (.bool true)], args := [d1, d2] }
  | _ => none }
def fnExactLexRow : OpenClaim := { program := "ytnjnkhmcdkjekaa", sum := "230bc987e41b792ce1ea9fd5975690220e86d6e2d0d306809c08fd47bfab09a6", func := "loop.example/s0059/laws.FnExactLex", spec := "fnExactLex", inPlace := ["internal/bytealg.IndexByteString"], plainKeys := false, apart := false }
def FnExactLexSaid : Prop := fnExactLexRow.holds Try.pinned (OpenSpec.ofChange fnExactLexSpec)

/-- ITS FALSE NEIGHBOUR: 'it returns false'. Refute it at one input. -/
def fnExactLexWrong : ChangeSpec := { name := "fnExactLex", fn := fun _ => fun
  | [d1, d2] => { results := [.lit (.bool false)], args := [d1, d2] }
  | _ => none }
def FnExactLexWrongFalsely : Prop := fnExactLexRow.holds Try.pinned (OpenSpec.ofChange fnExactLexWrong)

/-- 'laws.FnExactRoles': WHATEVER THE INPUT: true; the input reads as it did. -/
def fnExactRolesSpec : ChangeSpec := { name := "fnExactRoles", fn := fun _ => fun
  | [d1, d2] => { results := [.lit (.bool true)], args := [d1, d2] }
  | _ => none }
def fnExactRolesRow : OpenClaim := { program := "ytnjnkhmcdkjekaa", sum := "230bc987e41b792ce1ea9fd5975690220e86d6e2d0d306809c08fd47bfab09a6", func := "loop.example/s0059/laws.FnExactRoles", spec := "fnExactRoles", inPlace := ["internal/bytealg.IndexByteString"], plainKeys := false, apart := false }
def FnExactRolesSaid : Prop := fnExactRolesRow.holds Try.pinned (OpenSpec.ofChange fnExactRolesSpec)

/-- ITS FALSE NEIGHBOUR: 'it returns false'. Refute it at one input. -/
def fnExactRolesWrong : ChangeSpec := { name := "fnExactRoles", fn := fun _ => fun
  | [d1, d2] => { results := [.lit (.bool false)], args := [d1, d2] }
  | _ => none }
def FnExactRolesWrongFalsely : Prop := fnExactRolesRow.holds Try.pinned (OpenSpec.ofChange fnExactRolesWrong)

/-- 'laws.FnLexed': WHATEVER THE INPUT: true; the input reads as it did. -/
def fnLexedSpec : ChangeSpec := { name := "fnLexed", fn := fun _ => fun
  | [d] => { results := [.lit (.bool true)], args := [d] }
  | _ => none }
def fnLexedRow : OpenClaim := { program := "ytnjnkhmcdkjekaa", sum := "230bc987e41b792ce1ea9fd5975690220e86d6e2d0d306809c08fd47bfab09a6", func := "loop.example/s0059/laws.FnLexed", spec := "fnLexed", inPlace := ["internal/bytealg.IndexByteString", "internal/abi.NoEscape"], plainKeys := false, apart := false }
def FnLexedSaid : Prop := fnLexedRow.holds Try.pinned (OpenSpec.ofChange fnLexedSpec)

/-- ITS FALSE NEIGHBOUR: 'it returns false'. Refute it at one input. -/
def fnLexedWrong : ChangeSpec := { name := "fnLexed", fn := fun _ => fun
  | [d] => { results := [.lit (.bool false)], args := [d] }
  | _ => none }
def FnLexedWrongFalsely : Prop := fnLexedRow.holds Try.pinned (OpenSpec.ofChange fnLexedWrong)

/-- 'laws.FnExactParse': WHATEVER THE INPUT: true; the input reads as it did. -/
def fnExactParseSpec : ChangeSpec := { name := "fnExactParse", fn := fun _ => fun
  | [d1, d2] => { results := [.lit (.bool true)], args := [d1, d2] }
  | _ => none }
def fnExactParseRow : OpenClaim := { program := "ytnjnkhmcdkjekaa", sum := "230bc987e41b792ce1ea9fd5975690220e86d6e2d0d306809c08fd47bfab09a6", func := "loop.example/s0059/laws.FnExactParse", spec := "fnExactParse", inPlace := ["internal/bytealg.IndexByteString"], unfollowed := true, recurses := true, plainKeys := false, apart := false }
def FnExactParseSaid : Prop := fnExactParseRow.holds Try.pinned (OpenSpec.ofChange fnExactParseSpec)

/-- ITS FALSE NEIGHBOUR: 'it returns false'. Refute it at one input. -/
def fnExactParseWrong : ChangeSpec := { name := "fnExactParse", fn := fun _ => fun
  | [d1, d2] => { results := [.lit (.bool false)], args := [d1, d2] }
  | _ => none }
def FnExactParseWrongFalsely : Prop := fnExactParseRow.holds Try.pinned (OpenSpec.ofChange fnExactParseWrong)

/- THE SECOND FORM. 'bulk': how many values and letters a reading holds, each counted each time it is reached (what is shared counts as often as it is met; a slice's spare places count too). A statement '..UptoSaid' is the law's where the arguments, and the package variables that the reading takes, are together of bulk at most 1048576: NARROWER than '..Said'. Prove '..Said' where nothing that the law and all that it calls make is longer than what came in: it says more and counts as full. Else prove '..UptoSaid'. A law counts once. -/
mutual
def uptoBulk {H : Type} : DataW H → Nat
  | .lit (.string bytes) => bytes.length + 1
  | .lit _ => 1
  | .nil => 1
  | .ptr d => uptoBulk d + 1
  | .slice elems spare => uptoBulkAll elems + uptoBulkAll spare + 1
  | .agg parts => uptoBulkAll parts + 1
  | .iface _ d => uptoBulk d + 1
  | .map entries => uptoBulkEntries entries + 1
  | .held _ => 1
def uptoBulkAll {H : Type} : List (DataW H) → Nat
  | [] => 0
  | d :: r => uptoBulk d + uptoBulkAll r
def uptoBulkEntries {H : Type} : List (Lit × DataW H) → Nat
  | [] => 0
  | x :: r => uptoBulkEntry x + uptoBulkEntries r
def uptoBulkEntry {H : Type} : Lit × DataW H → Nat
  | (.string bytes, d) => bytes.length + uptoBulk d + 1
  | (_, d) => uptoBulk d + 1
 end
def uptoSmall : (H : Type) → List (DataW H) → Bool := fun _ ds => decide (uptoBulkAll ds ≤ 1048576)
def OpenSpec.upto (s : _root_.Go.ChangeSpec) : _root_.Go.OpenSpec := { _root_.Go.OpenSpec.ofChange s with cond := some uptoSmall }

/-- 'laws.FnExactRender', WHERE WHAT IT READS IS OF BULK AT MOST 1048576: true; the input reads as it did. -/
def fnExactRenderUptoRow : OpenClaim := { program := "ytnjnkhmcdkjekaa", sum := "230bc987e41b792ce1ea9fd5975690220e86d6e2d0d306809c08fd47bfab09a6", func := "loop.example/s0059/laws.FnExactRender", spec := "fnExactRender", inPlace := ["internal/abi.NoEscape"], plainKeys := false, apart := false, narrowed := true }
def FnExactRenderUptoSaid : Prop := fnExactRenderUptoRow.holds Try.pinned (OpenSpec.upto fnExactRenderSpec)

/-- 'laws.FnExactUnion', WHERE WHAT IT READS IS OF BULK AT MOST 1048576: true; the input reads as it did. -/
def fnExactUnionUptoRow : OpenClaim := { program := "ytnjnkhmcdkjekaa", sum := "230bc987e41b792ce1ea9fd5975690220e86d6e2d0d306809c08fd47bfab09a6", func := "loop.example/s0059/laws.FnExactUnion", spec := "fnExactUnion", plainKeys := false, apart := false, narrowed := true }
def FnExactUnionUptoSaid : Prop := fnExactUnionUptoRow.holds Try.pinned (OpenSpec.upto fnExactUnionSpec)

/-- 'laws.FnExactTableOk', WHERE WHAT IT READS IS OF BULK AT MOST 1048576: true; the input reads as it did. -/
def fnExactTableOkUptoRow : OpenClaim := { program := "ytnjnkhmcdkjekaa", sum := "230bc987e41b792ce1ea9fd5975690220e86d6e2d0d306809c08fd47bfab09a6", func := "loop.example/s0059/laws.FnExactTableOk", spec := "fnExactTableOk", inPlace := ["internal/bytealg.IndexByteString"], plainKeys := false, apart := false, narrowed := true }
def FnExactTableOkUptoSaid : Prop := fnExactTableOkUptoRow.holds Try.pinned (OpenSpec.upto fnExactTableOkSpec)

/-- 'laws.FnExactLex', WHERE WHAT IT READS IS OF BULK AT MOST 1048576: true; the input reads as it did. -/
def fnExactLexUptoRow : OpenClaim := { program := "ytnjnkhmcdkjekaa", sum := "230bc987e41b792ce1ea9fd5975690220e86d6e2d0d306809c08fd47bfab09a6", func := "loop.example/s0059/laws.FnExactLex", spec := "fnExactLex", inPlace := ["internal/bytealg.IndexByteString"], plainKeys := false, apart := false, narrowed := true }
def FnExactLexUptoSaid : Prop := fnExactLexUptoRow.holds Try.pinned (OpenSpec.upto fnExactLexSpec)

/-- 'laws.FnExactRoles', WHERE WHAT IT READS IS OF BULK AT MOST 1048576: true; the input reads as it did. -/
def fnExactRolesUptoRow : OpenClaim := { program := "ytnjnkhmcdkjekaa", sum := "230bc987e41b792ce1ea9fd5975690220e86d6e2d0d306809c08fd47bfab09a6", func := "loop.example/s0059/laws.FnExactRoles", spec := "fnExactRoles", inPlace := ["internal/bytealg.IndexByteString"], plainKeys := false, apart := false, narrowed := true }
def FnExactRolesUptoSaid : Prop := fnExactRolesUptoRow.holds Try.pinned (OpenSpec.upto fnExactRolesSpec)

/-- 'laws.FnLexed', WHERE WHAT IT READS IS OF BULK AT MOST 1048576: true; the input reads as it did. -/
def fnLexedUptoRow : OpenClaim := { program := "ytnjnkhmcdkjekaa", sum := "230bc987e41b792ce1ea9fd5975690220e86d6e2d0d306809c08fd47bfab09a6", func := "loop.example/s0059/laws.FnLexed", spec := "fnLexed", inPlace := ["internal/bytealg.IndexByteString", "internal/abi.NoEscape"], plainKeys := false, apart := false, narrowed := true }
def FnLexedUptoSaid : Prop := fnLexedUptoRow.holds Try.pinned (OpenSpec.upto fnLexedSpec)

/-- 'laws.FnExactParse', WHERE WHAT IT READS IS OF BULK AT MOST 1048576: true; the input reads as it did. -/
def fnExactParseUptoRow : OpenClaim := { program := "ytnjnkhmcdkjekaa", sum := "230bc987e41b792ce1ea9fd5975690220e86d6e2d0d306809c08fd47bfab09a6", func := "loop.example/s0059/laws.FnExactParse", spec := "fnExactParse", inPlace := ["internal/bytealg.IndexByteString"], unfollowed := true, recurses := true, plainKeys := false, apart := false, narrowed := true }
def FnExactParseUptoSaid : Prop := fnExactParseUptoRow.holds Try.pinned (OpenSpec.upto fnExactParseSpec)

end Rows
end Go.Proofs.Ytnjnkhmcdkjekaa
