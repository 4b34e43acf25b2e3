import Derived.Test.YtadghlfkddkelaaGreatDoorLB
import Derived.Test.YtadghlfkddkelaaGreatDoorProg
import Derived.KernelRfl
set_option linter.unusedVariables false
set_option linter.unusedSimpArgs false
set_option linter.constructorNameAsVariable false
namespace Go.Proofs.YtadghlfkddkelaaGreatDoor.V
theorem ts3 : tsz Tryz.prog 3 = some 1 := by kernel_rfl
theorem ta3 : tagg Tryz.prog 3 = some false := by kernel_rfl
theorem ti4 : tinfo Tryz.prog 4 = some ((.bool false), 1, 1) := by kernel_rfl
theorem ts4 : tsz Tryz.prog 4 = some 1 := by kernel_rfl
theorem ta4 : tagg Tryz.prog 4 = some false := by kernel_rfl
theorem ti5 : tinfo Tryz.prog 5 = some ((.int .u8 0), 1, 1) := by kernel_rfl
theorem ti9 : tinfo Tryz.prog 9 = some ((.string ⟨#[]⟩), 1, 16) := by kernel_rfl
theorem ts9 : tsz Tryz.prog 9 = some 1 := by kernel_rfl
theorem ta9 : tagg Tryz.prog 9 = some false := by kernel_rfl
theorem im9 : isMapT Tryz.prog 9 = false := by kernel_rfl
theorem im22 : isMapT Tryz.prog 22 = false := by kernel_rfl
theorem im24 : isMapT Tryz.prog 24 = false := by kernel_rfl
theorem ts27 : tsz Tryz.prog 27 = some 1 := by kernel_rfl
theorem im27 : isMapT Tryz.prog 27 = false := by kernel_rfl
theorem ts41 : tsz Tryz.prog 41 = some 1 := by kernel_rfl
theorem ta41 : tagg Tryz.prog 41 = some false := by kernel_rfl
theorem im41 : isMapT Tryz.prog 41 = false := by kernel_rfl
theorem ti42 : tinfo Tryz.prog 42 = some ((.slice none 0 0), 1, 24) := by kernel_rfl
theorem ts42 : tsz Tryz.prog 42 = some 1 := by kernel_rfl
theorem ta42 : tagg Tryz.prog 42 = some false := by kernel_rfl
theorem im42 : isMapT Tryz.prog 42 = false := by kernel_rfl
theorem ti44 : tinfo Tryz.prog 44 = some ((.agg #[(.slice none 0 0), (.slice none 0 0), (.string ⟨#[]⟩)]), 3, 64) := by kernel_rfl
theorem ts44 : tsz Tryz.prog 44 = some 3 := by kernel_rfl
theorem ta44 : tagg Tryz.prog 44 = some true := by kernel_rfl
theorem ti52 : tinfo Tryz.prog 52 = some ((.agg #[(.string ⟨#[]⟩), (.string ⟨#[]⟩)]), 2, 32) := by kernel_rfl
theorem ts52 : tsz Tryz.prog 52 = some 2 := by kernel_rfl
theorem ta52 : tagg Tryz.prog 52 = some true := by kernel_rfl
theorem ti55 : tinfo Tryz.prog 55 = some ((.agg #[(.slice none 0 0)]), 1, 24) := by kernel_rfl
theorem ts55 : tsz Tryz.prog 55 = some 1 := by kernel_rfl
theorem ta55 : tagg Tryz.prog 55 = some true := by kernel_rfl
theorem ts58 : tsz Tryz.prog 58 = some 2 := by kernel_rfl
theorem ta58 : tagg Tryz.prog 58 = some true := by kernel_rfl
theorem ti65 : tinfo Tryz.prog 65 = some ((.slice none 0 0), 1, 24) := by kernel_rfl
theorem ts65 : tsz Tryz.prog 65 = some 1 := by kernel_rfl
theorem ta65 : tagg Tryz.prog 65 = some false := by kernel_rfl
theorem ti73 : tinfo Tryz.prog 73 = some ((.agg #[(.string ⟨#[]⟩), (.int .i64 0), (.int .i64 0), (.int .i64 0)]), 4, 40) := by kernel_rfl
theorem ts73 : tsz Tryz.prog 73 = some 4 := by kernel_rfl
theorem ta73 : tagg Tryz.prog 73 = some true := by kernel_rfl
theorem im91 : isMapT Tryz.prog 91 = false := by kernel_rfl
theorem ti95 : tinfo Tryz.prog 95 = some ((.agg #[(.slice none 0 0), (.int .i64 0), (.int .i64 0)]), 3, 40) := by kernel_rfl
theorem ts95 : tsz Tryz.prog 95 = some 3 := by kernel_rfl
theorem ti98 : tinfo Tryz.prog 98 = some ((.pointer none), 1, 8) := by kernel_rfl
theorem ts98 : tsz Tryz.prog 98 = some 1 := by kernel_rfl
theorem ta98 : tagg Tryz.prog 98 = some false := by kernel_rfl
theorem ts101 : tsz Tryz.prog 101 = some 1 := by kernel_rfl
theorem ta101 : tagg Tryz.prog 101 = some false := by kernel_rfl
theorem ti103 : tinfo Tryz.prog 103 = some ((.agg #[(.slice none 0 0), (.slice none 0 0), (.string ⟨#[]⟩), (.slice none 0 0), (.map none), (.int .i64 0)]), 6, 104) := by kernel_rfl
theorem ts103 : tsz Tryz.prog 103 = some 6 := by kernel_rfl
theorem ti109 : tinfo Tryz.prog 109 = some ((.agg #[(.string ⟨#[]⟩), (.bool false)]), 2, 24) := by kernel_rfl
theorem ts109 : tsz Tryz.prog 109 = some 2 := by kernel_rfl
theorem ta109 : tagg Tryz.prog 109 = some true := by kernel_rfl
theorem ts116 : tsz Tryz.prog 116 = some 1 := by kernel_rfl
theorem ta116 : tagg Tryz.prog 116 = some false := by kernel_rfl
theorem ts117 : tsz Tryz.prog 117 = some 1 := by kernel_rfl
theorem ta117 : tagg Tryz.prog 117 = some false := by kernel_rfl
theorem ts118 : tsz Tryz.prog 118 = some 1 := by kernel_rfl
theorem ta118 : tagg Tryz.prog 118 = some false := by kernel_rfl
theorem im118 : isMapT Tryz.prog 118 = false := by kernel_rfl
theorem ti120 : tinfo Tryz.prog 120 = some ((.agg #[(.slice none 0 0), (.slice none 0 0), (.map none), (.map none)]), 4, 64) := by kernel_rfl
theorem ts120 : tsz Tryz.prog 120 = some 4 := by kernel_rfl
theorem im145 : isMapT Tryz.prog 145 = true := by kernel_rfl
theorem im146 : isMapT Tryz.prog 146 = true := by kernel_rfl
theorem im147 : isMapT Tryz.prog 147 = false := by kernel_rfl
attribute [go_sem] ts3 ta3 ti4 ts4 ta4 ti5 ti9 ts9 ta9 im9 im22 im24 ts27 im27 ts41 ta41 im41 ti42 ts42 ta42 im42 ti44 ts44 ta44 ti52 ts52 ta52 ti55 ts55 ta55 ts58 ta58 ti65 ts65 ta65 ti73 ts73 ta73 im91 ti95 ts95 ti98 ts98 ta98 ts101 ta101 ti103 ts103 ti109 ts109 ta109 ts116 ta116 ts117 ta117 ts118 ta118 im118 ti120 ts120 im145 im146 im147
end Go.Proofs.YtadghlfkddkelaaGreatDoor.V
