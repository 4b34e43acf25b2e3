import Derived.Test.YtjdmmhcogmepaaaGreatDoorMB
import Derived.Test.YtjdmmhcogmepaaaGreatDoorProg
import Derived.KernelRfl
set_option linter.unusedVariables false
set_option linter.unusedSimpArgs false
set_option linter.constructorNameAsVariable false
namespace Go.Proofs.YtjdmmhcogmepaaaGreatDoor.V
theorem ti3 : tinfo Tryz.prog 3 = some ((.int .i64 0), 1, 8) := by kernel_rfl
theorem ts3 : tsz Tryz.prog 3 = some 1 := by kernel_rfl
theorem ta3 : tagg Tryz.prog 3 = some false := by kernel_rfl
theorem ti4 : tinfo Tryz.prog 4 = some ((.bool false), 1, 1) := by kernel_rfl
theorem ts4 : tsz Tryz.prog 4 = some 1 := by kernel_rfl
theorem ta4 : tagg Tryz.prog 4 = some false := by kernel_rfl
theorem ti5 : tinfo Tryz.prog 5 = some ((.int .u8 0), 1, 1) := by kernel_rfl
theorem ts5 : tsz Tryz.prog 5 = some 1 := by kernel_rfl
theorem ta5 : tagg Tryz.prog 5 = some false := by kernel_rfl
theorem ti9 : tinfo Tryz.prog 9 = some ((.string ⟨#[]⟩), 1, 16) := by kernel_rfl
theorem ts9 : tsz Tryz.prog 9 = some 1 := by kernel_rfl
theorem ta9 : tagg Tryz.prog 9 = some false := by kernel_rfl
theorem im9 : isMapT Tryz.prog 9 = false := by kernel_rfl
theorem ts28 : tsz Tryz.prog 28 = some 1 := by kernel_rfl
theorem ta28 : tagg Tryz.prog 28 = some false := by kernel_rfl
theorem im28 : isMapT Tryz.prog 28 = false := by kernel_rfl
theorem ti30 : tinfo Tryz.prog 30 = some ((.agg #[(.slice none 0 0)]), 1, 24) := by kernel_rfl
theorem ts30 : tsz Tryz.prog 30 = some 1 := by kernel_rfl
theorem ta30 : tagg Tryz.prog 30 = some true := by kernel_rfl
theorem ts34 : tsz Tryz.prog 34 = some 1 := by kernel_rfl
theorem ta34 : tagg Tryz.prog 34 = some false := by kernel_rfl
theorem im34 : isMapT Tryz.prog 34 = false := by kernel_rfl
theorem ts35 : tsz Tryz.prog 35 = some 1 := by kernel_rfl
theorem ta35 : tagg Tryz.prog 35 = some false := by kernel_rfl
theorem im35 : isMapT Tryz.prog 35 = false := by kernel_rfl
theorem ti37 : tinfo Tryz.prog 37 = some ((.agg #[(.slice none 0 0)]), 1, 24) := by kernel_rfl
theorem ts37 : tsz Tryz.prog 37 = some 1 := by kernel_rfl
theorem ta37 : tagg Tryz.prog 37 = some true := by kernel_rfl
theorem ts67 : tsz Tryz.prog 67 = some 1 := by kernel_rfl
theorem ta67 : tagg Tryz.prog 67 = some false := by kernel_rfl
theorem ts68 : tsz Tryz.prog 68 = some 1 := by kernel_rfl
theorem ta68 : tagg Tryz.prog 68 = some false := by kernel_rfl
theorem ti70 : tinfo Tryz.prog 70 = some ((.agg #[(.map none), (.map none)]), 2, 16) := by kernel_rfl
theorem ts70 : tsz Tryz.prog 70 = some 2 := by kernel_rfl
theorem ta70 : tagg Tryz.prog 70 = some true := by kernel_rfl
theorem im73 : isMapT Tryz.prog 73 = false := by kernel_rfl
theorem ti77 : tinfo Tryz.prog 77 = some ((.agg #[(.int .i64 0), (.string ⟨#[]⟩), (.int .i64 0), (.int .i64 0)]), 4, 40) := by kernel_rfl
theorem ts77 : tsz Tryz.prog 77 = some 4 := by kernel_rfl
theorem ta77 : tagg Tryz.prog 77 = some true := by kernel_rfl
theorem im80 : isMapT Tryz.prog 80 = false := by kernel_rfl
theorem ti83 : tinfo Tryz.prog 83 = some ((.agg #[(.string ⟨#[]⟩), (.bool false), (.bool false)]), 3, 24) := by kernel_rfl
theorem ts83 : tsz Tryz.prog 83 = some 3 := by kernel_rfl
theorem ta83 : tagg Tryz.prog 83 = some true := by kernel_rfl
theorem ts84 : tsz Tryz.prog 84 = some 1 := by kernel_rfl
theorem ta84 : tagg Tryz.prog 84 = some false := by kernel_rfl
theorem im84 : isMapT Tryz.prog 84 = false := by kernel_rfl
theorem ti88 : tinfo Tryz.prog 88 = some ((.agg #[(.int .i64 0), (.string ⟨#[]⟩), (.string ⟨#[]⟩)]), 3, 40) := by kernel_rfl
theorem ts88 : tsz Tryz.prog 88 = some 3 := by kernel_rfl
theorem ta88 : tagg Tryz.prog 88 = some true := by kernel_rfl
theorem ti92 : tinfo Tryz.prog 92 = some (.nilIface, 1, 16) := by kernel_rfl
theorem ts92 : tsz Tryz.prog 92 = some 1 := by kernel_rfl
theorem ta92 : tagg Tryz.prog 92 = some false := by kernel_rfl
theorem ti94 : tinfo Tryz.prog 94 = some ((.pointer none), 1, 8) := by kernel_rfl
theorem ts94 : tsz Tryz.prog 94 = some 1 := by kernel_rfl
theorem ta94 : tagg Tryz.prog 94 = some false := by kernel_rfl
theorem im128 : isMapT Tryz.prog 128 = false := by kernel_rfl
theorem ti133 : tinfo Tryz.prog 133 = some ((.agg #[(.string ⟨#[]⟩), (.int .i64 0), (.int .i64 0), (.int .i64 0)]), 4, 40) := by kernel_rfl
theorem ts133 : tsz Tryz.prog 133 = some 4 := by kernel_rfl
theorem ta133 : tagg Tryz.prog 133 = some true := by kernel_rfl
theorem ti138 : tinfo Tryz.prog 138 = some ((.agg #[(.slice none 0 0), (.int .i64 0)]), 2, 32) := by kernel_rfl
theorem ts138 : tsz Tryz.prog 138 = some 2 := by kernel_rfl
theorem ti151 : tinfo Tryz.prog 151 = some ((.agg #[(.string ⟨#[]⟩), (.bool false)]), 2, 24) := by kernel_rfl
theorem ts151 : tsz Tryz.prog 151 = some 2 := by kernel_rfl
theorem ta151 : tagg Tryz.prog 151 = some true := by kernel_rfl
theorem ts158 : tsz Tryz.prog 158 = some 1 := by kernel_rfl
theorem ta158 : tagg Tryz.prog 158 = some false := by kernel_rfl
theorem ts159 : tsz Tryz.prog 159 = some 1 := by kernel_rfl
theorem ta159 : tagg Tryz.prog 159 = some false := by kernel_rfl
theorem ti161 : tinfo Tryz.prog 161 = some ((.agg #[(.map none), (.map none), (.slice none 0 0), (.int .i64 0), (.map none), (.map none)]), 6, 64) := by kernel_rfl
theorem ts161 : tsz Tryz.prog 161 = some 6 := by kernel_rfl
theorem ti164 : tinfo Tryz.prog 164 = some ((.agg #[(.string ⟨#[]⟩), (.int .i64 0), (.int .i64 0), (.int .i64 0), .nilIface, .nilIface, (.int .i64 0)]), 7, 80) := by kernel_rfl
theorem ts164 : tsz Tryz.prog 164 = some 7 := by kernel_rfl
theorem if164 : ifaceT Tryz.prog 164 = some false := by kernel_rfl
theorem ti168 : tinfo Tryz.prog 168 = some ((.agg #[]), 0, 0) := by kernel_rfl
theorem if168 : ifaceT Tryz.prog 168 = some false := by kernel_rfl
theorem ti193 : tinfo Tryz.prog 193 = some ((.agg #[(.int .i64 0), (.string ⟨#[]⟩), (.int .i64 0), (.int .i64 0)]), 4, 40) := by kernel_rfl
theorem ts193 : tsz Tryz.prog 193 = some 4 := by kernel_rfl
theorem if193 : ifaceT Tryz.prog 193 = some false := by kernel_rfl
theorem ti212 : tinfo Tryz.prog 212 = some ((.agg #[.nilIface, (.int .i64 0)]), 2, 24) := by kernel_rfl
theorem ts212 : tsz Tryz.prog 212 = some 2 := by kernel_rfl
theorem if212 : ifaceT Tryz.prog 212 = some false := by kernel_rfl
attribute [go_sem] ti3 ts3 ta3 ti4 ts4 ta4 ti5 ts5 ta5 ti9 ts9 ta9 im9 ts28 ta28 im28 ti30 ts30 ta30 ts34 ta34 im34 ts35 ta35 im35 ti37 ts37 ta37 ts67 ta67 ts68 ta68 ti70 ts70 ta70 im73 ti77 ts77 ta77 im80 ti83 ts83 ta83 ts84 ta84 im84 ti88 ts88 ta88 ti92 ts92 ta92 ti94 ts94 ta94 im128 ti133 ts133 ta133 ti138 ts138 ti151 ts151 ta151 ts158 ta158 ts159 ta159 ti161 ts161 ti164 ts164 if164 ti168 if168 ti193 ts193 if193 ti212 ts212 if212
end Go.Proofs.YtjdmmhcogmepaaaGreatDoor.V
