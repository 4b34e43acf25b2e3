import Derived.Test.YtbhcicdjllcdjaaDoorMB
import Derived.Test.YtbhcicdjllcdjaaDoorProg
import Derived.KernelRfl
namespace Go.Proofs.YtbhcicdjllcdjaaDoor.V
theorem ts3 : tsz Tryd.prog 3 = some 1 := by kernel_rfl
theorem ta3 : tagg Tryd.prog 3 = some false := by kernel_rfl
theorem ti5 : tinfo Tryd.prog 5 = some ((.int .u8 0), 1, 1) := by kernel_rfl
theorem ti9 : tinfo Tryd.prog 9 = some ((.string ⟨#[]⟩), 1, 16) := by kernel_rfl
theorem ts9 : tsz Tryd.prog 9 = some 1 := by kernel_rfl
theorem ta9 : tagg Tryd.prog 9 = some false := by kernel_rfl
theorem im9 : isMapT Tryd.prog 9 = false := by kernel_rfl
theorem ts22 : tsz Tryd.prog 22 = some 1 := by kernel_rfl
theorem ta22 : tagg Tryd.prog 22 = some false := by kernel_rfl
theorem im22 : isMapT Tryd.prog 22 = false := by kernel_rfl
theorem ts23 : tsz Tryd.prog 23 = some 1 := by kernel_rfl
theorem ta23 : tagg Tryd.prog 23 = some false := by kernel_rfl
theorem im23 : isMapT Tryd.prog 23 = false := by kernel_rfl
theorem ti25 : tinfo Tryd.prog 25 = some ((.agg #[(.slice none 0 0), (.slice none 0 0), (.string ⟨#[]⟩)]), 3, 64) := by kernel_rfl
theorem ts25 : tsz Tryd.prog 25 = some 3 := by kernel_rfl
theorem ta25 : tagg Tryd.prog 25 = some true := by kernel_rfl
theorem im31 : isMapT Tryd.prog 31 = false := by kernel_rfl
theorem ti35 : tinfo Tryd.prog 35 = some ((.agg #[(.slice none 0 0), (.int .i64 0), (.int .i64 0)]), 3, 40) := by kernel_rfl
theorem ts35 : tsz Tryd.prog 35 = some 3 := by kernel_rfl
theorem ti37 : tinfo Tryd.prog 37 = some ((.agg #[(.string ⟨#[]⟩), (.int .i64 0), (.int .i64 0), (.int .i64 0)]), 4, 40) := by kernel_rfl
theorem ts37 : tsz Tryd.prog 37 = some 4 := by kernel_rfl
theorem ta37 : tagg Tryd.prog 37 = some true := by kernel_rfl
theorem ts43 : tsz Tryd.prog 43 = some 1 := by kernel_rfl
theorem ta43 : tagg Tryd.prog 43 = some false := by kernel_rfl
theorem ti45 : tinfo Tryd.prog 45 = some ((.agg #[(.slice none 0 0), (.slice none 0 0), (.string ⟨#[]⟩), (.slice none 0 0), (.map none), (.int .i64 0)]), 6, 104) := by kernel_rfl
theorem ts45 : tsz Tryd.prog 45 = some 6 := by kernel_rfl
attribute [go_sem] ts3 ta3 ti5 ti9 ts9 ta9 im9 ts22 ta22 im22 ts23 ta23 im23 ti25 ts25 ta25 im31 ti35 ts35 ti37 ts37 ta37 ts43 ta43 ti45 ts45
end Go.Proofs.YtbhcicdjllcdjaaDoor.V
