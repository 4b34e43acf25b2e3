/- Sizes, bytes and zero values of this program's types: closed facts. -/
import Derived.Test.YthhgckbfmpkipaaV12
import Derived.Test.YthhgckbfmpkipaaProg
import Derived.KernelRfl
namespace Go.Proofs.Ythhgckbfmpkipaa.V
theorem ti2 : tinfo Try.prog 2 = some ((.int .i64 0), 1, 8) := by kernel_rfl
theorem ts2 : tsz Try.prog 2 = some 1 := by kernel_rfl
theorem ta2 : tagg Try.prog 2 = some false := by kernel_rfl
theorem ti3 : tinfo Try.prog 3 = some ((.int .i64 0), 1, 8) := by kernel_rfl
theorem ts3 : tsz Try.prog 3 = some 1 := by kernel_rfl
theorem ta3 : tagg Try.prog 3 = some false := by kernel_rfl
theorem ti4 : tinfo Try.prog 4 = some ((.bool false), 1, 1) := by kernel_rfl
theorem ts4 : tsz Try.prog 4 = some 1 := by kernel_rfl
theorem ta4 : tagg Try.prog 4 = some false := by kernel_rfl
theorem ti5 : tinfo Try.prog 5 = some ((.int .u8 0), 1, 1) := by kernel_rfl
theorem ts5 : tsz Try.prog 5 = some 1 := by kernel_rfl
theorem ta5 : tagg Try.prog 5 = some false := by kernel_rfl
theorem ti6 : tinfo Try.prog 6 = some ((.int .u8 0), 1, 1) := by kernel_rfl
theorem ts6 : tsz Try.prog 6 = some 1 := by kernel_rfl
theorem ta6 : tagg Try.prog 6 = some false := by kernel_rfl
theorem ti7 : tinfo Try.prog 7 = some ((.agg #[(.int .i64 0), (.int .i64 0), (.bool false), (.int .u8 0)]), 4, 24) := by kernel_rfl
theorem ts7 : tsz Try.prog 7 = some 4 := by kernel_rfl
theorem ta7 : tagg Try.prog 7 = some true := by kernel_rfl
theorem fo7_0 : fieldOff Try.prog 7 0 = some (2, 0) := by kernel_rfl
theorem fo7_1 : fieldOff Try.prog 7 1 = some (3, 1) := by kernel_rfl
theorem fo7_2 : fieldOff Try.prog 7 2 = some (4, 2) := by kernel_rfl
theorem fo7_3 : fieldOff Try.prog 7 3 = some (6, 3) := by kernel_rfl
theorem ti8 : tinfo Try.prog 8 = some ((.agg #[(.int .i64 0), (.int .i64 0), (.bool false), (.int .u8 0)]), 4, 24) := by kernel_rfl
theorem ts8 : tsz Try.prog 8 = some 4 := by kernel_rfl
theorem ta8 : tagg Try.prog 8 = some true := by kernel_rfl
theorem fo8_0 : fieldOff Try.prog 8 0 = some (2, 0) := by kernel_rfl
theorem fo8_1 : fieldOff Try.prog 8 1 = some (3, 1) := by kernel_rfl
theorem fo8_2 : fieldOff Try.prog 8 2 = some (4, 2) := by kernel_rfl
theorem fo8_3 : fieldOff Try.prog 8 3 = some (6, 3) := by kernel_rfl
theorem ti9 : tinfo Try.prog 9 = some ((.string ⟨#[]⟩), 1, 16) := by kernel_rfl
theorem ts9 : tsz Try.prog 9 = some 1 := by kernel_rfl
theorem ta9 : tagg Try.prog 9 = some false := by kernel_rfl
theorem un9 : Try.prog.underlying 9 = some .string := by kernel_rfl
theorem ti10 : tinfo Try.prog 10 = some ((.string ⟨#[]⟩), 1, 16) := by kernel_rfl
theorem ts10 : tsz Try.prog 10 = some 1 := by kernel_rfl
theorem ta10 : tagg Try.prog 10 = some false := by kernel_rfl
theorem un10 : Try.prog.underlying 10 = some .string := by kernel_rfl
theorem ti11 : tinfo Try.prog 11 = some ((.string ⟨#[]⟩), 1, 16) := by kernel_rfl
theorem ts11 : tsz Try.prog 11 = some 1 := by kernel_rfl
theorem ta11 : tagg Try.prog 11 = some false := by kernel_rfl
theorem un11 : Try.prog.underlying 11 = some .string := by kernel_rfl
theorem ti12 : tinfo Try.prog 12 = some ((.int .u64 0), 1, 8) := by kernel_rfl
theorem ts12 : tsz Try.prog 12 = some 1 := by kernel_rfl
theorem ta12 : tagg Try.prog 12 = some false := by kernel_rfl
theorem ti13 : tinfo Try.prog 13 = some ((.agg #[(.string ⟨#[]⟩), (.int .u64 0)]), 2, 24) := by kernel_rfl
theorem ts13 : tsz Try.prog 13 = some 2 := by kernel_rfl
theorem ta13 : tagg Try.prog 13 = some true := by kernel_rfl
theorem fo13_0 : fieldOff Try.prog 13 0 = some (9, 0) := by kernel_rfl
theorem fo13_1 : fieldOff Try.prog 13 1 = some (12, 1) := by kernel_rfl
theorem ti14 : tinfo Try.prog 14 = some ((.agg #[(.string ⟨#[]⟩), (.int .u64 0)]), 2, 24) := by kernel_rfl
theorem ts14 : tsz Try.prog 14 = some 2 := by kernel_rfl
theorem ta14 : tagg Try.prog 14 = some true := by kernel_rfl
theorem fo14_0 : fieldOff Try.prog 14 0 = some (9, 0) := by kernel_rfl
theorem fo14_1 : fieldOff Try.prog 14 1 = some (12, 1) := by kernel_rfl
theorem ti15 : tinfo Try.prog 15 = some ((.pointer none), 1, 8) := by kernel_rfl
theorem ts15 : tsz Try.prog 15 = some 1 := by kernel_rfl
theorem ta15 : tagg Try.prog 15 = some false := by kernel_rfl
theorem ti16 : tinfo Try.prog 16 = some ((.pointer none), 1, 8) := by kernel_rfl
theorem ts16 : tsz Try.prog 16 = some 1 := by kernel_rfl
theorem ta16 : tagg Try.prog 16 = some false := by kernel_rfl
theorem ti17 : tinfo Try.prog 17 = some ((.pointer none), 1, 8) := by kernel_rfl
theorem ts17 : tsz Try.prog 17 = some 1 := by kernel_rfl
theorem ta17 : tagg Try.prog 17 = some false := by kernel_rfl
theorem ti18 : tinfo Try.prog 18 = some ((.agg #[(.pointer none)]), 1, 8) := by kernel_rfl
theorem ts18 : tsz Try.prog 18 = some 1 := by kernel_rfl
theorem ta18 : tagg Try.prog 18 = some true := by kernel_rfl
theorem fo18_0 : fieldOff Try.prog 18 0 = some (17, 0) := by kernel_rfl
theorem ti19 : tinfo Try.prog 19 = some ((.agg #[(.pointer none)]), 1, 8) := by kernel_rfl
theorem ts19 : tsz Try.prog 19 = some 1 := by kernel_rfl
theorem ta19 : tagg Try.prog 19 = some true := by kernel_rfl
theorem fo19_0 : fieldOff Try.prog 19 0 = some (17, 0) := by kernel_rfl
theorem ti20 : tinfo Try.prog 20 = some (.nilIface, 1, 16) := by kernel_rfl
theorem ts20 : tsz Try.prog 20 = some 1 := by kernel_rfl
theorem ta20 : tagg Try.prog 20 = some false := by kernel_rfl
theorem ti21 : tinfo Try.prog 21 = some ((.int .i32 0), 1, 4) := by kernel_rfl
theorem ts21 : tsz Try.prog 21 = some 1 := by kernel_rfl
theorem ta21 : tagg Try.prog 21 = some false := by kernel_rfl
theorem ti23 : tinfo Try.prog 23 = some ((.agg #[(.string ⟨#[]⟩), (.int .i64 0), (.int .i64 0), (.int .i64 0)]), 4, 40) := by kernel_rfl
theorem ts23 : tsz Try.prog 23 = some 4 := by kernel_rfl
theorem ta23 : tagg Try.prog 23 = some true := by kernel_rfl
theorem fo23_0 : fieldOff Try.prog 23 0 = some (9, 0) := by kernel_rfl
theorem fo23_1 : fieldOff Try.prog 23 1 = some (3, 1) := by kernel_rfl
theorem fo23_2 : fieldOff Try.prog 23 2 = some (3, 2) := by kernel_rfl
theorem fo23_3 : fieldOff Try.prog 23 3 = some (3, 3) := by kernel_rfl
theorem ti24 : tinfo Try.prog 24 = some ((.agg #[(.string ⟨#[]⟩), (.int .i64 0), (.int .i64 0), (.int .i64 0)]), 4, 40) := by kernel_rfl
theorem ts24 : tsz Try.prog 24 = some 4 := by kernel_rfl
theorem ta24 : tagg Try.prog 24 = some true := by kernel_rfl
theorem fo24_0 : fieldOff Try.prog 24 0 = some (9, 0) := by kernel_rfl
theorem fo24_1 : fieldOff Try.prog 24 1 = some (3, 1) := by kernel_rfl
theorem fo24_2 : fieldOff Try.prog 24 2 = some (3, 2) := by kernel_rfl
theorem fo24_3 : fieldOff Try.prog 24 3 = some (3, 3) := by kernel_rfl
theorem ti27 : tinfo Try.prog 27 = some ((.agg #[(.string ⟨#[]⟩), (.int .i64 0), (.int .i64 0), (.int .i64 0)]), 4, 40) := by kernel_rfl
theorem ts27 : tsz Try.prog 27 = some 4 := by kernel_rfl
theorem ta27 : tagg Try.prog 27 = some true := by kernel_rfl
theorem fo27_0 : fieldOff Try.prog 27 0 = some (9, 0) := by kernel_rfl
theorem fo27_1 : fieldOff Try.prog 27 1 = some (3, 1) := by kernel_rfl
theorem fo27_2 : fieldOff Try.prog 27 2 = some (3, 2) := by kernel_rfl
theorem fo27_3 : fieldOff Try.prog 27 3 = some (3, 3) := by kernel_rfl
theorem ti30 : tinfo Try.prog 30 = some ((.slice none 0 0), 1, 24) := by kernel_rfl
theorem ts30 : tsz Try.prog 30 = some 1 := by kernel_rfl
theorem ta30 : tagg Try.prog 30 = some false := by kernel_rfl
theorem un30 : Try.prog.underlying 30 = some (.slice 75) := by kernel_rfl
theorem es30 : esz Try.prog 30 = some 3 := by kernel_rfl
theorem ti33 : tinfo Try.prog 33 = some ((.slice none 0 0), 1, 24) := by kernel_rfl
theorem ts33 : tsz Try.prog 33 = some 1 := by kernel_rfl
theorem ta33 : tagg Try.prog 33 = some false := by kernel_rfl
theorem un33 : Try.prog.underlying 33 = some (.slice 76) := by kernel_rfl
theorem es33 : esz Try.prog 33 = some 3 := by kernel_rfl
theorem ti37 : tinfo Try.prog 37 = some ((.slice none 0 0), 1, 24) := by kernel_rfl
theorem ts37 : tsz Try.prog 37 = some 1 := by kernel_rfl
theorem ta37 : tagg Try.prog 37 = some false := by kernel_rfl
theorem un37 : Try.prog.underlying 37 = some (.slice 24) := by kernel_rfl
theorem es37 : esz Try.prog 37 = some 4 := by kernel_rfl
theorem ti38 : tinfo Try.prog 38 = some ((.agg #[(.slice none 0 0)]), 1, 24) := by kernel_rfl
theorem ts38 : tsz Try.prog 38 = some 1 := by kernel_rfl
theorem ta38 : tagg Try.prog 38 = some true := by kernel_rfl
theorem fo38_0 : fieldOff Try.prog 38 0 = some (37, 0) := by kernel_rfl
theorem ti39 : tinfo Try.prog 39 = some ((.agg #[(.slice none 0 0)]), 1, 24) := by kernel_rfl
theorem ts39 : tsz Try.prog 39 = some 1 := by kernel_rfl
theorem ta39 : tagg Try.prog 39 = some true := by kernel_rfl
theorem fo39_0 : fieldOff Try.prog 39 0 = some (37, 0) := by kernel_rfl
theorem ti41 : tinfo Try.prog 41 = some ((.slice none 0 0), 1, 24) := by kernel_rfl
theorem ts41 : tsz Try.prog 41 = some 1 := by kernel_rfl
theorem ta41 : tagg Try.prog 41 = some false := by kernel_rfl
theorem un41 : Try.prog.underlying 41 = some (.slice 27) := by kernel_rfl
theorem es41 : esz Try.prog 41 = some 4 := by kernel_rfl
theorem ti42 : tinfo Try.prog 42 = some ((.agg #[(.slice none 0 0)]), 1, 24) := by kernel_rfl
theorem ts42 : tsz Try.prog 42 = some 1 := by kernel_rfl
theorem ta42 : tagg Try.prog 42 = some true := by kernel_rfl
theorem fo42_0 : fieldOff Try.prog 42 0 = some (41, 0) := by kernel_rfl
theorem ti43 : tinfo Try.prog 43 = some ((.agg #[(.slice none 0 0)]), 1, 24) := by kernel_rfl
theorem ts43 : tsz Try.prog 43 = some 1 := by kernel_rfl
theorem ta43 : tagg Try.prog 43 = some true := by kernel_rfl
theorem fo43_0 : fieldOff Try.prog 43 0 = some (41, 0) := by kernel_rfl
theorem ti55 : tinfo Try.prog 55 = some ((.slice none 0 0), 1, 24) := by kernel_rfl
theorem ts55 : tsz Try.prog 55 = some 1 := by kernel_rfl
theorem ta55 : tagg Try.prog 55 = some false := by kernel_rfl
theorem un55 : Try.prog.underlying 55 = some (.slice 3) := by kernel_rfl
theorem es55 : esz Try.prog 55 = some 1 := by kernel_rfl
theorem ti61 : tinfo Try.prog 61 = some ((.slice none 0 0), 1, 24) := by kernel_rfl
theorem ts61 : tsz Try.prog 61 = some 1 := by kernel_rfl
theorem ta61 : tagg Try.prog 61 = some false := by kernel_rfl
theorem un61 : Try.prog.underlying 61 = some (.slice 5) := by kernel_rfl
theorem es61 : esz Try.prog 61 = some 1 := by kernel_rfl
theorem ti65 : tinfo Try.prog 65 = some ((.slice none 0 0), 1, 24) := by kernel_rfl
theorem ts65 : tsz Try.prog 65 = some 1 := by kernel_rfl
theorem ta65 : tagg Try.prog 65 = some false := by kernel_rfl
theorem un65 : Try.prog.underlying 65 = some (.slice 148) := by kernel_rfl
theorem es65 : esz Try.prog 65 = some 4 := by kernel_rfl
theorem ti66 : tinfo Try.prog 66 = some ((.agg #[(.slice none 0 0)]), 1, 24) := by kernel_rfl
theorem ts66 : tsz Try.prog 66 = some 1 := by kernel_rfl
theorem ta66 : tagg Try.prog 66 = some true := by kernel_rfl
theorem fo66_0 : fieldOff Try.prog 66 0 = some (65, 0) := by kernel_rfl
theorem ti67 : tinfo Try.prog 67 = some ((.agg #[(.slice none 0 0)]), 1, 24) := by kernel_rfl
theorem ts67 : tsz Try.prog 67 = some 1 := by kernel_rfl
theorem ta67 : tagg Try.prog 67 = some true := by kernel_rfl
theorem fo67_0 : fieldOff Try.prog 67 0 = some (65, 0) := by kernel_rfl
theorem ti74 : tinfo Try.prog 74 = some ((.agg #[(.int .i64 0), (.string ⟨#[]⟩), (.string ⟨#[]⟩)]), 3, 40) := by kernel_rfl
theorem ts74 : tsz Try.prog 74 = some 3 := by kernel_rfl
theorem ta74 : tagg Try.prog 74 = some true := by kernel_rfl
theorem fo74_0 : fieldOff Try.prog 74 0 = some (3, 0) := by kernel_rfl
theorem fo74_1 : fieldOff Try.prog 74 1 = some (9, 1) := by kernel_rfl
theorem fo74_2 : fieldOff Try.prog 74 2 = some (9, 2) := by kernel_rfl
theorem ti75 : tinfo Try.prog 75 = some ((.agg #[(.int .i64 0), (.string ⟨#[]⟩), (.string ⟨#[]⟩)]), 3, 40) := by kernel_rfl
theorem ts75 : tsz Try.prog 75 = some 3 := by kernel_rfl
theorem ta75 : tagg Try.prog 75 = some true := by kernel_rfl
theorem fo75_0 : fieldOff Try.prog 75 0 = some (3, 0) := by kernel_rfl
theorem fo75_1 : fieldOff Try.prog 75 1 = some (9, 1) := by kernel_rfl
theorem fo75_2 : fieldOff Try.prog 75 2 = some (9, 2) := by kernel_rfl
theorem ti76 : tinfo Try.prog 76 = some ((.agg #[(.int .i64 0), (.string ⟨#[]⟩), (.string ⟨#[]⟩)]), 3, 40) := by kernel_rfl
theorem ts76 : tsz Try.prog 76 = some 3 := by kernel_rfl
theorem ta76 : tagg Try.prog 76 = some true := by kernel_rfl
theorem fo76_0 : fieldOff Try.prog 76 0 = some (3, 0) := by kernel_rfl
theorem fo76_1 : fieldOff Try.prog 76 1 = some (9, 1) := by kernel_rfl
theorem fo76_2 : fieldOff Try.prog 76 2 = some (9, 2) := by kernel_rfl
theorem ti78 : tinfo Try.prog 78 = some ((.pointer none), 1, 8) := by kernel_rfl
theorem ts78 : tsz Try.prog 78 = some 1 := by kernel_rfl
theorem ta78 : tagg Try.prog 78 = some false := by kernel_rfl
theorem ti79 : tinfo Try.prog 79 = some ((.agg #[(.pointer none), (.slice none 0 0)]), 2, 32) := by kernel_rfl
theorem ts79 : tsz Try.prog 79 = some 2 := by kernel_rfl
theorem ta79 : tagg Try.prog 79 = some true := by kernel_rfl
theorem fo79_0 : fieldOff Try.prog 79 0 = some (78, 0) := by kernel_rfl
theorem fo79_1 : fieldOff Try.prog 79 1 = some (61, 1) := by kernel_rfl
theorem ti80 : tinfo Try.prog 80 = some ((.agg #[(.pointer none), (.slice none 0 0)]), 2, 32) := by kernel_rfl
theorem ts80 : tsz Try.prog 80 = some 2 := by kernel_rfl
theorem ta80 : tagg Try.prog 80 = some true := by kernel_rfl
theorem fo80_0 : fieldOff Try.prog 80 0 = some (78, 0) := by kernel_rfl
theorem fo80_1 : fieldOff Try.prog 80 1 = some (61, 1) := by kernel_rfl
theorem ti81 : tinfo Try.prog 81 = some (.nilIface, 1, 16) := by kernel_rfl
theorem ts81 : tsz Try.prog 81 = some 1 := by kernel_rfl
theorem ta81 : tagg Try.prog 81 = some false := by kernel_rfl
theorem ti82 : tinfo Try.prog 82 = some (.nilIface, 1, 16) := by kernel_rfl
theorem ts82 : tsz Try.prog 82 = some 1 := by kernel_rfl
theorem ta82 : tagg Try.prog 82 = some false := by kernel_rfl
theorem ti90 : tinfo Try.prog 90 = some ((.map none), 1, 8) := by kernel_rfl
theorem ts90 : tsz Try.prog 90 = some 1 := by kernel_rfl
theorem ta90 : tagg Try.prog 90 = some false := by kernel_rfl
theorem ti91 : tinfo Try.prog 91 = some ((.map none), 1, 8) := by kernel_rfl
theorem ts91 : tsz Try.prog 91 = some 1 := by kernel_rfl
theorem ta91 : tagg Try.prog 91 = some false := by kernel_rfl
theorem ti92 : tinfo Try.prog 92 = some ((.slice none 0 0), 1, 24) := by kernel_rfl
theorem ts92 : tsz Try.prog 92 = some 1 := by kernel_rfl
theorem ta92 : tagg Try.prog 92 = some false := by kernel_rfl
theorem un92 : Try.prog.underlying 92 = some (.slice 41) := by kernel_rfl
theorem es92 : esz Try.prog 92 = some 1 := by kernel_rfl
theorem ti96 : tinfo Try.prog 96 = some ((.map none), 1, 8) := by kernel_rfl
theorem ts96 : tsz Try.prog 96 = some 1 := by kernel_rfl
theorem ta96 : tagg Try.prog 96 = some false := by kernel_rfl
theorem ti98 : tinfo Try.prog 98 = some ((.agg #[(.string ⟨#[]⟩), (.bool false)]), 2, 24) := by kernel_rfl
theorem ts98 : tsz Try.prog 98 = some 2 := by kernel_rfl
theorem ta98 : tagg Try.prog 98 = some true := by kernel_rfl
theorem fo98_0 : fieldOff Try.prog 98 0 = some (9, 0) := by kernel_rfl
theorem fo98_1 : fieldOff Try.prog 98 1 = some (4, 1) := by kernel_rfl
theorem ti99 : tinfo Try.prog 99 = some ((.agg #[(.string ⟨#[]⟩), (.bool false)]), 2, 24) := by kernel_rfl
theorem ts99 : tsz Try.prog 99 = some 2 := by kernel_rfl
theorem ta99 : tagg Try.prog 99 = some true := by kernel_rfl
theorem fo99_0 : fieldOff Try.prog 99 0 = some (9, 0) := by kernel_rfl
theorem fo99_1 : fieldOff Try.prog 99 1 = some (4, 1) := by kernel_rfl
theorem ti101 : tinfo Try.prog 101 = some ((.map none), 1, 8) := by kernel_rfl
theorem ts101 : tsz Try.prog 101 = some 1 := by kernel_rfl
theorem ta101 : tagg Try.prog 101 = some false := by kernel_rfl
theorem ti106 : tinfo Try.prog 106 = some ((.map none), 1, 8) := by kernel_rfl
theorem ts106 : tsz Try.prog 106 = some 1 := by kernel_rfl
theorem ta106 : tagg Try.prog 106 = some false := by kernel_rfl
theorem ti107 : tinfo Try.prog 107 = some ((.map none), 1, 8) := by kernel_rfl
theorem ts107 : tsz Try.prog 107 = some 1 := by kernel_rfl
theorem ta107 : tagg Try.prog 107 = some false := by kernel_rfl
theorem ti108 : tinfo Try.prog 108 = some ((.agg #[(.map none), (.map none)]), 2, 16) := by kernel_rfl
theorem ts108 : tsz Try.prog 108 = some 2 := by kernel_rfl
theorem ta108 : tagg Try.prog 108 = some true := by kernel_rfl
theorem fo108_0 : fieldOff Try.prog 108 0 = some (106, 0) := by kernel_rfl
theorem fo108_1 : fieldOff Try.prog 108 1 = some (107, 1) := by kernel_rfl
theorem ti109 : tinfo Try.prog 109 = some ((.agg #[(.map none), (.map none)]), 2, 16) := by kernel_rfl
theorem ts109 : tsz Try.prog 109 = some 2 := by kernel_rfl
theorem ta109 : tagg Try.prog 109 = some true := by kernel_rfl
theorem fo109_0 : fieldOff Try.prog 109 0 = some (106, 0) := by kernel_rfl
theorem fo109_1 : fieldOff Try.prog 109 1 = some (107, 1) := by kernel_rfl
theorem ti114 : tinfo Try.prog 114 = some ((.slice none 0 0), 1, 24) := by kernel_rfl
theorem ts114 : tsz Try.prog 114 = some 1 := by kernel_rfl
theorem ta114 : tagg Try.prog 114 = some false := by kernel_rfl
theorem un114 : Try.prog.underlying 114 = some (.slice 4) := by kernel_rfl
theorem es114 : esz Try.prog 114 = some 1 := by kernel_rfl
theorem ti119 : tinfo Try.prog 119 = some ((.pointer none), 1, 8) := by kernel_rfl
theorem ts119 : tsz Try.prog 119 = some 1 := by kernel_rfl
theorem ta119 : tagg Try.prog 119 = some false := by kernel_rfl
theorem ti129 : tinfo Try.prog 129 = some (.nilIface, 1, 16) := by kernel_rfl
theorem ts129 : tsz Try.prog 129 = some 1 := by kernel_rfl
theorem ta129 : tagg Try.prog 129 = some false := by kernel_rfl
theorem ti130 : tinfo Try.prog 130 = some (.nilIface, 1, 16) := by kernel_rfl
theorem ts130 : tsz Try.prog 130 = some 1 := by kernel_rfl
theorem ta130 : tagg Try.prog 130 = some false := by kernel_rfl
theorem ti132 : tinfo Try.prog 132 = some ((.pointer none), 1, 8) := by kernel_rfl
theorem ts132 : tsz Try.prog 132 = some 1 := by kernel_rfl
theorem ta132 : tagg Try.prog 132 = some false := by kernel_rfl
theorem ti139 : tinfo Try.prog 139 = some ((.pointer none), 1, 8) := by kernel_rfl
theorem ts139 : tsz Try.prog 139 = some 1 := by kernel_rfl
theorem ta139 : tagg Try.prog 139 = some false := by kernel_rfl
theorem ti143 : tinfo Try.prog 143 = some ((.agg #[(.slice none 0 0), (.int .i64 0)]), 2, 32) := by kernel_rfl
theorem ts143 : tsz Try.prog 143 = some 2 := by kernel_rfl
theorem ta143 : tagg Try.prog 143 = some true := by kernel_rfl
theorem fo143_0 : fieldOff Try.prog 143 0 = some (61, 0) := by kernel_rfl
theorem fo143_1 : fieldOff Try.prog 143 1 = some (3, 1) := by kernel_rfl
theorem ti144 : tinfo Try.prog 144 = some ((.agg #[(.slice none 0 0), (.int .i64 0)]), 2, 32) := by kernel_rfl
theorem ts144 : tsz Try.prog 144 = some 2 := by kernel_rfl
theorem ta144 : tagg Try.prog 144 = some true := by kernel_rfl
theorem fo144_0 : fieldOff Try.prog 144 0 = some (61, 0) := by kernel_rfl
theorem fo144_1 : fieldOff Try.prog 144 1 = some (3, 1) := by kernel_rfl
theorem ti147 : tinfo Try.prog 147 = some ((.agg #[(.int .i64 0), (.string ⟨#[]⟩), (.int .i64 0), (.int .i64 0)]), 4, 40) := by kernel_rfl
theorem ts147 : tsz Try.prog 147 = some 4 := by kernel_rfl
theorem ta147 : tagg Try.prog 147 = some true := by kernel_rfl
theorem fo147_0 : fieldOff Try.prog 147 0 = some (3, 0) := by kernel_rfl
theorem fo147_1 : fieldOff Try.prog 147 1 = some (9, 1) := by kernel_rfl
theorem fo147_2 : fieldOff Try.prog 147 2 = some (3, 2) := by kernel_rfl
theorem fo147_3 : fieldOff Try.prog 147 3 = some (3, 3) := by kernel_rfl
theorem ti148 : tinfo Try.prog 148 = some ((.agg #[(.int .i64 0), (.string ⟨#[]⟩), (.int .i64 0), (.int .i64 0)]), 4, 40) := by kernel_rfl
theorem ts148 : tsz Try.prog 148 = some 4 := by kernel_rfl
theorem ta148 : tagg Try.prog 148 = some true := by kernel_rfl
theorem fo148_0 : fieldOff Try.prog 148 0 = some (3, 0) := by kernel_rfl
theorem fo148_1 : fieldOff Try.prog 148 1 = some (9, 1) := by kernel_rfl
theorem fo148_2 : fieldOff Try.prog 148 2 = some (3, 2) := by kernel_rfl
theorem fo148_3 : fieldOff Try.prog 148 3 = some (3, 3) := by kernel_rfl
theorem ti151 : tinfo Try.prog 151 = some ((.map none), 1, 8) := by kernel_rfl
theorem ts151 : tsz Try.prog 151 = some 1 := by kernel_rfl
theorem ta151 : tagg Try.prog 151 = some false := by kernel_rfl
theorem ti152 : tinfo Try.prog 152 = some ((.map none), 1, 8) := by kernel_rfl
theorem ts152 : tsz Try.prog 152 = some 1 := by kernel_rfl
theorem ta152 : tagg Try.prog 152 = some false := by kernel_rfl
theorem ti153 : tinfo Try.prog 153 = some ((.agg #[(.map none), (.map none), (.slice none 0 0), (.int .i64 0), (.map none), (.map none)]), 6, 64) := by kernel_rfl
theorem ts153 : tsz Try.prog 153 = some 6 := by kernel_rfl
theorem ta153 : tagg Try.prog 153 = some true := by kernel_rfl
theorem fo153_0 : fieldOff Try.prog 153 0 = some (109, 0) := by kernel_rfl
theorem fo153_1 : fieldOff Try.prog 153 1 = some (33, 2) := by kernel_rfl
theorem fo153_2 : fieldOff Try.prog 153 2 = some (3, 3) := by kernel_rfl
theorem fo153_3 : fieldOff Try.prog 153 3 = some (151, 4) := by kernel_rfl
theorem fo153_4 : fieldOff Try.prog 153 4 = some (152, 5) := by kernel_rfl
theorem ti154 : tinfo Try.prog 154 = some ((.agg #[(.map none), (.map none), (.slice none 0 0), (.int .i64 0), (.map none), (.map none)]), 6, 64) := by kernel_rfl
theorem ts154 : tsz Try.prog 154 = some 6 := by kernel_rfl
theorem ta154 : tagg Try.prog 154 = some true := by kernel_rfl
theorem fo154_0 : fieldOff Try.prog 154 0 = some (109, 0) := by kernel_rfl
theorem fo154_1 : fieldOff Try.prog 154 1 = some (33, 2) := by kernel_rfl
theorem fo154_2 : fieldOff Try.prog 154 2 = some (3, 3) := by kernel_rfl
theorem fo154_3 : fieldOff Try.prog 154 3 = some (151, 4) := by kernel_rfl
theorem fo154_4 : fieldOff Try.prog 154 4 = some (152, 5) := by kernel_rfl
theorem ti156 : tinfo Try.prog 156 = some ((.agg #[(.string ⟨#[]⟩), (.int .i64 0), (.int .i64 0), (.int .i64 0), .nilIface, .nilIface, (.int .i64 0)]), 7, 80) := by kernel_rfl
theorem ts156 : tsz Try.prog 156 = some 7 := by kernel_rfl
theorem ta156 : tagg Try.prog 156 = some true := by kernel_rfl
theorem fo156_0 : fieldOff Try.prog 156 0 = some (27, 0) := by kernel_rfl
theorem fo156_1 : fieldOff Try.prog 156 1 = some (130, 4) := by kernel_rfl
theorem fo156_2 : fieldOff Try.prog 156 2 = some (130, 5) := by kernel_rfl
theorem fo156_3 : fieldOff Try.prog 156 3 = some (3, 6) := by kernel_rfl
theorem ti157 : tinfo Try.prog 157 = some ((.agg #[(.string ⟨#[]⟩), (.int .i64 0), (.int .i64 0), (.int .i64 0), .nilIface, .nilIface, (.int .i64 0)]), 7, 80) := by kernel_rfl
theorem ts157 : tsz Try.prog 157 = some 7 := by kernel_rfl
theorem ta157 : tagg Try.prog 157 = some true := by kernel_rfl
theorem fo157_0 : fieldOff Try.prog 157 0 = some (27, 0) := by kernel_rfl
theorem fo157_1 : fieldOff Try.prog 157 1 = some (130, 4) := by kernel_rfl
theorem fo157_2 : fieldOff Try.prog 157 2 = some (130, 5) := by kernel_rfl
theorem fo157_3 : fieldOff Try.prog 157 3 = some (3, 6) := by kernel_rfl
theorem ti160 : tinfo Try.prog 160 = some ((.agg #[]), 0, 0) := by kernel_rfl
theorem ts160 : tsz Try.prog 160 = some 0 := by kernel_rfl
theorem ta160 : tagg Try.prog 160 = some true := by kernel_rfl
theorem ti161 : tinfo Try.prog 161 = some ((.agg #[]), 0, 0) := by kernel_rfl
theorem ts161 : tsz Try.prog 161 = some 0 := by kernel_rfl
theorem ta161 : tagg Try.prog 161 = some true := by kernel_rfl
theorem ti174 : tinfo Try.prog 174 = some ((.agg #[(.int .i64 0), (.string ⟨#[]⟩), (.int .i64 0), (.int .i64 0)]), 4, 40) := by kernel_rfl
theorem ts174 : tsz Try.prog 174 = some 4 := by kernel_rfl
theorem ta174 : tagg Try.prog 174 = some true := by kernel_rfl
theorem fo174_0 : fieldOff Try.prog 174 0 = some (148, 0) := by kernel_rfl
theorem ti175 : tinfo Try.prog 175 = some ((.agg #[(.int .i64 0), (.string ⟨#[]⟩), (.int .i64 0), (.int .i64 0)]), 4, 40) := by kernel_rfl
theorem ts175 : tsz Try.prog 175 = some 4 := by kernel_rfl
theorem ta175 : tagg Try.prog 175 = some true := by kernel_rfl
theorem fo175_0 : fieldOff Try.prog 175 0 = some (148, 0) := by kernel_rfl
theorem ti176 : tinfo Try.prog 176 = some ((.agg #[.nilIface, (.int .i64 0)]), 2, 24) := by kernel_rfl
theorem ts176 : tsz Try.prog 176 = some 2 := by kernel_rfl
theorem ta176 : tagg Try.prog 176 = some true := by kernel_rfl
theorem fo176_0 : fieldOff Try.prog 176 0 = some (130, 0) := by kernel_rfl
theorem fo176_1 : fieldOff Try.prog 176 1 = some (3, 1) := by kernel_rfl
theorem ti177 : tinfo Try.prog 177 = some ((.agg #[.nilIface, (.int .i64 0)]), 2, 24) := by kernel_rfl
theorem ts177 : tsz Try.prog 177 = some 2 := by kernel_rfl
theorem ta177 : tagg Try.prog 177 = some true := by kernel_rfl
theorem fo177_0 : fieldOff Try.prog 177 0 = some (130, 0) := by kernel_rfl
theorem fo177_1 : fieldOff Try.prog 177 1 = some (3, 1) := by kernel_rfl
theorem ti178 : tinfo Try.prog 178 = some ((.agg #[(.pointer none), (.pointer none), (.pointer none), (.string ⟨#[]⟩)]), 4, 40) := by kernel_rfl
theorem ts178 : tsz Try.prog 178 = some 4 := by kernel_rfl
theorem ta178 : tagg Try.prog 178 = some true := by kernel_rfl
theorem fo178_0 : fieldOff Try.prog 178 0 = some (17, 0) := by kernel_rfl
theorem fo178_1 : fieldOff Try.prog 178 1 = some (17, 1) := by kernel_rfl
theorem fo178_2 : fieldOff Try.prog 178 2 = some (17, 2) := by kernel_rfl
theorem fo178_3 : fieldOff Try.prog 178 3 = some (9, 3) := by kernel_rfl
theorem ti179 : tinfo Try.prog 179 = some ((.agg #[(.pointer none), (.pointer none), (.pointer none), (.string ⟨#[]⟩)]), 4, 40) := by kernel_rfl
theorem ts179 : tsz Try.prog 179 = some 4 := by kernel_rfl
theorem ta179 : tagg Try.prog 179 = some true := by kernel_rfl
theorem fo179_0 : fieldOff Try.prog 179 0 = some (17, 0) := by kernel_rfl
theorem fo179_1 : fieldOff Try.prog 179 1 = some (17, 1) := by kernel_rfl
theorem fo179_2 : fieldOff Try.prog 179 2 = some (17, 2) := by kernel_rfl
theorem fo179_3 : fieldOff Try.prog 179 3 = some (9, 3) := by kernel_rfl
theorem ti181 : tinfo Try.prog 181 = some ((.agg #[]), 0, 0) := by kernel_rfl
theorem ts181 : tsz Try.prog 181 = some 0 := by kernel_rfl
theorem ta181 : tagg Try.prog 181 = some true := by kernel_rfl
theorem fo181_0 : fieldOff Try.prog 181 0 = some (180, 0) := by kernel_rfl
theorem ti182 : tinfo Try.prog 182 = some ((.agg #[]), 0, 0) := by kernel_rfl
theorem ts182 : tsz Try.prog 182 = some 0 := by kernel_rfl
theorem ta182 : tagg Try.prog 182 = some true := by kernel_rfl
theorem fo182_0 : fieldOff Try.prog 182 0 = some (180, 0) := by kernel_rfl
theorem ti183 : tinfo Try.prog 183 = some ((.int .u32 0), 1, 4) := by kernel_rfl
theorem ts183 : tsz Try.prog 183 = some 1 := by kernel_rfl
theorem ta183 : tagg Try.prog 183 = some false := by kernel_rfl
theorem ti184 : tinfo Try.prog 184 = some ((.int .u8 0), 1, 1) := by kernel_rfl
theorem ts184 : tsz Try.prog 184 = some 1 := by kernel_rfl
theorem ta184 : tagg Try.prog 184 = some false := by kernel_rfl
theorem ti185 : tinfo Try.prog 185 = some ((.int .u8 0), 1, 1) := by kernel_rfl
theorem ts185 : tsz Try.prog 185 = some 1 := by kernel_rfl
theorem ta185 : tagg Try.prog 185 = some false := by kernel_rfl
theorem ti187 : tinfo Try.prog 187 = some ((.int .i32 0), 1, 4) := by kernel_rfl
theorem ts187 : tsz Try.prog 187 = some 1 := by kernel_rfl
theorem ta187 : tagg Try.prog 187 = some false := by kernel_rfl
theorem ti188 : tinfo Try.prog 188 = some ((.int .i32 0), 1, 4) := by kernel_rfl
theorem ts188 : tsz Try.prog 188 = some 1 := by kernel_rfl
theorem ta188 : tagg Try.prog 188 = some false := by kernel_rfl
theorem ti189 : tinfo Try.prog 189 = some ((.agg #[(.int .u64 0), (.int .u64 0), (.int .u32 0), (.int .u8 0), (.int .u8 0), (.int .u8 0), (.int .u8 0), .nilFunc, (.pointer none), (.int .i32 0), (.int .i32 0)]), 11, 48) := by kernel_rfl
theorem ts189 : tsz Try.prog 189 = some 11 := by kernel_rfl
theorem ta189 : tagg Try.prog 189 = some true := by kernel_rfl
theorem fo189_0 : fieldOff Try.prog 189 0 = some (12, 0) := by kernel_rfl
theorem fo189_1 : fieldOff Try.prog 189 1 = some (12, 1) := by kernel_rfl
theorem fo189_2 : fieldOff Try.prog 189 2 = some (183, 2) := by kernel_rfl
theorem fo189_3 : fieldOff Try.prog 189 3 = some (184, 3) := by kernel_rfl
theorem fo189_4 : fieldOff Try.prog 189 4 = some (5, 4) := by kernel_rfl
theorem fo189_5 : fieldOff Try.prog 189 5 = some (5, 5) := by kernel_rfl
theorem fo189_6 : fieldOff Try.prog 189 6 = some (185, 6) := by kernel_rfl
theorem fo189_7 : fieldOff Try.prog 189 7 = some (186, 7) := by kernel_rfl
theorem fo189_8 : fieldOff Try.prog 189 8 = some (139, 8) := by kernel_rfl
theorem fo189_9 : fieldOff Try.prog 189 9 = some (187, 9) := by kernel_rfl
theorem fo189_10 : fieldOff Try.prog 189 10 = some (188, 10) := by kernel_rfl
theorem ti190 : tinfo Try.prog 190 = some ((.agg #[(.int .u64 0), (.int .u64 0), (.int .u32 0), (.int .u8 0), (.int .u8 0), (.int .u8 0), (.int .u8 0), .nilFunc, (.pointer none), (.int .i32 0), (.int .i32 0)]), 11, 48) := by kernel_rfl
theorem ts190 : tsz Try.prog 190 = some 11 := by kernel_rfl
theorem ta190 : tagg Try.prog 190 = some true := by kernel_rfl
theorem fo190_0 : fieldOff Try.prog 190 0 = some (12, 0) := by kernel_rfl
theorem fo190_1 : fieldOff Try.prog 190 1 = some (12, 1) := by kernel_rfl
theorem fo190_2 : fieldOff Try.prog 190 2 = some (183, 2) := by kernel_rfl
theorem fo190_3 : fieldOff Try.prog 190 3 = some (184, 3) := by kernel_rfl
theorem fo190_4 : fieldOff Try.prog 190 4 = some (5, 4) := by kernel_rfl
theorem fo190_5 : fieldOff Try.prog 190 5 = some (5, 5) := by kernel_rfl
theorem fo190_6 : fieldOff Try.prog 190 6 = some (185, 6) := by kernel_rfl
theorem fo190_7 : fieldOff Try.prog 190 7 = some (186, 7) := by kernel_rfl
theorem fo190_8 : fieldOff Try.prog 190 8 = some (139, 8) := by kernel_rfl
theorem fo190_9 : fieldOff Try.prog 190 9 = some (187, 9) := by kernel_rfl
theorem fo190_10 : fieldOff Try.prog 190 10 = some (188, 10) := by kernel_rfl
attribute [go_sem] ti2 ts2 ta2 ti3 ts3 ta3 ti4 ts4 ta4 ti5 ts5 ta5 ti6 ts6 ta6 ti7 ts7 ta7 fo7_0 fo7_1 fo7_2 fo7_3 ti8 ts8 ta8 fo8_0 fo8_1 fo8_2 fo8_3 ti9 ts9 ta9 un9 ti10 ts10 ta10 un10 ti11 ts11 ta11 un11 ti12 ts12 ta12 ti13 ts13 ta13 fo13_0 fo13_1 ti14 ts14 ta14 fo14_0 fo14_1 ti15 ts15 ta15 ti16 ts16 ta16 ti17 ts17 ta17 ti18 ts18 ta18 fo18_0 ti19 ts19 ta19 fo19_0 ti20 ts20 ta20 ti21 ts21 ta21 ti23 ts23 ta23 fo23_0 fo23_1 fo23_2 fo23_3 ti24 ts24 ta24 fo24_0 fo24_1 fo24_2 fo24_3 ti27 ts27 ta27 fo27_0 fo27_1 fo27_2 fo27_3 ti30 ts30 ta30 un30 es30 ti33 ts33 ta33 un33 es33 ti37 ts37 ta37 un37 es37 ti38 ts38 ta38 fo38_0 ti39 ts39 ta39 fo39_0 ti41 ts41 ta41 un41 es41 ti42 ts42 ta42 fo42_0 ti43 ts43 ta43 fo43_0 ti55 ts55 ta55 un55 es55 ti61 ts61 ta61 un61 es61 ti65 ts65 ta65 un65 es65 ti66 ts66 ta66 fo66_0 ti67 ts67 ta67 fo67_0 ti74 ts74 ta74 fo74_0 fo74_1 fo74_2 ti75 ts75 ta75 fo75_0 fo75_1 fo75_2 ti76 ts76 ta76 fo76_0 fo76_1 fo76_2 ti78 ts78 ta78 ti79 ts79 ta79 fo79_0 fo79_1 ti80 ts80 ta80 fo80_0 fo80_1 ti81 ts81 ta81 ti82 ts82 ta82 ti90 ts90 ta90 ti91 ts91 ta91 ti92 ts92 ta92 un92 es92 ti96 ts96 ta96 ti98 ts98 ta98 fo98_0 fo98_1 ti99 ts99 ta99 fo99_0 fo99_1 ti101 ts101 ta101 ti106 ts106 ta106 ti107 ts107 ta107 ti108 ts108 ta108 fo108_0 fo108_1 ti109 ts109 ta109 fo109_0 fo109_1 ti114 ts114 ta114 un114 es114 ti119 ts119 ta119 ti129 ts129 ta129 ti130 ts130 ta130 ti132 ts132 ta132 ti139 ts139 ta139 ti143 ts143 ta143 fo143_0 fo143_1 ti144 ts144 ta144 fo144_0 fo144_1 ti147 ts147 ta147 fo147_0 fo147_1 fo147_2 fo147_3 ti148 ts148 ta148 fo148_0 fo148_1 fo148_2 fo148_3 ti151 ts151 ta151 ti152 ts152 ta152 ti153 ts153 ta153 fo153_0 fo153_1 fo153_2 fo153_3 fo153_4 ti154 ts154 ta154 fo154_0 fo154_1 fo154_2 fo154_3 fo154_4 ti156 ts156 ta156 fo156_0 fo156_1 fo156_2 fo156_3 ti157 ts157 ta157 fo157_0 fo157_1 fo157_2 fo157_3 ti160 ts160 ta160 ti161 ts161 ta161 ti174 ts174 ta174 fo174_0 ti175 ts175 ta175 fo175_0 ti176 ts176 ta176 fo176_0 fo176_1 ti177 ts177 ta177 fo177_0 fo177_1 ti178 ts178 ta178 fo178_0 fo178_1 fo178_2 fo178_3 ti179 ts179 ta179 fo179_0 fo179_1 fo179_2 fo179_3 ti181 ts181 ta181 fo181_0 ti182 ts182 ta182 fo182_0 ti183 ts183 ta183 ti184 ts184 ta184 ti185 ts185 ta185 ti187 ts187 ta187 ti188 ts188 ta188 ti189 ts189 ta189 fo189_0 fo189_1 fo189_2 fo189_3 fo189_4 fo189_5 fo189_6 fo189_7 fo189_8 fo189_9 fo189_10 ti190 ts190 ta190 fo190_0 fo190_1 fo190_2 fo190_3 fo190_4 fo190_5 fo190_6 fo190_7 fo190_8 fo190_9 fo190_10
end Go.Proofs.Ythhgckbfmpkipaa.V
