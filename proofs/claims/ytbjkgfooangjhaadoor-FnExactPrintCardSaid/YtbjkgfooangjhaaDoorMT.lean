import Derived.Test.YtbjkgfooangjhaaDoorMB
import Derived.Test.YtbjkgfooangjhaaDoorProg
import Derived.KernelRfl
/- Sizes, bytes and zero values of this program's types: closed facts. -/
namespace Go.Proofs.YtbjkgfooangjhaaDoor.V
theorem ti2 : tinfo Tryd.prog 2 = some ((.int .i64 0), 1, 8) := by kernel_rfl
theorem ts2 : tsz Tryd.prog 2 = some 1 := by kernel_rfl
theorem ta2 : tagg Tryd.prog 2 = some false := by kernel_rfl
theorem ti3 : tinfo Tryd.prog 3 = some ((.int .i64 0), 1, 8) := by kernel_rfl
theorem ts3 : tsz Tryd.prog 3 = some 1 := by kernel_rfl
theorem ta3 : tagg Tryd.prog 3 = some false := by kernel_rfl
theorem ti4 : tinfo Tryd.prog 4 = some ((.bool false), 1, 1) := by kernel_rfl
theorem ts4 : tsz Tryd.prog 4 = some 1 := by kernel_rfl
theorem ta4 : tagg Tryd.prog 4 = some false := by kernel_rfl
theorem ti5 : tinfo Tryd.prog 5 = some ((.int .u8 0), 1, 1) := by kernel_rfl
theorem ts5 : tsz Tryd.prog 5 = some 1 := by kernel_rfl
theorem ta5 : tagg Tryd.prog 5 = some false := by kernel_rfl
theorem ti6 : tinfo Tryd.prog 6 = some ((.int .u8 0), 1, 1) := by kernel_rfl
theorem ts6 : tsz Tryd.prog 6 = some 1 := by kernel_rfl
theorem ta6 : tagg Tryd.prog 6 = some false := by kernel_rfl
theorem ti7 : tinfo Tryd.prog 7 = some ((.agg #[(.int .i64 0), (.int .i64 0), (.bool false), (.int .u8 0)]), 4, 24) := by kernel_rfl
theorem ts7 : tsz Tryd.prog 7 = some 4 := by kernel_rfl
theorem ta7 : tagg Tryd.prog 7 = some true := by kernel_rfl
theorem if7 : ifaceT Tryd.prog 7 = some false := by kernel_rfl
theorem fo7_0 : fieldOff Tryd.prog 7 0 = some (2, 0) := by kernel_rfl
theorem fo7_1 : fieldOff Tryd.prog 7 1 = some (3, 1) := by kernel_rfl
theorem fo7_2 : fieldOff Tryd.prog 7 2 = some (4, 2) := by kernel_rfl
theorem fo7_3 : fieldOff Tryd.prog 7 3 = some (6, 3) := by kernel_rfl
theorem ti8 : tinfo Tryd.prog 8 = some ((.agg #[(.int .i64 0), (.int .i64 0), (.bool false), (.int .u8 0)]), 4, 24) := by kernel_rfl
theorem ts8 : tsz Tryd.prog 8 = some 4 := by kernel_rfl
theorem ta8 : tagg Tryd.prog 8 = some true := by kernel_rfl
theorem if8 : ifaceT Tryd.prog 8 = some false := by kernel_rfl
theorem fo8_0 : fieldOff Tryd.prog 8 0 = some (2, 0) := by kernel_rfl
theorem fo8_1 : fieldOff Tryd.prog 8 1 = some (3, 1) := by kernel_rfl
theorem fo8_2 : fieldOff Tryd.prog 8 2 = some (4, 2) := by kernel_rfl
theorem fo8_3 : fieldOff Tryd.prog 8 3 = some (6, 3) := by kernel_rfl
theorem ti9 : tinfo Tryd.prog 9 = some ((.string ⟨#[]⟩), 1, 16) := by kernel_rfl
theorem ts9 : tsz Tryd.prog 9 = some 1 := by kernel_rfl
theorem ta9 : tagg Tryd.prog 9 = some false := by kernel_rfl
theorem im9 : isMapT Tryd.prog 9 = false := by kernel_rfl
theorem un9 : Tryd.prog.underlying 9 = some .string := by kernel_rfl
theorem ti10 : tinfo Tryd.prog 10 = some ((.string ⟨#[]⟩), 1, 16) := by kernel_rfl
theorem ts10 : tsz Tryd.prog 10 = some 1 := by kernel_rfl
theorem ta10 : tagg Tryd.prog 10 = some false := by kernel_rfl
theorem im10 : isMapT Tryd.prog 10 = false := by kernel_rfl
theorem un10 : Tryd.prog.underlying 10 = some .string := by kernel_rfl
theorem ti11 : tinfo Tryd.prog 11 = some ((.string ⟨#[]⟩), 1, 16) := by kernel_rfl
theorem ts11 : tsz Tryd.prog 11 = some 1 := by kernel_rfl
theorem ta11 : tagg Tryd.prog 11 = some false := by kernel_rfl
theorem im11 : isMapT Tryd.prog 11 = false := by kernel_rfl
theorem un11 : Tryd.prog.underlying 11 = some .string := by kernel_rfl
theorem ti12 : tinfo Tryd.prog 12 = some ((.int .u64 0), 1, 8) := by kernel_rfl
theorem ts12 : tsz Tryd.prog 12 = some 1 := by kernel_rfl
theorem ta12 : tagg Tryd.prog 12 = some false := by kernel_rfl
theorem ti13 : tinfo Tryd.prog 13 = some ((.agg #[(.string ⟨#[]⟩), (.int .u64 0)]), 2, 24) := by kernel_rfl
theorem ts13 : tsz Tryd.prog 13 = some 2 := by kernel_rfl
theorem ta13 : tagg Tryd.prog 13 = some true := by kernel_rfl
theorem if13 : ifaceT Tryd.prog 13 = some false := by kernel_rfl
theorem fo13_0 : fieldOff Tryd.prog 13 0 = some (9, 0) := by kernel_rfl
theorem fo13_1 : fieldOff Tryd.prog 13 1 = some (12, 1) := by kernel_rfl
theorem ti14 : tinfo Tryd.prog 14 = some ((.agg #[(.string ⟨#[]⟩), (.int .u64 0)]), 2, 24) := by kernel_rfl
theorem ts14 : tsz Tryd.prog 14 = some 2 := by kernel_rfl
theorem ta14 : tagg Tryd.prog 14 = some true := by kernel_rfl
theorem if14 : ifaceT Tryd.prog 14 = some false := by kernel_rfl
theorem fo14_0 : fieldOff Tryd.prog 14 0 = some (9, 0) := by kernel_rfl
theorem fo14_1 : fieldOff Tryd.prog 14 1 = some (12, 1) := by kernel_rfl
theorem ti15 : tinfo Tryd.prog 15 = some ((.pointer none), 1, 8) := by kernel_rfl
theorem ts15 : tsz Tryd.prog 15 = some 1 := by kernel_rfl
theorem ta15 : tagg Tryd.prog 15 = some false := by kernel_rfl
theorem un15 : Tryd.prog.underlying 15 = some (.pointer 163) := by kernel_rfl
theorem ip15 : isPtrT Tryd.prog 15 = true := by kernel_rfl
theorem ti16 : tinfo Tryd.prog 16 = some ((.pointer none), 1, 8) := by kernel_rfl
theorem ts16 : tsz Tryd.prog 16 = some 1 := by kernel_rfl
theorem ta16 : tagg Tryd.prog 16 = some false := by kernel_rfl
theorem un16 : Tryd.prog.underlying 16 = some (.pointer 166) := by kernel_rfl
theorem ip16 : isPtrT Tryd.prog 16 = true := by kernel_rfl
theorem ti17 : tinfo Tryd.prog 17 = some ((.pointer none), 1, 8) := by kernel_rfl
theorem ts17 : tsz Tryd.prog 17 = some 1 := by kernel_rfl
theorem ta17 : tagg Tryd.prog 17 = some false := by kernel_rfl
theorem un17 : Tryd.prog.underlying 17 = some (.pointer 174) := by kernel_rfl
theorem ip17 : isPtrT Tryd.prog 17 = true := by kernel_rfl
theorem ti18 : tinfo Tryd.prog 18 = some ((.agg #[(.pointer none)]), 1, 8) := by kernel_rfl
theorem ts18 : tsz Tryd.prog 18 = some 1 := by kernel_rfl
theorem ta18 : tagg Tryd.prog 18 = some true := by kernel_rfl
theorem if18 : ifaceT Tryd.prog 18 = some false := by kernel_rfl
theorem fo18_0 : fieldOff Tryd.prog 18 0 = some (17, 0) := by kernel_rfl
theorem ti19 : tinfo Tryd.prog 19 = some ((.agg #[(.pointer none)]), 1, 8) := by kernel_rfl
theorem ts19 : tsz Tryd.prog 19 = some 1 := by kernel_rfl
theorem ta19 : tagg Tryd.prog 19 = some true := by kernel_rfl
theorem if19 : ifaceT Tryd.prog 19 = some false := by kernel_rfl
theorem fo19_0 : fieldOff Tryd.prog 19 0 = some (17, 0) := by kernel_rfl
theorem ti20 : tinfo Tryd.prog 20 = some (.nilIface, 1, 16) := by kernel_rfl
theorem ts20 : tsz Tryd.prog 20 = some 1 := by kernel_rfl
theorem ta20 : tagg Tryd.prog 20 = some false := by kernel_rfl
theorem ti21 : tinfo Tryd.prog 21 = some ((.int .i32 0), 1, 4) := by kernel_rfl
theorem ts21 : tsz Tryd.prog 21 = some 1 := by kernel_rfl
theorem ta21 : tagg Tryd.prog 21 = some false := by kernel_rfl
theorem ti22 : tinfo Tryd.prog 22 = some ((.slice none 0 0), 1, 24) := by kernel_rfl
theorem ts22 : tsz Tryd.prog 22 = some 1 := by kernel_rfl
theorem ta22 : tagg Tryd.prog 22 = some false := by kernel_rfl
theorem un22 : Tryd.prog.underlying 22 = some (.slice 100) := by kernel_rfl
theorem es22 : esz Tryd.prog 22 = some 4 := by kernel_rfl
theorem im22 : isMapT Tryd.prog 22 = false := by kernel_rfl
theorem ti23 : tinfo Tryd.prog 23 = some ((.agg #[(.slice none 0 0)]), 1, 24) := by kernel_rfl
theorem ts23 : tsz Tryd.prog 23 = some 1 := by kernel_rfl
theorem ta23 : tagg Tryd.prog 23 = some true := by kernel_rfl
theorem if23 : ifaceT Tryd.prog 23 = some false := by kernel_rfl
theorem fo23_0 : fieldOff Tryd.prog 23 0 = some (22, 0) := by kernel_rfl
theorem ti24 : tinfo Tryd.prog 24 = some ((.agg #[(.slice none 0 0)]), 1, 24) := by kernel_rfl
theorem ts24 : tsz Tryd.prog 24 = some 1 := by kernel_rfl
theorem ta24 : tagg Tryd.prog 24 = some true := by kernel_rfl
theorem if24 : ifaceT Tryd.prog 24 = some false := by kernel_rfl
theorem fo24_0 : fieldOff Tryd.prog 24 0 = some (22, 0) := by kernel_rfl
theorem ti26 : tinfo Tryd.prog 26 = some ((.slice none 0 0), 1, 24) := by kernel_rfl
theorem ts26 : tsz Tryd.prog 26 = some 1 := by kernel_rfl
theorem ta26 : tagg Tryd.prog 26 = some false := by kernel_rfl
theorem un26 : Tryd.prog.underlying 26 = some (.slice 56) := by kernel_rfl
theorem es26 : esz Tryd.prog 26 = some 4 := by kernel_rfl
theorem im26 : isMapT Tryd.prog 26 = false := by kernel_rfl
theorem ti27 : tinfo Tryd.prog 27 = some ((.agg #[(.slice none 0 0)]), 1, 24) := by kernel_rfl
theorem ts27 : tsz Tryd.prog 27 = some 1 := by kernel_rfl
theorem ta27 : tagg Tryd.prog 27 = some true := by kernel_rfl
theorem if27 : ifaceT Tryd.prog 27 = some false := by kernel_rfl
theorem fo27_0 : fieldOff Tryd.prog 27 0 = some (26, 0) := by kernel_rfl
theorem ti28 : tinfo Tryd.prog 28 = some ((.agg #[(.slice none 0 0)]), 1, 24) := by kernel_rfl
theorem ts28 : tsz Tryd.prog 28 = some 1 := by kernel_rfl
theorem ta28 : tagg Tryd.prog 28 = some true := by kernel_rfl
theorem if28 : ifaceT Tryd.prog 28 = some false := by kernel_rfl
theorem fo28_0 : fieldOff Tryd.prog 28 0 = some (26, 0) := by kernel_rfl
theorem ti35 : tinfo Tryd.prog 35 = some ((.slice none 0 0), 1, 24) := by kernel_rfl
theorem ts35 : tsz Tryd.prog 35 = some 1 := by kernel_rfl
theorem ta35 : tagg Tryd.prog 35 = some false := by kernel_rfl
theorem un35 : Tryd.prog.underlying 35 = some (.slice 108) := by kernel_rfl
theorem es35 : esz Tryd.prog 35 = some 4 := by kernel_rfl
theorem im35 : isMapT Tryd.prog 35 = false := by kernel_rfl
theorem ti36 : tinfo Tryd.prog 36 = some ((.agg #[(.slice none 0 0)]), 1, 24) := by kernel_rfl
theorem ts36 : tsz Tryd.prog 36 = some 1 := by kernel_rfl
theorem ta36 : tagg Tryd.prog 36 = some true := by kernel_rfl
theorem if36 : ifaceT Tryd.prog 36 = some false := by kernel_rfl
theorem fo36_0 : fieldOff Tryd.prog 36 0 = some (35, 0) := by kernel_rfl
theorem ti37 : tinfo Tryd.prog 37 = some ((.agg #[(.slice none 0 0)]), 1, 24) := by kernel_rfl
theorem ts37 : tsz Tryd.prog 37 = some 1 := by kernel_rfl
theorem ta37 : tagg Tryd.prog 37 = some true := by kernel_rfl
theorem if37 : ifaceT Tryd.prog 37 = some false := by kernel_rfl
theorem fo37_0 : fieldOff Tryd.prog 37 0 = some (35, 0) := by kernel_rfl
theorem ti40 : tinfo Tryd.prog 40 = some ((.slice none 0 0), 1, 24) := by kernel_rfl
theorem ts40 : tsz Tryd.prog 40 = some 1 := by kernel_rfl
theorem ta40 : tagg Tryd.prog 40 = some false := by kernel_rfl
theorem un40 : Tryd.prog.underlying 40 = some (.slice 110) := by kernel_rfl
theorem es40 : esz Tryd.prog 40 = some 4 := by kernel_rfl
theorem im40 : isMapT Tryd.prog 40 = false := by kernel_rfl
theorem ti41 : tinfo Tryd.prog 41 = some ((.agg #[(.slice none 0 0)]), 1, 24) := by kernel_rfl
theorem ts41 : tsz Tryd.prog 41 = some 1 := by kernel_rfl
theorem ta41 : tagg Tryd.prog 41 = some true := by kernel_rfl
theorem if41 : ifaceT Tryd.prog 41 = some false := by kernel_rfl
theorem fo41_0 : fieldOff Tryd.prog 41 0 = some (40, 0) := by kernel_rfl
theorem ti42 : tinfo Tryd.prog 42 = some ((.agg #[(.slice none 0 0)]), 1, 24) := by kernel_rfl
theorem ts42 : tsz Tryd.prog 42 = some 1 := by kernel_rfl
theorem ta42 : tagg Tryd.prog 42 = some true := by kernel_rfl
theorem if42 : ifaceT Tryd.prog 42 = some false := by kernel_rfl
theorem fo42_0 : fieldOff Tryd.prog 42 0 = some (40, 0) := by kernel_rfl
theorem ti54 : tinfo Tryd.prog 54 = some ((.slice none 0 0), 1, 24) := by kernel_rfl
theorem ts54 : tsz Tryd.prog 54 = some 1 := by kernel_rfl
theorem ta54 : tagg Tryd.prog 54 = some false := by kernel_rfl
theorem un54 : Tryd.prog.underlying 54 = some (.slice 3) := by kernel_rfl
theorem es54 : esz Tryd.prog 54 = some 1 := by kernel_rfl
theorem im54 : isMapT Tryd.prog 54 = false := by kernel_rfl
theorem ti55 : tinfo Tryd.prog 55 = some ((.agg #[(.int .i64 0), (.string ⟨#[]⟩), (.int .i64 0), (.int .i64 0)]), 4, 40) := by kernel_rfl
theorem ts55 : tsz Tryd.prog 55 = some 4 := by kernel_rfl
theorem ta55 : tagg Tryd.prog 55 = some true := by kernel_rfl
theorem if55 : ifaceT Tryd.prog 55 = some false := by kernel_rfl
theorem fo55_0 : fieldOff Tryd.prog 55 0 = some (3, 0) := by kernel_rfl
theorem fo55_1 : fieldOff Tryd.prog 55 1 = some (9, 1) := by kernel_rfl
theorem fo55_2 : fieldOff Tryd.prog 55 2 = some (3, 2) := by kernel_rfl
theorem fo55_3 : fieldOff Tryd.prog 55 3 = some (3, 3) := by kernel_rfl
theorem ti56 : tinfo Tryd.prog 56 = some ((.agg #[(.int .i64 0), (.string ⟨#[]⟩), (.int .i64 0), (.int .i64 0)]), 4, 40) := by kernel_rfl
theorem ts56 : tsz Tryd.prog 56 = some 4 := by kernel_rfl
theorem ta56 : tagg Tryd.prog 56 = some true := by kernel_rfl
theorem if56 : ifaceT Tryd.prog 56 = some false := by kernel_rfl
theorem fo56_0 : fieldOff Tryd.prog 56 0 = some (3, 0) := by kernel_rfl
theorem fo56_1 : fieldOff Tryd.prog 56 1 = some (9, 1) := by kernel_rfl
theorem fo56_2 : fieldOff Tryd.prog 56 2 = some (3, 2) := by kernel_rfl
theorem fo56_3 : fieldOff Tryd.prog 56 3 = some (3, 3) := by kernel_rfl
theorem ti65 : tinfo Tryd.prog 65 = some ((.map none), 1, 8) := by kernel_rfl
theorem ts65 : tsz Tryd.prog 65 = some 1 := by kernel_rfl
theorem ta65 : tagg Tryd.prog 65 = some false := by kernel_rfl
theorem un65 : Tryd.prog.underlying 65 = some (.map 120 110) := by kernel_rfl
theorem im65 : isMapT Tryd.prog 65 = true := by kernel_rfl
theorem ti66 : tinfo Tryd.prog 66 = some ((.map none), 1, 8) := by kernel_rfl
theorem ts66 : tsz Tryd.prog 66 = some 1 := by kernel_rfl
theorem ta66 : tagg Tryd.prog 66 = some false := by kernel_rfl
theorem un66 : Tryd.prog.underlying 66 = some (.map 9 3) := by kernel_rfl
theorem im66 : isMapT Tryd.prog 66 = true := by kernel_rfl
theorem ti67 : tinfo Tryd.prog 67 = some ((.agg #[(.map none), (.map none)]), 2, 16) := by kernel_rfl
theorem ts67 : tsz Tryd.prog 67 = some 2 := by kernel_rfl
theorem ta67 : tagg Tryd.prog 67 = some true := by kernel_rfl
theorem if67 : ifaceT Tryd.prog 67 = some false := by kernel_rfl
theorem fo67_0 : fieldOff Tryd.prog 67 0 = some (65, 0) := by kernel_rfl
theorem fo67_1 : fieldOff Tryd.prog 67 1 = some (66, 1) := by kernel_rfl
theorem ti68 : tinfo Tryd.prog 68 = some ((.agg #[(.map none), (.map none)]), 2, 16) := by kernel_rfl
theorem ts68 : tsz Tryd.prog 68 = some 2 := by kernel_rfl
theorem ta68 : tagg Tryd.prog 68 = some true := by kernel_rfl
theorem if68 : ifaceT Tryd.prog 68 = some false := by kernel_rfl
theorem mo68_front : methOf Tryd.prog 68 "loop.example/s0059/impl.front" = some 126 := by kernel_rfl
theorem mo68_leasts : methOf Tryd.prog 68 "loop.example/s0059/impl.leasts" = some 41 := by kernel_rfl
theorem mo68_levels : methOf Tryd.prog 68 "loop.example/s0059/impl.levels" = some 40 := by kernel_rfl
theorem mo68_of : methOf Tryd.prog 68 "loop.example/s0059/impl.of" = some 71 := by kernel_rfl
theorem mo68_partsOf : methOf Tryd.prog 68 "loop.example/s0059/impl.partsOf" = some 74 := by kernel_rfl
theorem fo68_0 : fieldOff Tryd.prog 68 0 = some (65, 0) := by kernel_rfl
theorem fo68_1 : fieldOff Tryd.prog 68 1 = some (66, 1) := by kernel_rfl
theorem ti76 : tinfo Tryd.prog 76 = some ((.pointer none), 1, 8) := by kernel_rfl
theorem ts76 : tsz Tryd.prog 76 = some 1 := by kernel_rfl
theorem ta76 : tagg Tryd.prog 76 = some false := by kernel_rfl
theorem un76 : Tryd.prog.underlying 76 = some (.pointer 81) := by kernel_rfl
theorem ip76 : isPtrT Tryd.prog 76 = true := by kernel_rfl
theorem ti79 : tinfo Tryd.prog 79 = some ((.slice none 0 0), 1, 24) := by kernel_rfl
theorem ts79 : tsz Tryd.prog 79 = some 1 := by kernel_rfl
theorem ta79 : tagg Tryd.prog 79 = some false := by kernel_rfl
theorem un79 : Tryd.prog.underlying 79 = some (.slice 92) := by kernel_rfl
theorem es79 : esz Tryd.prog 79 = some 3 := by kernel_rfl
theorem im79 : isMapT Tryd.prog 79 = false := by kernel_rfl
theorem ti80 : tinfo Tryd.prog 80 = some ((.agg #[(.map none), (.map none), (.slice none 0 0), (.slice none 0 0)]), 4, 64) := by kernel_rfl
theorem ts80 : tsz Tryd.prog 80 = some 4 := by kernel_rfl
theorem ta80 : tagg Tryd.prog 80 = some true := by kernel_rfl
theorem if80 : ifaceT Tryd.prog 80 = some false := by kernel_rfl
theorem fo80_0 : fieldOff Tryd.prog 80 0 = some (68, 0) := by kernel_rfl
theorem fo80_1 : fieldOff Tryd.prog 80 1 = some (26, 2) := by kernel_rfl
theorem fo80_2 : fieldOff Tryd.prog 80 2 = some (79, 3) := by kernel_rfl
theorem ti81 : tinfo Tryd.prog 81 = some ((.agg #[(.map none), (.map none), (.slice none 0 0), (.slice none 0 0)]), 4, 64) := by kernel_rfl
theorem ts81 : tsz Tryd.prog 81 = some 4 := by kernel_rfl
theorem ta81 : tagg Tryd.prog 81 = some true := by kernel_rfl
theorem if81 : ifaceT Tryd.prog 81 = some false := by kernel_rfl
theorem fo81_0 : fieldOff Tryd.prog 81 0 = some (68, 0) := by kernel_rfl
theorem fo81_1 : fieldOff Tryd.prog 81 1 = some (26, 2) := by kernel_rfl
theorem fo81_2 : fieldOff Tryd.prog 81 2 = some (79, 3) := by kernel_rfl
theorem ti83 : tinfo Tryd.prog 83 = some ((.slice none 0 0), 1, 24) := by kernel_rfl
theorem ts83 : tsz Tryd.prog 83 = some 1 := by kernel_rfl
theorem ta83 : tagg Tryd.prog 83 = some false := by kernel_rfl
theorem un83 : Tryd.prog.underlying 83 = some (.slice 87) := by kernel_rfl
theorem es83 : esz Tryd.prog 83 = some 3 := by kernel_rfl
theorem im83 : isMapT Tryd.prog 83 = false := by kernel_rfl
theorem ti85 : tinfo Tryd.prog 85 = some ((.slice none 0 0), 1, 24) := by kernel_rfl
theorem ts85 : tsz Tryd.prog 85 = some 1 := by kernel_rfl
theorem ta85 : tagg Tryd.prog 85 = some false := by kernel_rfl
theorem un85 : Tryd.prog.underlying 85 = some (.slice 5) := by kernel_rfl
theorem es85 : esz Tryd.prog 85 = some 1 := by kernel_rfl
theorem im85 : isMapT Tryd.prog 85 = false := by kernel_rfl
theorem ti86 : tinfo Tryd.prog 86 = some ((.agg #[(.string ⟨#[]⟩), (.bool false), (.bool false)]), 3, 24) := by kernel_rfl
theorem ts86 : tsz Tryd.prog 86 = some 3 := by kernel_rfl
theorem ta86 : tagg Tryd.prog 86 = some true := by kernel_rfl
theorem if86 : ifaceT Tryd.prog 86 = some false := by kernel_rfl
theorem fo86_0 : fieldOff Tryd.prog 86 0 = some (9, 0) := by kernel_rfl
theorem fo86_1 : fieldOff Tryd.prog 86 1 = some (4, 1) := by kernel_rfl
theorem fo86_2 : fieldOff Tryd.prog 86 2 = some (4, 2) := by kernel_rfl
theorem ti87 : tinfo Tryd.prog 87 = some ((.agg #[(.string ⟨#[]⟩), (.bool false), (.bool false)]), 3, 24) := by kernel_rfl
theorem ts87 : tsz Tryd.prog 87 = some 3 := by kernel_rfl
theorem ta87 : tagg Tryd.prog 87 = some true := by kernel_rfl
theorem if87 : ifaceT Tryd.prog 87 = some false := by kernel_rfl
theorem fo87_0 : fieldOff Tryd.prog 87 0 = some (9, 0) := by kernel_rfl
theorem fo87_1 : fieldOff Tryd.prog 87 1 = some (4, 1) := by kernel_rfl
theorem fo87_2 : fieldOff Tryd.prog 87 2 = some (4, 2) := by kernel_rfl
theorem ti88 : tinfo Tryd.prog 88 = some ((.pointer none), 1, 8) := by kernel_rfl
theorem ts88 : tsz Tryd.prog 88 = some 1 := by kernel_rfl
theorem ta88 : tagg Tryd.prog 88 = some false := by kernel_rfl
theorem un88 : Tryd.prog.underlying 88 = some (.pointer 90) := by kernel_rfl
theorem ip88 : isPtrT Tryd.prog 88 = true := by kernel_rfl
theorem ti89 : tinfo Tryd.prog 89 = some ((.agg #[(.pointer none), (.slice none 0 0)]), 2, 32) := by kernel_rfl
theorem ts89 : tsz Tryd.prog 89 = some 2 := by kernel_rfl
theorem ta89 : tagg Tryd.prog 89 = some true := by kernel_rfl
theorem if89 : ifaceT Tryd.prog 89 = some false := by kernel_rfl
theorem fo89_0 : fieldOff Tryd.prog 89 0 = some (88, 0) := by kernel_rfl
theorem fo89_1 : fieldOff Tryd.prog 89 1 = some (85, 1) := by kernel_rfl
theorem ti90 : tinfo Tryd.prog 90 = some ((.agg #[(.pointer none), (.slice none 0 0)]), 2, 32) := by kernel_rfl
theorem ts90 : tsz Tryd.prog 90 = some 2 := by kernel_rfl
theorem ta90 : tagg Tryd.prog 90 = some true := by kernel_rfl
theorem if90 : ifaceT Tryd.prog 90 = some false := by kernel_rfl
theorem fo90_0 : fieldOff Tryd.prog 90 0 = some (88, 0) := by kernel_rfl
theorem fo90_1 : fieldOff Tryd.prog 90 1 = some (85, 1) := by kernel_rfl
theorem ti91 : tinfo Tryd.prog 91 = some ((.agg #[(.string ⟨#[]⟩), (.bool false), (.bool false)]), 3, 24) := by kernel_rfl
theorem ts91 : tsz Tryd.prog 91 = some 3 := by kernel_rfl
theorem ta91 : tagg Tryd.prog 91 = some true := by kernel_rfl
theorem if91 : ifaceT Tryd.prog 91 = some false := by kernel_rfl
theorem fo91_0 : fieldOff Tryd.prog 91 0 = some (9, 0) := by kernel_rfl
theorem fo91_1 : fieldOff Tryd.prog 91 1 = some (4, 1) := by kernel_rfl
theorem fo91_2 : fieldOff Tryd.prog 91 2 = some (4, 2) := by kernel_rfl
theorem ti92 : tinfo Tryd.prog 92 = some ((.agg #[(.string ⟨#[]⟩), (.bool false), (.bool false)]), 3, 24) := by kernel_rfl
theorem ts92 : tsz Tryd.prog 92 = some 3 := by kernel_rfl
theorem ta92 : tagg Tryd.prog 92 = some true := by kernel_rfl
theorem if92 : ifaceT Tryd.prog 92 = some false := by kernel_rfl
theorem fo92_0 : fieldOff Tryd.prog 92 0 = some (9, 0) := by kernel_rfl
theorem fo92_1 : fieldOff Tryd.prog 92 1 = some (4, 1) := by kernel_rfl
theorem fo92_2 : fieldOff Tryd.prog 92 2 = some (4, 2) := by kernel_rfl
theorem ti93 : tinfo Tryd.prog 93 = some (.nilIface, 1, 16) := by kernel_rfl
theorem ts93 : tsz Tryd.prog 93 = some 1 := by kernel_rfl
theorem ta93 : tagg Tryd.prog 93 = some false := by kernel_rfl
theorem ti94 : tinfo Tryd.prog 94 = some (.nilIface, 1, 16) := by kernel_rfl
theorem ts94 : tsz Tryd.prog 94 = some 1 := by kernel_rfl
theorem ta94 : tagg Tryd.prog 94 = some false := by kernel_rfl
theorem ti100 : tinfo Tryd.prog 100 = some ((.agg #[(.int .i64 0), (.string ⟨#[]⟩), (.int .i64 0), (.int .i64 0)]), 4, 40) := by kernel_rfl
theorem ts100 : tsz Tryd.prog 100 = some 4 := by kernel_rfl
theorem ta100 : tagg Tryd.prog 100 = some true := by kernel_rfl
theorem if100 : ifaceT Tryd.prog 100 = some false := by kernel_rfl
theorem fo100_0 : fieldOff Tryd.prog 100 0 = some (3, 0) := by kernel_rfl
theorem fo100_1 : fieldOff Tryd.prog 100 1 = some (9, 1) := by kernel_rfl
theorem fo100_2 : fieldOff Tryd.prog 100 2 = some (3, 2) := by kernel_rfl
theorem fo100_3 : fieldOff Tryd.prog 100 3 = some (3, 3) := by kernel_rfl
theorem ti107 : tinfo Tryd.prog 107 = some ((.agg #[(.string ⟨#[]⟩), (.int .i64 0), (.int .i64 0), (.int .i64 0)]), 4, 40) := by kernel_rfl
theorem ts107 : tsz Tryd.prog 107 = some 4 := by kernel_rfl
theorem ta107 : tagg Tryd.prog 107 = some true := by kernel_rfl
theorem if107 : ifaceT Tryd.prog 107 = some false := by kernel_rfl
theorem fo107_0 : fieldOff Tryd.prog 107 0 = some (9, 0) := by kernel_rfl
theorem fo107_1 : fieldOff Tryd.prog 107 1 = some (3, 1) := by kernel_rfl
theorem fo107_2 : fieldOff Tryd.prog 107 2 = some (3, 2) := by kernel_rfl
theorem fo107_3 : fieldOff Tryd.prog 107 3 = some (3, 3) := by kernel_rfl
theorem ti108 : tinfo Tryd.prog 108 = some ((.agg #[(.string ⟨#[]⟩), (.int .i64 0), (.int .i64 0), (.int .i64 0)]), 4, 40) := by kernel_rfl
theorem ts108 : tsz Tryd.prog 108 = some 4 := by kernel_rfl
theorem ta108 : tagg Tryd.prog 108 = some true := by kernel_rfl
theorem if108 : ifaceT Tryd.prog 108 = some false := by kernel_rfl
theorem fo108_0 : fieldOff Tryd.prog 108 0 = some (9, 0) := by kernel_rfl
theorem fo108_1 : fieldOff Tryd.prog 108 1 = some (3, 1) := by kernel_rfl
theorem fo108_2 : fieldOff Tryd.prog 108 2 = some (3, 2) := by kernel_rfl
theorem fo108_3 : fieldOff Tryd.prog 108 3 = some (3, 3) := by kernel_rfl
theorem ti110 : tinfo Tryd.prog 110 = some ((.agg #[(.string ⟨#[]⟩), (.int .i64 0), (.int .i64 0), (.int .i64 0)]), 4, 40) := by kernel_rfl
theorem ts110 : tsz Tryd.prog 110 = some 4 := by kernel_rfl
theorem ta110 : tagg Tryd.prog 110 = some true := by kernel_rfl
theorem if110 : ifaceT Tryd.prog 110 = some false := by kernel_rfl
theorem fo110_0 : fieldOff Tryd.prog 110 0 = some (9, 0) := by kernel_rfl
theorem fo110_1 : fieldOff Tryd.prog 110 1 = some (3, 1) := by kernel_rfl
theorem fo110_2 : fieldOff Tryd.prog 110 2 = some (3, 2) := by kernel_rfl
theorem fo110_3 : fieldOff Tryd.prog 110 3 = some (3, 3) := by kernel_rfl
theorem ti117 : tinfo Tryd.prog 117 = some ((.map none), 1, 8) := by kernel_rfl
theorem ts117 : tsz Tryd.prog 117 = some 1 := by kernel_rfl
theorem ta117 : tagg Tryd.prog 117 = some false := by kernel_rfl
theorem un117 : Tryd.prog.underlying 117 = some (.map 120 3) := by kernel_rfl
theorem im117 : isMapT Tryd.prog 117 = true := by kernel_rfl
theorem ti119 : tinfo Tryd.prog 119 = some ((.agg #[(.string ⟨#[]⟩), (.bool false)]), 2, 24) := by kernel_rfl
theorem ts119 : tsz Tryd.prog 119 = some 2 := by kernel_rfl
theorem ta119 : tagg Tryd.prog 119 = some true := by kernel_rfl
theorem if119 : ifaceT Tryd.prog 119 = some false := by kernel_rfl
theorem fo119_0 : fieldOff Tryd.prog 119 0 = some (9, 0) := by kernel_rfl
theorem fo119_1 : fieldOff Tryd.prog 119 1 = some (4, 1) := by kernel_rfl
theorem ti120 : tinfo Tryd.prog 120 = some ((.agg #[(.string ⟨#[]⟩), (.bool false)]), 2, 24) := by kernel_rfl
theorem ts120 : tsz Tryd.prog 120 = some 2 := by kernel_rfl
theorem ta120 : tagg Tryd.prog 120 = some true := by kernel_rfl
theorem if120 : ifaceT Tryd.prog 120 = some false := by kernel_rfl
theorem fo120_0 : fieldOff Tryd.prog 120 0 = some (9, 0) := by kernel_rfl
theorem fo120_1 : fieldOff Tryd.prog 120 1 = some (4, 1) := by kernel_rfl
theorem ti122 : tinfo Tryd.prog 122 = some ((.map none), 1, 8) := by kernel_rfl
theorem ts122 : tsz Tryd.prog 122 = some 1 := by kernel_rfl
theorem ta122 : tagg Tryd.prog 122 = some false := by kernel_rfl
theorem un122 : Tryd.prog.underlying 122 = some (.map 3 3) := by kernel_rfl
theorem im122 : isMapT Tryd.prog 122 = true := by kernel_rfl
theorem ti127 : tinfo Tryd.prog 127 = some ((.slice none 0 0), 1, 24) := by kernel_rfl
theorem ts127 : tsz Tryd.prog 127 = some 1 := by kernel_rfl
theorem ta127 : tagg Tryd.prog 127 = some false := by kernel_rfl
theorem un127 : Tryd.prog.underlying 127 = some (.slice 131) := by kernel_rfl
theorem es127 : esz Tryd.prog 127 = some 1 := by kernel_rfl
theorem im127 : isMapT Tryd.prog 127 = false := by kernel_rfl
theorem ti130 : tinfo Tryd.prog 130 = some (.nilIface, 1, 16) := by kernel_rfl
theorem ts130 : tsz Tryd.prog 130 = some 1 := by kernel_rfl
theorem ta130 : tagg Tryd.prog 130 = some false := by kernel_rfl
theorem ti131 : tinfo Tryd.prog 131 = some (.nilIface, 1, 16) := by kernel_rfl
theorem ts131 : tsz Tryd.prog 131 = some 1 := by kernel_rfl
theorem ta131 : tagg Tryd.prog 131 = some false := by kernel_rfl
theorem ti132 : tinfo Tryd.prog 132 = some ((.pointer none), 1, 8) := by kernel_rfl
theorem ts132 : tsz Tryd.prog 132 = some 1 := by kernel_rfl
theorem ta132 : tagg Tryd.prog 132 = some false := by kernel_rfl
theorem un132 : Tryd.prog.underlying 132 = some (.pointer 5) := by kernel_rfl
theorem ip132 : isPtrT Tryd.prog 132 = true := by kernel_rfl
theorem ti135 : tinfo Tryd.prog 135 = some ((.agg #[(.int .i64 0), (.string ⟨#[]⟩), (.int .i64 0), (.int .i64 0)]), 4, 40) := by kernel_rfl
theorem ts135 : tsz Tryd.prog 135 = some 4 := by kernel_rfl
theorem ta135 : tagg Tryd.prog 135 = some true := by kernel_rfl
theorem if135 : ifaceT Tryd.prog 135 = some false := by kernel_rfl
theorem fo135_0 : fieldOff Tryd.prog 135 0 = some (56, 0) := by kernel_rfl
theorem ti136 : tinfo Tryd.prog 136 = some ((.agg #[(.int .i64 0), (.string ⟨#[]⟩), (.int .i64 0), (.int .i64 0)]), 4, 40) := by kernel_rfl
theorem ts136 : tsz Tryd.prog 136 = some 4 := by kernel_rfl
theorem ta136 : tagg Tryd.prog 136 = some true := by kernel_rfl
theorem if136 : ifaceT Tryd.prog 136 = some false := by kernel_rfl
theorem mo136_height : methOf Tryd.prog 136 "loop.example/s0059/impl.height" = some 128 := by kernel_rfl
theorem mo136_level : methOf Tryd.prog 136 "loop.example/s0059/impl.level" = some 129 := by kernel_rfl
theorem mo136_nodes : methOf Tryd.prog 136 "loop.example/s0059/impl.nodes" = some 130 := by kernel_rfl
theorem fo136_0 : fieldOff Tryd.prog 136 0 = some (56, 0) := by kernel_rfl
theorem ti137 : tinfo Tryd.prog 137 = some ((.agg #[(.string ⟨#[]⟩), (.int .i64 0), (.int .i64 0), (.int .i64 0), .nilIface, .nilIface, (.int .i64 0)]), 7, 80) := by kernel_rfl
theorem ts137 : tsz Tryd.prog 137 = some 7 := by kernel_rfl
theorem ta137 : tagg Tryd.prog 137 = some true := by kernel_rfl
theorem if137 : ifaceT Tryd.prog 137 = some false := by kernel_rfl
theorem fo137_0 : fieldOff Tryd.prog 137 0 = some (110, 0) := by kernel_rfl
theorem fo137_1 : fieldOff Tryd.prog 137 1 = some (131, 4) := by kernel_rfl
theorem fo137_2 : fieldOff Tryd.prog 137 2 = some (131, 5) := by kernel_rfl
theorem fo137_3 : fieldOff Tryd.prog 137 3 = some (3, 6) := by kernel_rfl
theorem ti138 : tinfo Tryd.prog 138 = some ((.agg #[(.string ⟨#[]⟩), (.int .i64 0), (.int .i64 0), (.int .i64 0), .nilIface, .nilIface, (.int .i64 0)]), 7, 80) := by kernel_rfl
theorem ts138 : tsz Tryd.prog 138 = some 7 := by kernel_rfl
theorem ta138 : tagg Tryd.prog 138 = some true := by kernel_rfl
theorem if138 : ifaceT Tryd.prog 138 = some false := by kernel_rfl
theorem mo138_height : methOf Tryd.prog 138 "loop.example/s0059/impl.height" = some 131 := by kernel_rfl
theorem mo138_level : methOf Tryd.prog 138 "loop.example/s0059/impl.level" = some 132 := by kernel_rfl
theorem mo138_nodes : methOf Tryd.prog 138 "loop.example/s0059/impl.nodes" = some 133 := by kernel_rfl
theorem fo138_0 : fieldOff Tryd.prog 138 0 = some (110, 0) := by kernel_rfl
theorem fo138_1 : fieldOff Tryd.prog 138 1 = some (131, 4) := by kernel_rfl
theorem fo138_2 : fieldOff Tryd.prog 138 2 = some (131, 5) := by kernel_rfl
theorem fo138_3 : fieldOff Tryd.prog 138 3 = some (3, 6) := by kernel_rfl
theorem un140 : Tryd.prog.underlying 140 = some .unsafePointer := by kernel_rfl
theorem ti149 : tinfo Tryd.prog 149 = some ((.pointer none), 1, 8) := by kernel_rfl
theorem ts149 : tsz Tryd.prog 149 = some 1 := by kernel_rfl
theorem ta149 : tagg Tryd.prog 149 = some false := by kernel_rfl
theorem un149 : Tryd.prog.underlying 149 = some (.pointer 145) := by kernel_rfl
theorem ip149 : isPtrT Tryd.prog 149 = true := by kernel_rfl
theorem ti156 : tinfo Tryd.prog 156 = some ((.int .u64 0), 1, 8) := by kernel_rfl
theorem ts156 : tsz Tryd.prog 156 = some 1 := by kernel_rfl
theorem ta156 : tagg Tryd.prog 156 = some false := by kernel_rfl
theorem ti157 : tinfo Tryd.prog 157 = some ((.agg #[(.int .u8 0), (.int .u8 0)]), 2, 2) := by kernel_rfl
theorem ts157 : tsz Tryd.prog 157 = some 2 := by kernel_rfl
theorem ta157 : tagg Tryd.prog 157 = some true := by kernel_rfl
theorem if157 : ifaceT Tryd.prog 157 = some false := by kernel_rfl
theorem fo157_0 : fieldOff Tryd.prog 157 0 = some (5, 0) := by kernel_rfl
theorem fo157_1 : fieldOff Tryd.prog 157 1 = some (5, 1) := by kernel_rfl
theorem ti158 : tinfo Tryd.prog 158 = some ((.agg #[(.int .u8 0), (.int .u8 0)]), 2, 2) := by kernel_rfl
theorem ts158 : tsz Tryd.prog 158 = some 2 := by kernel_rfl
theorem ta158 : tagg Tryd.prog 158 = some true := by kernel_rfl
theorem if158 : ifaceT Tryd.prog 158 = some false := by kernel_rfl
theorem fo158_0 : fieldOff Tryd.prog 158 0 = some (5, 0) := by kernel_rfl
theorem fo158_1 : fieldOff Tryd.prog 158 1 = some (5, 1) := by kernel_rfl
theorem ti162 : tinfo Tryd.prog 162 = some ((.agg #[(.pointer none), (.pointer none), (.pointer none), (.string ⟨#[]⟩)]), 4, 40) := by kernel_rfl
theorem ts162 : tsz Tryd.prog 162 = some 4 := by kernel_rfl
theorem ta162 : tagg Tryd.prog 162 = some true := by kernel_rfl
theorem if162 : ifaceT Tryd.prog 162 = some false := by kernel_rfl
theorem fo162_0 : fieldOff Tryd.prog 162 0 = some (17, 0) := by kernel_rfl
theorem fo162_1 : fieldOff Tryd.prog 162 1 = some (17, 1) := by kernel_rfl
theorem fo162_2 : fieldOff Tryd.prog 162 2 = some (17, 2) := by kernel_rfl
theorem fo162_3 : fieldOff Tryd.prog 162 3 = some (9, 3) := by kernel_rfl
theorem ti163 : tinfo Tryd.prog 163 = some ((.agg #[(.pointer none), (.pointer none), (.pointer none), (.string ⟨#[]⟩)]), 4, 40) := by kernel_rfl
theorem ts163 : tsz Tryd.prog 163 = some 4 := by kernel_rfl
theorem ta163 : tagg Tryd.prog 163 = some true := by kernel_rfl
theorem if163 : ifaceT Tryd.prog 163 = some false := by kernel_rfl
theorem fo163_0 : fieldOff Tryd.prog 163 0 = some (17, 0) := by kernel_rfl
theorem fo163_1 : fieldOff Tryd.prog 163 1 = some (17, 1) := by kernel_rfl
theorem fo163_2 : fieldOff Tryd.prog 163 2 = some (17, 2) := by kernel_rfl
theorem fo163_3 : fieldOff Tryd.prog 163 3 = some (9, 3) := by kernel_rfl
theorem ti165 : tinfo Tryd.prog 165 = some ((.agg #[]), 0, 0) := by kernel_rfl
theorem ts165 : tsz Tryd.prog 165 = some 0 := by kernel_rfl
theorem ta165 : tagg Tryd.prog 165 = some true := by kernel_rfl
theorem if165 : ifaceT Tryd.prog 165 = some false := by kernel_rfl
theorem fo165_0 : fieldOff Tryd.prog 165 0 = some (164, 0) := by kernel_rfl
theorem ti166 : tinfo Tryd.prog 166 = some ((.agg #[]), 0, 0) := by kernel_rfl
theorem ts166 : tsz Tryd.prog 166 = some 0 := by kernel_rfl
theorem ta166 : tagg Tryd.prog 166 = some true := by kernel_rfl
theorem if166 : ifaceT Tryd.prog 166 = some false := by kernel_rfl
theorem fo166_0 : fieldOff Tryd.prog 166 0 = some (164, 0) := by kernel_rfl
theorem ti167 : tinfo Tryd.prog 167 = some ((.int .u32 0), 1, 4) := by kernel_rfl
theorem ts167 : tsz Tryd.prog 167 = some 1 := by kernel_rfl
theorem ta167 : tagg Tryd.prog 167 = some false := by kernel_rfl
theorem ti168 : tinfo Tryd.prog 168 = some ((.int .u8 0), 1, 1) := by kernel_rfl
theorem ts168 : tsz Tryd.prog 168 = some 1 := by kernel_rfl
theorem ta168 : tagg Tryd.prog 168 = some false := by kernel_rfl
theorem ti169 : tinfo Tryd.prog 169 = some ((.int .u8 0), 1, 1) := by kernel_rfl
theorem ts169 : tsz Tryd.prog 169 = some 1 := by kernel_rfl
theorem ta169 : tagg Tryd.prog 169 = some false := by kernel_rfl
theorem ti171 : tinfo Tryd.prog 171 = some ((.int .i32 0), 1, 4) := by kernel_rfl
theorem ts171 : tsz Tryd.prog 171 = some 1 := by kernel_rfl
theorem ta171 : tagg Tryd.prog 171 = some false := by kernel_rfl
theorem ti172 : tinfo Tryd.prog 172 = some ((.int .i32 0), 1, 4) := by kernel_rfl
theorem ts172 : tsz Tryd.prog 172 = some 1 := by kernel_rfl
theorem ta172 : tagg Tryd.prog 172 = some false := by kernel_rfl
theorem ti173 : tinfo Tryd.prog 173 = some ((.agg #[(.int .u64 0), (.int .u64 0), (.int .u32 0), (.int .u8 0), (.int .u8 0), (.int .u8 0), (.int .u8 0), .nilFunc, (.pointer none), (.int .i32 0), (.int .i32 0)]), 11, 48) := by kernel_rfl
theorem ts173 : tsz Tryd.prog 173 = some 11 := by kernel_rfl
theorem ta173 : tagg Tryd.prog 173 = some true := by kernel_rfl
theorem if173 : ifaceT Tryd.prog 173 = some false := by kernel_rfl
theorem fo173_0 : fieldOff Tryd.prog 173 0 = some (12, 0) := by kernel_rfl
theorem fo173_1 : fieldOff Tryd.prog 173 1 = some (12, 1) := by kernel_rfl
theorem fo173_2 : fieldOff Tryd.prog 173 2 = some (167, 2) := by kernel_rfl
theorem fo173_3 : fieldOff Tryd.prog 173 3 = some (168, 3) := by kernel_rfl
theorem fo173_4 : fieldOff Tryd.prog 173 4 = some (5, 4) := by kernel_rfl
theorem fo173_5 : fieldOff Tryd.prog 173 5 = some (5, 5) := by kernel_rfl
theorem fo173_6 : fieldOff Tryd.prog 173 6 = some (169, 6) := by kernel_rfl
theorem fo173_7 : fieldOff Tryd.prog 173 7 = some (170, 7) := by kernel_rfl
theorem fo173_8 : fieldOff Tryd.prog 173 8 = some (132, 8) := by kernel_rfl
theorem fo173_9 : fieldOff Tryd.prog 173 9 = some (171, 9) := by kernel_rfl
theorem fo173_10 : fieldOff Tryd.prog 173 10 = some (172, 10) := by kernel_rfl
theorem ti174 : tinfo Tryd.prog 174 = some ((.agg #[(.int .u64 0), (.int .u64 0), (.int .u32 0), (.int .u8 0), (.int .u8 0), (.int .u8 0), (.int .u8 0), .nilFunc, (.pointer none), (.int .i32 0), (.int .i32 0)]), 11, 48) := by kernel_rfl
theorem ts174 : tsz Tryd.prog 174 = some 11 := by kernel_rfl
theorem ta174 : tagg Tryd.prog 174 = some true := by kernel_rfl
theorem if174 : ifaceT Tryd.prog 174 = some false := by kernel_rfl
theorem fo174_0 : fieldOff Tryd.prog 174 0 = some (12, 0) := by kernel_rfl
theorem fo174_1 : fieldOff Tryd.prog 174 1 = some (12, 1) := by kernel_rfl
theorem fo174_2 : fieldOff Tryd.prog 174 2 = some (167, 2) := by kernel_rfl
theorem fo174_3 : fieldOff Tryd.prog 174 3 = some (168, 3) := by kernel_rfl
theorem fo174_4 : fieldOff Tryd.prog 174 4 = some (5, 4) := by kernel_rfl
theorem fo174_5 : fieldOff Tryd.prog 174 5 = some (5, 5) := by kernel_rfl
theorem fo174_6 : fieldOff Tryd.prog 174 6 = some (169, 6) := by kernel_rfl
theorem fo174_7 : fieldOff Tryd.prog 174 7 = some (170, 7) := by kernel_rfl
theorem fo174_8 : fieldOff Tryd.prog 174 8 = some (132, 8) := by kernel_rfl
theorem fo174_9 : fieldOff Tryd.prog 174 9 = some (171, 9) := by kernel_rfl
theorem fo174_10 : fieldOff Tryd.prog 174 10 = some (172, 10) := by kernel_rfl
theorem depth_pos : 0 < Tryd.prog.depth := of_decide_eq_true (by kernel_rfl)
attribute [go_sem] ti2 ts2 ta2 ti3 ts3 ta3 ti4 ts4 ta4 ti5 ts5 ta5 ti6 ts6 ta6 ti7 ts7 ta7 if7 fo7_0 fo7_1 fo7_2 fo7_3 ti8 ts8 ta8 if8 fo8_0 fo8_1 fo8_2 fo8_3 ti9 ts9 ta9 im9 un9 ti10 ts10 ta10 im10 un10 ti11 ts11 ta11 im11 un11 ti12 ts12 ta12 ti13 ts13 ta13 if13 fo13_0 fo13_1 ti14 ts14 ta14 if14 fo14_0 fo14_1 ti15 ts15 ta15 un15 ip15 ti16 ts16 ta16 un16 ip16 ti17 ts17 ta17 un17 ip17 ti18 ts18 ta18 if18 fo18_0 ti19 ts19 ta19 if19 fo19_0 ti20 ts20 ta20 ti21 ts21 ta21 ti22 ts22 ta22 un22 es22 im22 ti23 ts23 ta23 if23 fo23_0 ti24 ts24 ta24 if24 fo24_0 ti26 ts26 ta26 un26 es26 im26 ti27 ts27 ta27 if27 fo27_0 ti28 ts28 ta28 if28 fo28_0 ti35 ts35 ta35 un35 es35 im35 ti36 ts36 ta36 if36 fo36_0 ti37 ts37 ta37 if37 fo37_0 ti40 ts40 ta40 un40 es40 im40 ti41 ts41 ta41 if41 fo41_0 ti42 ts42 ta42 if42 fo42_0 ti54 ts54 ta54 un54 es54 im54 ti55 ts55 ta55 if55 fo55_0 fo55_1 fo55_2 fo55_3 ti56 ts56 ta56 if56 fo56_0 fo56_1 fo56_2 fo56_3 ti65 ts65 ta65 un65 im65 ti66 ts66 ta66 un66 im66 ti67 ts67 ta67 if67 fo67_0 fo67_1 ti68 ts68 ta68 if68 mo68_front mo68_leasts mo68_levels mo68_of mo68_partsOf fo68_0 fo68_1 ti76 ts76 ta76 un76 ip76 ti79 ts79 ta79 un79 es79 im79 ti80 ts80 ta80 if80 fo80_0 fo80_1 fo80_2 ti81 ts81 ta81 if81 fo81_0 fo81_1 fo81_2 ti83 ts83 ta83 un83 es83 im83 ti85 ts85 ta85 un85 es85 im85 ti86 ts86 ta86 if86 fo86_0 fo86_1 fo86_2 ti87 ts87 ta87 if87 fo87_0 fo87_1 fo87_2 ti88 ts88 ta88 un88 ip88 ti89 ts89 ta89 if89 fo89_0 fo89_1 ti90 ts90 ta90 if90 fo90_0 fo90_1 ti91 ts91 ta91 if91 fo91_0 fo91_1 fo91_2 ti92 ts92 ta92 if92 fo92_0 fo92_1 fo92_2 ti93 ts93 ta93 ti94 ts94 ta94 ti100 ts100 ta100 if100 fo100_0 fo100_1 fo100_2 fo100_3 ti107 ts107 ta107 if107 fo107_0 fo107_1 fo107_2 fo107_3 ti108 ts108 ta108 if108 fo108_0 fo108_1 fo108_2 fo108_3 ti110 ts110 ta110 if110 fo110_0 fo110_1 fo110_2 fo110_3 ti117 ts117 ta117 un117 im117 ti119 ts119 ta119 if119 fo119_0 fo119_1 ti120 ts120 ta120 if120 fo120_0 fo120_1 ti122 ts122 ta122 un122 im122 ti127 ts127 ta127 un127 es127 im127 ti130 ts130 ta130 ti131 ts131 ta131 ti132 ts132 ta132 un132 ip132 ti135 ts135 ta135 if135 fo135_0 ti136 ts136 ta136 if136 mo136_height mo136_level mo136_nodes fo136_0 ti137 ts137 ta137 if137 fo137_0 fo137_1 fo137_2 fo137_3 ti138 ts138 ta138 if138 mo138_height mo138_level mo138_nodes fo138_0 fo138_1 fo138_2 fo138_3 un140 ti149 ts149 ta149 un149 ip149 ti156 ts156 ta156 ti157 ts157 ta157 if157 fo157_0 fo157_1 ti158 ts158 ta158 if158 fo158_0 fo158_1 ti162 ts162 ta162 if162 fo162_0 fo162_1 fo162_2 fo162_3 ti163 ts163 ta163 if163 fo163_0 fo163_1 fo163_2 fo163_3 ti165 ts165 ta165 if165 fo165_0 ti166 ts166 ta166 if166 fo166_0 ti167 ts167 ta167 ti168 ts168 ta168 ti169 ts169 ta169 ti171 ts171 ta171 ti172 ts172 ta172 ti173 ts173 ta173 if173 fo173_0 fo173_1 fo173_2 fo173_3 fo173_4 fo173_5 fo173_6 fo173_7 fo173_8 fo173_9 fo173_10 ti174 ts174 ta174 if174 fo174_0 fo174_1 fo174_2 fo174_3 fo174_4 fo174_5 fo174_6 fo174_7 fo174_8 fo174_9 fo174_10 depth_pos
end Go.Proofs.YtbjkgfooangjhaaDoor.V
