import Derived.Test.YtjdmmhcogmepaaaGreatDoorMB
import Derived.Test.YtjdmmhcogmepaaaGreatDoorProg
import Derived.KernelRfl
namespace Go.Proofs.YtjdmmhcogmepaaaGreatDoor.V
theorem ti2 : tinfo Tryz.prog 2 = some ((.int .i64 0), 1, 8) := by kernel_rfl
theorem ts2 : tsz Tryz.prog 2 = some 1 := by kernel_rfl
theorem ta2 : tagg Tryz.prog 2 = some false := by kernel_rfl
theorem ti3 : tinfo Tryz.prog 3 = some ((.int .i64 0), 1, 8) := by kernel_rfl
theorem ts3 : tsz Tryz.prog 3 = some 1 := by kernel_rfl
theorem ta3 : tagg Tryz.prog 3 = some false := by kernel_rfl
theorem ti4 : tinfo Tryz.prog 4 = some ((.bool false), 1, 1) := by kernel_rfl
theorem ts4 : tsz Tryz.prog 4 = some 1 := by kernel_rfl
theorem ta4 : tagg Tryz.prog 4 = some false := by kernel_rfl
theorem ti5 : tinfo Tryz.prog 5 = some ((.int .u8 0), 1, 1) := by kernel_rfl
theorem ts5 : tsz Tryz.prog 5 = some 1 := by kernel_rfl
theorem ta5 : tagg Tryz.prog 5 = some false := by kernel_rfl
theorem ti6 : tinfo Tryz.prog 6 = some ((.int .u8 0), 1, 1) := by kernel_rfl
theorem ts6 : tsz Tryz.prog 6 = some 1 := by kernel_rfl
theorem ta6 : tagg Tryz.prog 6 = some false := by kernel_rfl
theorem ti7 : tinfo Tryz.prog 7 = some ((.agg #[(.int .i64 0), (.int .i64 0), (.bool false), (.int .u8 0)]), 4, 24) := by kernel_rfl
theorem ts7 : tsz Tryz.prog 7 = some 4 := by kernel_rfl
theorem ta7 : tagg Tryz.prog 7 = some true := by kernel_rfl
theorem if7 : ifaceT Tryz.prog 7 = some false := by kernel_rfl
theorem fo7_0 : fieldOff Tryz.prog 7 0 = some (2, 0) := by kernel_rfl
theorem fo7_1 : fieldOff Tryz.prog 7 1 = some (3, 1) := by kernel_rfl
theorem fo7_2 : fieldOff Tryz.prog 7 2 = some (4, 2) := by kernel_rfl
theorem fo7_3 : fieldOff Tryz.prog 7 3 = some (6, 3) := by kernel_rfl
theorem ti8 : tinfo Tryz.prog 8 = some ((.agg #[(.int .i64 0), (.int .i64 0), (.bool false), (.int .u8 0)]), 4, 24) := by kernel_rfl
theorem ts8 : tsz Tryz.prog 8 = some 4 := by kernel_rfl
theorem ta8 : tagg Tryz.prog 8 = some true := by kernel_rfl
theorem if8 : ifaceT Tryz.prog 8 = some false := by kernel_rfl
theorem fo8_0 : fieldOff Tryz.prog 8 0 = some (2, 0) := by kernel_rfl
theorem fo8_1 : fieldOff Tryz.prog 8 1 = some (3, 1) := by kernel_rfl
theorem fo8_2 : fieldOff Tryz.prog 8 2 = some (4, 2) := by kernel_rfl
theorem fo8_3 : fieldOff Tryz.prog 8 3 = some (6, 3) := by kernel_rfl
theorem ti9 : tinfo Tryz.prog 9 = some ((.string ⟨#[]⟩), 1, 16) := by kernel_rfl
theorem ts9 : tsz Tryz.prog 9 = some 1 := by kernel_rfl
theorem ta9 : tagg Tryz.prog 9 = some false := by kernel_rfl
theorem im9 : isMapT Tryz.prog 9 = false := by kernel_rfl
theorem un9 : Tryz.prog.underlying 9 = some .string := by kernel_rfl
theorem ti10 : tinfo Tryz.prog 10 = some ((.string ⟨#[]⟩), 1, 16) := by kernel_rfl
theorem ts10 : tsz Tryz.prog 10 = some 1 := by kernel_rfl
theorem ta10 : tagg Tryz.prog 10 = some false := by kernel_rfl
theorem im10 : isMapT Tryz.prog 10 = false := by kernel_rfl
theorem un10 : Tryz.prog.underlying 10 = some .string := by kernel_rfl
theorem ti11 : tinfo Tryz.prog 11 = some ((.string ⟨#[]⟩), 1, 16) := by kernel_rfl
theorem ts11 : tsz Tryz.prog 11 = some 1 := by kernel_rfl
theorem ta11 : tagg Tryz.prog 11 = some false := by kernel_rfl
theorem im11 : isMapT Tryz.prog 11 = false := by kernel_rfl
theorem un11 : Tryz.prog.underlying 11 = some .string := by kernel_rfl
theorem ti12 : tinfo Tryz.prog 12 = some ((.int .u64 0), 1, 8) := by kernel_rfl
theorem ts12 : tsz Tryz.prog 12 = some 1 := by kernel_rfl
theorem ta12 : tagg Tryz.prog 12 = some false := by kernel_rfl
theorem ti13 : tinfo Tryz.prog 13 = some ((.agg #[(.string ⟨#[]⟩), (.int .u64 0)]), 2, 24) := by kernel_rfl
theorem ts13 : tsz Tryz.prog 13 = some 2 := by kernel_rfl
theorem ta13 : tagg Tryz.prog 13 = some true := by kernel_rfl
theorem if13 : ifaceT Tryz.prog 13 = some false := by kernel_rfl
theorem fo13_0 : fieldOff Tryz.prog 13 0 = some (9, 0) := by kernel_rfl
theorem fo13_1 : fieldOff Tryz.prog 13 1 = some (12, 1) := by kernel_rfl
theorem ti14 : tinfo Tryz.prog 14 = some ((.agg #[(.string ⟨#[]⟩), (.int .u64 0)]), 2, 24) := by kernel_rfl
theorem ts14 : tsz Tryz.prog 14 = some 2 := by kernel_rfl
theorem ta14 : tagg Tryz.prog 14 = some true := by kernel_rfl
theorem if14 : ifaceT Tryz.prog 14 = some false := by kernel_rfl
theorem fo14_0 : fieldOff Tryz.prog 14 0 = some (9, 0) := by kernel_rfl
theorem fo14_1 : fieldOff Tryz.prog 14 1 = some (12, 1) := by kernel_rfl
theorem ti15 : tinfo Tryz.prog 15 = some ((.pointer none), 1, 8) := by kernel_rfl
theorem ts15 : tsz Tryz.prog 15 = some 1 := by kernel_rfl
theorem ta15 : tagg Tryz.prog 15 = some false := by kernel_rfl
theorem un15 : Tryz.prog.underlying 15 = some (.pointer 226) := by kernel_rfl
theorem ip15 : isPtrT Tryz.prog 15 = true := by kernel_rfl
theorem ti16 : tinfo Tryz.prog 16 = some ((.pointer none), 1, 8) := by kernel_rfl
theorem ts16 : tsz Tryz.prog 16 = some 1 := by kernel_rfl
theorem ta16 : tagg Tryz.prog 16 = some false := by kernel_rfl
theorem un16 : Tryz.prog.underlying 16 = some (.pointer 229) := by kernel_rfl
theorem ip16 : isPtrT Tryz.prog 16 = true := by kernel_rfl
theorem ti17 : tinfo Tryz.prog 17 = some ((.pointer none), 1, 8) := by kernel_rfl
theorem ts17 : tsz Tryz.prog 17 = some 1 := by kernel_rfl
theorem ta17 : tagg Tryz.prog 17 = some false := by kernel_rfl
theorem un17 : Tryz.prog.underlying 17 = some (.pointer 237) := by kernel_rfl
theorem ip17 : isPtrT Tryz.prog 17 = true := by kernel_rfl
theorem ti18 : tinfo Tryz.prog 18 = some ((.agg #[(.pointer none)]), 1, 8) := by kernel_rfl
theorem ts18 : tsz Tryz.prog 18 = some 1 := by kernel_rfl
theorem ta18 : tagg Tryz.prog 18 = some true := by kernel_rfl
theorem if18 : ifaceT Tryz.prog 18 = some false := by kernel_rfl
theorem fo18_0 : fieldOff Tryz.prog 18 0 = some (17, 0) := by kernel_rfl
theorem ti19 : tinfo Tryz.prog 19 = some ((.agg #[(.pointer none)]), 1, 8) := by kernel_rfl
theorem ts19 : tsz Tryz.prog 19 = some 1 := by kernel_rfl
theorem ta19 : tagg Tryz.prog 19 = some true := by kernel_rfl
theorem if19 : ifaceT Tryz.prog 19 = some false := by kernel_rfl
theorem fo19_0 : fieldOff Tryz.prog 19 0 = some (17, 0) := by kernel_rfl
theorem ti20 : tinfo Tryz.prog 20 = some (.nilIface, 1, 16) := by kernel_rfl
theorem ts20 : tsz Tryz.prog 20 = some 1 := by kernel_rfl
theorem ta20 : tagg Tryz.prog 20 = some false := by kernel_rfl
theorem ti21 : tinfo Tryz.prog 21 = some ((.int .i32 0), 1, 4) := by kernel_rfl
theorem ts21 : tsz Tryz.prog 21 = some 1 := by kernel_rfl
theorem ta21 : tagg Tryz.prog 21 = some false := by kernel_rfl
theorem ti22 : tinfo Tryz.prog 22 = some ((.slice none 0 0), 1, 24) := by kernel_rfl
theorem ts22 : tsz Tryz.prog 22 = some 1 := by kernel_rfl
theorem ta22 : tagg Tryz.prog 22 = some false := by kernel_rfl
theorem un22 : Tryz.prog.underlying 22 = some (.slice 132) := by kernel_rfl
theorem es22 : esz Tryz.prog 22 = some 4 := by kernel_rfl
theorem im22 : isMapT Tryz.prog 22 = false := by kernel_rfl
theorem ti23 : tinfo Tryz.prog 23 = some ((.agg #[(.slice none 0 0)]), 1, 24) := by kernel_rfl
theorem ts23 : tsz Tryz.prog 23 = some 1 := by kernel_rfl
theorem ta23 : tagg Tryz.prog 23 = some true := by kernel_rfl
theorem if23 : ifaceT Tryz.prog 23 = some false := by kernel_rfl
theorem fo23_0 : fieldOff Tryz.prog 23 0 = some (22, 0) := by kernel_rfl
theorem ti24 : tinfo Tryz.prog 24 = some ((.agg #[(.slice none 0 0)]), 1, 24) := by kernel_rfl
theorem ts24 : tsz Tryz.prog 24 = some 1 := by kernel_rfl
theorem ta24 : tagg Tryz.prog 24 = some true := by kernel_rfl
theorem if24 : ifaceT Tryz.prog 24 = some false := by kernel_rfl
theorem fo24_0 : fieldOff Tryz.prog 24 0 = some (22, 0) := by kernel_rfl
theorem ti28 : tinfo Tryz.prog 28 = some ((.slice none 0 0), 1, 24) := by kernel_rfl
theorem ts28 : tsz Tryz.prog 28 = some 1 := by kernel_rfl
theorem ta28 : tagg Tryz.prog 28 = some false := by kernel_rfl
theorem un28 : Tryz.prog.underlying 28 = some (.slice 133) := by kernel_rfl
theorem es28 : esz Tryz.prog 28 = some 4 := by kernel_rfl
theorem im28 : isMapT Tryz.prog 28 = false := by kernel_rfl
theorem ti29 : tinfo Tryz.prog 29 = some ((.agg #[(.slice none 0 0)]), 1, 24) := by kernel_rfl
theorem ts29 : tsz Tryz.prog 29 = some 1 := by kernel_rfl
theorem ta29 : tagg Tryz.prog 29 = some true := by kernel_rfl
theorem if29 : ifaceT Tryz.prog 29 = some false := by kernel_rfl
theorem fo29_0 : fieldOff Tryz.prog 29 0 = some (28, 0) := by kernel_rfl
theorem ti30 : tinfo Tryz.prog 30 = some ((.agg #[(.slice none 0 0)]), 1, 24) := by kernel_rfl
theorem ts30 : tsz Tryz.prog 30 = some 1 := by kernel_rfl
theorem ta30 : tagg Tryz.prog 30 = some true := by kernel_rfl
theorem if30 : ifaceT Tryz.prog 30 = some false := by kernel_rfl
theorem fo30_0 : fieldOff Tryz.prog 30 0 = some (28, 0) := by kernel_rfl
theorem ti34 : tinfo Tryz.prog 34 = some ((.slice none 0 0), 1, 24) := by kernel_rfl
theorem ts34 : tsz Tryz.prog 34 = some 1 := by kernel_rfl
theorem ta34 : tagg Tryz.prog 34 = some false := by kernel_rfl
theorem un34 : Tryz.prog.underlying 34 = some (.slice 5) := by kernel_rfl
theorem es34 : esz Tryz.prog 34 = some 1 := by kernel_rfl
theorem im34 : isMapT Tryz.prog 34 = false := by kernel_rfl
theorem ti35 : tinfo Tryz.prog 35 = some ((.slice none 0 0), 1, 24) := by kernel_rfl
theorem ts35 : tsz Tryz.prog 35 = some 1 := by kernel_rfl
theorem ta35 : tagg Tryz.prog 35 = some false := by kernel_rfl
theorem un35 : Tryz.prog.underlying 35 = some (.slice 77) := by kernel_rfl
theorem es35 : esz Tryz.prog 35 = some 4 := by kernel_rfl
theorem im35 : isMapT Tryz.prog 35 = false := by kernel_rfl
theorem ti36 : tinfo Tryz.prog 36 = some ((.agg #[(.slice none 0 0)]), 1, 24) := by kernel_rfl
theorem ts36 : tsz Tryz.prog 36 = some 1 := by kernel_rfl
theorem ta36 : tagg Tryz.prog 36 = some true := by kernel_rfl
theorem if36 : ifaceT Tryz.prog 36 = some false := by kernel_rfl
theorem fo36_0 : fieldOff Tryz.prog 36 0 = some (35, 0) := by kernel_rfl
theorem ti37 : tinfo Tryz.prog 37 = some ((.agg #[(.slice none 0 0)]), 1, 24) := by kernel_rfl
theorem ts37 : tsz Tryz.prog 37 = some 1 := by kernel_rfl
theorem ta37 : tagg Tryz.prog 37 = some true := by kernel_rfl
theorem if37 : ifaceT Tryz.prog 37 = some false := by kernel_rfl
theorem fo37_0 : fieldOff Tryz.prog 37 0 = some (35, 0) := by kernel_rfl
theorem ti62 : tinfo Tryz.prog 62 = some ((.pointer none), 1, 8) := by kernel_rfl
theorem ts62 : tsz Tryz.prog 62 = some 1 := by kernel_rfl
theorem ta62 : tagg Tryz.prog 62 = some false := by kernel_rfl
theorem un62 : Tryz.prog.underlying 62 = some (.pointer 138) := by kernel_rfl
theorem ip62 : isPtrT Tryz.prog 62 = true := by kernel_rfl
theorem ti67 : tinfo Tryz.prog 67 = some ((.map none), 1, 8) := by kernel_rfl
theorem ts67 : tsz Tryz.prog 67 = some 1 := by kernel_rfl
theorem ta67 : tagg Tryz.prog 67 = some false := by kernel_rfl
theorem un67 : Tryz.prog.underlying 67 = some (.map 151 133) := by kernel_rfl
theorem im67 : isMapT Tryz.prog 67 = true := by kernel_rfl
theorem ti68 : tinfo Tryz.prog 68 = some ((.map none), 1, 8) := by kernel_rfl
theorem ts68 : tsz Tryz.prog 68 = some 1 := by kernel_rfl
theorem ta68 : tagg Tryz.prog 68 = some false := by kernel_rfl
theorem un68 : Tryz.prog.underlying 68 = some (.map 9 3) := by kernel_rfl
theorem im68 : isMapT Tryz.prog 68 = true := by kernel_rfl
theorem ti69 : tinfo Tryz.prog 69 = some ((.agg #[(.map none), (.map none)]), 2, 16) := by kernel_rfl
theorem ts69 : tsz Tryz.prog 69 = some 2 := by kernel_rfl
theorem ta69 : tagg Tryz.prog 69 = some true := by kernel_rfl
theorem if69 : ifaceT Tryz.prog 69 = some false := by kernel_rfl
theorem fo69_0 : fieldOff Tryz.prog 69 0 = some (67, 0) := by kernel_rfl
theorem fo69_1 : fieldOff Tryz.prog 69 1 = some (68, 1) := by kernel_rfl
theorem ti70 : tinfo Tryz.prog 70 = some ((.agg #[(.map none), (.map none)]), 2, 16) := by kernel_rfl
theorem ts70 : tsz Tryz.prog 70 = some 2 := by kernel_rfl
theorem ta70 : tagg Tryz.prog 70 = some true := by kernel_rfl
theorem if70 : ifaceT Tryz.prog 70 = some false := by kernel_rfl
theorem mo70_front : methOf Tryz.prog 70 "loop.example/s0059/impl.front" = some 93 := by kernel_rfl
theorem mo70_leasts : methOf Tryz.prog 70 "loop.example/s0059/impl.leasts" = some 46 := by kernel_rfl
theorem mo70_levels : methOf Tryz.prog 70 "loop.example/s0059/impl.levels" = some 45 := by kernel_rfl
theorem mo70_of : methOf Tryz.prog 70 "loop.example/s0059/impl.of" = some 91 := by kernel_rfl
theorem mo70_partsOf : methOf Tryz.prog 70 "loop.example/s0059/impl.partsOf" = some 100 := by kernel_rfl
theorem fo70_0 : fieldOff Tryz.prog 70 0 = some (67, 0) := by kernel_rfl
theorem fo70_1 : fieldOff Tryz.prog 70 1 = some (68, 1) := by kernel_rfl
theorem ti73 : tinfo Tryz.prog 73 = some ((.slice none 0 0), 1, 24) := by kernel_rfl
theorem ts73 : tsz Tryz.prog 73 = some 1 := by kernel_rfl
theorem ta73 : tagg Tryz.prog 73 = some false := by kernel_rfl
theorem un73 : Tryz.prog.underlying 73 = some (.slice 3) := by kernel_rfl
theorem es73 : esz Tryz.prog 73 = some 1 := by kernel_rfl
theorem im73 : isMapT Tryz.prog 73 = false := by kernel_rfl
theorem ti76 : tinfo Tryz.prog 76 = some ((.agg #[(.int .i64 0), (.string ⟨#[]⟩), (.int .i64 0), (.int .i64 0)]), 4, 40) := by kernel_rfl
theorem ts76 : tsz Tryz.prog 76 = some 4 := by kernel_rfl
theorem ta76 : tagg Tryz.prog 76 = some true := by kernel_rfl
theorem if76 : ifaceT Tryz.prog 76 = some false := by kernel_rfl
theorem fo76_0 : fieldOff Tryz.prog 76 0 = some (3, 0) := by kernel_rfl
theorem fo76_1 : fieldOff Tryz.prog 76 1 = some (9, 1) := by kernel_rfl
theorem fo76_2 : fieldOff Tryz.prog 76 2 = some (3, 2) := by kernel_rfl
theorem fo76_3 : fieldOff Tryz.prog 76 3 = some (3, 3) := by kernel_rfl
theorem ti77 : tinfo Tryz.prog 77 = some ((.agg #[(.int .i64 0), (.string ⟨#[]⟩), (.int .i64 0), (.int .i64 0)]), 4, 40) := by kernel_rfl
theorem ts77 : tsz Tryz.prog 77 = some 4 := by kernel_rfl
theorem ta77 : tagg Tryz.prog 77 = some true := by kernel_rfl
theorem if77 : ifaceT Tryz.prog 77 = some false := by kernel_rfl
theorem fo77_0 : fieldOff Tryz.prog 77 0 = some (3, 0) := by kernel_rfl
theorem fo77_1 : fieldOff Tryz.prog 77 1 = some (9, 1) := by kernel_rfl
theorem fo77_2 : fieldOff Tryz.prog 77 2 = some (3, 2) := by kernel_rfl
theorem fo77_3 : fieldOff Tryz.prog 77 3 = some (3, 3) := by kernel_rfl
theorem ti80 : tinfo Tryz.prog 80 = some ((.slice none 0 0), 1, 24) := by kernel_rfl
theorem ts80 : tsz Tryz.prog 80 = some 1 := by kernel_rfl
theorem ta80 : tagg Tryz.prog 80 = some false := by kernel_rfl
theorem un80 : Tryz.prog.underlying 80 = some (.slice 83) := by kernel_rfl
theorem es80 : esz Tryz.prog 80 = some 3 := by kernel_rfl
theorem im80 : isMapT Tryz.prog 80 = false := by kernel_rfl
theorem ti82 : tinfo Tryz.prog 82 = some ((.agg #[(.string ⟨#[]⟩), (.bool false), (.bool false)]), 3, 24) := by kernel_rfl
theorem ts82 : tsz Tryz.prog 82 = some 3 := by kernel_rfl
theorem ta82 : tagg Tryz.prog 82 = some true := by kernel_rfl
theorem if82 : ifaceT Tryz.prog 82 = some false := by kernel_rfl
theorem fo82_0 : fieldOff Tryz.prog 82 0 = some (9, 0) := by kernel_rfl
theorem fo82_1 : fieldOff Tryz.prog 82 1 = some (4, 1) := by kernel_rfl
theorem fo82_2 : fieldOff Tryz.prog 82 2 = some (4, 2) := by kernel_rfl
theorem ti83 : tinfo Tryz.prog 83 = some ((.agg #[(.string ⟨#[]⟩), (.bool false), (.bool false)]), 3, 24) := by kernel_rfl
theorem ts83 : tsz Tryz.prog 83 = some 3 := by kernel_rfl
theorem ta83 : tagg Tryz.prog 83 = some true := by kernel_rfl
theorem if83 : ifaceT Tryz.prog 83 = some false := by kernel_rfl
theorem fo83_0 : fieldOff Tryz.prog 83 0 = some (9, 0) := by kernel_rfl
theorem fo83_1 : fieldOff Tryz.prog 83 1 = some (4, 1) := by kernel_rfl
theorem fo83_2 : fieldOff Tryz.prog 83 2 = some (4, 2) := by kernel_rfl
theorem ti84 : tinfo Tryz.prog 84 = some ((.slice none 0 0), 1, 24) := by kernel_rfl
theorem ts84 : tsz Tryz.prog 84 = some 1 := by kernel_rfl
theorem ta84 : tagg Tryz.prog 84 = some false := by kernel_rfl
theorem un84 : Tryz.prog.underlying 84 = some (.slice 88) := by kernel_rfl
theorem es84 : esz Tryz.prog 84 = some 3 := by kernel_rfl
theorem im84 : isMapT Tryz.prog 84 = false := by kernel_rfl
theorem ti87 : tinfo Tryz.prog 87 = some ((.agg #[(.int .i64 0), (.string ⟨#[]⟩), (.string ⟨#[]⟩)]), 3, 40) := by kernel_rfl
theorem ts87 : tsz Tryz.prog 87 = some 3 := by kernel_rfl
theorem ta87 : tagg Tryz.prog 87 = some true := by kernel_rfl
theorem if87 : ifaceT Tryz.prog 87 = some false := by kernel_rfl
theorem fo87_0 : fieldOff Tryz.prog 87 0 = some (3, 0) := by kernel_rfl
theorem fo87_1 : fieldOff Tryz.prog 87 1 = some (9, 1) := by kernel_rfl
theorem fo87_2 : fieldOff Tryz.prog 87 2 = some (9, 2) := by kernel_rfl
theorem ti88 : tinfo Tryz.prog 88 = some ((.agg #[(.int .i64 0), (.string ⟨#[]⟩), (.string ⟨#[]⟩)]), 3, 40) := by kernel_rfl
theorem ts88 : tsz Tryz.prog 88 = some 3 := by kernel_rfl
theorem ta88 : tagg Tryz.prog 88 = some true := by kernel_rfl
theorem if88 : ifaceT Tryz.prog 88 = some false := by kernel_rfl
theorem fo88_0 : fieldOff Tryz.prog 88 0 = some (3, 0) := by kernel_rfl
theorem fo88_1 : fieldOff Tryz.prog 88 1 = some (9, 1) := by kernel_rfl
theorem fo88_2 : fieldOff Tryz.prog 88 2 = some (9, 2) := by kernel_rfl
theorem ti91 : tinfo Tryz.prog 91 = some (.nilIface, 1, 16) := by kernel_rfl
theorem ts91 : tsz Tryz.prog 91 = some 1 := by kernel_rfl
theorem ta91 : tagg Tryz.prog 91 = some false := by kernel_rfl
theorem ti92 : tinfo Tryz.prog 92 = some (.nilIface, 1, 16) := by kernel_rfl
theorem ts92 : tsz Tryz.prog 92 = some 1 := by kernel_rfl
theorem ta92 : tagg Tryz.prog 92 = some false := by kernel_rfl
theorem ti94 : tinfo Tryz.prog 94 = some ((.pointer none), 1, 8) := by kernel_rfl
theorem ts94 : tsz Tryz.prog 94 = some 1 := by kernel_rfl
theorem ta94 : tagg Tryz.prog 94 = some false := by kernel_rfl
theorem un94 : Tryz.prog.underlying 94 = some (.pointer 161) := by kernel_rfl
theorem ip94 : isPtrT Tryz.prog 94 = true := by kernel_rfl
theorem ti101 : tinfo Tryz.prog 101 = some ((.pointer none), 1, 8) := by kernel_rfl
theorem ts101 : tsz Tryz.prog 101 = some 1 := by kernel_rfl
theorem ta101 : tagg Tryz.prog 101 = some false := by kernel_rfl
theorem un101 : Tryz.prog.underlying 101 = some (.pointer 106) := by kernel_rfl
theorem ip101 : isPtrT Tryz.prog 101 = true := by kernel_rfl
theorem ti104 : tinfo Tryz.prog 104 = some ((.slice none 0 0), 1, 24) := by kernel_rfl
theorem ts104 : tsz Tryz.prog 104 = some 1 := by kernel_rfl
theorem ta104 : tagg Tryz.prog 104 = some false := by kernel_rfl
theorem un104 : Tryz.prog.underlying 104 = some (.slice 113) := by kernel_rfl
theorem es104 : esz Tryz.prog 104 = some 3 := by kernel_rfl
theorem im104 : isMapT Tryz.prog 104 = false := by kernel_rfl
theorem ti105 : tinfo Tryz.prog 105 = some ((.agg #[(.map none), (.map none), (.slice none 0 0), (.slice none 0 0)]), 4, 64) := by kernel_rfl
theorem ts105 : tsz Tryz.prog 105 = some 4 := by kernel_rfl
theorem ta105 : tagg Tryz.prog 105 = some true := by kernel_rfl
theorem if105 : ifaceT Tryz.prog 105 = some false := by kernel_rfl
theorem fo105_0 : fieldOff Tryz.prog 105 0 = some (70, 0) := by kernel_rfl
theorem fo105_1 : fieldOff Tryz.prog 105 1 = some (35, 2) := by kernel_rfl
theorem fo105_2 : fieldOff Tryz.prog 105 2 = some (104, 3) := by kernel_rfl
theorem ti106 : tinfo Tryz.prog 106 = some ((.agg #[(.map none), (.map none), (.slice none 0 0), (.slice none 0 0)]), 4, 64) := by kernel_rfl
theorem ts106 : tsz Tryz.prog 106 = some 4 := by kernel_rfl
theorem ta106 : tagg Tryz.prog 106 = some true := by kernel_rfl
theorem if106 : ifaceT Tryz.prog 106 = some false := by kernel_rfl
theorem fo106_0 : fieldOff Tryz.prog 106 0 = some (70, 0) := by kernel_rfl
theorem fo106_1 : fieldOff Tryz.prog 106 1 = some (35, 2) := by kernel_rfl
theorem fo106_2 : fieldOff Tryz.prog 106 2 = some (104, 3) := by kernel_rfl
theorem ti107 : tinfo Tryz.prog 107 = some ((.slice none 0 0), 1, 24) := by kernel_rfl
theorem ts107 : tsz Tryz.prog 107 = some 1 := by kernel_rfl
theorem ta107 : tagg Tryz.prog 107 = some false := by kernel_rfl
theorem un107 : Tryz.prog.underlying 107 = some (.slice 4) := by kernel_rfl
theorem es107 : esz Tryz.prog 107 = some 1 := by kernel_rfl
theorem im107 : isMapT Tryz.prog 107 = false := by kernel_rfl
theorem ti109 : tinfo Tryz.prog 109 = some ((.pointer none), 1, 8) := by kernel_rfl
theorem ts109 : tsz Tryz.prog 109 = some 1 := by kernel_rfl
theorem ta109 : tagg Tryz.prog 109 = some false := by kernel_rfl
theorem un109 : Tryz.prog.underlying 109 = some (.pointer 111) := by kernel_rfl
theorem ip109 : isPtrT Tryz.prog 109 = true := by kernel_rfl
theorem ti110 : tinfo Tryz.prog 110 = some ((.agg #[(.pointer none), (.slice none 0 0)]), 2, 32) := by kernel_rfl
theorem ts110 : tsz Tryz.prog 110 = some 2 := by kernel_rfl
theorem ta110 : tagg Tryz.prog 110 = some true := by kernel_rfl
theorem if110 : ifaceT Tryz.prog 110 = some false := by kernel_rfl
theorem fo110_0 : fieldOff Tryz.prog 110 0 = some (109, 0) := by kernel_rfl
theorem fo110_1 : fieldOff Tryz.prog 110 1 = some (34, 1) := by kernel_rfl
theorem ti111 : tinfo Tryz.prog 111 = some ((.agg #[(.pointer none), (.slice none 0 0)]), 2, 32) := by kernel_rfl
theorem ts111 : tsz Tryz.prog 111 = some 2 := by kernel_rfl
theorem ta111 : tagg Tryz.prog 111 = some true := by kernel_rfl
theorem if111 : ifaceT Tryz.prog 111 = some false := by kernel_rfl
theorem fo111_0 : fieldOff Tryz.prog 111 0 = some (109, 0) := by kernel_rfl
theorem fo111_1 : fieldOff Tryz.prog 111 1 = some (34, 1) := by kernel_rfl
theorem ti112 : tinfo Tryz.prog 112 = some ((.agg #[(.string ⟨#[]⟩), (.bool false), (.bool false)]), 3, 24) := by kernel_rfl
theorem ts112 : tsz Tryz.prog 112 = some 3 := by kernel_rfl
theorem ta112 : tagg Tryz.prog 112 = some true := by kernel_rfl
theorem if112 : ifaceT Tryz.prog 112 = some false := by kernel_rfl
theorem fo112_0 : fieldOff Tryz.prog 112 0 = some (9, 0) := by kernel_rfl
theorem fo112_1 : fieldOff Tryz.prog 112 1 = some (4, 1) := by kernel_rfl
theorem fo112_2 : fieldOff Tryz.prog 112 2 = some (4, 2) := by kernel_rfl
theorem ti113 : tinfo Tryz.prog 113 = some ((.agg #[(.string ⟨#[]⟩), (.bool false), (.bool false)]), 3, 24) := by kernel_rfl
theorem ts113 : tsz Tryz.prog 113 = some 3 := by kernel_rfl
theorem ta113 : tagg Tryz.prog 113 = some true := by kernel_rfl
theorem if113 : ifaceT Tryz.prog 113 = some false := by kernel_rfl
theorem fo113_0 : fieldOff Tryz.prog 113 0 = some (9, 0) := by kernel_rfl
theorem fo113_1 : fieldOff Tryz.prog 113 1 = some (4, 1) := by kernel_rfl
theorem fo113_2 : fieldOff Tryz.prog 113 2 = some (4, 2) := by kernel_rfl
theorem ti114 : tinfo Tryz.prog 114 = some (.nilIface, 1, 16) := by kernel_rfl
theorem ts114 : tsz Tryz.prog 114 = some 1 := by kernel_rfl
theorem ta114 : tagg Tryz.prog 114 = some false := by kernel_rfl
theorem ti115 : tinfo Tryz.prog 115 = some (.nilIface, 1, 16) := by kernel_rfl
theorem ts115 : tsz Tryz.prog 115 = some 1 := by kernel_rfl
theorem ta115 : tagg Tryz.prog 115 = some false := by kernel_rfl
theorem ti128 : tinfo Tryz.prog 128 = some ((.slice none 0 0), 1, 24) := by kernel_rfl
theorem ts128 : tsz Tryz.prog 128 = some 1 := by kernel_rfl
theorem ta128 : tagg Tryz.prog 128 = some false := by kernel_rfl
theorem un128 : Tryz.prog.underlying 128 = some (.slice 9) := by kernel_rfl
theorem es128 : esz Tryz.prog 128 = some 1 := by kernel_rfl
theorem im128 : isMapT Tryz.prog 128 = false := by kernel_rfl
theorem ti131 : tinfo Tryz.prog 131 = some ((.agg #[(.string ⟨#[]⟩), (.int .i64 0), (.int .i64 0), (.int .i64 0)]), 4, 40) := by kernel_rfl
theorem ts131 : tsz Tryz.prog 131 = some 4 := by kernel_rfl
theorem ta131 : tagg Tryz.prog 131 = some true := by kernel_rfl
theorem if131 : ifaceT Tryz.prog 131 = some false := by kernel_rfl
theorem fo131_0 : fieldOff Tryz.prog 131 0 = some (9, 0) := by kernel_rfl
theorem fo131_1 : fieldOff Tryz.prog 131 1 = some (3, 1) := by kernel_rfl
theorem fo131_2 : fieldOff Tryz.prog 131 2 = some (3, 2) := by kernel_rfl
theorem fo131_3 : fieldOff Tryz.prog 131 3 = some (3, 3) := by kernel_rfl
theorem ti132 : tinfo Tryz.prog 132 = some ((.agg #[(.string ⟨#[]⟩), (.int .i64 0), (.int .i64 0), (.int .i64 0)]), 4, 40) := by kernel_rfl
theorem ts132 : tsz Tryz.prog 132 = some 4 := by kernel_rfl
theorem ta132 : tagg Tryz.prog 132 = some true := by kernel_rfl
theorem if132 : ifaceT Tryz.prog 132 = some false := by kernel_rfl
theorem fo132_0 : fieldOff Tryz.prog 132 0 = some (9, 0) := by kernel_rfl
theorem fo132_1 : fieldOff Tryz.prog 132 1 = some (3, 1) := by kernel_rfl
theorem fo132_2 : fieldOff Tryz.prog 132 2 = some (3, 2) := by kernel_rfl
theorem fo132_3 : fieldOff Tryz.prog 132 3 = some (3, 3) := by kernel_rfl
theorem ti133 : tinfo Tryz.prog 133 = some ((.agg #[(.string ⟨#[]⟩), (.int .i64 0), (.int .i64 0), (.int .i64 0)]), 4, 40) := by kernel_rfl
theorem ts133 : tsz Tryz.prog 133 = some 4 := by kernel_rfl
theorem ta133 : tagg Tryz.prog 133 = some true := by kernel_rfl
theorem if133 : ifaceT Tryz.prog 133 = some false := by kernel_rfl
theorem fo133_0 : fieldOff Tryz.prog 133 0 = some (9, 0) := by kernel_rfl
theorem fo133_1 : fieldOff Tryz.prog 133 1 = some (3, 1) := by kernel_rfl
theorem fo133_2 : fieldOff Tryz.prog 133 2 = some (3, 2) := by kernel_rfl
theorem fo133_3 : fieldOff Tryz.prog 133 3 = some (3, 3) := by kernel_rfl
theorem ti137 : tinfo Tryz.prog 137 = some ((.agg #[(.slice none 0 0), (.int .i64 0)]), 2, 32) := by kernel_rfl
theorem ts137 : tsz Tryz.prog 137 = some 2 := by kernel_rfl
theorem ta137 : tagg Tryz.prog 137 = some true := by kernel_rfl
theorem if137 : ifaceT Tryz.prog 137 = some false := by kernel_rfl
theorem fo137_0 : fieldOff Tryz.prog 137 0 = some (34, 0) := by kernel_rfl
theorem fo137_1 : fieldOff Tryz.prog 137 1 = some (3, 1) := by kernel_rfl
theorem ti138 : tinfo Tryz.prog 138 = some ((.agg #[(.slice none 0 0), (.int .i64 0)]), 2, 32) := by kernel_rfl
theorem ts138 : tsz Tryz.prog 138 = some 2 := by kernel_rfl
theorem ta138 : tagg Tryz.prog 138 = some true := by kernel_rfl
theorem if138 : ifaceT Tryz.prog 138 = some false := by kernel_rfl
theorem fo138_0 : fieldOff Tryz.prog 138 0 = some (34, 0) := by kernel_rfl
theorem fo138_1 : fieldOff Tryz.prog 138 1 = some (3, 1) := by kernel_rfl
theorem ti148 : tinfo Tryz.prog 148 = some ((.map none), 1, 8) := by kernel_rfl
theorem ts148 : tsz Tryz.prog 148 = some 1 := by kernel_rfl
theorem ta148 : tagg Tryz.prog 148 = some false := by kernel_rfl
theorem un148 : Tryz.prog.underlying 148 = some (.map 151 3) := by kernel_rfl
theorem im148 : isMapT Tryz.prog 148 = true := by kernel_rfl
theorem ti150 : tinfo Tryz.prog 150 = some ((.agg #[(.string ⟨#[]⟩), (.bool false)]), 2, 24) := by kernel_rfl
theorem ts150 : tsz Tryz.prog 150 = some 2 := by kernel_rfl
theorem ta150 : tagg Tryz.prog 150 = some true := by kernel_rfl
theorem if150 : ifaceT Tryz.prog 150 = some false := by kernel_rfl
theorem fo150_0 : fieldOff Tryz.prog 150 0 = some (9, 0) := by kernel_rfl
theorem fo150_1 : fieldOff Tryz.prog 150 1 = some (4, 1) := by kernel_rfl
theorem ti151 : tinfo Tryz.prog 151 = some ((.agg #[(.string ⟨#[]⟩), (.bool false)]), 2, 24) := by kernel_rfl
theorem ts151 : tsz Tryz.prog 151 = some 2 := by kernel_rfl
theorem ta151 : tagg Tryz.prog 151 = some true := by kernel_rfl
theorem if151 : ifaceT Tryz.prog 151 = some false := by kernel_rfl
theorem fo151_0 : fieldOff Tryz.prog 151 0 = some (9, 0) := by kernel_rfl
theorem fo151_1 : fieldOff Tryz.prog 151 1 = some (4, 1) := by kernel_rfl
theorem ti153 : tinfo Tryz.prog 153 = some ((.map none), 1, 8) := by kernel_rfl
theorem ts153 : tsz Tryz.prog 153 = some 1 := by kernel_rfl
theorem ta153 : tagg Tryz.prog 153 = some false := by kernel_rfl
theorem un153 : Tryz.prog.underlying 153 = some (.map 3 3) := by kernel_rfl
theorem im153 : isMapT Tryz.prog 153 = true := by kernel_rfl
theorem ti158 : tinfo Tryz.prog 158 = some ((.map none), 1, 8) := by kernel_rfl
theorem ts158 : tsz Tryz.prog 158 = some 1 := by kernel_rfl
theorem ta158 : tagg Tryz.prog 158 = some false := by kernel_rfl
theorem un158 : Tryz.prog.underlying 158 = some (.map 9 165) := by kernel_rfl
theorem im158 : isMapT Tryz.prog 158 = true := by kernel_rfl
theorem ti159 : tinfo Tryz.prog 159 = some ((.map none), 1, 8) := by kernel_rfl
theorem ts159 : tsz Tryz.prog 159 = some 1 := by kernel_rfl
theorem ta159 : tagg Tryz.prog 159 = some false := by kernel_rfl
theorem un159 : Tryz.prog.underlying 159 = some (.map 9 166) := by kernel_rfl
theorem im159 : isMapT Tryz.prog 159 = true := by kernel_rfl
theorem ti160 : tinfo Tryz.prog 160 = some ((.agg #[(.map none), (.map none), (.slice none 0 0), (.int .i64 0), (.map none), (.map none)]), 6, 64) := by kernel_rfl
theorem ts160 : tsz Tryz.prog 160 = some 6 := by kernel_rfl
theorem ta160 : tagg Tryz.prog 160 = some true := by kernel_rfl
theorem if160 : ifaceT Tryz.prog 160 = some false := by kernel_rfl
theorem fo160_0 : fieldOff Tryz.prog 160 0 = some (70, 0) := by kernel_rfl
theorem fo160_1 : fieldOff Tryz.prog 160 1 = some (84, 2) := by kernel_rfl
theorem fo160_2 : fieldOff Tryz.prog 160 2 = some (3, 3) := by kernel_rfl
theorem fo160_3 : fieldOff Tryz.prog 160 3 = some (158, 4) := by kernel_rfl
theorem fo160_4 : fieldOff Tryz.prog 160 4 = some (159, 5) := by kernel_rfl
theorem ti161 : tinfo Tryz.prog 161 = some ((.agg #[(.map none), (.map none), (.slice none 0 0), (.int .i64 0), (.map none), (.map none)]), 6, 64) := by kernel_rfl
theorem ts161 : tsz Tryz.prog 161 = some 6 := by kernel_rfl
theorem ta161 : tagg Tryz.prog 161 = some true := by kernel_rfl
theorem if161 : ifaceT Tryz.prog 161 = some false := by kernel_rfl
theorem fo161_0 : fieldOff Tryz.prog 161 0 = some (70, 0) := by kernel_rfl
theorem fo161_1 : fieldOff Tryz.prog 161 1 = some (84, 2) := by kernel_rfl
theorem fo161_2 : fieldOff Tryz.prog 161 2 = some (3, 3) := by kernel_rfl
theorem fo161_3 : fieldOff Tryz.prog 161 3 = some (158, 4) := by kernel_rfl
theorem fo161_4 : fieldOff Tryz.prog 161 4 = some (159, 5) := by kernel_rfl
theorem ti163 : tinfo Tryz.prog 163 = some ((.agg #[(.string ⟨#[]⟩), (.int .i64 0), (.int .i64 0), (.int .i64 0), .nilIface, .nilIface, (.int .i64 0)]), 7, 80) := by kernel_rfl
theorem ts163 : tsz Tryz.prog 163 = some 7 := by kernel_rfl
theorem ta163 : tagg Tryz.prog 163 = some true := by kernel_rfl
theorem if163 : ifaceT Tryz.prog 163 = some false := by kernel_rfl
theorem fo163_0 : fieldOff Tryz.prog 163 0 = some (133, 0) := by kernel_rfl
theorem fo163_1 : fieldOff Tryz.prog 163 1 = some (92, 4) := by kernel_rfl
theorem fo163_2 : fieldOff Tryz.prog 163 2 = some (92, 5) := by kernel_rfl
theorem fo163_3 : fieldOff Tryz.prog 163 3 = some (3, 6) := by kernel_rfl
theorem ti164 : tinfo Tryz.prog 164 = some ((.agg #[(.string ⟨#[]⟩), (.int .i64 0), (.int .i64 0), (.int .i64 0), .nilIface, .nilIface, (.int .i64 0)]), 7, 80) := by kernel_rfl
theorem ts164 : tsz Tryz.prog 164 = some 7 := by kernel_rfl
theorem ta164 : tagg Tryz.prog 164 = some true := by kernel_rfl
theorem if164 : ifaceT Tryz.prog 164 = some false := by kernel_rfl
theorem mo164_height : methOf Tryz.prog 164 "loop.example/s0059/impl.height" = some 181 := by kernel_rfl
theorem mo164_level : methOf Tryz.prog 164 "loop.example/s0059/impl.level" = some 182 := by kernel_rfl
theorem mo164_nodes : methOf Tryz.prog 164 "loop.example/s0059/impl.nodes" = some 183 := by kernel_rfl
theorem fo164_0 : fieldOff Tryz.prog 164 0 = some (133, 0) := by kernel_rfl
theorem fo164_1 : fieldOff Tryz.prog 164 1 = some (92, 4) := by kernel_rfl
theorem fo164_2 : fieldOff Tryz.prog 164 2 = some (92, 5) := by kernel_rfl
theorem fo164_3 : fieldOff Tryz.prog 164 3 = some (3, 6) := by kernel_rfl
theorem ti167 : tinfo Tryz.prog 167 = some ((.agg #[]), 0, 0) := by kernel_rfl
theorem ts167 : tsz Tryz.prog 167 = some 0 := by kernel_rfl
theorem ta167 : tagg Tryz.prog 167 = some true := by kernel_rfl
theorem if167 : ifaceT Tryz.prog 167 = some false := by kernel_rfl
theorem ti168 : tinfo Tryz.prog 168 = some ((.agg #[]), 0, 0) := by kernel_rfl
theorem ts168 : tsz Tryz.prog 168 = some 0 := by kernel_rfl
theorem ta168 : tagg Tryz.prog 168 = some true := by kernel_rfl
theorem if168 : ifaceT Tryz.prog 168 = some false := by kernel_rfl
theorem ti171 : tinfo Tryz.prog 171 = some ((.slice none 0 0), 1, 24) := by kernel_rfl
theorem ts171 : tsz Tryz.prog 171 = some 1 := by kernel_rfl
theorem ta171 : tagg Tryz.prog 171 = some false := by kernel_rfl
theorem un171 : Tryz.prog.underlying 171 = some (.slice 92) := by kernel_rfl
theorem es171 : esz Tryz.prog 171 = some 1 := by kernel_rfl
theorem im171 : isMapT Tryz.prog 171 = false := by kernel_rfl
theorem ti174 : tinfo Tryz.prog 174 = some ((.pointer none), 1, 8) := by kernel_rfl
theorem ts174 : tsz Tryz.prog 174 = some 1 := by kernel_rfl
theorem ta174 : tagg Tryz.prog 174 = some false := by kernel_rfl
theorem un174 : Tryz.prog.underlying 174 = some (.pointer 5) := by kernel_rfl
theorem ip174 : isPtrT Tryz.prog 174 = true := by kernel_rfl
theorem ti192 : tinfo Tryz.prog 192 = some ((.agg #[(.int .i64 0), (.string ⟨#[]⟩), (.int .i64 0), (.int .i64 0)]), 4, 40) := by kernel_rfl
theorem ts192 : tsz Tryz.prog 192 = some 4 := by kernel_rfl
theorem ta192 : tagg Tryz.prog 192 = some true := by kernel_rfl
theorem if192 : ifaceT Tryz.prog 192 = some false := by kernel_rfl
theorem fo192_0 : fieldOff Tryz.prog 192 0 = some (77, 0) := by kernel_rfl
theorem ti193 : tinfo Tryz.prog 193 = some ((.agg #[(.int .i64 0), (.string ⟨#[]⟩), (.int .i64 0), (.int .i64 0)]), 4, 40) := by kernel_rfl
theorem ts193 : tsz Tryz.prog 193 = some 4 := by kernel_rfl
theorem ta193 : tagg Tryz.prog 193 = some true := by kernel_rfl
theorem if193 : ifaceT Tryz.prog 193 = some false := by kernel_rfl
theorem mo193_height : methOf Tryz.prog 193 "loop.example/s0059/impl.height" = some 184 := by kernel_rfl
theorem mo193_level : methOf Tryz.prog 193 "loop.example/s0059/impl.level" = some 185 := by kernel_rfl
theorem mo193_nodes : methOf Tryz.prog 193 "loop.example/s0059/impl.nodes" = some 186 := by kernel_rfl
theorem fo193_0 : fieldOff Tryz.prog 193 0 = some (77, 0) := by kernel_rfl
theorem un194 : Tryz.prog.underlying 194 = some .unsafePointer := by kernel_rfl
theorem ti209 : tinfo Tryz.prog 209 = some ((.pointer none), 1, 8) := by kernel_rfl
theorem ts209 : tsz Tryz.prog 209 = some 1 := by kernel_rfl
theorem ta209 : tagg Tryz.prog 209 = some false := by kernel_rfl
theorem un209 : Tryz.prog.underlying 209 = some (.pointer 205) := by kernel_rfl
theorem ip209 : isPtrT Tryz.prog 209 = true := by kernel_rfl
theorem ti211 : tinfo Tryz.prog 211 = some ((.agg #[.nilIface, (.int .i64 0)]), 2, 24) := by kernel_rfl
theorem ts211 : tsz Tryz.prog 211 = some 2 := by kernel_rfl
theorem ta211 : tagg Tryz.prog 211 = some true := by kernel_rfl
theorem if211 : ifaceT Tryz.prog 211 = some false := by kernel_rfl
theorem fo211_0 : fieldOff Tryz.prog 211 0 = some (92, 0) := by kernel_rfl
theorem fo211_1 : fieldOff Tryz.prog 211 1 = some (3, 1) := by kernel_rfl
theorem ti212 : tinfo Tryz.prog 212 = some ((.agg #[.nilIface, (.int .i64 0)]), 2, 24) := by kernel_rfl
theorem ts212 : tsz Tryz.prog 212 = some 2 := by kernel_rfl
theorem ta212 : tagg Tryz.prog 212 = some true := by kernel_rfl
theorem if212 : ifaceT Tryz.prog 212 = some false := by kernel_rfl
theorem mo212_height : methOf Tryz.prog 212 "loop.example/s0059/impl.height" = some 187 := by kernel_rfl
theorem mo212_level : methOf Tryz.prog 212 "loop.example/s0059/impl.level" = some 188 := by kernel_rfl
theorem mo212_nodes : methOf Tryz.prog 212 "loop.example/s0059/impl.nodes" = some 189 := by kernel_rfl
theorem fo212_0 : fieldOff Tryz.prog 212 0 = some (92, 0) := by kernel_rfl
theorem fo212_1 : fieldOff Tryz.prog 212 1 = some (3, 1) := by kernel_rfl
theorem ti219 : tinfo Tryz.prog 219 = some ((.int .u64 0), 1, 8) := by kernel_rfl
theorem ts219 : tsz Tryz.prog 219 = some 1 := by kernel_rfl
theorem ta219 : tagg Tryz.prog 219 = some false := by kernel_rfl
theorem ti220 : tinfo Tryz.prog 220 = some ((.agg #[(.int .u8 0), (.int .u8 0)]), 2, 2) := by kernel_rfl
theorem ts220 : tsz Tryz.prog 220 = some 2 := by kernel_rfl
theorem ta220 : tagg Tryz.prog 220 = some true := by kernel_rfl
theorem if220 : ifaceT Tryz.prog 220 = some false := by kernel_rfl
theorem fo220_0 : fieldOff Tryz.prog 220 0 = some (5, 0) := by kernel_rfl
theorem fo220_1 : fieldOff Tryz.prog 220 1 = some (5, 1) := by kernel_rfl
theorem ti221 : tinfo Tryz.prog 221 = some ((.agg #[(.int .u8 0), (.int .u8 0)]), 2, 2) := by kernel_rfl
theorem ts221 : tsz Tryz.prog 221 = some 2 := by kernel_rfl
theorem ta221 : tagg Tryz.prog 221 = some true := by kernel_rfl
theorem if221 : ifaceT Tryz.prog 221 = some false := by kernel_rfl
theorem fo221_0 : fieldOff Tryz.prog 221 0 = some (5, 0) := by kernel_rfl
theorem fo221_1 : fieldOff Tryz.prog 221 1 = some (5, 1) := by kernel_rfl
theorem ti225 : tinfo Tryz.prog 225 = some ((.agg #[(.pointer none), (.pointer none), (.pointer none), (.string ⟨#[]⟩)]), 4, 40) := by kernel_rfl
theorem ts225 : tsz Tryz.prog 225 = some 4 := by kernel_rfl
theorem ta225 : tagg Tryz.prog 225 = some true := by kernel_rfl
theorem if225 : ifaceT Tryz.prog 225 = some false := by kernel_rfl
theorem fo225_0 : fieldOff Tryz.prog 225 0 = some (17, 0) := by kernel_rfl
theorem fo225_1 : fieldOff Tryz.prog 225 1 = some (17, 1) := by kernel_rfl
theorem fo225_2 : fieldOff Tryz.prog 225 2 = some (17, 2) := by kernel_rfl
theorem fo225_3 : fieldOff Tryz.prog 225 3 = some (9, 3) := by kernel_rfl
theorem ti226 : tinfo Tryz.prog 226 = some ((.agg #[(.pointer none), (.pointer none), (.pointer none), (.string ⟨#[]⟩)]), 4, 40) := by kernel_rfl
theorem ts226 : tsz Tryz.prog 226 = some 4 := by kernel_rfl
theorem ta226 : tagg Tryz.prog 226 = some true := by kernel_rfl
theorem if226 : ifaceT Tryz.prog 226 = some false := by kernel_rfl
theorem fo226_0 : fieldOff Tryz.prog 226 0 = some (17, 0) := by kernel_rfl
theorem fo226_1 : fieldOff Tryz.prog 226 1 = some (17, 1) := by kernel_rfl
theorem fo226_2 : fieldOff Tryz.prog 226 2 = some (17, 2) := by kernel_rfl
theorem fo226_3 : fieldOff Tryz.prog 226 3 = some (9, 3) := by kernel_rfl
theorem ti228 : tinfo Tryz.prog 228 = some ((.agg #[]), 0, 0) := by kernel_rfl
theorem ts228 : tsz Tryz.prog 228 = some 0 := by kernel_rfl
theorem ta228 : tagg Tryz.prog 228 = some true := by kernel_rfl
theorem if228 : ifaceT Tryz.prog 228 = some false := by kernel_rfl
theorem fo228_0 : fieldOff Tryz.prog 228 0 = some (227, 0) := by kernel_rfl
theorem ti229 : tinfo Tryz.prog 229 = some ((.agg #[]), 0, 0) := by kernel_rfl
theorem ts229 : tsz Tryz.prog 229 = some 0 := by kernel_rfl
theorem ta229 : tagg Tryz.prog 229 = some true := by kernel_rfl
theorem if229 : ifaceT Tryz.prog 229 = some false := by kernel_rfl
theorem fo229_0 : fieldOff Tryz.prog 229 0 = some (227, 0) := by kernel_rfl
theorem ti230 : tinfo Tryz.prog 230 = some ((.int .u32 0), 1, 4) := by kernel_rfl
theorem ts230 : tsz Tryz.prog 230 = some 1 := by kernel_rfl
theorem ta230 : tagg Tryz.prog 230 = some false := by kernel_rfl
theorem ti231 : tinfo Tryz.prog 231 = some ((.int .u8 0), 1, 1) := by kernel_rfl
theorem ts231 : tsz Tryz.prog 231 = some 1 := by kernel_rfl
theorem ta231 : tagg Tryz.prog 231 = some false := by kernel_rfl
theorem ti232 : tinfo Tryz.prog 232 = some ((.int .u8 0), 1, 1) := by kernel_rfl
theorem ts232 : tsz Tryz.prog 232 = some 1 := by kernel_rfl
theorem ta232 : tagg Tryz.prog 232 = some false := by kernel_rfl
theorem ti234 : tinfo Tryz.prog 234 = some ((.int .i32 0), 1, 4) := by kernel_rfl
theorem ts234 : tsz Tryz.prog 234 = some 1 := by kernel_rfl
theorem ta234 : tagg Tryz.prog 234 = some false := by kernel_rfl
theorem ti235 : tinfo Tryz.prog 235 = some ((.int .i32 0), 1, 4) := by kernel_rfl
theorem ts235 : tsz Tryz.prog 235 = some 1 := by kernel_rfl
theorem ta235 : tagg Tryz.prog 235 = some false := by kernel_rfl
theorem ti236 : tinfo Tryz.prog 236 = some ((.agg #[(.int .u64 0), (.int .u64 0), (.int .u32 0), (.int .u8 0), (.int .u8 0), (.int .u8 0), (.int .u8 0), .nilFunc, (.pointer none), (.int .i32 0), (.int .i32 0)]), 11, 48) := by kernel_rfl
theorem ts236 : tsz Tryz.prog 236 = some 11 := by kernel_rfl
theorem ta236 : tagg Tryz.prog 236 = some true := by kernel_rfl
theorem if236 : ifaceT Tryz.prog 236 = some false := by kernel_rfl
theorem fo236_0 : fieldOff Tryz.prog 236 0 = some (12, 0) := by kernel_rfl
theorem fo236_1 : fieldOff Tryz.prog 236 1 = some (12, 1) := by kernel_rfl
theorem fo236_2 : fieldOff Tryz.prog 236 2 = some (230, 2) := by kernel_rfl
theorem fo236_3 : fieldOff Tryz.prog 236 3 = some (231, 3) := by kernel_rfl
theorem fo236_4 : fieldOff Tryz.prog 236 4 = some (5, 4) := by kernel_rfl
theorem fo236_5 : fieldOff Tryz.prog 236 5 = some (5, 5) := by kernel_rfl
theorem fo236_6 : fieldOff Tryz.prog 236 6 = some (232, 6) := by kernel_rfl
theorem fo236_7 : fieldOff Tryz.prog 236 7 = some (233, 7) := by kernel_rfl
theorem fo236_8 : fieldOff Tryz.prog 236 8 = some (174, 8) := by kernel_rfl
theorem fo236_9 : fieldOff Tryz.prog 236 9 = some (234, 9) := by kernel_rfl
theorem fo236_10 : fieldOff Tryz.prog 236 10 = some (235, 10) := by kernel_rfl
theorem ti237 : tinfo Tryz.prog 237 = some ((.agg #[(.int .u64 0), (.int .u64 0), (.int .u32 0), (.int .u8 0), (.int .u8 0), (.int .u8 0), (.int .u8 0), .nilFunc, (.pointer none), (.int .i32 0), (.int .i32 0)]), 11, 48) := by kernel_rfl
theorem ts237 : tsz Tryz.prog 237 = some 11 := by kernel_rfl
theorem ta237 : tagg Tryz.prog 237 = some true := by kernel_rfl
theorem if237 : ifaceT Tryz.prog 237 = some false := by kernel_rfl
theorem fo237_0 : fieldOff Tryz.prog 237 0 = some (12, 0) := by kernel_rfl
theorem fo237_1 : fieldOff Tryz.prog 237 1 = some (12, 1) := by kernel_rfl
theorem fo237_2 : fieldOff Tryz.prog 237 2 = some (230, 2) := by kernel_rfl
theorem fo237_3 : fieldOff Tryz.prog 237 3 = some (231, 3) := by kernel_rfl
theorem fo237_4 : fieldOff Tryz.prog 237 4 = some (5, 4) := by kernel_rfl
theorem fo237_5 : fieldOff Tryz.prog 237 5 = some (5, 5) := by kernel_rfl
theorem fo237_6 : fieldOff Tryz.prog 237 6 = some (232, 6) := by kernel_rfl
theorem fo237_7 : fieldOff Tryz.prog 237 7 = some (233, 7) := by kernel_rfl
theorem fo237_8 : fieldOff Tryz.prog 237 8 = some (174, 8) := by kernel_rfl
theorem fo237_9 : fieldOff Tryz.prog 237 9 = some (234, 9) := by kernel_rfl
theorem fo237_10 : fieldOff Tryz.prog 237 10 = some (235, 10) := by kernel_rfl
theorem depth_pos : 0 < Tryz.prog.depth := of_decide_eq_true (by kernel_rfl)
attribute [go_sem] ti2 ts2 ta2 ti3 ts3 ta3 ti4 ts4 ta4 ti5 ts5 ta5 ti6 ts6 ta6 ti7 ts7 ta7 if7 fo7_0 fo7_1 fo7_2 fo7_3 ti8 ts8 ta8 if8 fo8_0 fo8_1 fo8_2 fo8_3 ti9 ts9 ta9 im9 un9 ti10 ts10 ta10 im10 un10 ti11 ts11 ta11 im11 un11 ti12 ts12 ta12 ti13 ts13 ta13 if13 fo13_0 fo13_1 ti14 ts14 ta14 if14 fo14_0 fo14_1 ti15 ts15 ta15 un15 ip15 ti16 ts16 ta16 un16 ip16 ti17 ts17 ta17 un17 ip17 ti18 ts18 ta18 if18 fo18_0 ti19 ts19 ta19 if19 fo19_0 ti20 ts20 ta20 ti21 ts21 ta21 ti22 ts22 ta22 un22 es22 im22 ti23 ts23 ta23 if23 fo23_0 ti24 ts24 ta24 if24 fo24_0 ti28 ts28 ta28 un28 es28 im28 ti29 ts29 ta29 if29 fo29_0 ti30 ts30 ta30 if30 fo30_0 ti34 ts34 ta34 un34 es34 im34 ti35 ts35 ta35 un35 es35 im35 ti36 ts36 ta36 if36 fo36_0 ti37 ts37 ta37 if37 fo37_0 ti62 ts62 ta62 un62 ip62 ti67 ts67 ta67 un67 im67 ti68 ts68 ta68 un68 im68 ti69 ts69 ta69 if69 fo69_0 fo69_1 ti70 ts70 ta70 if70 mo70_front mo70_leasts mo70_levels mo70_of mo70_partsOf fo70_0 fo70_1 ti73 ts73 ta73 un73 es73 im73 ti76 ts76 ta76 if76 fo76_0 fo76_1 fo76_2 fo76_3 ti77 ts77 ta77 if77 fo77_0 fo77_1 fo77_2 fo77_3 ti80 ts80 ta80 un80 es80 im80 ti82 ts82 ta82 if82 fo82_0 fo82_1 fo82_2 ti83 ts83 ta83 if83 fo83_0 fo83_1 fo83_2 ti84 ts84 ta84 un84 es84 im84 ti87 ts87 ta87 if87 fo87_0 fo87_1 fo87_2 ti88 ts88 ta88 if88 fo88_0 fo88_1 fo88_2 ti91 ts91 ta91 ti92 ts92 ta92 ti94 ts94 ta94 un94 ip94 ti101 ts101 ta101 un101 ip101 ti104 ts104 ta104 un104 es104 im104 ti105 ts105 ta105 if105 fo105_0 fo105_1 fo105_2 ti106 ts106 ta106 if106 fo106_0 fo106_1 fo106_2 ti107 ts107 ta107 un107 es107 im107 ti109 ts109 ta109 un109 ip109 ti110 ts110 ta110 if110 fo110_0 fo110_1 ti111 ts111 ta111 if111 fo111_0 fo111_1 ti112 ts112 ta112 if112 fo112_0 fo112_1 fo112_2 ti113 ts113 ta113 if113 fo113_0 fo113_1 fo113_2 ti114 ts114 ta114 ti115 ts115 ta115 ti128 ts128 ta128 un128 es128 im128 ti131 ts131 ta131 if131 fo131_0 fo131_1 fo131_2 fo131_3 ti132 ts132 ta132 if132 fo132_0 fo132_1 fo132_2 fo132_3 ti133 ts133 ta133 if133 fo133_0 fo133_1 fo133_2 fo133_3 ti137 ts137 ta137 if137 fo137_0 fo137_1 ti138 ts138 ta138 if138 fo138_0 fo138_1 ti148 ts148 ta148 un148 im148 ti150 ts150 ta150 if150 fo150_0 fo150_1 ti151 ts151 ta151 if151 fo151_0 fo151_1 ti153 ts153 ta153 un153 im153 ti158 ts158 ta158 un158 im158 ti159 ts159 ta159 un159 im159 ti160 ts160 ta160 if160 fo160_0 fo160_1 fo160_2 fo160_3 fo160_4 ti161 ts161 ta161 if161 fo161_0 fo161_1 fo161_2 fo161_3 fo161_4 ti163 ts163 ta163 if163 fo163_0 fo163_1 fo163_2 fo163_3 ti164 ts164 ta164 if164 mo164_height mo164_level mo164_nodes fo164_0 fo164_1 fo164_2 fo164_3 ti167 ts167 ta167 if167 ti168 ts168 ta168 if168 ti171 ts171 ta171 un171 es171 im171 ti174 ts174 ta174 un174 ip174 ti192 ts192 ta192 if192 fo192_0 ti193 ts193 ta193 if193 mo193_height mo193_level mo193_nodes fo193_0 un194 ti209 ts209 ta209 un209 ip209 ti211 ts211 ta211 if211 fo211_0 fo211_1 ti212 ts212 ta212 if212 mo212_height mo212_level mo212_nodes fo212_0 fo212_1 ti219 ts219 ta219 ti220 ts220 ta220 if220 fo220_0 fo220_1 ti221 ts221 ta221 if221 fo221_0 fo221_1 ti225 ts225 ta225 if225 fo225_0 fo225_1 fo225_2 fo225_3 ti226 ts226 ta226 if226 fo226_0 fo226_1 fo226_2 fo226_3 ti228 ts228 ta228 if228 fo228_0 ti229 ts229 ta229 if229 fo229_0 ti230 ts230 ta230 ti231 ts231 ta231 ti232 ts232 ta232 ti234 ts234 ta234 ti235 ts235 ta235 ti236 ts236 ta236 if236 fo236_0 fo236_1 fo236_2 fo236_3 fo236_4 fo236_5 fo236_6 fo236_7 fo236_8 fo236_9 fo236_10 ti237 ts237 ta237 if237 fo237_0 fo237_1 fo237_2 fo237_3 fo237_4 fo237_5 fo237_6 fo237_7 fo237_8 fo237_9 fo237_10 depth_pos
end Go.Proofs.YtjdmmhcogmepaaaGreatDoor.V
