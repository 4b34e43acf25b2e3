import Derived.Test.YtcnmgfbafcnkhaaMC
import Derived.Test.YtcnmgfbafcnkhaaProg
import Derived.KernelRfl
/- Sizes, bytes and zero values of this program's types: closed facts. -/
namespace Go.Proofs.Ytcnmgfbafcnkhaa.V
theorem ti2 : tinfo Try.prog 2 = some ((.int .i64 0), 1, 8) := by kernel_rfl
theorem ts2 : tsz Try.prog 2 = some 1 := by kernel_rfl
theorem ta2 : tagg Try.prog 2 = some false := by kernel_rfl
theorem ti3 : tinfo Try.prog 3 = some ((.int .i64 0), 1, 8) := by kernel_rfl
theorem ts3 : tsz Try.prog 3 = some 1 := by kernel_rfl
theorem ta3 : tagg Try.prog 3 = some false := by kernel_rfl
theorem ti4 : tinfo Try.prog 4 = some ((.bool false), 1, 1) := by kernel_rfl
theorem ts4 : tsz Try.prog 4 = some 1 := by kernel_rfl
theorem ta4 : tagg Try.prog 4 = some false := by kernel_rfl
theorem ti5 : tinfo Try.prog 5 = some ((.int .u8 0), 1, 1) := by kernel_rfl
theorem ts5 : tsz Try.prog 5 = some 1 := by kernel_rfl
theorem ta5 : tagg Try.prog 5 = some false := by kernel_rfl
theorem ti6 : tinfo Try.prog 6 = some ((.int .u8 0), 1, 1) := by kernel_rfl
theorem ts6 : tsz Try.prog 6 = some 1 := by kernel_rfl
theorem ta6 : tagg Try.prog 6 = some false := by kernel_rfl
theorem ti7 : tinfo Try.prog 7 = some ((.agg #[(.int .i64 0), (.int .i64 0), (.bool false), (.int .u8 0)]), 4, 24) := by kernel_rfl
theorem ts7 : tsz Try.prog 7 = some 4 := by kernel_rfl
theorem ta7 : tagg Try.prog 7 = some true := by kernel_rfl
theorem if7 : ifaceT Try.prog 7 = some false := by kernel_rfl
theorem fo7_0 : fieldOff Try.prog 7 0 = some (2, 0) := by kernel_rfl
theorem fo7_1 : fieldOff Try.prog 7 1 = some (3, 1) := by kernel_rfl
theorem fo7_2 : fieldOff Try.prog 7 2 = some (4, 2) := by kernel_rfl
theorem fo7_3 : fieldOff Try.prog 7 3 = some (6, 3) := by kernel_rfl
theorem ti8 : tinfo Try.prog 8 = some ((.agg #[(.int .i64 0), (.int .i64 0), (.bool false), (.int .u8 0)]), 4, 24) := by kernel_rfl
theorem ts8 : tsz Try.prog 8 = some 4 := by kernel_rfl
theorem ta8 : tagg Try.prog 8 = some true := by kernel_rfl
theorem if8 : ifaceT Try.prog 8 = some false := by kernel_rfl
theorem fo8_0 : fieldOff Try.prog 8 0 = some (2, 0) := by kernel_rfl
theorem fo8_1 : fieldOff Try.prog 8 1 = some (3, 1) := by kernel_rfl
theorem fo8_2 : fieldOff Try.prog 8 2 = some (4, 2) := by kernel_rfl
theorem fo8_3 : fieldOff Try.prog 8 3 = some (6, 3) := by kernel_rfl
theorem ti9 : tinfo Try.prog 9 = some ((.string ⟨#[]⟩), 1, 16) := by kernel_rfl
theorem ts9 : tsz Try.prog 9 = some 1 := by kernel_rfl
theorem ta9 : tagg Try.prog 9 = some false := by kernel_rfl
theorem im9 : isMapT Try.prog 9 = false := by kernel_rfl
theorem un9 : Try.prog.underlying 9 = some .string := by kernel_rfl
theorem ti10 : tinfo Try.prog 10 = some ((.string ⟨#[]⟩), 1, 16) := by kernel_rfl
theorem ts10 : tsz Try.prog 10 = some 1 := by kernel_rfl
theorem ta10 : tagg Try.prog 10 = some false := by kernel_rfl
theorem im10 : isMapT Try.prog 10 = false := by kernel_rfl
theorem un10 : Try.prog.underlying 10 = some .string := by kernel_rfl
theorem ti11 : tinfo Try.prog 11 = some ((.string ⟨#[]⟩), 1, 16) := by kernel_rfl
theorem ts11 : tsz Try.prog 11 = some 1 := by kernel_rfl
theorem ta11 : tagg Try.prog 11 = some false := by kernel_rfl
theorem im11 : isMapT Try.prog 11 = false := by kernel_rfl
theorem un11 : Try.prog.underlying 11 = some .string := by kernel_rfl
theorem ti12 : tinfo Try.prog 12 = some ((.int .u64 0), 1, 8) := by kernel_rfl
theorem ts12 : tsz Try.prog 12 = some 1 := by kernel_rfl
theorem ta12 : tagg Try.prog 12 = some false := by kernel_rfl
theorem ti13 : tinfo Try.prog 13 = some ((.agg #[(.string ⟨#[]⟩), (.int .u64 0)]), 2, 24) := by kernel_rfl
theorem ts13 : tsz Try.prog 13 = some 2 := by kernel_rfl
theorem ta13 : tagg Try.prog 13 = some true := by kernel_rfl
theorem if13 : ifaceT Try.prog 13 = some false := by kernel_rfl
theorem fo13_0 : fieldOff Try.prog 13 0 = some (9, 0) := by kernel_rfl
theorem fo13_1 : fieldOff Try.prog 13 1 = some (12, 1) := by kernel_rfl
theorem ti14 : tinfo Try.prog 14 = some ((.agg #[(.string ⟨#[]⟩), (.int .u64 0)]), 2, 24) := by kernel_rfl
theorem ts14 : tsz Try.prog 14 = some 2 := by kernel_rfl
theorem ta14 : tagg Try.prog 14 = some true := by kernel_rfl
theorem if14 : ifaceT Try.prog 14 = some false := by kernel_rfl
theorem fo14_0 : fieldOff Try.prog 14 0 = some (9, 0) := by kernel_rfl
theorem fo14_1 : fieldOff Try.prog 14 1 = some (12, 1) := by kernel_rfl
theorem ti15 : tinfo Try.prog 15 = some ((.pointer none), 1, 8) := by kernel_rfl
theorem ts15 : tsz Try.prog 15 = some 1 := by kernel_rfl
theorem ta15 : tagg Try.prog 15 = some false := by kernel_rfl
theorem un15 : Try.prog.underlying 15 = some (.pointer 158) := by kernel_rfl
theorem ip15 : isPtrT Try.prog 15 = true := by kernel_rfl
theorem ti16 : tinfo Try.prog 16 = some ((.pointer none), 1, 8) := by kernel_rfl
theorem ts16 : tsz Try.prog 16 = some 1 := by kernel_rfl
theorem ta16 : tagg Try.prog 16 = some false := by kernel_rfl
theorem un16 : Try.prog.underlying 16 = some (.pointer 161) := by kernel_rfl
theorem ip16 : isPtrT Try.prog 16 = true := by kernel_rfl
theorem ti17 : tinfo Try.prog 17 = some ((.pointer none), 1, 8) := by kernel_rfl
theorem ts17 : tsz Try.prog 17 = some 1 := by kernel_rfl
theorem ta17 : tagg Try.prog 17 = some false := by kernel_rfl
theorem un17 : Try.prog.underlying 17 = some (.pointer 169) := by kernel_rfl
theorem ip17 : isPtrT Try.prog 17 = true := by kernel_rfl
theorem ti18 : tinfo Try.prog 18 = some ((.agg #[(.pointer none)]), 1, 8) := by kernel_rfl
theorem ts18 : tsz Try.prog 18 = some 1 := by kernel_rfl
theorem ta18 : tagg Try.prog 18 = some true := by kernel_rfl
theorem if18 : ifaceT Try.prog 18 = some false := by kernel_rfl
theorem fo18_0 : fieldOff Try.prog 18 0 = some (17, 0) := by kernel_rfl
theorem ti19 : tinfo Try.prog 19 = some ((.agg #[(.pointer none)]), 1, 8) := by kernel_rfl
theorem ts19 : tsz Try.prog 19 = some 1 := by kernel_rfl
theorem ta19 : tagg Try.prog 19 = some true := by kernel_rfl
theorem if19 : ifaceT Try.prog 19 = some false := by kernel_rfl
theorem fo19_0 : fieldOff Try.prog 19 0 = some (17, 0) := by kernel_rfl
theorem ti20 : tinfo Try.prog 20 = some (.nilIface, 1, 16) := by kernel_rfl
theorem ts20 : tsz Try.prog 20 = some 1 := by kernel_rfl
theorem ta20 : tagg Try.prog 20 = some false := by kernel_rfl
theorem ti21 : tinfo Try.prog 21 = some ((.int .i32 0), 1, 4) := by kernel_rfl
theorem ts21 : tsz Try.prog 21 = some 1 := by kernel_rfl
theorem ta21 : tagg Try.prog 21 = some false := by kernel_rfl
theorem ti22 : tinfo Try.prog 22 = some ((.slice none 0 0), 1, 24) := by kernel_rfl
theorem ts22 : tsz Try.prog 22 = some 1 := by kernel_rfl
theorem ta22 : tagg Try.prog 22 = some false := by kernel_rfl
theorem un22 : Try.prog.underlying 22 = some (.slice 5) := by kernel_rfl
theorem es22 : esz Try.prog 22 = some 1 := by kernel_rfl
theorem im22 : isMapT Try.prog 22 = false := by kernel_rfl
theorem ti23 : tinfo Try.prog 23 = some ((.slice none 0 0), 1, 24) := by kernel_rfl
theorem ts23 : tsz Try.prog 23 = some 1 := by kernel_rfl
theorem ta23 : tagg Try.prog 23 = some false := by kernel_rfl
theorem un23 : Try.prog.underlying 23 = some (.slice 75) := by kernel_rfl
theorem es23 : esz Try.prog 23 = some 4 := by kernel_rfl
theorem im23 : isMapT Try.prog 23 = false := by kernel_rfl
theorem ti24 : tinfo Try.prog 24 = some ((.agg #[(.slice none 0 0)]), 1, 24) := by kernel_rfl
theorem ts24 : tsz Try.prog 24 = some 1 := by kernel_rfl
theorem ta24 : tagg Try.prog 24 = some true := by kernel_rfl
theorem if24 : ifaceT Try.prog 24 = some false := by kernel_rfl
theorem fo24_0 : fieldOff Try.prog 24 0 = some (23, 0) := by kernel_rfl
theorem ti25 : tinfo Try.prog 25 = some ((.agg #[(.slice none 0 0)]), 1, 24) := by kernel_rfl
theorem ts25 : tsz Try.prog 25 = some 1 := by kernel_rfl
theorem ta25 : tagg Try.prog 25 = some true := by kernel_rfl
theorem if25 : ifaceT Try.prog 25 = some false := by kernel_rfl
theorem fo25_0 : fieldOff Try.prog 25 0 = some (23, 0) := by kernel_rfl
theorem ti28 : tinfo Try.prog 28 = some ((.slice none 0 0), 1, 24) := by kernel_rfl
theorem ts28 : tsz Try.prog 28 = some 1 := by kernel_rfl
theorem ta28 : tagg Try.prog 28 = some false := by kernel_rfl
theorem un28 : Try.prog.underlying 28 = some (.slice 61) := by kernel_rfl
theorem es28 : esz Try.prog 28 = some 3 := by kernel_rfl
theorem im28 : isMapT Try.prog 28 = false := by kernel_rfl
theorem ti31 : tinfo Try.prog 31 = some ((.slice none 0 0), 1, 24) := by kernel_rfl
theorem ts31 : tsz Try.prog 31 = some 1 := by kernel_rfl
theorem ta31 : tagg Try.prog 31 = some false := by kernel_rfl
theorem un31 : Try.prog.underlying 31 = some (.slice 3) := by kernel_rfl
theorem es31 : esz Try.prog 31 = some 1 := by kernel_rfl
theorem im31 : isMapT Try.prog 31 = false := by kernel_rfl
theorem ti36 : tinfo Try.prog 36 = some ((.slice none 0 0), 1, 24) := by kernel_rfl
theorem ts36 : tsz Try.prog 36 = some 1 := by kernel_rfl
theorem ta36 : tagg Try.prog 36 = some false := by kernel_rfl
theorem un36 : Try.prog.underlying 36 = some (.slice 121) := by kernel_rfl
theorem es36 : esz Try.prog 36 = some 4 := by kernel_rfl
theorem im36 : isMapT Try.prog 36 = false := by kernel_rfl
theorem ti37 : tinfo Try.prog 37 = some ((.agg #[(.slice none 0 0)]), 1, 24) := by kernel_rfl
theorem ts37 : tsz Try.prog 37 = some 1 := by kernel_rfl
theorem ta37 : tagg Try.prog 37 = some true := by kernel_rfl
theorem if37 : ifaceT Try.prog 37 = some false := by kernel_rfl
theorem fo37_0 : fieldOff Try.prog 37 0 = some (36, 0) := by kernel_rfl
theorem ti38 : tinfo Try.prog 38 = some ((.agg #[(.slice none 0 0)]), 1, 24) := by kernel_rfl
theorem ts38 : tsz Try.prog 38 = some 1 := by kernel_rfl
theorem ta38 : tagg Try.prog 38 = some true := by kernel_rfl
theorem if38 : ifaceT Try.prog 38 = some false := by kernel_rfl
theorem fo38_0 : fieldOff Try.prog 38 0 = some (36, 0) := by kernel_rfl
theorem ti40 : tinfo Try.prog 40 = some ((.slice none 0 0), 1, 24) := by kernel_rfl
theorem ts40 : tsz Try.prog 40 = some 1 := by kernel_rfl
theorem ta40 : tagg Try.prog 40 = some false := by kernel_rfl
theorem un40 : Try.prog.underlying 40 = some (.slice 124) := by kernel_rfl
theorem es40 : esz Try.prog 40 = some 4 := by kernel_rfl
theorem im40 : isMapT Try.prog 40 = false := by kernel_rfl
theorem ti41 : tinfo Try.prog 41 = some ((.agg #[(.slice none 0 0)]), 1, 24) := by kernel_rfl
theorem ts41 : tsz Try.prog 41 = some 1 := by kernel_rfl
theorem ta41 : tagg Try.prog 41 = some true := by kernel_rfl
theorem if41 : ifaceT Try.prog 41 = some false := by kernel_rfl
theorem fo41_0 : fieldOff Try.prog 41 0 = some (40, 0) := by kernel_rfl
theorem ti42 : tinfo Try.prog 42 = some ((.agg #[(.slice none 0 0)]), 1, 24) := by kernel_rfl
theorem ts42 : tsz Try.prog 42 = some 1 := by kernel_rfl
theorem ta42 : tagg Try.prog 42 = some true := by kernel_rfl
theorem if42 : ifaceT Try.prog 42 = some false := by kernel_rfl
theorem fo42_0 : fieldOff Try.prog 42 0 = some (40, 0) := by kernel_rfl
theorem ti51 : tinfo Try.prog 51 = some ((.pointer none), 1, 8) := by kernel_rfl
theorem ts51 : tsz Try.prog 51 = some 1 := by kernel_rfl
theorem ta51 : tagg Try.prog 51 = some false := by kernel_rfl
theorem un51 : Try.prog.underlying 51 = some (.pointer 104) := by kernel_rfl
theorem ip51 : isPtrT Try.prog 51 = true := by kernel_rfl
theorem ti60 : tinfo Try.prog 60 = some ((.agg #[(.int .i64 0), (.string ⟨#[]⟩), (.string ⟨#[]⟩)]), 3, 40) := by kernel_rfl
theorem ts60 : tsz Try.prog 60 = some 3 := by kernel_rfl
theorem ta60 : tagg Try.prog 60 = some true := by kernel_rfl
theorem if60 : ifaceT Try.prog 60 = some false := by kernel_rfl
theorem fo60_0 : fieldOff Try.prog 60 0 = some (3, 0) := by kernel_rfl
theorem fo60_1 : fieldOff Try.prog 60 1 = some (9, 1) := by kernel_rfl
theorem fo60_2 : fieldOff Try.prog 60 2 = some (9, 2) := by kernel_rfl
theorem ti61 : tinfo Try.prog 61 = some ((.agg #[(.int .i64 0), (.string ⟨#[]⟩), (.string ⟨#[]⟩)]), 3, 40) := by kernel_rfl
theorem ts61 : tsz Try.prog 61 = some 3 := by kernel_rfl
theorem ta61 : tagg Try.prog 61 = some true := by kernel_rfl
theorem if61 : ifaceT Try.prog 61 = some false := by kernel_rfl
theorem fo61_0 : fieldOff Try.prog 61 0 = some (3, 0) := by kernel_rfl
theorem fo61_1 : fieldOff Try.prog 61 1 = some (9, 1) := by kernel_rfl
theorem fo61_2 : fieldOff Try.prog 61 2 = some (9, 2) := by kernel_rfl
theorem ti64 : tinfo Try.prog 64 = some ((.map none), 1, 8) := by kernel_rfl
theorem ts64 : tsz Try.prog 64 = some 1 := by kernel_rfl
theorem ta64 : tagg Try.prog 64 = some false := by kernel_rfl
theorem un64 : Try.prog.underlying 64 = some (.map 115 75) := by kernel_rfl
theorem im64 : isMapT Try.prog 64 = true := by kernel_rfl
theorem ti65 : tinfo Try.prog 65 = some ((.map none), 1, 8) := by kernel_rfl
theorem ts65 : tsz Try.prog 65 = some 1 := by kernel_rfl
theorem ta65 : tagg Try.prog 65 = some false := by kernel_rfl
theorem un65 : Try.prog.underlying 65 = some (.map 9 3) := by kernel_rfl
theorem im65 : isMapT Try.prog 65 = true := by kernel_rfl
theorem ti66 : tinfo Try.prog 66 = some ((.agg #[(.map none), (.map none)]), 2, 16) := by kernel_rfl
theorem ts66 : tsz Try.prog 66 = some 2 := by kernel_rfl
theorem ta66 : tagg Try.prog 66 = some true := by kernel_rfl
theorem if66 : ifaceT Try.prog 66 = some false := by kernel_rfl
theorem fo66_0 : fieldOff Try.prog 66 0 = some (64, 0) := by kernel_rfl
theorem fo66_1 : fieldOff Try.prog 66 1 = some (65, 1) := by kernel_rfl
theorem ti67 : tinfo Try.prog 67 = some ((.agg #[(.map none), (.map none)]), 2, 16) := by kernel_rfl
theorem ts67 : tsz Try.prog 67 = some 2 := by kernel_rfl
theorem ta67 : tagg Try.prog 67 = some true := by kernel_rfl
theorem if67 : ifaceT Try.prog 67 = some false := by kernel_rfl
theorem mo67_front : methOf Try.prog 67 "loop.example/s0059/impl.front" = some 33 := by kernel_rfl
theorem mo67_of : methOf Try.prog 67 "loop.example/s0059/impl.of" = some 36 := by kernel_rfl
theorem fo67_0 : fieldOff Try.prog 67 0 = some (64, 0) := by kernel_rfl
theorem fo67_1 : fieldOff Try.prog 67 1 = some (65, 1) := by kernel_rfl
theorem ti71 : tinfo Try.prog 71 = some ((.slice none 0 0), 1, 24) := by kernel_rfl
theorem ts71 : tsz Try.prog 71 = some 1 := by kernel_rfl
theorem ta71 : tagg Try.prog 71 = some false := by kernel_rfl
theorem un71 : Try.prog.underlying 71 = some (.slice 4) := by kernel_rfl
theorem es71 : esz Try.prog 71 = some 1 := by kernel_rfl
theorem im71 : isMapT Try.prog 71 = false := by kernel_rfl
theorem ti74 : tinfo Try.prog 74 = some ((.agg #[(.string ⟨#[]⟩), (.int .i64 0), (.int .i64 0), (.int .i64 0)]), 4, 40) := by kernel_rfl
theorem ts74 : tsz Try.prog 74 = some 4 := by kernel_rfl
theorem ta74 : tagg Try.prog 74 = some true := by kernel_rfl
theorem if74 : ifaceT Try.prog 74 = some false := by kernel_rfl
theorem fo74_0 : fieldOff Try.prog 74 0 = some (9, 0) := by kernel_rfl
theorem fo74_1 : fieldOff Try.prog 74 1 = some (3, 1) := by kernel_rfl
theorem fo74_2 : fieldOff Try.prog 74 2 = some (3, 2) := by kernel_rfl
theorem fo74_3 : fieldOff Try.prog 74 3 = some (3, 3) := by kernel_rfl
theorem ti75 : tinfo Try.prog 75 = some ((.agg #[(.string ⟨#[]⟩), (.int .i64 0), (.int .i64 0), (.int .i64 0)]), 4, 40) := by kernel_rfl
theorem ts75 : tsz Try.prog 75 = some 4 := by kernel_rfl
theorem ta75 : tagg Try.prog 75 = some true := by kernel_rfl
theorem if75 : ifaceT Try.prog 75 = some false := by kernel_rfl
theorem fo75_0 : fieldOff Try.prog 75 0 = some (9, 0) := by kernel_rfl
theorem fo75_1 : fieldOff Try.prog 75 1 = some (3, 1) := by kernel_rfl
theorem fo75_2 : fieldOff Try.prog 75 2 = some (3, 2) := by kernel_rfl
theorem fo75_3 : fieldOff Try.prog 75 3 = some (3, 3) := by kernel_rfl
theorem ti78 : tinfo Try.prog 78 = some ((.pointer none), 1, 8) := by kernel_rfl
theorem ts78 : tsz Try.prog 78 = some 1 := by kernel_rfl
theorem ta78 : tagg Try.prog 78 = some false := by kernel_rfl
theorem un78 : Try.prog.underlying 78 = some (.pointer 80) := by kernel_rfl
theorem ip78 : isPtrT Try.prog 78 = true := by kernel_rfl
theorem ti79 : tinfo Try.prog 79 = some ((.agg #[(.pointer none), (.slice none 0 0)]), 2, 32) := by kernel_rfl
theorem ts79 : tsz Try.prog 79 = some 2 := by kernel_rfl
theorem ta79 : tagg Try.prog 79 = some true := by kernel_rfl
theorem if79 : ifaceT Try.prog 79 = some false := by kernel_rfl
theorem fo79_0 : fieldOff Try.prog 79 0 = some (78, 0) := by kernel_rfl
theorem fo79_1 : fieldOff Try.prog 79 1 = some (22, 1) := by kernel_rfl
theorem ti80 : tinfo Try.prog 80 = some ((.agg #[(.pointer none), (.slice none 0 0)]), 2, 32) := by kernel_rfl
theorem ts80 : tsz Try.prog 80 = some 2 := by kernel_rfl
theorem ta80 : tagg Try.prog 80 = some true := by kernel_rfl
theorem if80 : ifaceT Try.prog 80 = some false := by kernel_rfl
theorem fo80_0 : fieldOff Try.prog 80 0 = some (78, 0) := by kernel_rfl
theorem fo80_1 : fieldOff Try.prog 80 1 = some (22, 1) := by kernel_rfl
theorem ti81 : tinfo Try.prog 81 = some (.nilIface, 1, 16) := by kernel_rfl
theorem ts81 : tsz Try.prog 81 = some 1 := by kernel_rfl
theorem ta81 : tagg Try.prog 81 = some false := by kernel_rfl
theorem ti82 : tinfo Try.prog 82 = some (.nilIface, 1, 16) := by kernel_rfl
theorem ts82 : tsz Try.prog 82 = some 1 := by kernel_rfl
theorem ta82 : tagg Try.prog 82 = some false := by kernel_rfl
theorem ti92 : tinfo Try.prog 92 = some (.nilIface, 1, 16) := by kernel_rfl
theorem ts92 : tsz Try.prog 92 = some 1 := by kernel_rfl
theorem ta92 : tagg Try.prog 92 = some false := by kernel_rfl
theorem ti93 : tinfo Try.prog 93 = some (.nilIface, 1, 16) := by kernel_rfl
theorem ts93 : tsz Try.prog 93 = some 1 := by kernel_rfl
theorem ta93 : tagg Try.prog 93 = some false := by kernel_rfl
theorem ti95 : tinfo Try.prog 95 = some ((.pointer none), 1, 8) := by kernel_rfl
theorem ts95 : tsz Try.prog 95 = some 1 := by kernel_rfl
theorem ta95 : tagg Try.prog 95 = some false := by kernel_rfl
theorem un95 : Try.prog.underlying 95 = some (.pointer 131) := by kernel_rfl
theorem ip95 : isPtrT Try.prog 95 = true := by kernel_rfl
theorem ti103 : tinfo Try.prog 103 = some ((.agg #[(.slice none 0 0), (.int .i64 0)]), 2, 32) := by kernel_rfl
theorem ts103 : tsz Try.prog 103 = some 2 := by kernel_rfl
theorem ta103 : tagg Try.prog 103 = some true := by kernel_rfl
theorem if103 : ifaceT Try.prog 103 = some false := by kernel_rfl
theorem fo103_0 : fieldOff Try.prog 103 0 = some (22, 0) := by kernel_rfl
theorem fo103_1 : fieldOff Try.prog 103 1 = some (3, 1) := by kernel_rfl
theorem ti104 : tinfo Try.prog 104 = some ((.agg #[(.slice none 0 0), (.int .i64 0)]), 2, 32) := by kernel_rfl
theorem ts104 : tsz Try.prog 104 = some 2 := by kernel_rfl
theorem ta104 : tagg Try.prog 104 = some true := by kernel_rfl
theorem if104 : ifaceT Try.prog 104 = some false := by kernel_rfl
theorem fo104_0 : fieldOff Try.prog 104 0 = some (22, 0) := by kernel_rfl
theorem fo104_1 : fieldOff Try.prog 104 1 = some (3, 1) := by kernel_rfl
theorem ti112 : tinfo Try.prog 112 = some ((.map none), 1, 8) := by kernel_rfl
theorem ts112 : tsz Try.prog 112 = some 1 := by kernel_rfl
theorem ta112 : tagg Try.prog 112 = some false := by kernel_rfl
theorem un112 : Try.prog.underlying 112 = some (.map 115 3) := by kernel_rfl
theorem im112 : isMapT Try.prog 112 = true := by kernel_rfl
theorem ti114 : tinfo Try.prog 114 = some ((.agg #[(.string ⟨#[]⟩), (.bool false)]), 2, 24) := by kernel_rfl
theorem ts114 : tsz Try.prog 114 = some 2 := by kernel_rfl
theorem ta114 : tagg Try.prog 114 = some true := by kernel_rfl
theorem if114 : ifaceT Try.prog 114 = some false := by kernel_rfl
theorem fo114_0 : fieldOff Try.prog 114 0 = some (9, 0) := by kernel_rfl
theorem fo114_1 : fieldOff Try.prog 114 1 = some (4, 1) := by kernel_rfl
theorem ti115 : tinfo Try.prog 115 = some ((.agg #[(.string ⟨#[]⟩), (.bool false)]), 2, 24) := by kernel_rfl
theorem ts115 : tsz Try.prog 115 = some 2 := by kernel_rfl
theorem ta115 : tagg Try.prog 115 = some true := by kernel_rfl
theorem if115 : ifaceT Try.prog 115 = some false := by kernel_rfl
theorem fo115_0 : fieldOff Try.prog 115 0 = some (9, 0) := by kernel_rfl
theorem fo115_1 : fieldOff Try.prog 115 1 = some (4, 1) := by kernel_rfl
theorem ti117 : tinfo Try.prog 117 = some ((.map none), 1, 8) := by kernel_rfl
theorem ts117 : tsz Try.prog 117 = some 1 := by kernel_rfl
theorem ta117 : tagg Try.prog 117 = some false := by kernel_rfl
theorem un117 : Try.prog.underlying 117 = some (.map 3 3) := by kernel_rfl
theorem im117 : isMapT Try.prog 117 = true := by kernel_rfl
theorem ti119 : tinfo Try.prog 119 = some ((.pointer none), 1, 8) := by kernel_rfl
theorem ts119 : tsz Try.prog 119 = some 1 := by kernel_rfl
theorem ta119 : tagg Try.prog 119 = some false := by kernel_rfl
theorem un119 : Try.prog.underlying 119 = some (.pointer 5) := by kernel_rfl
theorem ip119 : isPtrT Try.prog 119 = true := by kernel_rfl
theorem ti121 : tinfo Try.prog 121 = some ((.agg #[(.string ⟨#[]⟩), (.int .i64 0), (.int .i64 0), (.int .i64 0)]), 4, 40) := by kernel_rfl
theorem ts121 : tsz Try.prog 121 = some 4 := by kernel_rfl
theorem ta121 : tagg Try.prog 121 = some true := by kernel_rfl
theorem if121 : ifaceT Try.prog 121 = some false := by kernel_rfl
theorem fo121_0 : fieldOff Try.prog 121 0 = some (9, 0) := by kernel_rfl
theorem fo121_1 : fieldOff Try.prog 121 1 = some (3, 1) := by kernel_rfl
theorem fo121_2 : fieldOff Try.prog 121 2 = some (3, 2) := by kernel_rfl
theorem fo121_3 : fieldOff Try.prog 121 3 = some (3, 3) := by kernel_rfl
theorem ti123 : tinfo Try.prog 123 = some ((.agg #[(.int .i64 0), (.string ⟨#[]⟩), (.int .i64 0), (.int .i64 0)]), 4, 40) := by kernel_rfl
theorem ts123 : tsz Try.prog 123 = some 4 := by kernel_rfl
theorem ta123 : tagg Try.prog 123 = some true := by kernel_rfl
theorem if123 : ifaceT Try.prog 123 = some false := by kernel_rfl
theorem fo123_0 : fieldOff Try.prog 123 0 = some (3, 0) := by kernel_rfl
theorem fo123_1 : fieldOff Try.prog 123 1 = some (9, 1) := by kernel_rfl
theorem fo123_2 : fieldOff Try.prog 123 2 = some (3, 2) := by kernel_rfl
theorem fo123_3 : fieldOff Try.prog 123 3 = some (3, 3) := by kernel_rfl
theorem ti124 : tinfo Try.prog 124 = some ((.agg #[(.int .i64 0), (.string ⟨#[]⟩), (.int .i64 0), (.int .i64 0)]), 4, 40) := by kernel_rfl
theorem ts124 : tsz Try.prog 124 = some 4 := by kernel_rfl
theorem ta124 : tagg Try.prog 124 = some true := by kernel_rfl
theorem if124 : ifaceT Try.prog 124 = some false := by kernel_rfl
theorem fo124_0 : fieldOff Try.prog 124 0 = some (3, 0) := by kernel_rfl
theorem fo124_1 : fieldOff Try.prog 124 1 = some (9, 1) := by kernel_rfl
theorem fo124_2 : fieldOff Try.prog 124 2 = some (3, 2) := by kernel_rfl
theorem fo124_3 : fieldOff Try.prog 124 3 = some (3, 3) := by kernel_rfl
theorem ti128 : tinfo Try.prog 128 = some ((.map none), 1, 8) := by kernel_rfl
theorem ts128 : tsz Try.prog 128 = some 1 := by kernel_rfl
theorem ta128 : tagg Try.prog 128 = some false := by kernel_rfl
theorem un128 : Try.prog.underlying 128 = some (.map 9 136) := by kernel_rfl
theorem im128 : isMapT Try.prog 128 = true := by kernel_rfl
theorem ti129 : tinfo Try.prog 129 = some ((.map none), 1, 8) := by kernel_rfl
theorem ts129 : tsz Try.prog 129 = some 1 := by kernel_rfl
theorem ta129 : tagg Try.prog 129 = some false := by kernel_rfl
theorem un129 : Try.prog.underlying 129 = some (.map 9 137) := by kernel_rfl
theorem im129 : isMapT Try.prog 129 = true := by kernel_rfl
theorem ti130 : tinfo Try.prog 130 = some ((.agg #[(.map none), (.map none), (.slice none 0 0), (.int .i64 0), (.map none), (.map none)]), 6, 64) := by kernel_rfl
theorem ts130 : tsz Try.prog 130 = some 6 := by kernel_rfl
theorem ta130 : tagg Try.prog 130 = some true := by kernel_rfl
theorem if130 : ifaceT Try.prog 130 = some false := by kernel_rfl
theorem fo130_0 : fieldOff Try.prog 130 0 = some (67, 0) := by kernel_rfl
theorem fo130_1 : fieldOff Try.prog 130 1 = some (28, 2) := by kernel_rfl
theorem fo130_2 : fieldOff Try.prog 130 2 = some (3, 3) := by kernel_rfl
theorem fo130_3 : fieldOff Try.prog 130 3 = some (128, 4) := by kernel_rfl
theorem fo130_4 : fieldOff Try.prog 130 4 = some (129, 5) := by kernel_rfl
theorem ti131 : tinfo Try.prog 131 = some ((.agg #[(.map none), (.map none), (.slice none 0 0), (.int .i64 0), (.map none), (.map none)]), 6, 64) := by kernel_rfl
theorem ts131 : tsz Try.prog 131 = some 6 := by kernel_rfl
theorem ta131 : tagg Try.prog 131 = some true := by kernel_rfl
theorem if131 : ifaceT Try.prog 131 = some false := by kernel_rfl
theorem fo131_0 : fieldOff Try.prog 131 0 = some (67, 0) := by kernel_rfl
theorem fo131_1 : fieldOff Try.prog 131 1 = some (28, 2) := by kernel_rfl
theorem fo131_2 : fieldOff Try.prog 131 2 = some (3, 3) := by kernel_rfl
theorem fo131_3 : fieldOff Try.prog 131 3 = some (128, 4) := by kernel_rfl
theorem fo131_4 : fieldOff Try.prog 131 4 = some (129, 5) := by kernel_rfl
theorem ti134 : tinfo Try.prog 134 = some ((.agg #[(.string ⟨#[]⟩), (.int .i64 0), (.int .i64 0), (.int .i64 0), .nilIface, .nilIface, (.int .i64 0)]), 7, 80) := by kernel_rfl
theorem ts134 : tsz Try.prog 134 = some 7 := by kernel_rfl
theorem ta134 : tagg Try.prog 134 = some true := by kernel_rfl
theorem if134 : ifaceT Try.prog 134 = some false := by kernel_rfl
theorem fo134_0 : fieldOff Try.prog 134 0 = some (75, 0) := by kernel_rfl
theorem fo134_1 : fieldOff Try.prog 134 1 = some (93, 4) := by kernel_rfl
theorem fo134_2 : fieldOff Try.prog 134 2 = some (93, 5) := by kernel_rfl
theorem fo134_3 : fieldOff Try.prog 134 3 = some (3, 6) := by kernel_rfl
theorem ti135 : tinfo Try.prog 135 = some ((.agg #[(.string ⟨#[]⟩), (.int .i64 0), (.int .i64 0), (.int .i64 0), .nilIface, .nilIface, (.int .i64 0)]), 7, 80) := by kernel_rfl
theorem ts135 : tsz Try.prog 135 = some 7 := by kernel_rfl
theorem ta135 : tagg Try.prog 135 = some true := by kernel_rfl
theorem if135 : ifaceT Try.prog 135 = some false := by kernel_rfl
theorem mo135_height : methOf Try.prog 135 "loop.example/s0059/impl.height" = some 117 := by kernel_rfl
theorem mo135_level : methOf Try.prog 135 "loop.example/s0059/impl.level" = some 118 := by kernel_rfl
theorem mo135_nodes : methOf Try.prog 135 "loop.example/s0059/impl.nodes" = some 119 := by kernel_rfl
theorem fo135_0 : fieldOff Try.prog 135 0 = some (75, 0) := by kernel_rfl
theorem fo135_1 : fieldOff Try.prog 135 1 = some (93, 4) := by kernel_rfl
theorem fo135_2 : fieldOff Try.prog 135 2 = some (93, 5) := by kernel_rfl
theorem fo135_3 : fieldOff Try.prog 135 3 = some (3, 6) := by kernel_rfl
theorem ti138 : tinfo Try.prog 138 = some ((.agg #[]), 0, 0) := by kernel_rfl
theorem ts138 : tsz Try.prog 138 = some 0 := by kernel_rfl
theorem ta138 : tagg Try.prog 138 = some true := by kernel_rfl
theorem if138 : ifaceT Try.prog 138 = some false := by kernel_rfl
theorem ti139 : tinfo Try.prog 139 = some ((.agg #[]), 0, 0) := by kernel_rfl
theorem ts139 : tsz Try.prog 139 = some 0 := by kernel_rfl
theorem ta139 : tagg Try.prog 139 = some true := by kernel_rfl
theorem if139 : ifaceT Try.prog 139 = some false := by kernel_rfl
theorem un143 : Try.prog.underlying 143 = some .unsafePointer := by kernel_rfl
theorem ti152 : tinfo Try.prog 152 = some ((.agg #[(.int .i64 0), (.string ⟨#[]⟩), (.int .i64 0), (.int .i64 0)]), 4, 40) := by kernel_rfl
theorem ts152 : tsz Try.prog 152 = some 4 := by kernel_rfl
theorem ta152 : tagg Try.prog 152 = some true := by kernel_rfl
theorem if152 : ifaceT Try.prog 152 = some false := by kernel_rfl
theorem fo152_0 : fieldOff Try.prog 152 0 = some (124, 0) := by kernel_rfl
theorem ti153 : tinfo Try.prog 153 = some ((.agg #[(.int .i64 0), (.string ⟨#[]⟩), (.int .i64 0), (.int .i64 0)]), 4, 40) := by kernel_rfl
theorem ts153 : tsz Try.prog 153 = some 4 := by kernel_rfl
theorem ta153 : tagg Try.prog 153 = some true := by kernel_rfl
theorem if153 : ifaceT Try.prog 153 = some false := by kernel_rfl
theorem mo153_height : methOf Try.prog 153 "loop.example/s0059/impl.height" = some 120 := by kernel_rfl
theorem mo153_level : methOf Try.prog 153 "loop.example/s0059/impl.level" = some 121 := by kernel_rfl
theorem mo153_nodes : methOf Try.prog 153 "loop.example/s0059/impl.nodes" = some 122 := by kernel_rfl
theorem fo153_0 : fieldOff Try.prog 153 0 = some (124, 0) := by kernel_rfl
theorem ti154 : tinfo Try.prog 154 = some ((.agg #[.nilIface, (.int .i64 0)]), 2, 24) := by kernel_rfl
theorem ts154 : tsz Try.prog 154 = some 2 := by kernel_rfl
theorem ta154 : tagg Try.prog 154 = some true := by kernel_rfl
theorem if154 : ifaceT Try.prog 154 = some false := by kernel_rfl
theorem fo154_0 : fieldOff Try.prog 154 0 = some (93, 0) := by kernel_rfl
theorem fo154_1 : fieldOff Try.prog 154 1 = some (3, 1) := by kernel_rfl
theorem ti155 : tinfo Try.prog 155 = some ((.agg #[.nilIface, (.int .i64 0)]), 2, 24) := by kernel_rfl
theorem ts155 : tsz Try.prog 155 = some 2 := by kernel_rfl
theorem ta155 : tagg Try.prog 155 = some true := by kernel_rfl
theorem if155 : ifaceT Try.prog 155 = some false := by kernel_rfl
theorem mo155_height : methOf Try.prog 155 "loop.example/s0059/impl.height" = some 123 := by kernel_rfl
theorem mo155_level : methOf Try.prog 155 "loop.example/s0059/impl.level" = some 124 := by kernel_rfl
theorem mo155_nodes : methOf Try.prog 155 "loop.example/s0059/impl.nodes" = some 125 := by kernel_rfl
theorem fo155_0 : fieldOff Try.prog 155 0 = some (93, 0) := by kernel_rfl
theorem fo155_1 : fieldOff Try.prog 155 1 = some (3, 1) := by kernel_rfl
theorem ti157 : tinfo Try.prog 157 = some ((.agg #[(.pointer none), (.pointer none), (.pointer none), (.string ⟨#[]⟩)]), 4, 40) := by kernel_rfl
theorem ts157 : tsz Try.prog 157 = some 4 := by kernel_rfl
theorem ta157 : tagg Try.prog 157 = some true := by kernel_rfl
theorem if157 : ifaceT Try.prog 157 = some false := by kernel_rfl
theorem fo157_0 : fieldOff Try.prog 157 0 = some (17, 0) := by kernel_rfl
theorem fo157_1 : fieldOff Try.prog 157 1 = some (17, 1) := by kernel_rfl
theorem fo157_2 : fieldOff Try.prog 157 2 = some (17, 2) := by kernel_rfl
theorem fo157_3 : fieldOff Try.prog 157 3 = some (9, 3) := by kernel_rfl
theorem ti158 : tinfo Try.prog 158 = some ((.agg #[(.pointer none), (.pointer none), (.pointer none), (.string ⟨#[]⟩)]), 4, 40) := by kernel_rfl
theorem ts158 : tsz Try.prog 158 = some 4 := by kernel_rfl
theorem ta158 : tagg Try.prog 158 = some true := by kernel_rfl
theorem if158 : ifaceT Try.prog 158 = some false := by kernel_rfl
theorem fo158_0 : fieldOff Try.prog 158 0 = some (17, 0) := by kernel_rfl
theorem fo158_1 : fieldOff Try.prog 158 1 = some (17, 1) := by kernel_rfl
theorem fo158_2 : fieldOff Try.prog 158 2 = some (17, 2) := by kernel_rfl
theorem fo158_3 : fieldOff Try.prog 158 3 = some (9, 3) := by kernel_rfl
theorem ti160 : tinfo Try.prog 160 = some ((.agg #[]), 0, 0) := by kernel_rfl
theorem ts160 : tsz Try.prog 160 = some 0 := by kernel_rfl
theorem ta160 : tagg Try.prog 160 = some true := by kernel_rfl
theorem if160 : ifaceT Try.prog 160 = some false := by kernel_rfl
theorem fo160_0 : fieldOff Try.prog 160 0 = some (159, 0) := by kernel_rfl
theorem ti161 : tinfo Try.prog 161 = some ((.agg #[]), 0, 0) := by kernel_rfl
theorem ts161 : tsz Try.prog 161 = some 0 := by kernel_rfl
theorem ta161 : tagg Try.prog 161 = some true := by kernel_rfl
theorem if161 : ifaceT Try.prog 161 = some false := by kernel_rfl
theorem fo161_0 : fieldOff Try.prog 161 0 = some (159, 0) := by kernel_rfl
theorem ti162 : tinfo Try.prog 162 = some ((.int .u32 0), 1, 4) := by kernel_rfl
theorem ts162 : tsz Try.prog 162 = some 1 := by kernel_rfl
theorem ta162 : tagg Try.prog 162 = some false := by kernel_rfl
theorem ti163 : tinfo Try.prog 163 = some ((.int .u8 0), 1, 1) := by kernel_rfl
theorem ts163 : tsz Try.prog 163 = some 1 := by kernel_rfl
theorem ta163 : tagg Try.prog 163 = some false := by kernel_rfl
theorem ti164 : tinfo Try.prog 164 = some ((.int .u8 0), 1, 1) := by kernel_rfl
theorem ts164 : tsz Try.prog 164 = some 1 := by kernel_rfl
theorem ta164 : tagg Try.prog 164 = some false := by kernel_rfl
theorem ti166 : tinfo Try.prog 166 = some ((.int .i32 0), 1, 4) := by kernel_rfl
theorem ts166 : tsz Try.prog 166 = some 1 := by kernel_rfl
theorem ta166 : tagg Try.prog 166 = some false := by kernel_rfl
theorem ti167 : tinfo Try.prog 167 = some ((.int .i32 0), 1, 4) := by kernel_rfl
theorem ts167 : tsz Try.prog 167 = some 1 := by kernel_rfl
theorem ta167 : tagg Try.prog 167 = some false := by kernel_rfl
theorem ti168 : tinfo Try.prog 168 = some ((.agg #[(.int .u64 0), (.int .u64 0), (.int .u32 0), (.int .u8 0), (.int .u8 0), (.int .u8 0), (.int .u8 0), .nilFunc, (.pointer none), (.int .i32 0), (.int .i32 0)]), 11, 48) := by kernel_rfl
theorem ts168 : tsz Try.prog 168 = some 11 := by kernel_rfl
theorem ta168 : tagg Try.prog 168 = some true := by kernel_rfl
theorem if168 : ifaceT Try.prog 168 = some false := by kernel_rfl
theorem fo168_0 : fieldOff Try.prog 168 0 = some (12, 0) := by kernel_rfl
theorem fo168_1 : fieldOff Try.prog 168 1 = some (12, 1) := by kernel_rfl
theorem fo168_2 : fieldOff Try.prog 168 2 = some (162, 2) := by kernel_rfl
theorem fo168_3 : fieldOff Try.prog 168 3 = some (163, 3) := by kernel_rfl
theorem fo168_4 : fieldOff Try.prog 168 4 = some (5, 4) := by kernel_rfl
theorem fo168_5 : fieldOff Try.prog 168 5 = some (5, 5) := by kernel_rfl
theorem fo168_6 : fieldOff Try.prog 168 6 = some (164, 6) := by kernel_rfl
theorem fo168_7 : fieldOff Try.prog 168 7 = some (165, 7) := by kernel_rfl
theorem fo168_8 : fieldOff Try.prog 168 8 = some (119, 8) := by kernel_rfl
theorem fo168_9 : fieldOff Try.prog 168 9 = some (166, 9) := by kernel_rfl
theorem fo168_10 : fieldOff Try.prog 168 10 = some (167, 10) := by kernel_rfl
theorem ti169 : tinfo Try.prog 169 = some ((.agg #[(.int .u64 0), (.int .u64 0), (.int .u32 0), (.int .u8 0), (.int .u8 0), (.int .u8 0), (.int .u8 0), .nilFunc, (.pointer none), (.int .i32 0), (.int .i32 0)]), 11, 48) := by kernel_rfl
theorem ts169 : tsz Try.prog 169 = some 11 := by kernel_rfl
theorem ta169 : tagg Try.prog 169 = some true := by kernel_rfl
theorem if169 : ifaceT Try.prog 169 = some false := by kernel_rfl
theorem fo169_0 : fieldOff Try.prog 169 0 = some (12, 0) := by kernel_rfl
theorem fo169_1 : fieldOff Try.prog 169 1 = some (12, 1) := by kernel_rfl
theorem fo169_2 : fieldOff Try.prog 169 2 = some (162, 2) := by kernel_rfl
theorem fo169_3 : fieldOff Try.prog 169 3 = some (163, 3) := by kernel_rfl
theorem fo169_4 : fieldOff Try.prog 169 4 = some (5, 4) := by kernel_rfl
theorem fo169_5 : fieldOff Try.prog 169 5 = some (5, 5) := by kernel_rfl
theorem fo169_6 : fieldOff Try.prog 169 6 = some (164, 6) := by kernel_rfl
theorem fo169_7 : fieldOff Try.prog 169 7 = some (165, 7) := by kernel_rfl
theorem fo169_8 : fieldOff Try.prog 169 8 = some (119, 8) := by kernel_rfl
theorem fo169_9 : fieldOff Try.prog 169 9 = some (166, 9) := by kernel_rfl
theorem fo169_10 : fieldOff Try.prog 169 10 = some (167, 10) := by kernel_rfl
theorem depth_pos : 0 < Try.prog.depth := of_decide_eq_true (by kernel_rfl)
attribute [go_sem] ti2 ts2 ta2 ti3 ts3 ta3 ti4 ts4 ta4 ti5 ts5 ta5 ti6 ts6 ta6 ti7 ts7 ta7 if7 fo7_0 fo7_1 fo7_2 fo7_3 ti8 ts8 ta8 if8 fo8_0 fo8_1 fo8_2 fo8_3 ti9 ts9 ta9 im9 un9 ti10 ts10 ta10 im10 un10 ti11 ts11 ta11 im11 un11 ti12 ts12 ta12 ti13 ts13 ta13 if13 fo13_0 fo13_1 ti14 ts14 ta14 if14 fo14_0 fo14_1 ti15 ts15 ta15 un15 ip15 ti16 ts16 ta16 un16 ip16 ti17 ts17 ta17 un17 ip17 ti18 ts18 ta18 if18 fo18_0 ti19 ts19 ta19 if19 fo19_0 ti20 ts20 ta20 ti21 ts21 ta21 ti22 ts22 ta22 un22 es22 im22 ti23 ts23 ta23 un23 es23 im23 ti24 ts24 ta24 if24 fo24_0 ti25 ts25 ta25 if25 fo25_0 ti28 ts28 ta28 un28 es28 im28 ti31 ts31 ta31 un31 es31 im31 ti36 ts36 ta36 un36 es36 im36 ti37 ts37 ta37 if37 fo37_0 ti38 ts38 ta38 if38 fo38_0 ti40 ts40 ta40 un40 es40 im40 ti41 ts41 ta41 if41 fo41_0 ti42 ts42 ta42 if42 fo42_0 ti51 ts51 ta51 un51 ip51 ti60 ts60 ta60 if60 fo60_0 fo60_1 fo60_2 ti61 ts61 ta61 if61 fo61_0 fo61_1 fo61_2 ti64 ts64 ta64 un64 im64 ti65 ts65 ta65 un65 im65 ti66 ts66 ta66 if66 fo66_0 fo66_1 ti67 ts67 ta67 if67 mo67_front mo67_of fo67_0 fo67_1 ti71 ts71 ta71 un71 es71 im71 ti74 ts74 ta74 if74 fo74_0 fo74_1 fo74_2 fo74_3 ti75 ts75 ta75 if75 fo75_0 fo75_1 fo75_2 fo75_3 ti78 ts78 ta78 un78 ip78 ti79 ts79 ta79 if79 fo79_0 fo79_1 ti80 ts80 ta80 if80 fo80_0 fo80_1 ti81 ts81 ta81 ti82 ts82 ta82 ti92 ts92 ta92 ti93 ts93 ta93 ti95 ts95 ta95 un95 ip95 ti103 ts103 ta103 if103 fo103_0 fo103_1 ti104 ts104 ta104 if104 fo104_0 fo104_1 ti112 ts112 ta112 un112 im112 ti114 ts114 ta114 if114 fo114_0 fo114_1 ti115 ts115 ta115 if115 fo115_0 fo115_1 ti117 ts117 ta117 un117 im117 ti119 ts119 ta119 un119 ip119 ti121 ts121 ta121 if121 fo121_0 fo121_1 fo121_2 fo121_3 ti123 ts123 ta123 if123 fo123_0 fo123_1 fo123_2 fo123_3 ti124 ts124 ta124 if124 fo124_0 fo124_1 fo124_2 fo124_3 ti128 ts128 ta128 un128 im128 ti129 ts129 ta129 un129 im129 ti130 ts130 ta130 if130 fo130_0 fo130_1 fo130_2 fo130_3 fo130_4 ti131 ts131 ta131 if131 fo131_0 fo131_1 fo131_2 fo131_3 fo131_4 ti134 ts134 ta134 if134 fo134_0 fo134_1 fo134_2 fo134_3 ti135 ts135 ta135 if135 mo135_height mo135_level mo135_nodes fo135_0 fo135_1 fo135_2 fo135_3 ti138 ts138 ta138 if138 ti139 ts139 ta139 if139 un143 ti152 ts152 ta152 if152 fo152_0 ti153 ts153 ta153 if153 mo153_height mo153_level mo153_nodes fo153_0 ti154 ts154 ta154 if154 fo154_0 fo154_1 ti155 ts155 ta155 if155 mo155_height mo155_level mo155_nodes fo155_0 fo155_1 ti157 ts157 ta157 if157 fo157_0 fo157_1 fo157_2 fo157_3 ti158 ts158 ta158 if158 fo158_0 fo158_1 fo158_2 fo158_3 ti160 ts160 ta160 if160 fo160_0 ti161 ts161 ta161 if161 fo161_0 ti162 ts162 ta162 ti163 ts163 ta163 ti164 ts164 ta164 ti166 ts166 ta166 ti167 ts167 ta167 ti168 ts168 ta168 if168 fo168_0 fo168_1 fo168_2 fo168_3 fo168_4 fo168_5 fo168_6 fo168_7 fo168_8 fo168_9 fo168_10 ti169 ts169 ta169 if169 fo169_0 fo169_1 fo169_2 fo169_3 fo169_4 fo169_5 fo169_6 fo169_7 fo169_8 fo169_9 fo169_10 depth_pos
end Go.Proofs.Ytcnmgfbafcnkhaa.V
