import Derived.Test.YtnjnkhmcdkjekaaMB
import Derived.Test.YtnjnkhmcdkjekaaProg
import Derived.KernelRfl
/- Sizes, bytes and zero values of this program's types: closed facts. -/
namespace Go.Proofs.Ytnjnkhmcdkjekaa.V
theorem ti2 : tinfo Try.prog 2 = some ((.int .i64 0), 1, 8) := by kernel_rfl
theorem ts2 : tsz Try.prog 2 = some 1 := by kernel_rfl
theorem ta2 : tagg Try.prog 2 = some false := by kernel_rfl
theorem ti3 : tinfo Try.prog 3 = some ((.int .i64 0), 1, 8) := by kernel_rfl
theorem ts3 : tsz Try.prog 3 = some 1 := by kernel_rfl
theorem ta3 : tagg Try.prog 3 = some false := by kernel_rfl
theorem ti4 : tinfo Try.prog 4 = some ((.bool false), 1, 1) := by kernel_rfl
theorem ts4 : tsz Try.prog 4 = some 1 := by kernel_rfl
theorem ta4 : tagg Try.prog 4 = some false := by kernel_rfl
theorem ti5 : tinfo Try.prog 5 = some ((.int .u8 0), 1, 1) := by kernel_rfl
theorem ts5 : tsz Try.prog 5 = some 1 := by kernel_rfl
theorem ta5 : tagg Try.prog 5 = some false := by kernel_rfl
theorem ti6 : tinfo Try.prog 6 = some ((.int .u8 0), 1, 1) := by kernel_rfl
theorem ts6 : tsz Try.prog 6 = some 1 := by kernel_rfl
theorem ta6 : tagg Try.prog 6 = some false := by kernel_rfl
theorem ti7 : tinfo Try.prog 7 = some ((.agg #[(.int .i64 0), (.int .i64 0), (.bool false), (.int .u8 0)]), 4, 24) := by kernel_rfl
theorem ts7 : tsz Try.prog 7 = some 4 := by kernel_rfl
theorem ta7 : tagg Try.prog 7 = some true := by kernel_rfl
theorem fo7_0 : fieldOff Try.prog 7 0 = some (2, 0) := by kernel_rfl
theorem fo7_1 : fieldOff Try.prog 7 1 = some (3, 1) := by kernel_rfl
theorem fo7_2 : fieldOff Try.prog 7 2 = some (4, 2) := by kernel_rfl
theorem fo7_3 : fieldOff Try.prog 7 3 = some (6, 3) := by kernel_rfl
theorem ti8 : tinfo Try.prog 8 = some ((.agg #[(.int .i64 0), (.int .i64 0), (.bool false), (.int .u8 0)]), 4, 24) := by kernel_rfl
theorem ts8 : tsz Try.prog 8 = some 4 := by kernel_rfl
theorem ta8 : tagg Try.prog 8 = some true := by kernel_rfl
theorem fo8_0 : fieldOff Try.prog 8 0 = some (2, 0) := by kernel_rfl
theorem fo8_1 : fieldOff Try.prog 8 1 = some (3, 1) := by kernel_rfl
theorem fo8_2 : fieldOff Try.prog 8 2 = some (4, 2) := by kernel_rfl
theorem fo8_3 : fieldOff Try.prog 8 3 = some (6, 3) := by kernel_rfl
theorem ti9 : tinfo Try.prog 9 = some ((.string ⟨#[]⟩), 1, 16) := by kernel_rfl
theorem ts9 : tsz Try.prog 9 = some 1 := by kernel_rfl
theorem ta9 : tagg Try.prog 9 = some false := by kernel_rfl
theorem im9 : isMapT Try.prog 9 = false := by kernel_rfl
theorem un9 : Try.prog.underlying 9 = some .string := by kernel_rfl
theorem ti10 : tinfo Try.prog 10 = some ((.string ⟨#[]⟩), 1, 16) := by kernel_rfl
theorem ts10 : tsz Try.prog 10 = some 1 := by kernel_rfl
theorem ta10 : tagg Try.prog 10 = some false := by kernel_rfl
theorem im10 : isMapT Try.prog 10 = false := by kernel_rfl
theorem un10 : Try.prog.underlying 10 = some .string := by kernel_rfl
theorem ti11 : tinfo Try.prog 11 = some ((.string ⟨#[]⟩), 1, 16) := by kernel_rfl
theorem ts11 : tsz Try.prog 11 = some 1 := by kernel_rfl
theorem ta11 : tagg Try.prog 11 = some false := by kernel_rfl
theorem im11 : isMapT Try.prog 11 = false := by kernel_rfl
theorem un11 : Try.prog.underlying 11 = some .string := by kernel_rfl
theorem ti12 : tinfo Try.prog 12 = some ((.int .u64 0), 1, 8) := by kernel_rfl
theorem ts12 : tsz Try.prog 12 = some 1 := by kernel_rfl
theorem ta12 : tagg Try.prog 12 = some false := by kernel_rfl
theorem ti13 : tinfo Try.prog 13 = some ((.agg #[(.string ⟨#[]⟩), (.int .u64 0)]), 2, 24) := by kernel_rfl
theorem ts13 : tsz Try.prog 13 = some 2 := by kernel_rfl
theorem ta13 : tagg Try.prog 13 = some true := by kernel_rfl
theorem fo13_0 : fieldOff Try.prog 13 0 = some (9, 0) := by kernel_rfl
theorem fo13_1 : fieldOff Try.prog 13 1 = some (12, 1) := by kernel_rfl
theorem ti14 : tinfo Try.prog 14 = some ((.agg #[(.string ⟨#[]⟩), (.int .u64 0)]), 2, 24) := by kernel_rfl
theorem ts14 : tsz Try.prog 14 = some 2 := by kernel_rfl
theorem ta14 : tagg Try.prog 14 = some true := by kernel_rfl
theorem fo14_0 : fieldOff Try.prog 14 0 = some (9, 0) := by kernel_rfl
theorem fo14_1 : fieldOff Try.prog 14 1 = some (12, 1) := by kernel_rfl
theorem ti15 : tinfo Try.prog 15 = some ((.pointer none), 1, 8) := by kernel_rfl
theorem ts15 : tsz Try.prog 15 = some 1 := by kernel_rfl
theorem ta15 : tagg Try.prog 15 = some false := by kernel_rfl
theorem un15 : Try.prog.underlying 15 = some (.pointer 177) := by kernel_rfl
theorem ip15 : isPtrT Try.prog 15 = true := by kernel_rfl
theorem ti16 : tinfo Try.prog 16 = some ((.pointer none), 1, 8) := by kernel_rfl
theorem ts16 : tsz Try.prog 16 = some 1 := by kernel_rfl
theorem ta16 : tagg Try.prog 16 = some false := by kernel_rfl
theorem un16 : Try.prog.underlying 16 = some (.pointer 180) := by kernel_rfl
theorem ip16 : isPtrT Try.prog 16 = true := by kernel_rfl
theorem ti17 : tinfo Try.prog 17 = some ((.pointer none), 1, 8) := by kernel_rfl
theorem ts17 : tsz Try.prog 17 = some 1 := by kernel_rfl
theorem ta17 : tagg Try.prog 17 = some false := by kernel_rfl
theorem un17 : Try.prog.underlying 17 = some (.pointer 188) := by kernel_rfl
theorem ip17 : isPtrT Try.prog 17 = true := by kernel_rfl
theorem ti18 : tinfo Try.prog 18 = some ((.agg #[(.pointer none)]), 1, 8) := by kernel_rfl
theorem ts18 : tsz Try.prog 18 = some 1 := by kernel_rfl
theorem ta18 : tagg Try.prog 18 = some true := by kernel_rfl
theorem fo18_0 : fieldOff Try.prog 18 0 = some (17, 0) := by kernel_rfl
theorem ti19 : tinfo Try.prog 19 = some ((.agg #[(.pointer none)]), 1, 8) := by kernel_rfl
theorem ts19 : tsz Try.prog 19 = some 1 := by kernel_rfl
theorem ta19 : tagg Try.prog 19 = some true := by kernel_rfl
theorem fo19_0 : fieldOff Try.prog 19 0 = some (17, 0) := by kernel_rfl
theorem ti20 : tinfo Try.prog 20 = some (.nilIface, 1, 16) := by kernel_rfl
theorem ts20 : tsz Try.prog 20 = some 1 := by kernel_rfl
theorem ta20 : tagg Try.prog 20 = some false := by kernel_rfl
theorem ti21 : tinfo Try.prog 21 = some ((.int .i32 0), 1, 4) := by kernel_rfl
theorem ts21 : tsz Try.prog 21 = some 1 := by kernel_rfl
theorem ta21 : tagg Try.prog 21 = some false := by kernel_rfl
theorem ti22 : tinfo Try.prog 22 = some ((.slice none 0 0), 1, 24) := by kernel_rfl
theorem ts22 : tsz Try.prog 22 = some 1 := by kernel_rfl
theorem ta22 : tagg Try.prog 22 = some false := by kernel_rfl
theorem un22 : Try.prog.underlying 22 = some (.slice 66) := by kernel_rfl
theorem es22 : esz Try.prog 22 = some 3 := by kernel_rfl
theorem im22 : isMapT Try.prog 22 = false := by kernel_rfl
theorem ti25 : tinfo Try.prog 25 = some ((.slice none 0 0), 1, 24) := by kernel_rfl
theorem ts25 : tsz Try.prog 25 = some 1 := by kernel_rfl
theorem ta25 : tagg Try.prog 25 = some false := by kernel_rfl
theorem un25 : Try.prog.underlying 25 = some (.slice 67) := by kernel_rfl
theorem es25 : esz Try.prog 25 = some 3 := by kernel_rfl
theorem im25 : isMapT Try.prog 25 = false := by kernel_rfl
theorem ti29 : tinfo Try.prog 29 = some ((.slice none 0 0), 1, 24) := by kernel_rfl
theorem ts29 : tsz Try.prog 29 = some 1 := by kernel_rfl
theorem ta29 : tagg Try.prog 29 = some false := by kernel_rfl
theorem un29 : Try.prog.underlying 29 = some (.slice 134) := by kernel_rfl
theorem es29 : esz Try.prog 29 = some 4 := by kernel_rfl
theorem im29 : isMapT Try.prog 29 = false := by kernel_rfl
theorem ti30 : tinfo Try.prog 30 = some ((.agg #[(.slice none 0 0)]), 1, 24) := by kernel_rfl
theorem ts30 : tsz Try.prog 30 = some 1 := by kernel_rfl
theorem ta30 : tagg Try.prog 30 = some true := by kernel_rfl
theorem fo30_0 : fieldOff Try.prog 30 0 = some (29, 0) := by kernel_rfl
theorem ti31 : tinfo Try.prog 31 = some ((.agg #[(.slice none 0 0)]), 1, 24) := by kernel_rfl
theorem ts31 : tsz Try.prog 31 = some 1 := by kernel_rfl
theorem ta31 : tagg Try.prog 31 = some true := by kernel_rfl
theorem fo31_0 : fieldOff Try.prog 31 0 = some (29, 0) := by kernel_rfl
theorem ti33 : tinfo Try.prog 33 = some ((.slice none 0 0), 1, 24) := by kernel_rfl
theorem ts33 : tsz Try.prog 33 = some 1 := by kernel_rfl
theorem ta33 : tagg Try.prog 33 = some false := by kernel_rfl
theorem un33 : Try.prog.underlying 33 = some (.slice 81) := by kernel_rfl
theorem es33 : esz Try.prog 33 = some 4 := by kernel_rfl
theorem im33 : isMapT Try.prog 33 = false := by kernel_rfl
theorem ti34 : tinfo Try.prog 34 = some ((.agg #[(.slice none 0 0)]), 1, 24) := by kernel_rfl
theorem ts34 : tsz Try.prog 34 = some 1 := by kernel_rfl
theorem ta34 : tagg Try.prog 34 = some true := by kernel_rfl
theorem fo34_0 : fieldOff Try.prog 34 0 = some (33, 0) := by kernel_rfl
theorem ti35 : tinfo Try.prog 35 = some ((.agg #[(.slice none 0 0)]), 1, 24) := by kernel_rfl
theorem ts35 : tsz Try.prog 35 = some 1 := by kernel_rfl
theorem ta35 : tagg Try.prog 35 = some true := by kernel_rfl
theorem fo35_0 : fieldOff Try.prog 35 0 = some (33, 0) := by kernel_rfl
theorem ti47 : tinfo Try.prog 47 = some ((.slice none 0 0), 1, 24) := by kernel_rfl
theorem ts47 : tsz Try.prog 47 = some 1 := by kernel_rfl
theorem ta47 : tagg Try.prog 47 = some false := by kernel_rfl
theorem un47 : Try.prog.underlying 47 = some (.slice 3) := by kernel_rfl
theorem es47 : esz Try.prog 47 = some 1 := by kernel_rfl
theorem im47 : isMapT Try.prog 47 = false := by kernel_rfl
theorem ti53 : tinfo Try.prog 53 = some ((.slice none 0 0), 1, 24) := by kernel_rfl
theorem ts53 : tsz Try.prog 53 = some 1 := by kernel_rfl
theorem ta53 : tagg Try.prog 53 = some false := by kernel_rfl
theorem un53 : Try.prog.underlying 53 = some (.slice 5) := by kernel_rfl
theorem es53 : esz Try.prog 53 = some 1 := by kernel_rfl
theorem im53 : isMapT Try.prog 53 = false := by kernel_rfl
theorem ti57 : tinfo Try.prog 57 = some ((.slice none 0 0), 1, 24) := by kernel_rfl
theorem ts57 : tsz Try.prog 57 = some 1 := by kernel_rfl
theorem ta57 : tagg Try.prog 57 = some false := by kernel_rfl
theorem un57 : Try.prog.underlying 57 = some (.slice 145) := by kernel_rfl
theorem es57 : esz Try.prog 57 = some 4 := by kernel_rfl
theorem im57 : isMapT Try.prog 57 = false := by kernel_rfl
theorem ti58 : tinfo Try.prog 58 = some ((.agg #[(.slice none 0 0)]), 1, 24) := by kernel_rfl
theorem ts58 : tsz Try.prog 58 = some 1 := by kernel_rfl
theorem ta58 : tagg Try.prog 58 = some true := by kernel_rfl
theorem fo58_0 : fieldOff Try.prog 58 0 = some (57, 0) := by kernel_rfl
theorem ti59 : tinfo Try.prog 59 = some ((.agg #[(.slice none 0 0)]), 1, 24) := by kernel_rfl
theorem ts59 : tsz Try.prog 59 = some 1 := by kernel_rfl
theorem ta59 : tagg Try.prog 59 = some true := by kernel_rfl
theorem fo59_0 : fieldOff Try.prog 59 0 = some (57, 0) := by kernel_rfl
theorem ti65 : tinfo Try.prog 65 = some ((.agg #[(.int .i64 0), (.string ⟨#[]⟩), (.string ⟨#[]⟩)]), 3, 40) := by kernel_rfl
theorem ts65 : tsz Try.prog 65 = some 3 := by kernel_rfl
theorem ta65 : tagg Try.prog 65 = some true := by kernel_rfl
theorem fo65_0 : fieldOff Try.prog 65 0 = some (3, 0) := by kernel_rfl
theorem fo65_1 : fieldOff Try.prog 65 1 = some (9, 1) := by kernel_rfl
theorem fo65_2 : fieldOff Try.prog 65 2 = some (9, 2) := by kernel_rfl
theorem ti66 : tinfo Try.prog 66 = some ((.agg #[(.int .i64 0), (.string ⟨#[]⟩), (.string ⟨#[]⟩)]), 3, 40) := by kernel_rfl
theorem ts66 : tsz Try.prog 66 = some 3 := by kernel_rfl
theorem ta66 : tagg Try.prog 66 = some true := by kernel_rfl
theorem fo66_0 : fieldOff Try.prog 66 0 = some (3, 0) := by kernel_rfl
theorem fo66_1 : fieldOff Try.prog 66 1 = some (9, 1) := by kernel_rfl
theorem fo66_2 : fieldOff Try.prog 66 2 = some (9, 2) := by kernel_rfl
theorem ti67 : tinfo Try.prog 67 = some ((.agg #[(.int .i64 0), (.string ⟨#[]⟩), (.string ⟨#[]⟩)]), 3, 40) := by kernel_rfl
theorem ts67 : tsz Try.prog 67 = some 3 := by kernel_rfl
theorem ta67 : tagg Try.prog 67 = some true := by kernel_rfl
theorem fo67_0 : fieldOff Try.prog 67 0 = some (3, 0) := by kernel_rfl
theorem fo67_1 : fieldOff Try.prog 67 1 = some (9, 1) := by kernel_rfl
theorem fo67_2 : fieldOff Try.prog 67 2 = some (9, 2) := by kernel_rfl
theorem ti69 : tinfo Try.prog 69 = some ((.pointer none), 1, 8) := by kernel_rfl
theorem ts69 : tsz Try.prog 69 = some 1 := by kernel_rfl
theorem ta69 : tagg Try.prog 69 = some false := by kernel_rfl
theorem un69 : Try.prog.underlying 69 = some (.pointer 71) := by kernel_rfl
theorem ip69 : isPtrT Try.prog 69 = true := by kernel_rfl
theorem ti70 : tinfo Try.prog 70 = some ((.agg #[(.pointer none), (.slice none 0 0)]), 2, 32) := by kernel_rfl
theorem ts70 : tsz Try.prog 70 = some 2 := by kernel_rfl
theorem ta70 : tagg Try.prog 70 = some true := by kernel_rfl
theorem fo70_0 : fieldOff Try.prog 70 0 = some (69, 0) := by kernel_rfl
theorem fo70_1 : fieldOff Try.prog 70 1 = some (53, 1) := by kernel_rfl
theorem ti71 : tinfo Try.prog 71 = some ((.agg #[(.pointer none), (.slice none 0 0)]), 2, 32) := by kernel_rfl
theorem ts71 : tsz Try.prog 71 = some 2 := by kernel_rfl
theorem ta71 : tagg Try.prog 71 = some true := by kernel_rfl
theorem fo71_0 : fieldOff Try.prog 71 0 = some (69, 0) := by kernel_rfl
theorem fo71_1 : fieldOff Try.prog 71 1 = some (53, 1) := by kernel_rfl
theorem ti72 : tinfo Try.prog 72 = some (.nilIface, 1, 16) := by kernel_rfl
theorem ts72 : tsz Try.prog 72 = some 1 := by kernel_rfl
theorem ta72 : tagg Try.prog 72 = some false := by kernel_rfl
theorem ti73 : tinfo Try.prog 73 = some (.nilIface, 1, 16) := by kernel_rfl
theorem ts73 : tsz Try.prog 73 = some 1 := by kernel_rfl
theorem ta73 : tagg Try.prog 73 = some false := by kernel_rfl
theorem ti80 : tinfo Try.prog 80 = some ((.agg #[(.string ⟨#[]⟩), (.int .i64 0), (.int .i64 0), (.int .i64 0)]), 4, 40) := by kernel_rfl
theorem ts80 : tsz Try.prog 80 = some 4 := by kernel_rfl
theorem ta80 : tagg Try.prog 80 = some true := by kernel_rfl
theorem fo80_0 : fieldOff Try.prog 80 0 = some (9, 0) := by kernel_rfl
theorem fo80_1 : fieldOff Try.prog 80 1 = some (3, 1) := by kernel_rfl
theorem fo80_2 : fieldOff Try.prog 80 2 = some (3, 2) := by kernel_rfl
theorem fo80_3 : fieldOff Try.prog 80 3 = some (3, 3) := by kernel_rfl
theorem ti81 : tinfo Try.prog 81 = some ((.agg #[(.string ⟨#[]⟩), (.int .i64 0), (.int .i64 0), (.int .i64 0)]), 4, 40) := by kernel_rfl
theorem ts81 : tsz Try.prog 81 = some 4 := by kernel_rfl
theorem ta81 : tagg Try.prog 81 = some true := by kernel_rfl
theorem fo81_0 : fieldOff Try.prog 81 0 = some (9, 0) := by kernel_rfl
theorem fo81_1 : fieldOff Try.prog 81 1 = some (3, 1) := by kernel_rfl
theorem fo81_2 : fieldOff Try.prog 81 2 = some (3, 2) := by kernel_rfl
theorem fo81_3 : fieldOff Try.prog 81 3 = some (3, 3) := by kernel_rfl
theorem ti83 : tinfo Try.prog 83 = some ((.map none), 1, 8) := by kernel_rfl
theorem ts83 : tsz Try.prog 83 = some 1 := by kernel_rfl
theorem ta83 : tagg Try.prog 83 = some false := by kernel_rfl
theorem un83 : Try.prog.underlying 83 = some (.map 81 3) := by kernel_rfl
theorem im83 : isMapT Try.prog 83 = true := by kernel_rfl
theorem ti84 : tinfo Try.prog 84 = some ((.map none), 1, 8) := by kernel_rfl
theorem ts84 : tsz Try.prog 84 = some 1 := by kernel_rfl
theorem ta84 : tagg Try.prog 84 = some false := by kernel_rfl
theorem un84 : Try.prog.underlying 84 = some (.map 81 3) := by kernel_rfl
theorem im84 : isMapT Try.prog 84 = true := by kernel_rfl
theorem ti85 : tinfo Try.prog 85 = some ((.slice none 0 0), 1, 24) := by kernel_rfl
theorem ts85 : tsz Try.prog 85 = some 1 := by kernel_rfl
theorem ta85 : tagg Try.prog 85 = some false := by kernel_rfl
theorem un85 : Try.prog.underlying 85 = some (.slice 33) := by kernel_rfl
theorem es85 : esz Try.prog 85 = some 1 := by kernel_rfl
theorem im85 : isMapT Try.prog 85 = false := by kernel_rfl
theorem ti90 : tinfo Try.prog 90 = some ((.map none), 1, 8) := by kernel_rfl
theorem ts90 : tsz Try.prog 90 = some 1 := by kernel_rfl
theorem ta90 : tagg Try.prog 90 = some false := by kernel_rfl
theorem un90 : Try.prog.underlying 90 = some (.map 93 3) := by kernel_rfl
theorem im90 : isMapT Try.prog 90 = true := by kernel_rfl
theorem ti92 : tinfo Try.prog 92 = some ((.agg #[(.string ⟨#[]⟩), (.bool false)]), 2, 24) := by kernel_rfl
theorem ts92 : tsz Try.prog 92 = some 2 := by kernel_rfl
theorem ta92 : tagg Try.prog 92 = some true := by kernel_rfl
theorem fo92_0 : fieldOff Try.prog 92 0 = some (9, 0) := by kernel_rfl
theorem fo92_1 : fieldOff Try.prog 92 1 = some (4, 1) := by kernel_rfl
theorem ti93 : tinfo Try.prog 93 = some ((.agg #[(.string ⟨#[]⟩), (.bool false)]), 2, 24) := by kernel_rfl
theorem ts93 : tsz Try.prog 93 = some 2 := by kernel_rfl
theorem ta93 : tagg Try.prog 93 = some true := by kernel_rfl
theorem fo93_0 : fieldOff Try.prog 93 0 = some (9, 0) := by kernel_rfl
theorem fo93_1 : fieldOff Try.prog 93 1 = some (4, 1) := by kernel_rfl
theorem ti95 : tinfo Try.prog 95 = some ((.map none), 1, 8) := by kernel_rfl
theorem ts95 : tsz Try.prog 95 = some 1 := by kernel_rfl
theorem ta95 : tagg Try.prog 95 = some false := by kernel_rfl
theorem un95 : Try.prog.underlying 95 = some (.map 3 3) := by kernel_rfl
theorem im95 : isMapT Try.prog 95 = true := by kernel_rfl
theorem ti100 : tinfo Try.prog 100 = some ((.map none), 1, 8) := by kernel_rfl
theorem ts100 : tsz Try.prog 100 = some 1 := by kernel_rfl
theorem ta100 : tagg Try.prog 100 = some false := by kernel_rfl
theorem un100 : Try.prog.underlying 100 = some (.map 93 81) := by kernel_rfl
theorem im100 : isMapT Try.prog 100 = true := by kernel_rfl
theorem ti101 : tinfo Try.prog 101 = some ((.map none), 1, 8) := by kernel_rfl
theorem ts101 : tsz Try.prog 101 = some 1 := by kernel_rfl
theorem ta101 : tagg Try.prog 101 = some false := by kernel_rfl
theorem un101 : Try.prog.underlying 101 = some (.map 9 3) := by kernel_rfl
theorem im101 : isMapT Try.prog 101 = true := by kernel_rfl
theorem ti102 : tinfo Try.prog 102 = some ((.agg #[(.map none), (.map none)]), 2, 16) := by kernel_rfl
theorem ts102 : tsz Try.prog 102 = some 2 := by kernel_rfl
theorem ta102 : tagg Try.prog 102 = some true := by kernel_rfl
theorem fo102_0 : fieldOff Try.prog 102 0 = some (100, 0) := by kernel_rfl
theorem fo102_1 : fieldOff Try.prog 102 1 = some (101, 1) := by kernel_rfl
theorem ti103 : tinfo Try.prog 103 = some ((.agg #[(.map none), (.map none)]), 2, 16) := by kernel_rfl
theorem ts103 : tsz Try.prog 103 = some 2 := by kernel_rfl
theorem ta103 : tagg Try.prog 103 = some true := by kernel_rfl
theorem fo103_0 : fieldOff Try.prog 103 0 = some (100, 0) := by kernel_rfl
theorem fo103_1 : fieldOff Try.prog 103 1 = some (101, 1) := by kernel_rfl
theorem ti108 : tinfo Try.prog 108 = some ((.slice none 0 0), 1, 24) := by kernel_rfl
theorem ts108 : tsz Try.prog 108 = some 1 := by kernel_rfl
theorem ta108 : tagg Try.prog 108 = some false := by kernel_rfl
theorem un108 : Try.prog.underlying 108 = some (.slice 4) := by kernel_rfl
theorem es108 : esz Try.prog 108 = some 1 := by kernel_rfl
theorem im108 : isMapT Try.prog 108 = false := by kernel_rfl
theorem ti113 : tinfo Try.prog 113 = some ((.pointer none), 1, 8) := by kernel_rfl
theorem ts113 : tsz Try.prog 113 = some 1 := by kernel_rfl
theorem ta113 : tagg Try.prog 113 = some false := by kernel_rfl
theorem un113 : Try.prog.underlying 113 = some (.pointer 141) := by kernel_rfl
theorem ip113 : isPtrT Try.prog 113 = true := by kernel_rfl
theorem ti123 : tinfo Try.prog 123 = some (.nilIface, 1, 16) := by kernel_rfl
theorem ts123 : tsz Try.prog 123 = some 1 := by kernel_rfl
theorem ta123 : tagg Try.prog 123 = some false := by kernel_rfl
theorem ti124 : tinfo Try.prog 124 = some (.nilIface, 1, 16) := by kernel_rfl
theorem ts124 : tsz Try.prog 124 = some 1 := by kernel_rfl
theorem ta124 : tagg Try.prog 124 = some false := by kernel_rfl
theorem ti126 : tinfo Try.prog 126 = some ((.pointer none), 1, 8) := by kernel_rfl
theorem ts126 : tsz Try.prog 126 = some 1 := by kernel_rfl
theorem ta126 : tagg Try.prog 126 = some false := by kernel_rfl
theorem un126 : Try.prog.underlying 126 = some (.pointer 151) := by kernel_rfl
theorem ip126 : isPtrT Try.prog 126 = true := by kernel_rfl
theorem ti132 : tinfo Try.prog 132 = some ((.pointer none), 1, 8) := by kernel_rfl
theorem ts132 : tsz Try.prog 132 = some 1 := by kernel_rfl
theorem ta132 : tagg Try.prog 132 = some false := by kernel_rfl
theorem un132 : Try.prog.underlying 132 = some (.pointer 5) := by kernel_rfl
theorem ip132 : isPtrT Try.prog 132 = true := by kernel_rfl
theorem ti134 : tinfo Try.prog 134 = some ((.agg #[(.string ⟨#[]⟩), (.int .i64 0), (.int .i64 0), (.int .i64 0)]), 4, 40) := by kernel_rfl
theorem ts134 : tsz Try.prog 134 = some 4 := by kernel_rfl
theorem ta134 : tagg Try.prog 134 = some true := by kernel_rfl
theorem fo134_0 : fieldOff Try.prog 134 0 = some (9, 0) := by kernel_rfl
theorem fo134_1 : fieldOff Try.prog 134 1 = some (3, 1) := by kernel_rfl
theorem fo134_2 : fieldOff Try.prog 134 2 = some (3, 2) := by kernel_rfl
theorem fo134_3 : fieldOff Try.prog 134 3 = some (3, 3) := by kernel_rfl
theorem ti140 : tinfo Try.prog 140 = some ((.agg #[(.slice none 0 0), (.int .i64 0)]), 2, 32) := by kernel_rfl
theorem ts140 : tsz Try.prog 140 = some 2 := by kernel_rfl
theorem ta140 : tagg Try.prog 140 = some true := by kernel_rfl
theorem fo140_0 : fieldOff Try.prog 140 0 = some (53, 0) := by kernel_rfl
theorem fo140_1 : fieldOff Try.prog 140 1 = some (3, 1) := by kernel_rfl
theorem ti141 : tinfo Try.prog 141 = some ((.agg #[(.slice none 0 0), (.int .i64 0)]), 2, 32) := by kernel_rfl
theorem ts141 : tsz Try.prog 141 = some 2 := by kernel_rfl
theorem ta141 : tagg Try.prog 141 = some true := by kernel_rfl
theorem fo141_0 : fieldOff Try.prog 141 0 = some (53, 0) := by kernel_rfl
theorem fo141_1 : fieldOff Try.prog 141 1 = some (3, 1) := by kernel_rfl
theorem ti144 : tinfo Try.prog 144 = some ((.agg #[(.int .i64 0), (.string ⟨#[]⟩), (.int .i64 0), (.int .i64 0)]), 4, 40) := by kernel_rfl
theorem ts144 : tsz Try.prog 144 = some 4 := by kernel_rfl
theorem ta144 : tagg Try.prog 144 = some true := by kernel_rfl
theorem fo144_0 : fieldOff Try.prog 144 0 = some (3, 0) := by kernel_rfl
theorem fo144_1 : fieldOff Try.prog 144 1 = some (9, 1) := by kernel_rfl
theorem fo144_2 : fieldOff Try.prog 144 2 = some (3, 2) := by kernel_rfl
theorem fo144_3 : fieldOff Try.prog 144 3 = some (3, 3) := by kernel_rfl
theorem ti145 : tinfo Try.prog 145 = some ((.agg #[(.int .i64 0), (.string ⟨#[]⟩), (.int .i64 0), (.int .i64 0)]), 4, 40) := by kernel_rfl
theorem ts145 : tsz Try.prog 145 = some 4 := by kernel_rfl
theorem ta145 : tagg Try.prog 145 = some true := by kernel_rfl
theorem fo145_0 : fieldOff Try.prog 145 0 = some (3, 0) := by kernel_rfl
theorem fo145_1 : fieldOff Try.prog 145 1 = some (9, 1) := by kernel_rfl
theorem fo145_2 : fieldOff Try.prog 145 2 = some (3, 2) := by kernel_rfl
theorem fo145_3 : fieldOff Try.prog 145 3 = some (3, 3) := by kernel_rfl
theorem ti148 : tinfo Try.prog 148 = some ((.map none), 1, 8) := by kernel_rfl
theorem ts148 : tsz Try.prog 148 = some 1 := by kernel_rfl
theorem ta148 : tagg Try.prog 148 = some false := by kernel_rfl
theorem un148 : Try.prog.underlying 148 = some (.map 9 156) := by kernel_rfl
theorem im148 : isMapT Try.prog 148 = true := by kernel_rfl
theorem ti149 : tinfo Try.prog 149 = some ((.map none), 1, 8) := by kernel_rfl
theorem ts149 : tsz Try.prog 149 = some 1 := by kernel_rfl
theorem ta149 : tagg Try.prog 149 = some false := by kernel_rfl
theorem un149 : Try.prog.underlying 149 = some (.map 9 157) := by kernel_rfl
theorem im149 : isMapT Try.prog 149 = true := by kernel_rfl
theorem ti150 : tinfo Try.prog 150 = some ((.agg #[(.map none), (.map none), (.slice none 0 0), (.int .i64 0), (.map none), (.map none)]), 6, 64) := by kernel_rfl
theorem ts150 : tsz Try.prog 150 = some 6 := by kernel_rfl
theorem ta150 : tagg Try.prog 150 = some true := by kernel_rfl
theorem fo150_0 : fieldOff Try.prog 150 0 = some (103, 0) := by kernel_rfl
theorem fo150_1 : fieldOff Try.prog 150 1 = some (25, 2) := by kernel_rfl
theorem fo150_2 : fieldOff Try.prog 150 2 = some (3, 3) := by kernel_rfl
theorem fo150_3 : fieldOff Try.prog 150 3 = some (148, 4) := by kernel_rfl
theorem fo150_4 : fieldOff Try.prog 150 4 = some (149, 5) := by kernel_rfl
theorem ti151 : tinfo Try.prog 151 = some ((.agg #[(.map none), (.map none), (.slice none 0 0), (.int .i64 0), (.map none), (.map none)]), 6, 64) := by kernel_rfl
theorem ts151 : tsz Try.prog 151 = some 6 := by kernel_rfl
theorem ta151 : tagg Try.prog 151 = some true := by kernel_rfl
theorem fo151_0 : fieldOff Try.prog 151 0 = some (103, 0) := by kernel_rfl
theorem fo151_1 : fieldOff Try.prog 151 1 = some (25, 2) := by kernel_rfl
theorem fo151_2 : fieldOff Try.prog 151 2 = some (3, 3) := by kernel_rfl
theorem fo151_3 : fieldOff Try.prog 151 3 = some (148, 4) := by kernel_rfl
theorem fo151_4 : fieldOff Try.prog 151 4 = some (149, 5) := by kernel_rfl
theorem ti154 : tinfo Try.prog 154 = some ((.agg #[(.string ⟨#[]⟩), (.int .i64 0), (.int .i64 0), (.int .i64 0), .nilIface, .nilIface, (.int .i64 0)]), 7, 80) := by kernel_rfl
theorem ts154 : tsz Try.prog 154 = some 7 := by kernel_rfl
theorem ta154 : tagg Try.prog 154 = some true := by kernel_rfl
theorem fo154_0 : fieldOff Try.prog 154 0 = some (81, 0) := by kernel_rfl
theorem fo154_1 : fieldOff Try.prog 154 1 = some (124, 4) := by kernel_rfl
theorem fo154_2 : fieldOff Try.prog 154 2 = some (124, 5) := by kernel_rfl
theorem fo154_3 : fieldOff Try.prog 154 3 = some (3, 6) := by kernel_rfl
theorem ti155 : tinfo Try.prog 155 = some ((.agg #[(.string ⟨#[]⟩), (.int .i64 0), (.int .i64 0), (.int .i64 0), .nilIface, .nilIface, (.int .i64 0)]), 7, 80) := by kernel_rfl
theorem ts155 : tsz Try.prog 155 = some 7 := by kernel_rfl
theorem ta155 : tagg Try.prog 155 = some true := by kernel_rfl
theorem fo155_0 : fieldOff Try.prog 155 0 = some (81, 0) := by kernel_rfl
theorem fo155_1 : fieldOff Try.prog 155 1 = some (124, 4) := by kernel_rfl
theorem fo155_2 : fieldOff Try.prog 155 2 = some (124, 5) := by kernel_rfl
theorem fo155_3 : fieldOff Try.prog 155 3 = some (3, 6) := by kernel_rfl
theorem ti158 : tinfo Try.prog 158 = some ((.agg #[]), 0, 0) := by kernel_rfl
theorem ts158 : tsz Try.prog 158 = some 0 := by kernel_rfl
theorem ta158 : tagg Try.prog 158 = some true := by kernel_rfl
theorem ti159 : tinfo Try.prog 159 = some ((.agg #[]), 0, 0) := by kernel_rfl
theorem ts159 : tsz Try.prog 159 = some 0 := by kernel_rfl
theorem ta159 : tagg Try.prog 159 = some true := by kernel_rfl
theorem un162 : Try.prog.underlying 162 = some .unsafePointer := by kernel_rfl
theorem ti172 : tinfo Try.prog 172 = some ((.agg #[(.int .i64 0), (.string ⟨#[]⟩), (.int .i64 0), (.int .i64 0)]), 4, 40) := by kernel_rfl
theorem ts172 : tsz Try.prog 172 = some 4 := by kernel_rfl
theorem ta172 : tagg Try.prog 172 = some true := by kernel_rfl
theorem fo172_0 : fieldOff Try.prog 172 0 = some (145, 0) := by kernel_rfl
theorem ti173 : tinfo Try.prog 173 = some ((.agg #[(.int .i64 0), (.string ⟨#[]⟩), (.int .i64 0), (.int .i64 0)]), 4, 40) := by kernel_rfl
theorem ts173 : tsz Try.prog 173 = some 4 := by kernel_rfl
theorem ta173 : tagg Try.prog 173 = some true := by kernel_rfl
theorem fo173_0 : fieldOff Try.prog 173 0 = some (145, 0) := by kernel_rfl
theorem ti174 : tinfo Try.prog 174 = some ((.agg #[.nilIface, (.int .i64 0)]), 2, 24) := by kernel_rfl
theorem ts174 : tsz Try.prog 174 = some 2 := by kernel_rfl
theorem ta174 : tagg Try.prog 174 = some true := by kernel_rfl
theorem fo174_0 : fieldOff Try.prog 174 0 = some (124, 0) := by kernel_rfl
theorem fo174_1 : fieldOff Try.prog 174 1 = some (3, 1) := by kernel_rfl
theorem ti175 : tinfo Try.prog 175 = some ((.agg #[.nilIface, (.int .i64 0)]), 2, 24) := by kernel_rfl
theorem ts175 : tsz Try.prog 175 = some 2 := by kernel_rfl
theorem ta175 : tagg Try.prog 175 = some true := by kernel_rfl
theorem fo175_0 : fieldOff Try.prog 175 0 = some (124, 0) := by kernel_rfl
theorem fo175_1 : fieldOff Try.prog 175 1 = some (3, 1) := by kernel_rfl
theorem ti176 : tinfo Try.prog 176 = some ((.agg #[(.pointer none), (.pointer none), (.pointer none), (.string ⟨#[]⟩)]), 4, 40) := by kernel_rfl
theorem ts176 : tsz Try.prog 176 = some 4 := by kernel_rfl
theorem ta176 : tagg Try.prog 176 = some true := by kernel_rfl
theorem fo176_0 : fieldOff Try.prog 176 0 = some (17, 0) := by kernel_rfl
theorem fo176_1 : fieldOff Try.prog 176 1 = some (17, 1) := by kernel_rfl
theorem fo176_2 : fieldOff Try.prog 176 2 = some (17, 2) := by kernel_rfl
theorem fo176_3 : fieldOff Try.prog 176 3 = some (9, 3) := by kernel_rfl
theorem ti177 : tinfo Try.prog 177 = some ((.agg #[(.pointer none), (.pointer none), (.pointer none), (.string ⟨#[]⟩)]), 4, 40) := by kernel_rfl
theorem ts177 : tsz Try.prog 177 = some 4 := by kernel_rfl
theorem ta177 : tagg Try.prog 177 = some true := by kernel_rfl
theorem fo177_0 : fieldOff Try.prog 177 0 = some (17, 0) := by kernel_rfl
theorem fo177_1 : fieldOff Try.prog 177 1 = some (17, 1) := by kernel_rfl
theorem fo177_2 : fieldOff Try.prog 177 2 = some (17, 2) := by kernel_rfl
theorem fo177_3 : fieldOff Try.prog 177 3 = some (9, 3) := by kernel_rfl
theorem ti179 : tinfo Try.prog 179 = some ((.agg #[]), 0, 0) := by kernel_rfl
theorem ts179 : tsz Try.prog 179 = some 0 := by kernel_rfl
theorem ta179 : tagg Try.prog 179 = some true := by kernel_rfl
theorem fo179_0 : fieldOff Try.prog 179 0 = some (178, 0) := by kernel_rfl
theorem ti180 : tinfo Try.prog 180 = some ((.agg #[]), 0, 0) := by kernel_rfl
theorem ts180 : tsz Try.prog 180 = some 0 := by kernel_rfl
theorem ta180 : tagg Try.prog 180 = some true := by kernel_rfl
theorem fo180_0 : fieldOff Try.prog 180 0 = some (178, 0) := by kernel_rfl
theorem ti181 : tinfo Try.prog 181 = some ((.int .u32 0), 1, 4) := by kernel_rfl
theorem ts181 : tsz Try.prog 181 = some 1 := by kernel_rfl
theorem ta181 : tagg Try.prog 181 = some false := by kernel_rfl
theorem ti182 : tinfo Try.prog 182 = some ((.int .u8 0), 1, 1) := by kernel_rfl
theorem ts182 : tsz Try.prog 182 = some 1 := by kernel_rfl
theorem ta182 : tagg Try.prog 182 = some false := by kernel_rfl
theorem ti183 : tinfo Try.prog 183 = some ((.int .u8 0), 1, 1) := by kernel_rfl
theorem ts183 : tsz Try.prog 183 = some 1 := by kernel_rfl
theorem ta183 : tagg Try.prog 183 = some false := by kernel_rfl
theorem ti185 : tinfo Try.prog 185 = some ((.int .i32 0), 1, 4) := by kernel_rfl
theorem ts185 : tsz Try.prog 185 = some 1 := by kernel_rfl
theorem ta185 : tagg Try.prog 185 = some false := by kernel_rfl
theorem ti186 : tinfo Try.prog 186 = some ((.int .i32 0), 1, 4) := by kernel_rfl
theorem ts186 : tsz Try.prog 186 = some 1 := by kernel_rfl
theorem ta186 : tagg Try.prog 186 = some false := by kernel_rfl
theorem ti187 : tinfo Try.prog 187 = some ((.agg #[(.int .u64 0), (.int .u64 0), (.int .u32 0), (.int .u8 0), (.int .u8 0), (.int .u8 0), (.int .u8 0), .nilFunc, (.pointer none), (.int .i32 0), (.int .i32 0)]), 11, 48) := by kernel_rfl
theorem ts187 : tsz Try.prog 187 = some 11 := by kernel_rfl
theorem ta187 : tagg Try.prog 187 = some true := by kernel_rfl
theorem fo187_0 : fieldOff Try.prog 187 0 = some (12, 0) := by kernel_rfl
theorem fo187_1 : fieldOff Try.prog 187 1 = some (12, 1) := by kernel_rfl
theorem fo187_2 : fieldOff Try.prog 187 2 = some (181, 2) := by kernel_rfl
theorem fo187_3 : fieldOff Try.prog 187 3 = some (182, 3) := by kernel_rfl
theorem fo187_4 : fieldOff Try.prog 187 4 = some (5, 4) := by kernel_rfl
theorem fo187_5 : fieldOff Try.prog 187 5 = some (5, 5) := by kernel_rfl
theorem fo187_6 : fieldOff Try.prog 187 6 = some (183, 6) := by kernel_rfl
theorem fo187_7 : fieldOff Try.prog 187 7 = some (184, 7) := by kernel_rfl
theorem fo187_8 : fieldOff Try.prog 187 8 = some (132, 8) := by kernel_rfl
theorem fo187_9 : fieldOff Try.prog 187 9 = some (185, 9) := by kernel_rfl
theorem fo187_10 : fieldOff Try.prog 187 10 = some (186, 10) := by kernel_rfl
theorem ti188 : tinfo Try.prog 188 = some ((.agg #[(.int .u64 0), (.int .u64 0), (.int .u32 0), (.int .u8 0), (.int .u8 0), (.int .u8 0), (.int .u8 0), .nilFunc, (.pointer none), (.int .i32 0), (.int .i32 0)]), 11, 48) := by kernel_rfl
theorem ts188 : tsz Try.prog 188 = some 11 := by kernel_rfl
theorem ta188 : tagg Try.prog 188 = some true := by kernel_rfl
theorem fo188_0 : fieldOff Try.prog 188 0 = some (12, 0) := by kernel_rfl
theorem fo188_1 : fieldOff Try.prog 188 1 = some (12, 1) := by kernel_rfl
theorem fo188_2 : fieldOff Try.prog 188 2 = some (181, 2) := by kernel_rfl
theorem fo188_3 : fieldOff Try.prog 188 3 = some (182, 3) := by kernel_rfl
theorem fo188_4 : fieldOff Try.prog 188 4 = some (5, 4) := by kernel_rfl
theorem fo188_5 : fieldOff Try.prog 188 5 = some (5, 5) := by kernel_rfl
theorem fo188_6 : fieldOff Try.prog 188 6 = some (183, 6) := by kernel_rfl
theorem fo188_7 : fieldOff Try.prog 188 7 = some (184, 7) := by kernel_rfl
theorem fo188_8 : fieldOff Try.prog 188 8 = some (132, 8) := by kernel_rfl
theorem fo188_9 : fieldOff Try.prog 188 9 = some (185, 9) := by kernel_rfl
theorem fo188_10 : fieldOff Try.prog 188 10 = some (186, 10) := by kernel_rfl
theorem depth_pos : 0 < Try.prog.depth := of_decide_eq_true (by kernel_rfl)
attribute [go_sem] ti2 ts2 ta2 ti3 ts3 ta3 ti4 ts4 ta4 ti5 ts5 ta5 ti6 ts6 ta6 ti7 ts7 ta7 fo7_0 fo7_1 fo7_2 fo7_3 ti8 ts8 ta8 fo8_0 fo8_1 fo8_2 fo8_3 ti9 ts9 ta9 im9 un9 ti10 ts10 ta10 im10 un10 ti11 ts11 ta11 im11 un11 ti12 ts12 ta12 ti13 ts13 ta13 fo13_0 fo13_1 ti14 ts14 ta14 fo14_0 fo14_1 ti15 ts15 ta15 un15 ip15 ti16 ts16 ta16 un16 ip16 ti17 ts17 ta17 un17 ip17 ti18 ts18 ta18 fo18_0 ti19 ts19 ta19 fo19_0 ti20 ts20 ta20 ti21 ts21 ta21 ti22 ts22 ta22 un22 es22 im22 ti25 ts25 ta25 un25 es25 im25 ti29 ts29 ta29 un29 es29 im29 ti30 ts30 ta30 fo30_0 ti31 ts31 ta31 fo31_0 ti33 ts33 ta33 un33 es33 im33 ti34 ts34 ta34 fo34_0 ti35 ts35 ta35 fo35_0 ti47 ts47 ta47 un47 es47 im47 ti53 ts53 ta53 un53 es53 im53 ti57 ts57 ta57 un57 es57 im57 ti58 ts58 ta58 fo58_0 ti59 ts59 ta59 fo59_0 ti65 ts65 ta65 fo65_0 fo65_1 fo65_2 ti66 ts66 ta66 fo66_0 fo66_1 fo66_2 ti67 ts67 ta67 fo67_0 fo67_1 fo67_2 ti69 ts69 ta69 un69 ip69 ti70 ts70 ta70 fo70_0 fo70_1 ti71 ts71 ta71 fo71_0 fo71_1 ti72 ts72 ta72 ti73 ts73 ta73 ti80 ts80 ta80 fo80_0 fo80_1 fo80_2 fo80_3 ti81 ts81 ta81 fo81_0 fo81_1 fo81_2 fo81_3 ti83 ts83 ta83 un83 im83 ti84 ts84 ta84 un84 im84 ti85 ts85 ta85 un85 es85 im85 ti90 ts90 ta90 un90 im90 ti92 ts92 ta92 fo92_0 fo92_1 ti93 ts93 ta93 fo93_0 fo93_1 ti95 ts95 ta95 un95 im95 ti100 ts100 ta100 un100 im100 ti101 ts101 ta101 un101 im101 ti102 ts102 ta102 fo102_0 fo102_1 ti103 ts103 ta103 fo103_0 fo103_1 ti108 ts108 ta108 un108 es108 im108 ti113 ts113 ta113 un113 ip113 ti123 ts123 ta123 ti124 ts124 ta124 ti126 ts126 ta126 un126 ip126 ti132 ts132 ta132 un132 ip132 ti134 ts134 ta134 fo134_0 fo134_1 fo134_2 fo134_3 ti140 ts140 ta140 fo140_0 fo140_1 ti141 ts141 ta141 fo141_0 fo141_1 ti144 ts144 ta144 fo144_0 fo144_1 fo144_2 fo144_3 ti145 ts145 ta145 fo145_0 fo145_1 fo145_2 fo145_3 ti148 ts148 ta148 un148 im148 ti149 ts149 ta149 un149 im149 ti150 ts150 ta150 fo150_0 fo150_1 fo150_2 fo150_3 fo150_4 ti151 ts151 ta151 fo151_0 fo151_1 fo151_2 fo151_3 fo151_4 ti154 ts154 ta154 fo154_0 fo154_1 fo154_2 fo154_3 ti155 ts155 ta155 fo155_0 fo155_1 fo155_2 fo155_3 ti158 ts158 ta158 ti159 ts159 ta159 un162 ti172 ts172 ta172 fo172_0 ti173 ts173 ta173 fo173_0 ti174 ts174 ta174 fo174_0 fo174_1 ti175 ts175 ta175 fo175_0 fo175_1 ti176 ts176 ta176 fo176_0 fo176_1 fo176_2 fo176_3 ti177 ts177 ta177 fo177_0 fo177_1 fo177_2 fo177_3 ti179 ts179 ta179 fo179_0 ti180 ts180 ta180 fo180_0 ti181 ts181 ta181 ti182 ts182 ta182 ti183 ts183 ta183 ti185 ts185 ta185 ti186 ts186 ta186 ti187 ts187 ta187 fo187_0 fo187_1 fo187_2 fo187_3 fo187_4 fo187_5 fo187_6 fo187_7 fo187_8 fo187_9 fo187_10 ti188 ts188 ta188 fo188_0 fo188_1 fo188_2 fo188_3 fo188_4 fo188_5 fo188_6 fo188_7 fo188_8 fo188_9 fo188_10 depth_pos
end Go.Proofs.Ytnjnkhmcdkjekaa.V
