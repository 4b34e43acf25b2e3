import Derived.Test.YtadghlfkddkelaaGreatDoorTB
import Derived.Test.YtadghlfkddkelaaGreatDoorProg
import Derived.KernelRfl
set_option linter.unusedVariables false
set_option linter.unusedSimpArgs false
set_option linter.constructorNameAsVariable false
namespace Go.Proofs.YtadghlfkddkelaaGreatDoor.V
theorem ti3:Yq Tryz.prog 3=some ((.int .i64 0),1,8):=by kernel_rfl
theorem ts3:tsz Tryz.prog 3=some 1:=by kernel_rfl
theorem ta3:XU Tryz.prog 3=some false:=by kernel_rfl
theorem ti4:Yq Tryz.prog 4=some ((.bool false),1,1):=by kernel_rfl
theorem ts4:tsz Tryz.prog 4=some 1:=by kernel_rfl
theorem ta4:XU Tryz.prog 4=some false:=by kernel_rfl
theorem ti5:Yq Tryz.prog 5=some ((.int .u8 0),1,1):=by kernel_rfl
theorem ti9:Yq Tryz.prog 9=some ((.string ⟨#[]⟩),1,16):=by kernel_rfl
theorem ts9:tsz Tryz.prog 9=some 1:=by kernel_rfl
theorem ta9:XU Tryz.prog 9=some false:=by kernel_rfl
theorem im9:XO Tryz.prog 9=false:=by kernel_rfl
theorem ZoK:XO Tryz.prog 22=false:=by kernel_rfl
theorem Zoj:tsz Tryz.prog 27=some 1:=by kernel_rfl
theorem ZoJ:XO Tryz.prog 27=false:=by kernel_rfl
theorem ZoI:XO Tryz.prog 34=false:=by kernel_rfl
theorem Zoi:tsz Tryz.prog 41=some 1:=by kernel_rfl
theorem ZoD:XU Tryz.prog 41=some false:=by kernel_rfl
theorem ZoH:XO Tryz.prog 41=false:=by kernel_rfl
theorem Zos:Yq Tryz.prog 42=some ((.slice none 0 0),1,24):=by kernel_rfl
theorem Zoh:tsz Tryz.prog 42=some 1:=by kernel_rfl
theorem ZoC:XU Tryz.prog 42=some false:=by kernel_rfl
theorem ZoG:XO Tryz.prog 42=false:=by kernel_rfl
theorem Zor:Yq Tryz.prog 44=some ((.agg #[(.slice none 0 0),(.slice none 0 0),(.string ⟨#[]⟩)]),3,64):=by kernel_rfl
theorem Zog:tsz Tryz.prog 44=some 3:=by kernel_rfl
theorem ZoB:XU Tryz.prog 44=some true:=by kernel_rfl
theorem Zoq:Yq Tryz.prog 52=some ((.agg #[(.string ⟨#[]⟩),(.string ⟨#[]⟩)]),2,32):=by kernel_rfl
theorem Zof:tsz Tryz.prog 52=some 2:=by kernel_rfl
theorem ZoA:XU Tryz.prog 52=some true:=by kernel_rfl
theorem Zop:Yq Tryz.prog 55=some ((.agg #[(.slice none 0 0)]),1,24):=by kernel_rfl
theorem Zoe:tsz Tryz.prog 55=some 1:=by kernel_rfl
theorem Zoz:XU Tryz.prog 55=some true:=by kernel_rfl
theorem Zod:tsz Tryz.prog 58=some 2:=by kernel_rfl
theorem Zoy:XU Tryz.prog 58=some true:=by kernel_rfl
theorem Zoo:Yq Tryz.prog 65=some ((.slice none 0 0),1,24):=by kernel_rfl
theorem Zoc:tsz Tryz.prog 65=some 1:=by kernel_rfl
theorem Zox:XU Tryz.prog 65=some false:=by kernel_rfl
theorem Zon:Yq Tryz.prog 73=some ((.agg #[(.string ⟨#[]⟩),(.int .i64 0),(.int .i64 0),(.int .i64 0)]),4,40):=by kernel_rfl
theorem Zob:tsz Tryz.prog 73=some 4:=by kernel_rfl
theorem Zow:XU Tryz.prog 73=some true:=by kernel_rfl
theorem Zoa:tsz Tryz.prog 78=some 1:=by kernel_rfl
theorem Zov:XU Tryz.prog 78=some false:=by kernel_rfl
theorem ZoF:XO Tryz.prog 78=false:=by kernel_rfl
theorem Zom:Yq Tryz.prog 80=some ((.agg #[(.slice none 0 0)]),1,24):=by kernel_rfl
theorem Zn9:tsz Tryz.prog 80=some 1:=by kernel_rfl
theorem Zou:XU Tryz.prog 80=some true:=by kernel_rfl
theorem ZoE:XO Tryz.prog 91=false:=by kernel_rfl
theorem Zol:Yq Tryz.prog 95=some ((.agg #[(.slice none 0 0),(.int .i64 0),(.int .i64 0)]),3,40):=by kernel_rfl
theorem Zn8:tsz Tryz.prog 95=some 3:=by kernel_rfl
theorem Zok:Yq Tryz.prog 98=some ((.pointer none),1,8):=by kernel_rfl
theorem Zn7:tsz Tryz.prog 98=some 1:=by kernel_rfl
theorem Zot:XU Tryz.prog 98=some false:=by kernel_rfl
theorem Znn:tsz Tryz.prog 101=some 1:=by kernel_rfl
theorem ZnO:XU Tryz.prog 101=some false:=by kernel_rfl
theorem ZnA:Yq Tryz.prog 103=some ((.agg #[(.slice none 0 0),(.slice none 0 0),(.string ⟨#[]⟩),(.slice none 0 0),(.map none),(.int .i64 0)]),6,104):=by kernel_rfl
theorem Znm:tsz Tryz.prog 103=some 6:=by kernel_rfl
theorem Znz:Yq Tryz.prog 109=some ((.agg #[(.string ⟨#[]⟩),(.bool false)]),2,24):=by kernel_rfl
theorem Znl:tsz Tryz.prog 109=some 2:=by kernel_rfl
theorem ZnN:XU Tryz.prog 109=some true:=by kernel_rfl
theorem Znk:tsz Tryz.prog 116=some 1:=by kernel_rfl
theorem ZnM:XU Tryz.prog 116=some false:=by kernel_rfl
theorem Znj:tsz Tryz.prog 117=some 1:=by kernel_rfl
theorem ZnL:XU Tryz.prog 117=some false:=by kernel_rfl
theorem Zni:tsz Tryz.prog 118=some 1:=by kernel_rfl
theorem ZnK:XU Tryz.prog 118=some false:=by kernel_rfl
theorem ZnY:XO Tryz.prog 118=false:=by kernel_rfl
theorem Zny:Yq Tryz.prog 120=some ((.agg #[(.slice none 0 0),(.slice none 0 0),(.map none),(.map none)]),4,64):=by kernel_rfl
theorem Znh:tsz Tryz.prog 120=some 4:=by kernel_rfl
theorem Zng:tsz Tryz.prog 123=some 1:=by kernel_rfl
theorem ZnJ:XU Tryz.prog 123=some false:=by kernel_rfl
theorem ZnX:XO Tryz.prog 123=false:=by kernel_rfl
theorem Znx:Yq Tryz.prog 127=some ((.agg #[(.int .i64 0),(.string ⟨#[]⟩),(.string ⟨#[]⟩)]),3,40):=by kernel_rfl
theorem Znf:tsz Tryz.prog 127=some 3:=by kernel_rfl
theorem ZnI:XU Tryz.prog 127=some true:=by kernel_rfl
theorem ZnW:XO Tryz.prog 129=false:=by kernel_rfl
theorem Znw:Yq Tryz.prog 137=some ((.agg #[(.int .i64 0),(.string ⟨#[]⟩),(.int .i64 0),(.int .i64 0)]),4,40):=by kernel_rfl
theorem Zne:tsz Tryz.prog 137=some 4:=by kernel_rfl
theorem ZnH:XU Tryz.prog 137=some true:=by kernel_rfl
theorem ZnV:XO Tryz.prog 145=true:=by kernel_rfl
theorem ZnU:XO Tryz.prog 146=true:=by kernel_rfl
theorem ZnT:XO Tryz.prog 147=false:=by kernel_rfl
theorem Znv:Yq Tryz.prog 158=some (.nilIface,1,16):=by kernel_rfl
theorem Znd:tsz Tryz.prog 158=some 1:=by kernel_rfl
theorem ZnG:XU Tryz.prog 158=some false:=by kernel_rfl
theorem Znu:Yq Tryz.prog 160=some ((.pointer none),1,8):=by kernel_rfl
theorem Znc:tsz Tryz.prog 160=some 1:=by kernel_rfl
theorem ZnF:XU Tryz.prog 160=some false:=by kernel_rfl
theorem Znb:tsz Tryz.prog 162=some 1:=by kernel_rfl
theorem ZnE:XU Tryz.prog 162=some false:=by kernel_rfl
theorem Znt:Yq Tryz.prog 164=some ((.agg #[(.map none),(.map none)]),2,16):=by kernel_rfl
theorem Zna:tsz Tryz.prog 164=some 2:=by kernel_rfl
theorem ZnD:XU Tryz.prog 164=some true:=by kernel_rfl
theorem Zm9:tsz Tryz.prog 191=some 1:=by kernel_rfl
theorem ZnC:XU Tryz.prog 191=some false:=by kernel_rfl
theorem Zm8:tsz Tryz.prog 192=some 1:=by kernel_rfl
theorem ZnB:XU Tryz.prog 192=some false:=by kernel_rfl
theorem Zns:Yq Tryz.prog 194=some ((.agg #[(.map none),(.map none),(.slice none 0 0),(.int .i64 0),(.map none),(.map none)]),6,64):=by kernel_rfl
theorem Zm7:tsz Tryz.prog 194=some 6:=by kernel_rfl
theorem Znr:Yq Tryz.prog 197=some ((.agg #[(.string ⟨#[]⟩),(.int .i64 0),(.int .i64 0),(.int .i64 0),.nilIface,.nilIface,(.int .i64 0)]),7,80):=by kernel_rfl
theorem Zm6:tsz Tryz.prog 197=some 7:=by kernel_rfl
theorem Zn2:Qx Tryz.prog 197=some false:=by kernel_rfl
theorem Znq:Yq Tryz.prog 201=some ((.agg #[]),0,0):=by kernel_rfl
theorem Zn1:Qx Tryz.prog 201=some false:=by kernel_rfl
theorem Znp:Yq Tryz.prog 237=some ((.agg #[(.int .i64 0),(.string ⟨#[]⟩),(.int .i64 0),(.int .i64 0)]),4,40):=by kernel_rfl
theorem Zm5:tsz Tryz.prog 237=some 4:=by kernel_rfl
theorem Zn0:Qx Tryz.prog 237=some false:=by kernel_rfl
theorem Zno:Yq Tryz.prog 239=some ((.agg #[.nilIface,(.int .i64 0)]),2,24):=by kernel_rfl
theorem Zm4:tsz Tryz.prog 239=some 2:=by kernel_rfl
theorem ZnZ:Qx Tryz.prog 239=some false:=by kernel_rfl
attribute [go_sem] ti3 ts3 ta3 ti4 ts4 ta4 ti5 ti9 ts9 ta9 im9 ZoK Zoj ZoJ ZoI Zoi ZoD ZoH Zos Zoh ZoC ZoG Zor Zog ZoB Zoq Zof ZoA Zop Zoe Zoz Zod Zoy Zoo Zoc Zox Zon Zob Zow Zoa Zov ZoF Zom Zn9 Zou ZoE Zol Zn8 Zok Zn7 Zot Znn ZnO ZnA Znm Znz Znl ZnN Znk ZnM Znj ZnL Zni ZnK ZnY Zny Znh Zng ZnJ ZnX Znx Znf ZnI ZnW Znw Zne ZnH ZnV ZnU ZnT Znv Znd ZnG Znu Znc ZnF Znb ZnE Znt Zna ZnD Zm9 ZnC Zm8 ZnB Zns Zm7 Znr Zm6 Zn2 Znq Zn1 Znp Zm5 Zn0 Zno Zm4 ZnZ
end Go.Proofs.YtadghlfkddkelaaGreatDoor.V
