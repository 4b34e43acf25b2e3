import Derived.Test.YtjdmmhcogmepaaaGreatDoorFB
import Derived.Test.YtjdmmhcogmepaaaGreatDoorProg
import Derived.KernelRfl
set_option linter.unusedVariables false
set_option linter.unusedSimpArgs false
set_option linter.constructorNameAsVariable false
namespace Go.Proofs.YtjdmmhcogmepaaaGreatDoor.V
theorem ti3:Yz Tryz.prog 3=some ((.int .i64 0),1,8):=by kernel_rfl
theorem ts3:tsz Tryz.prog 3=some 1:=by kernel_rfl
theorem ta3:Ws Tryz.prog 3=some false:=by kernel_rfl
theorem ti4:Yz Tryz.prog 4=some ((.bool false),1,1):=by kernel_rfl
theorem ts4:tsz Tryz.prog 4=some 1:=by kernel_rfl
theorem ta4:Ws Tryz.prog 4=some false:=by kernel_rfl
theorem ti5:Yz Tryz.prog 5=some ((.int .u8 0),1,1):=by kernel_rfl
theorem ts5:tsz Tryz.prog 5=some 1:=by kernel_rfl
theorem ta5:Ws Tryz.prog 5=some false:=by kernel_rfl
theorem ti9:Yz Tryz.prog 9=some ((.string ⟨#[]⟩),1,16):=by kernel_rfl
theorem ts9:tsz Tryz.prog 9=some 1:=by kernel_rfl
theorem ta9:Ws Tryz.prog 9=some false:=by kernel_rfl
theorem im9:W5 Tryz.prog 9=false:=by kernel_rfl
theorem Zm3:tsz Tryz.prog 28=some 1:=by kernel_rfl
theorem Znp:Ws Tryz.prog 28=some false:=by kernel_rfl
theorem Znx:W5 Tryz.prog 28=false:=by kernel_rfl
theorem Znb:Yz Tryz.prog 30=some ((.agg #[(.slice none 0 0)]),1,24):=by kernel_rfl
theorem Zm2:tsz Tryz.prog 30=some 1:=by kernel_rfl
theorem Zno:Ws Tryz.prog 30=some true:=by kernel_rfl
theorem Zm1:tsz Tryz.prog 34=some 1:=by kernel_rfl
theorem Znn:Ws Tryz.prog 34=some false:=by kernel_rfl
theorem Znw:W5 Tryz.prog 34=false:=by kernel_rfl
theorem Zm0:tsz Tryz.prog 35=some 1:=by kernel_rfl
theorem Znm:Ws Tryz.prog 35=some false:=by kernel_rfl
theorem Znv:W5 Tryz.prog 35=false:=by kernel_rfl
theorem Zna:Yz Tryz.prog 37=some ((.agg #[(.slice none 0 0)]),1,24):=by kernel_rfl
theorem ZmZ:tsz Tryz.prog 37=some 1:=by kernel_rfl
theorem Znl:Ws Tryz.prog 37=some true:=by kernel_rfl
theorem ZmY:tsz Tryz.prog 67=some 1:=by kernel_rfl
theorem Znk:Ws Tryz.prog 67=some false:=by kernel_rfl
theorem ZmX:tsz Tryz.prog 68=some 1:=by kernel_rfl
theorem Znj:Ws Tryz.prog 68=some false:=by kernel_rfl
theorem Zm9:Yz Tryz.prog 70=some ((.agg #[(.map none),(.map none)]),2,16):=by kernel_rfl
theorem ZmW:tsz Tryz.prog 70=some 2:=by kernel_rfl
theorem Zni:Ws Tryz.prog 70=some true:=by kernel_rfl
theorem Znu:W5 Tryz.prog 73=false:=by kernel_rfl
theorem Zm8:Yz Tryz.prog 77=some ((.agg #[(.int .i64 0),(.string ⟨#[]⟩),(.int .i64 0),(.int .i64 0)]),4,40):=by kernel_rfl
theorem ZmV:tsz Tryz.prog 77=some 4:=by kernel_rfl
theorem Znh:Ws Tryz.prog 77=some true:=by kernel_rfl
theorem Znt:W5 Tryz.prog 80=false:=by kernel_rfl
theorem Zm7:Yz Tryz.prog 83=some ((.agg #[(.string ⟨#[]⟩),(.bool false),(.bool false)]),3,24):=by kernel_rfl
theorem ZmU:tsz Tryz.prog 83=some 3:=by kernel_rfl
theorem Zng:Ws Tryz.prog 83=some true:=by kernel_rfl
theorem ZmT:tsz Tryz.prog 84=some 1:=by kernel_rfl
theorem Znf:Ws Tryz.prog 84=some false:=by kernel_rfl
theorem Zns:W5 Tryz.prog 84=false:=by kernel_rfl
theorem Zm6:Yz Tryz.prog 88=some ((.agg #[(.int .i64 0),(.string ⟨#[]⟩),(.string ⟨#[]⟩)]),3,40):=by kernel_rfl
theorem ZmS:tsz Tryz.prog 88=some 3:=by kernel_rfl
theorem Zne:Ws Tryz.prog 88=some true:=by kernel_rfl
theorem Zm5:Yz Tryz.prog 92=some (.nilIface,1,16):=by kernel_rfl
theorem ZmR:tsz Tryz.prog 92=some 1:=by kernel_rfl
theorem Znd:Ws Tryz.prog 92=some false:=by kernel_rfl
theorem Zm4:Yz Tryz.prog 94=some ((.pointer none),1,8):=by kernel_rfl
theorem ZmQ:tsz Tryz.prog 94=some 1:=by kernel_rfl
theorem Znc:Ws Tryz.prog 94=some false:=by kernel_rfl
theorem Zmh:tsz Tryz.prog 104=some 1:=by kernel_rfl
theorem ZmA:Ws Tryz.prog 104=some false:=by kernel_rfl
theorem ZmI:W5 Tryz.prog 104=false:=by kernel_rfl
theorem Zmt:Yz Tryz.prog 106=some ((.agg #[(.map none),(.map none),(.slice none 0 0),(.slice none 0 0)]),4,64):=by kernel_rfl
theorem Zmg:tsz Tryz.prog 106=some 4:=by kernel_rfl
theorem Zmf:tsz Tryz.prog 109=some 1:=by kernel_rfl
theorem Zmz:Ws Tryz.prog 109=some false:=by kernel_rfl
theorem ZmF:J1 Tryz.prog 109=true:=by kernel_rfl
theorem Zms:Yz Tryz.prog 111=some ((.agg #[(.pointer none),(.slice none 0 0)]),2,32):=by kernel_rfl
theorem Zmr:Yz Tryz.prog 113=some ((.agg #[(.string ⟨#[]⟩),(.bool false),(.bool false)]),3,24):=by kernel_rfl
theorem Zme:tsz Tryz.prog 113=some 3:=by kernel_rfl
theorem Zmy:Ws Tryz.prog 113=some true:=by kernel_rfl
theorem ZmH:W5 Tryz.prog 128=false:=by kernel_rfl
theorem Zmq:Yz Tryz.prog 133=some ((.agg #[(.string ⟨#[]⟩),(.int .i64 0),(.int .i64 0),(.int .i64 0)]),4,40):=by kernel_rfl
theorem Zmd:tsz Tryz.prog 133=some 4:=by kernel_rfl
theorem Zmx:Ws Tryz.prog 133=some true:=by kernel_rfl
theorem Zmp:Yz Tryz.prog 138=some ((.agg #[(.slice none 0 0),(.int .i64 0)]),2,32):=by kernel_rfl
theorem Zmc:tsz Tryz.prog 138=some 2:=by kernel_rfl
theorem Zmo:Yz Tryz.prog 151=some ((.agg #[(.string ⟨#[]⟩),(.bool false)]),2,24):=by kernel_rfl
theorem Zmb:tsz Tryz.prog 151=some 2:=by kernel_rfl
theorem Zmw:Ws Tryz.prog 151=some true:=by kernel_rfl
theorem Zma:tsz Tryz.prog 158=some 1:=by kernel_rfl
theorem Zmv:Ws Tryz.prog 158=some false:=by kernel_rfl
theorem Zl9:tsz Tryz.prog 159=some 1:=by kernel_rfl
theorem Zmu:Ws Tryz.prog 159=some false:=by kernel_rfl
theorem Zmn:Yz Tryz.prog 161=some ((.agg #[(.map none),(.map none),(.slice none 0 0),(.int .i64 0),(.map none),(.map none)]),6,64):=by kernel_rfl
theorem Zl8:tsz Tryz.prog 161=some 6:=by kernel_rfl
theorem Zmm:Yz Tryz.prog 164=some ((.agg #[(.string ⟨#[]⟩),(.int .i64 0),(.int .i64 0),(.int .i64 0),.nilIface,.nilIface,(.int .i64 0)]),7,80):=by kernel_rfl
theorem Zl7:tsz Tryz.prog 164=some 7:=by kernel_rfl
theorem ZmM:QC Tryz.prog 164=some false:=by kernel_rfl
theorem ZeY:Xz Tryz.prog 164 "loop.example/s0059/impl.level"=some 182:=by kernel_rfl
theorem Zml:Yz Tryz.prog 168=some ((.agg #[]),0,0):=by kernel_rfl
theorem ZmL:QC Tryz.prog 168=some false:=by kernel_rfl
theorem ZmG:W5 Tryz.prog 171=false:=by kernel_rfl
theorem Zmk:Yz Tryz.prog 193=some ((.agg #[(.int .i64 0),(.string ⟨#[]⟩),(.int .i64 0),(.int .i64 0)]),4,40):=by kernel_rfl
theorem Zl6:tsz Tryz.prog 193=some 4:=by kernel_rfl
theorem ZmK:QC Tryz.prog 193=some false:=by kernel_rfl
theorem ZeX:Xz Tryz.prog 193 "loop.example/s0059/impl.level"=some 185:=by kernel_rfl
theorem Zmj:Yz Tryz.prog 212=some ((.agg #[.nilIface,(.int .i64 0)]),2,24):=by kernel_rfl
theorem Zl5:tsz Tryz.prog 212=some 2:=by kernel_rfl
theorem ZmJ:QC Tryz.prog 212=some false:=by kernel_rfl
theorem Ziw:0<Tryz.prog.depth:=of_decide_eq_true (by kernel_rfl)
attribute [go_sem] ti3 ts3 ta3 ti4 ts4 ta4 ti5 ts5 ta5 ti9 ts9 ta9 im9 Zm3 Znp Znx Znb Zm2 Zno Zm1 Znn Znw Zm0 Znm Znv Zna ZmZ Znl ZmY Znk ZmX Znj Zm9 ZmW Zni Znu Zm8 ZmV Znh Znt Zm7 ZmU Zng ZmT Znf Zns Zm6 ZmS Zne Zm5 ZmR Znd Zm4 ZmQ Znc Zmh ZmA ZmI Zmt Zmg Zmf Zmz ZmF Zms Zmr Zme Zmy ZmH Zmq Zmd Zmx Zmp Zmc Zmo Zmb Zmw Zma Zmv Zl9 Zmu Zmn Zl8 Zmm Zl7 ZmM ZeY Zml ZmL ZmG Zmk Zl6 ZmK ZeX Zmj Zl5 ZmJ Ziw
end Go.Proofs.YtjdmmhcogmepaaaGreatDoor.V
