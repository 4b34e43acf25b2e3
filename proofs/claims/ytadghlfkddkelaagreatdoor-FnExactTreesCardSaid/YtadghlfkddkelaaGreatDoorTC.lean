import Derived.Test.YtadghlfkddkelaaGreatDoorTT
import Derived.Test.YtadghlfkddkelaaGreatDoorTB
import Derived.Test.YtadghlfkddkelaaGreatDoorShelf
import Derived.DeepKeys5
import Derived.Lib.Split
import Derived.Lib.Atoi
import Derived.Maps.RangeRun
import Derived.Shelf.Strings.SlTrimAscii
import Derived.Shelf.Strings.SplitShaped
import Derived.Lib.AtoiErrMem
set_option linter.unusedVariables false
set_option linter.unusedSimpArgs false
set_option linter.constructorNameAsVariable false
namespace Go.Proofs.YtadghlfkddkelaaGreatDoor.V
open Go.RowKit
theorem ZjE {P:Program} {f:FuncId} {vs:List Value} {v:Value} (hf:ZbM P f) (h:∀ w,Calls P f vs.toArray w fun e w'=>e=.returned v∧w'=w):VFun P f (vs.map .lit) (fun av obs=>obs=[]∧av=.lit v):=by
 refine ⟨hf,fun w us hl hu=>?_⟩
 have e:us=vs:=by
  have hl':vs.length=us.length:=by simpa using hl.1
  apply List.ext_getElem hl'.symm
  intro j h1 h2
  have:=hu j (.lit vs[j]) us[j] (by simp [h2]) (List.getElem?_eq_getElem h1)
  generalize us[j]=x at this
  generalize vs[j]=y at this
  cases this
  rfl
 subst e
 refine (h w).mono fun e w' ⟨he,hw⟩=>?_
 subst he;subst hw
 exact ⟨v,rfl,World.grownBy.refl _ _,fun _=>undef,.lit v,[],⟨rfl,rfl⟩,rfl,fun ob h=>by simp at h,⟨fun k ob h=>by simp at h,fun k ob h=>by simp at h,fun k h=>by simp at h,fun k k' ob ob' h=>by simp at h⟩,.lit v⟩
theorem wrap_i64 {n:Int} (h : -9223372036854775808≤n∧n≤9223372036854775807):IntKind.i64.wrap n=n:=by
 rw [IntKind.wrap_i64];omega
theorem Zj {i:Nat} (h:i<9223372036854775807):IntKind.i64.wrap ((i:Int)+1)=((i+1:Nat):Int):=by
 rw [wrap_i64 (by omega)];omega
def signBytes:ByteArray:={ data:=#[43,45,42,47,60,62,61,33,38,124,94,126,63,58,64,37,36,46] }
def UZ (c:Int):Bool:=(List.range 18).any fun i=>Ze signBytes i=c
theorem Zj4:signBytes.size=18:=rfl
theorem ZgG {c:Int} (h:∀ j,j<18→¬Ze signBytes j=c):UZ c=false:=by simpa [UZ] using h
theorem ZiL {c:Int} {i:Nat} (h:i<18) (e:Ze signBytes i=c):UZ c=true:=by simpa [UZ] using ⟨i,h,e⟩
theorem Zbt (c:Int):VFun Tryz.prog 127 [.lit (.int .u8 c)] (fun av obs=>obs=[]∧av=.lit (.bool (UZ c))):=by
 refine Zd Tryz.func127 (by kernel_rfl) rfl (by simp [Tryz.ntmps127]) ?_;simp only [Tryz.ntmps127,Tryz.results127];simp [go_sem]
 refine ZN (fun i:Nat=>i≤18∧∀ j,j<i→¬Ze signBytes j=c) (fun i=>18-i) (fun i=>.of [(0,.lit (.int .u8 c)),(2,.lit (.bool false)),(3,.lit (.string signBytes)),(4,.lit (.int .i64 i))] []) ⟨0,?_,?_⟩ (fun i hi=>?_)
 ·simp
 ·simp [go_sem,signBytes]
 ·simp [go_sem,Zj4]
  refine ⟨fun h=>⟨h,fun e=>ZiL (by omega) e,fun e=>⟨i+1,⟨⟨by omega,fun j hj=>?_⟩,by omega,Zj (by omega)⟩⟩⟩,fun h=>ZgG fun j hj=>hi.2 j (by omega)⟩
  rcases Nat.lt_succ_iff_lt_or_eq.mp hj with hj|rfl
  ·exact hi.2 j hj
  ·exact e
theorem Hi (z:ByteArray) (i:Nat):0≤Ze z i∧Ze z i<256:=by
 unfold Ze
 split
 ·rename_i h
  have:=(z[i]'h).toNat_lt
  omega
 ·omega
theorem Zlv:(List.range 256).all (fun n=>decide (0≤Lib.indexByte signBytes.data.toList n.toUInt8)==UZ n)=true:=by kernel_rfl
theorem ZiM (c:Int) (h:0≤c∧c<256):decide (0≤Lib.indexByte signBytes.data.toList c.toNat.toUInt8)=UZ c:=by
 have:=List.all_eq_true.mp Zlv c.toNat (List.mem_range.mpr (by omega))
 have e:((c.toNat:Nat):Int)=c:=by omega
 rw [beq_iff_eq,e] at this
 exact this
theorem Zk3 (c:Int) (h:0≤c∧c<256):VFun Tryz.prog 126 [.lit (.int .u8 c)] (fun av obs=>obs=[]∧av=.lit (.bool (UZ c))):=by
 refine Zd Tryz.func126 (by kernel_rfl) rfl (by simp [Tryz.ntmps126]) ?_;simp only [Tryz.ntmps126,Tryz.results126];simp [go_sem]
 refine Zc (ZjE (vs:=[.string signBytes,.int .u8 c]) ⟨_,Tryz.func159,rfl,rfl⟩ (fun w=>Tryz.strings_IndexByte signBytes c w)) ?_ ?_
 ·simp [go_sem,signBytes]
 ·simp [go_sem]
  exact ZiM c h
def Zci (z:ByteArray):Bool:=(List.range z.size).all fun i=>UZ (Ze z i)
def Hs (z:ByteArray):Bool:=Zci z&&decide (1≤z.size)&&decide (z.size≤16)
theorem Gd {z:ByteArray} {i:Nat} (h:i<z.size) (e:UZ (Ze z i)=false):Zci z=false:=by
 simp [Zci];exact ⟨i,h,e⟩
theorem ZaA {z:ByteArray} (h:∀ i,i<z.size→UZ (Ze z i)=true):Zci z=true:=by simpa [Zci] using h
theorem Zi8 (z:ByteArray) (hz:z.size≤maxLen):VFun Tryz.prog 88 [.lit (.string z)] (fun av obs=>obs=[]∧av=.lit (.bool (Hs z))):=by
 refine Zd Tryz.func88 (by kernel_rfl) rfl (by simp [Tryz.ntmps88]) ?_;simp only [Tryz.ntmps88,Tryz.results88];simp [go_sem]
 simp only [maxLen] at hz
 refine ZN (fun i:Nat=>i≤z.size∧∀ j,j<i→UZ (Ze z j)=true) (fun i=>z.size-i) (fun i=>.of [(0,.lit (.string z)),(2,.lit (.bool false)),(3,.lit (.int .i64 i))] []) ⟨0,?_,?_⟩ (fun i hi=>?_)
 ·simp
 ·simp [go_sem]
 ·simp [go_sem]
  refine ⟨fun h=>⟨h,Zc (Zbt (Ze z i)) ?_ ?_⟩,fun h=>?_⟩
  ·simp [go_sem]
  ·simp [go_sem]
   refine ⟨fun e=>?_,fun e=>⟨i+1,⟨⟨by omega,fun j hj=>?_⟩,by omega,Zj (by omega)⟩⟩⟩
   ·simp [Hs,Gd h e]
   ·rcases Nat.lt_succ_iff_lt_or_eq.mp hj with hj|rfl
    ·exact hi.2 j hj
    ·exact e
  ·have e:=ZaA (z:=z) fun j hj=>hi.2 j (by omega)
   have h2:((z.size:Int)≤16)↔z.size≤16:=by omega
   simp [Hs,e,h2]
   refine ⟨fun h=>?_,fun h=>by omega⟩
   have h1:1≤z.size:=by omega
   simp [h1]
theorem ZiX (z:ByteArray) (hz:z.size≤maxLen):VFun Tryz.prog 86 [.lit (.string z)] (fun av obs=>obs=[]∧av=.lit (.bool (Hs z))):=by
 refine Zd Tryz.func86 (by kernel_rfl) rfl (by simp [Tryz.ntmps86]) ?_;simp only [Tryz.ntmps86,Tryz.results86];simp [go_sem]
 simp only [maxLen] at hz
 have h2:(16<(z.size:Int))↔16<z.size:=by omega
 have h1:((z.size:Int)<1)↔z.size<1:=by omega
 simp only [h1,h2]
 refine ⟨fun h3=>⟨fun h4=>?_,fun h4=>?_⟩,fun h3=>?_⟩
 ·simp [Hs,h4]
 ·refine ZN (fun i:Nat=>i≤z.size∧∀ j,j<i→UZ (Ze z j)=true) (fun i=>z.size-i) (fun i=>.of [(0,.lit (.string z)),(2,.lit (.bool false)),(13,.lit (.int .i64 z.size)),(14,.lit (.int .i64 i))] []) ⟨0,?_,?_⟩ (fun i hi=>?_)
  ·simp
  ·simp [go_sem]
  ·simp [go_sem]
   refine ⟨fun h=>⟨h,Zc (Zk3 (Ze z i) (Hi z i)) ?_ ?_⟩,fun h=>?_⟩
   ·simp [go_sem]
   ·simp [go_sem]
    refine ⟨fun e=>?_,fun e=>⟨i+1,⟨⟨by omega,fun j hj=>?_⟩,by omega,Zj (by omega)⟩⟩⟩
    ·simp [Hs,Gd h e]
    ·rcases Nat.lt_succ_iff_lt_or_eq.mp hj with hj|rfl
     ·exact hi.2 j hj
     ·exact e
   ·have e:=ZaA (z:=z) fun j hj=>hi.2 j (by omega)
    simp [Hs,e]
    omega
 ·simp [Hs]
  omega
structure POp where
 text:ByteArray
 kind:Int
 level:Int
 side:Int
def POp.cells (o:POp):List AV:=[.lit (.string o.text),.lit (.int .i64 o.kind),.lit (.int .i64 o.level),.lit (.int .i64 o.side)]
def POp.wf (o:POp):Prop:=o.text.size≤maxLen
def Xx (o:POp):Bool:=Hs o.text&&decide (1≤o.level∧o.level≤1000∧((o.kind=2∧1≤o.side∧o.side≤3)∨((o.kind=1∨o.kind=3)∧o.side=0)))
theorem X3 (a b:Int):(a==b)=decide (a=b):=by
 rw [Bool.eq_iff_iff];simp
theorem ZfA (o:POp) (ho:o.wf):VFun Tryz.prog 64 [.agg o.cells] (fun av obs=>obs=[]∧av=.lit (.bool (Xx o))):=by
 obtain ⟨z,kind,level,side⟩:=o
 simp only [POp.cells]
 refine Zd Tryz.func64 (by kernel_rfl) rfl (by simp [Tryz.ntmps64]) ?_;simp only [Tryz.ntmps64,Tryz.results64];simp [go_sem]
 refine Zc (Zi8 z ho) ?_ ?_
 ·simp [go_sem]
 ·simp (maxSteps:=1000000) [go_sem]
  cases hs:Hs z
  ·simp [Xx,hs]
  ·simp only [Xx,hs,X3,Bool.true_and,decide_eq_decide,decide_eq_true_eq,decide_eq_false_iff_not,true_implies,reduceCtorEq,false_implies,and_true,true_and]
   omega
theorem ZkU (o:POp) (ho:o.wf):VFun Tryz.prog 58 [.agg o.cells] (fun av obs=>obs=[]∧av=.lit (.bool (Xx o))):=by
 obtain ⟨z,kind,level,side⟩:=o
 simp only [POp.cells]
 refine Zd Tryz.func58 (by kernel_rfl) rfl (by simp [Tryz.ntmps58]) ?_;simp only [Tryz.ntmps58,Tryz.results58];simp [go_sem]
 refine Zc (ZiX z ho) ?_ ?_
 ·simp [go_sem]
 ·simp (maxSteps:=1000000) [go_sem]
  cases hs:Hs z
  ·simp [Xx,hs]
  ·simp only [Xx,hs,X3,Bool.true_and,decide_eq_decide,decide_eq_true_eq,decide_eq_false_iff_not,true_implies,reduceCtorEq,false_implies,and_true,true_and]
   omega
def Q6 (o:POp) (second:Bool):Int:=if Xx o=false∨(second=true∧o.kind≠2) then 0 else if o.kind=2∧(o.side=3∨(decide (o.side=1)=second)) then o.level+1 else o.level
theorem Up {o:POp} (h:Xx o=true):1≤o.level∧o.level≤1000:=by
 simp [Xx] at h;omega
theorem Zk1 (o:POp) (ho:o.wf) (b:Bool):VFun Tryz.prog 136 [.agg o.cells,.lit (.bool b)] (fun av obs=>obs=[]∧av=.lit (.int .i64 (Q6 o b))):=by
 have hc:=ZfA o ho
 have hl:=@Up o
 obtain ⟨z,kind,level,side⟩:=o
 simp only [POp.cells] at hc ⊢
 refine Zd Tryz.func136 (by kernel_rfl) rfl (by simp [Tryz.ntmps136]) ?_;simp only [Tryz.ntmps136,Tryz.results136];simp [go_sem]
 refine Zc hc ?_ ?_
 ·simp [go_sem]
 ·simp (maxSteps:=1000000) [go_sem]
  have hw:Xx ⟨z,kind,level,side⟩=true→IntKind.i64.wrap (level+1)=level+1:=fun h=>wrap_i64 (by have:=hl h;simp only at this;omega)
  clear hc hl ho
  simp only [Q6,X3]
  generalize Xx ⟨z,kind,level,side⟩=q at hw ⊢
  cases q
  ·simp
  ·simp only [hw rfl]
   by_cases h1:kind=2<;>by_cases h2:side=3<;>by_cases h3:side=1<;>cases b<;>simp [h1,h2,h3]
theorem HY (o:POp) (ho:o.wf) (b:Bool):VFun Tryz.prog 141 [.agg o.cells,.lit (.bool b)] (fun av obs=>obs=[]∧av=.lit (.int .i64 (Q6 o b))):=by
 have hc:=ZkU o ho
 have hl:=@Up o
 obtain ⟨z,kind,level,side⟩:=o
 simp only [POp.cells] at hc ⊢
 refine Zd Tryz.func141 (by kernel_rfl) rfl (by simp [Tryz.ntmps141]) ?_;simp only [Tryz.ntmps141,Tryz.results141];simp [go_sem]
 refine Zc hc ?_ ?_
 ·simp [go_sem]
 ·simp (maxSteps:=1000000) [go_sem]
  have hw:Xx ⟨z,kind,level,side⟩=true→IntKind.i64.wrap (level+1)=level+1:=fun h=>wrap_i64 (by have:=hl h;simp only at this;omega)
  clear hc hl ho
  simp only [Q6,X3]
  generalize Xx ⟨z,kind,level,side⟩=q at hw ⊢
  cases q
  ·simp
  ·simp only [hw rfl]
   by_cases h1:kind=2<;>by_cases h2:side=3<;>by_cases h3:side=1<;>cases b<;>simp [h1,h2,h3]
theorem Zdx:laidOutB Tryz.prog=true:=by kernel_rfl
theorem ZgI:∀ t e,t<Tryz.prog.types.size→Tryz.prog.underlying t=some (.slice e)→0<Tryz.prog.cellsOf e:=slices_full_of Tryz.prog (by kernel_rfl)
theorem own:ownKnob Tryz.prog.godebug=none:=by kernel_rfl
theorem ZlY {α:Type} {p:α→Bool} {l:List α} (h:l.all p=true):∀ x,x∈l→p x=true:=List.all_eq_true.mp h
structure PTok where
 kind:Int
 gap:ByteArray
 text:ByteArray
 deriving Inhabited
def PTok.cells (o:PTok):List AV:=[.lit (.int .i64 o.kind),.lit (.string o.gap),.lit (.string o.text)]
def Zk (l:List PTok) (i:Nat):List AV:=(l.getD i default).cells
theorem Zm (l:List PTok) (i:Nat) (c:AV) (h:c∈Zk l i):Closed c:=by
 simp [Zk,PTok.cells] at h
 rcases h with rfl|rfl|rfl<;>exact .lit _
theorem ZmB (l:List PTok) (i:Nat):(Zk l i).all YL=true:=rfl
def V7 (o:PTok):Nat:=o.gap.size+o.text.size
def Xn (l:List PTok):Nat:=(l.map V7).sum
theorem H9 (l:List PTok) (i:Nat) (h:i<l.length):Xn (l.take (i+1))=Xn (l.take i)+V7 (l.getD i default):=by
 unfold Xn
 rw [List.take_add_one,List.getElem?_eq_getElem h,List.map_append,List.sum_append_nat,List.getD_eq_getElem?_getD,List.getElem?_eq_getElem h]
 simp only [Option.toList_some,List.map_cons,List.map_nil,List.sum_cons,List.sum_nil,Option.getD_some,Nat.add_zero]
theorem Zg3 (a b:ByteArray) (i:Nat) (h:i<a.size+b.size):Ze (a++b) i=if i<a.size then Ze a i else Ze b (i-a.size):=by
 have hs:i<(a++b).size:=by rw [ByteArray.size_append];exact h
 unfold Ze
 rw [dif_pos hs]
 by_cases h1:i<a.size
 ·rw [if_pos h1,dif_pos h1,ByteArray.getElem_append_left h1]
 ·rw [if_neg h1,dif_pos (by omega),ByteArray.getElem_append_right (by omega)]
theorem Za3 (a b:ByteArray) (i:Nat) (h:i<a.size+b.size):ZH a.size (Yd a) (Yd b) i=Yd (a++b) i:=by
 unfold ZH Yd
 rw [Zg3 a b i h]
 by_cases h1:i<a.size<;>simp [h1]
theorem Zma (z:ByteArray) (i:Nat):(Yd z i).all Xg=true:=rfl
theorem Zg2 (z:ByteArray) (i:Nat) (c:AV) (h:c∈Yd z i):Closed c:=by
 simp [Yd] at h
 subst h
 exact .lit _
def Ky (l:List PTok):ByteArray:=l.foldl (fun b o=>b++o.gap++o.text) ByteArray.empty
theorem Zik (l:List PTok) (i:Nat) (h:i<l.length):Ky (l.take (i+1))=Ky (l.take i)++(l.getD i default).gap++(l.getD i default).text:=by
 unfold Ky
 rw [List.take_add_one,List.getElem?_eq_getElem h,List.foldl_append,List.getD_eq_getElem?_getD,List.getElem?_eq_getElem h]
 rfl
theorem ZaE (l:List PTok):∀ b:ByteArray,(l.foldl (fun b o=>b++o.gap++o.text) b).size=b.size+Xn l:=by
 induction l with
 |nil=>intro b;simp [Xn]
 |cons o l ih=>
  intro b
  simp only [List.foldl_cons]
  rw [ih]
  simp only [ByteArray.size_append,Xn,List.map_cons,List.sum_cons,V7]
  omega
theorem Hx (l:List PTok):(Ky l).size=Xn l:=by
 unfold Ky
 rw [ZaE]
 simp
theorem Ul (l:List PTok) (i:Nat):Xn (l.take i)≤Xn l:=by
 unfold Xn
 rw [List.map_take]
 exact Gb _ _
theorem ZdP (l:List PTok) (hl:l.length+Xn l≤1048576):VFun Tryz.prog 98 [.sl 3 l.length (Zk l)] (fun av obs=>obs=[]∧av=.lit (.string (Ky l))):=by
 refine Zd Tryz.func98 (by kernel_rfl) rfl (by simp [Tryz.ntmps98]) ?_;simp only [Tryz.ntmps98,Tryz.results98];simp [go_sem]
 refine ZjM (fun i:Nat=>i≤l.length) (fun i=>l.length-i) (fun i=>.of [(0,.sl 3 l.length (Zk l)),(3,.own 0),(4,.lit (.int .i64 i))] [some ⟨5,1,(Ky (l.take i)).size,Yd (Ky (l.take i))⟩]) (fun _=>4) ⟨0,by omega,?_⟩ (fun i hi=>?_)
 ·simp [go_sem,Ky]
  exact fun i c _ h=>Zm l i c h
 ·simp [go_sem]
  refine ⟨by omega,fun h=>?_,fun h=>?_⟩
  ·have hs:=H9 l i h
   rcases ho:l.getD i default with ⟨k,g,z⟩
   rw [ho] at hs
   have e:Zk l i=[.lit (.int .i64 k),.lit (.string g),.lit (.string z)]:=by unfold Zk;rw [ho];rfl
   have hr:=Zik l i h
   have hz:=Hx (l.take i)
   have hz2:=Ul l (i+1)
   rw [ho] at hr
   simp only at hr
   simp only [V7] at hs
   simp [go_sem,e,-List.all_eq_true,Zma]
   refine ⟨h,by omega,by omega,by omega,h,by omega,by omega,by omega,i+1,by omega,by omega,?_⟩
   refine ZlM (K:=4) ?_ ?_ ?_
   ·simp [go_sem]
    exact ⟨fun i c _ h=>Zm l i c h,Zj (by omega)⟩
   ·simp
   ·simp [go_sem,hr]
    refine fun j hj=>⟨?_,Zg2 _ _⟩
    rw [←Za3 (Ky (l.take i)++g) z j (by simpa using hj)]
    unfold ZH
    rw [ByteArray.size_append]
    by_cases h1:j<(Ky (l.take i)).size+g.size
    ·rw [if_pos h1,if_pos h1]
     exact Za3 _ _ _ h1
    ·rw [if_neg h1,if_neg h1]
  ·have e2:l.take i=l:=List.take_of_length_le h
   rw [e2]
   exact ⟨rfl,fun _ _=>rfl⟩
theorem HZ (a b:ByteArray):(a==b)=decide (a=b):=by
 rw [Bool.eq_iff_iff,decide_eq_true_iff]
 exact MapKept.bytes_beq a b
theorem XQ (a b:ByteArray):a.toList=b.toList↔a=b:=by
 constructor
 ·intro h
  rw [Go.ByteArray.toList_eq,Go.ByteArray.toList_eq] at h
  exact ByteArray.ext (Array.toList_inj.1 h)
 ·rintro rfl;rfl
theorem Zb {mem:List (Option Ob)} {sz n:Nat} {f:Nat→List AV} (hsz:0<sz) (h:∀ (i:Nat) c,i<n→c∈f i→Closed c):QI mem (.sl sz n f) sz n f:=
 ⟨hsz,f,by simp [ZY],fun i hi=>⟨rfl,fun c hc=>h i c hi hc⟩⟩
theorem Vz {mem:List (Option Ob)} {k sz n ty:Nat} {f:Nat→List AV} (hk:mem[k]?=some (some ⟨ty,sz,n,f⟩)) (hsz:0<sz) (h:∀ (i:Nat) c,i<n→c∈f i→Closed c):QI mem (.own k) sz n f:=
 ⟨hsz,f,by simp [ZY,hk],fun i hi=>⟨rfl,fun c hc=>h i c hi hc⟩⟩
instance:Inhabited POp:=⟨⟨⟨#[]⟩,0,0,0⟩⟩
def Za (l:List POp) (i:Nat):List AV:=(l.getD i default).cells
theorem Zo (l:List POp) (i:Nat) (c:AV) (h:c∈Za l i):Closed c:=by
 simp [Za,POp.cells] at h
 rcases h with rfl|rfl|rfl|rfl<;>exact .lit _
theorem ZhC (l:List POp) (i:Nat):(Za l i).all YL=true:=rfl
def ZfV:List AV:=[.lit (.string ⟨#[]⟩),.lit (.int .i64 0),.lit (.int .i64 0),.lit (.int .i64 0)]
def Zdk (a b:POp):Bool:=a.text==b.text&&a.kind==b.kind&&a.level==b.level&&a.side==b.side
def Zl (l:List POp) (i:Nat):POp:=l.getD i default
theorem YF (l:List POp) (i:Nat):Za l i=[.lit (.string (Zl l i).text),.lit (.int .i64 (Zl l i).kind),.lit (.int .i64 (Zl l i).level),.lit (.int .i64 (Zl l i).side)]:=rfl
def WA (o:POp):Int:=if o.kind=1 then 2 else if o.kind=3 then 1 else o.side
theorem Zbs (o:POp):VFun Tryz.prog 89 [.agg o.cells] (fun av obs=>obs=[]∧av=.lit (.int .i64 (WA o))):=by
 obtain ⟨z,kind,level,side⟩:=o
 simp only [POp.cells]
 refine Zd Tryz.func89 (by kernel_rfl) rfl (by simp [Tryz.ntmps89]) ?_;simp only [Tryz.ntmps89,Tryz.results89];simp [go_sem]
 simp only [WA,X3,decide_eq_true_eq,decide_eq_false_iff_not]
 by_cases h1:kind=1<;>by_cases h2:kind=3<;>simp [h1,h2]
theorem Zbm (o:POp):VFun Tryz.prog 60 [.agg o.cells] (fun av obs=>obs=[]∧av=.lit (.int .i64 (WA o))):=by
 obtain ⟨z,kind,level,side⟩:=o
 simp only [POp.cells]
 refine Zd Tryz.func60 (by kernel_rfl) rfl (by simp [Tryz.ntmps60]) ?_;simp only [Tryz.ntmps60,Tryz.results60];simp [go_sem]
 simp only [WA,X3,decide_eq_true_eq,decide_eq_false_iff_not]
 by_cases h1:kind=1<;>by_cases h2:kind=3<;>simp [h1,h2]
theorem HS (o:POp):VFun Tryz.prog 59 [.agg o.cells] (fun av obs=>obs=[]∧av=.agg [.lit (.string o.text),.lit (.bool (o.kind==1))]):=by
 obtain ⟨z,kind,level,side⟩:=o
 simp only [POp.cells]
 refine Zd Tryz.func59 (by kernel_rfl) rfl (by simp [Tryz.ntmps59]) ?_;simp only [Tryz.ntmps59,Tryz.results59];simp [go_sem]
def XP (a b:POp) (code:Int):Bool:=if code=3 then decide (a.text=b.text)&&decide ((a.kind==1)=(b.kind==1)) else decide (a.level=b.level)&&decide (WA a≠WA b)
theorem Zi9 (a b:POp) (code:Int):VFun Tryz.prog 65 [.agg a.cells,.agg b.cells,.lit (.int .i64 code)] (fun av obs=>obs=[]∧av=.lit (.bool (XP a b code))):=by
 have ca:=Zbs a
 have cb:=Zbs b
 obtain ⟨z,k,l,s⟩:=a
 obtain ⟨z',k',l',s'⟩:=b
 simp only [POp.cells] at ca cb ⊢
 refine Zd Tryz.func65 (by kernel_rfl) rfl (by simp [Tryz.ntmps65]) ?_;simp only [Tryz.ntmps65,Tryz.results65];simp [go_sem]
 simp only [XQ]
 refine ⟨fun h=>⟨fun h1=>?_,fun h1=>?_⟩,fun h=>?_⟩
 ·subst h1
  simp only [XP,if_pos h,decide_true,Bool.true_and]
  generalize (k==1)=x
  generalize (k'==1)=y
  cases x<;>cases y<;>rfl
 ·simp [XP,h,h1]
 ·by_cases hl:l=l'
  ·subst hl
   refine Zn [] (.q 0 <| .q 1 <| .q 2 <| .q 3 <| .q 4 <| .q 5 <| .q 6 <| .q 8 <| .or 7 (.or 9 (.q 10 <| .q 11 <| .q 12 <| .done) (.nil)) (.nil)) (by kernel_rfl) ?_
   simp [go_sem]
   refine Zv ca ?_ ?_
   ·simp [go_sem]
   ·simp [go_sem]
    refine Zv cb ?_ ?_
    ·simp [go_sem]
    ·simp [go_sem,XP,h]
     simp only [X3,bne,Bool.not_eq_true',decide_eq_false_iff_not,decide_not]
  ·refine Zn [] (.q 0 <| .q 1 <| .q 2 <| .q 3 <| .q 4 <| .q 5 <| .q 6 <| .q 8 <| .or 7 (.or 9 (.q 10 <| .q 11 <| .q 12 <| .done) (.nil)) (.nil)) (by kernel_rfl) ?_
   have e:(l==l')=false:=by simp [hl]
   simp [go_sem,e]
   simp [XP,h,hl]
def YN (l:List POp) (code:Int):Bool:=(List.range l.length).any fun i=>(List.range i).any fun j=>XP (Zl l i) (Zl l j) code
theorem XC (l:List POp) (code:Int):YN l code=true↔∃ i,i<l.length∧∃ j,j<i∧XP (Zl l i) (Zl l j) code=true:=by
 simp [YN]
def Wc (l:List POp):Bool:=(List.range l.length).all fun i=>Xx (Zl l i)
def XM (l:List POp):Int:=if 500<l.length then 1 else if Wc l=false then 2 else if YN l 3=true then 3 else if YN l 4=true then 4 else 0
def XD (l:List POp):Prop:=∀ i,i<l.length→(Zl l i).wf
theorem VG (l:List POp) (hl:l.length≤9223372036854775807) (hw:XD l):VFun Tryz.prog 35 [.agg [.sl 4 l.length (Za l)]] (fun av obs=>obs=[]∧av=.lit (.int .i64 (XM l))):=by
 refine Zd Tryz.func35 (by kernel_rfl) rfl (by simp [Tryz.ntmps35]) ?_;simp only [Tryz.ntmps35,Tryz.results35];simp [go_sem]
 refine ⟨by omega,fun h1=>?_,fun h1=>?_⟩
 ·simp [XM];omega
 ·refine ZN (fun i:Nat=>i≤l.length∧∀ j,j<i→Xx (Zl l j)=true) (fun i=>l.length-i) (fun i=>.of [(1,.ptr 0 1 0 0),(3,.lit (.int .i64 l.length)),(4,.lit (.int .i64 i))] [some ⟨55,1,1,fun _=>[.sl 4 l.length (Za l)]⟩]) ⟨0,⟨by omega,by simp⟩,?_⟩ (fun i hi=>?_)
  ·simp [go_sem]
   exact fun i c _ h=>Zo l i c h
  ·simp [go_sem,YF]
   have cl:∀ (i:Nat) (c:AV),i<l.length→c∈Za l i→Closed c:=fun i c _ h=>Zo l i c h
   refine ⟨fun h=>⟨h,Zc (ZfA (Zl l i) (hw i h)) ?_ ?_⟩,fun h=>?_⟩
   ·simp [go_sem,POp.cells]
   ·simp [go_sem]
    refine ⟨fun e=>?_,fun e=>⟨i+1,⟨by omega,fun j hj=>?_⟩,by omega,Zj (by omega),cl⟩⟩
    ·have:Wc l=false:=by
      simp only [Wc,List.all_eq_false,List.mem_range]
      exact ⟨i,h,by rw [e];simp⟩
     simp only [XM,this,if_neg (show ¬500<l.length by omega),if_true]
    ·rcases Nat.lt_succ_iff_lt_or_eq.mp hj with hj|rfl
     ·exact hi.2 j hj
     ·exact e
   ·have hok:Wc l=true:=by
     simp only [Wc,List.all_eq_true,List.mem_range]
     exact fun j hj=>hi.2 j (by omega)
    clear hi h
    refine ZN (fun c:Nat=>c≤2∧∀ q:Nat,q<c→YN l (3+q)=false) (fun c=>2-c) (fun c=>.of [(1,.ptr 0 1 0 0),(3,.lit (.int .i64 l.length)),(5,.lit (.int .i64 (3+c)))] [some ⟨55,1,1,fun _=>[.sl 4 l.length (Za l)]⟩]) ⟨0,⟨by omega,by simp⟩,?_⟩ (fun c hc=>?_)
    ·simp [go_sem]
     exact cl
    ·simp [go_sem]
     refine ⟨fun h=>?_,fun h=>?_⟩
     ·refine ZN (fun i:Nat=>i≤l.length∧∀ i',i'<i→∀ j,j<i'→XP (Zl l i') (Zl l j) (3+c)=false) (fun i=>l.length-i) (fun i=>.of [(1,.ptr 0 1 0 0),(3,.lit (.int .i64 l.length)),(5,.lit (.int .i64 (3+c))),(6,.lit (.int .i64 i))] [some ⟨55,1,1,fun _=>[.sl 4 l.length (Za l)]⟩]) ⟨0,⟨by omega,by simp⟩,?_⟩ (fun i hi=>?_)
      ·simp [go_sem]
       exact cl
      ·simp [go_sem]
       refine ⟨fun h2=>?_,fun h2=>?_⟩
       ·refine ZN (fun j:Nat=>j≤i∧∀ j',j'<j→XP (Zl l i) (Zl l j') (3+c)=false) (fun j=>i-j) (fun j=>.of [(1,.ptr 0 1 0 0),(3,.lit (.int .i64 l.length)),(5,.lit (.int .i64 (3+c))),(6,.lit (.int .i64 i)),(7,.lit (.int .i64 j))] [some ⟨55,1,1,fun _=>[.sl 4 l.length (Za l)]⟩]) ⟨0,⟨by omega,by simp⟩,?_⟩ (fun j hj=>?_)
        ·simp [go_sem]
         exact cl
        ·simp [go_sem]
         refine ⟨fun h3=>?_,fun h3=>?_⟩
         ·refine Zn [] (.q 0 <| .q 1 <| .q 2 <| .q 3 <| .q 4 <| .q 5 <| .q 6 <| .q 7 <| .q 8 <| .q 9 <| .q 10 <| .or 11 (.done) (.nil)) (by kernel_rfl) ?_
          simp [go_sem,YF]
          refine ⟨h2,by omega,Zv (Zi9 (Zl l i) (Zl l j) (3+c)) ?_ ?_⟩
          ·simp [go_sem,POp.cells]
          ·simp [go_sem]
           refine ⟨fun e=>?_,fun e=>⟨j+1,⟨by omega,fun j' hj'=>?_⟩,by omega,Zj (by omega),cl⟩⟩
           ·have hcl:YN l (3+c)=true:=(XC l _).2 ⟨i,h2,j,h3,e⟩
            rcases (by omega:c=0∨c=1) with rfl|rfl
            ·have h4:YN l 3=true:=hcl
             simp only [XM,hok,h4,if_neg (show ¬500<l.length by omega)]
             rfl
            ·have h4:YN l 4=true:=hcl
             have h5:YN l 3=false:=hc.2 0 (by omega)
             simp only [XM,hok,h4,h5,if_neg (show ¬500<l.length by omega)]
             rfl
           ·rcases Nat.lt_succ_iff_lt_or_eq.mp hj' with hj'|rfl
            ·exact hj.2 j' hj'
            ·exact e
         ·refine ⟨i+1,⟨by omega,fun i' hi' j' hj'=>?_⟩,by omega,Zj (by omega),cl⟩
          rcases Nat.lt_succ_iff_lt_or_eq.mp hi' with hi'|rfl
          ·exact hi.2 i' hi' j' hj'
          ·exact hj.2 j' (by omega)
       ·refine ⟨c+1,⟨by omega,fun q hq=>?_⟩,by omega,?_,cl⟩
        ·rcases Nat.lt_succ_iff_lt_or_eq.mp hq with hq|rfl
         ·exact hc.2 q hq
         ·rw [Bool.eq_false_iff]
          intro e
          obtain ⟨i',h4,j',h5,h6⟩:=(XC l _).1 e
          rw [hi.2 i' (by omega) j' h5] at h6
          cases h6
        ·rw [wrap_i64 (by omega)];omega
     ·have:c=2:=by omega
      subst this
      have h4:YN l 3=false:=hc.2 0 (by omega)
      have h5:YN l 4=false:=hc.2 1 (by omega)
      simp only [XM,hok,h4,h5,if_neg (show ¬500<l.length by omega)]
      rfl
open Go.Maps (Keyed)
open Classical in
theorem Yi:∀ (es:List (Value×Value)) (x u y:Value),mget (mput es x u) y=if x=y then some u else mget es y
 |[],x,u,y=>by
  simp only [mput,mget]
 | (k,v)::r,x,u,y=>by
  simp only [mput]
  by_cases h:k=x
  ·subst h
   rw [if_pos rfl]
   simp only [mget]
   split<;>rfl
  ·rw [if_neg h]
   simp only [mget]
   by_cases h2:k=y
   ·subst h2
    rw [if_pos rfl,if_neg (fun e:x=k=>h e.symm)]
    simp [mget]
   ·rw [if_neg h2,if_neg h2]
    exact Yi r x u y
theorem JY {P:Program} {k:TypeId} {fs:Array Field} {cs:Array Value} (hu:P.underlying k=some (.struct fs)) (hkt:P.keyType k=true) (hc:cs.size=P.cellsOf k) (hn:fs.all (·.name != "_")=true) (hsz:1≤P.types.size)
  (hm:∀ d,∃ lss,(fs.toList.mapM fun f=>P.keyLits (d+1) f.type ((cs.toList.drop f.offset).take (P.cellsOf f.type)))=some lss):∃ l,keyOf P k (.agg cs)=some l:=by
 obtain ⟨n,hn1⟩:∃ n,P.types.size=n+1:=⟨P.types.size-1,by omega⟩
 obtain ⟨lss,hl⟩:=hm n
 have h1:P.keyLits (P.types.size+1) k cs.toList=some lss.flatten:=by
  rw [hn1]
  unfold Program.keyLits
  simp only [hu,Array.length_toList,hc,hn,and_self,if_true,hl,Option.map_some]
 refine ⟨.string (keyBytes lss.flatten),?_⟩
 unfold keyOf
 rw [hu]
 simp only [hkt,Value.formed,hu,hc,beq_self_eq_true,Bool.and_self,if_true,Value.cells,h1,Option.map_some]
theorem Gs {P:Program} {t:TypeId} (hu:P.underlying t=some .string) {z:ByteArray} (h:z.size≤maxLen) (d:Nat):P.keyLits (d+1) t [.string z]=some [.string z.data.toList]:=by
 unfold Program.keyLits;simp only [hu,if_pos h]
theorem ZdC {P:Program} {t:TypeId} (hu:P.underlying t=some .bool) {b:Bool} (d:Nat):P.keyLits (d+1) t [.bool b]=some [.bool b]:=by
 unfold Program.keyLits;simp only [hu]
theorem ZkK {n:Int} (h : -9223372036854775808≤n∧n≤9223372036854775807):(Lit.int .i64 n).wf=true:=by
 simp only [Lit.wf,IntKind.min,IntKind.max,IntKind.bits,IntKind.signed,decide_eq_true_eq,Bool.and_eq_true]
 exact h
theorem Q5 {P:Program} {t:TypeId} (hu:P.underlying t=some (.int .i64)) {n:Int} (h : -9223372036854775808≤n∧n≤9223372036854775807) (d:Nat):P.keyLits (d+1) t [.int .i64 n]=some [.int .i64 n]:=by
 unfold Program.keyLits;simp only [hu,ZkK h,and_self,if_true]
theorem Zmh:1≤Tryz.prog.types.size:=of_decide_eq_true (by kernel_rfl)
theorem Zj9:(109:TypeId)<Tryz.prog.types.size:=of_decide_eq_true (by kernel_rfl)
theorem co_place:Tryz.prog.cellsOf 109=2:=by kernel_rfl
theorem ZcE:Tryz.prog.cellsOf 9=1:=by kernel_rfl
theorem ZlZ:Tryz.prog.cellsOf 4=1:=by kernel_rfl
theorem ZmQ:Tryz.prog.cellsOf 3=1:=by kernel_rfl
theorem Uv:Keyed Tryz.prog 109:=Keyed.of_law (deep_law_laid Zdx (m:=2) (by omega) Zj9 (by kernel_rfl) (by kernel_rfl))
theorem Za2:Keyed Tryz.prog 3:=Go.Maps.int_keyed Tryz.underlying3
theorem ZS:Keyed Tryz.prog 9:=Go.Maps.string_keyed Tryz.underlying9
theorem ZmM {n:Int} (h : -9223372036854775808≤n∧n≤9223372036854775807):∃ l,keyOf Tryz.prog 3 (.int .i64 n)=some l:=
 ⟨_,Go.Maps.keyOf_int_mk Tryz.underlying3 (ZkK h)⟩
theorem YJ {z:ByteArray} (h:z.size≤maxLen):∃ l,keyOf Tryz.prog 9 (.string z)=some l:=⟨_,Go.WideMaps.keyOf_string_mk Tryz.underlying9 h⟩
theorem Q4 {z:ByteArray} {b:Bool} (h:z.size≤maxLen):∃ l,keyOf Tryz.prog 109 (.agg #[.string z,.bool b])=some l:=by
 refine JY Tryz.underlying109 (by kernel_rfl) co_place.symm (by kernel_rfl) Zmh fun d=>?_
 simp only [List.mapM_cons,List.mapM_nil,ZcE,ZlZ,List.drop_zero,List.take_succ_cons,List.take_zero,List.drop_succ_cons,Gs Tryz.underlying9 h,ZdC Tryz.underlying4]
 exact ⟨_,rfl⟩
theorem VB:W7 Tryz.prog 3 (.int .i64 0):=fun w=>Tryz.zeroValue3 w
def Wp (o:POp):Value:=.agg #[.string o.text,.bool (o.kind==1)]
theorem QV (o:POp):Value.agg #[.string o.text,.bool (o.kind==1)]=Wp o:=rfl
theorem placeV_eq {a b:POp}:Wp a=Wp b↔XP a b 3=true:=by
 simp only [Wp,XP,if_true,Value.agg.injEq,Bool.and_eq_true,decide_eq_true_eq,Array.mk.injEq,List.cons.injEq,Value.string.injEq,Value.bool.injEq,and_true]
def ZmW (l:List POp) (i:Nat) (es:List (Value×Value)):Prop:=(∀ j,j<i→(mget es (Wp (Zl l j))).isSome=true)∧∀ x v,mget es x=some v→∃ j,j<i∧x=Wp (Zl l j)
def ZhY (l:List POp) (i:Nat) (es:List (Value×Value)):Prop:=(∀ j,j<i→mget es (.int .i64 (Zl l j).level)=some (.int .i64 (WA (Zl l j))))∧∀ x v,mget es x=some v→∃ j,j<i∧x=.int .i64 (Zl l j).level
theorem Kw (l:List POp) (hl:l.length≤9223372036854775807) (hw:XD l):VFun Tryz.prog 28 [.agg [.sl 4 l.length (Za l)]] (fun av obs=>obs=[]∧av=.lit (.int .i64 (XM l))):=by
 have cl:∀ (i:Nat) (c:AV),i<l.length→c∈Za l i→Closed c:=fun i c _ h=>Zo l i c h
 refine Zd Tryz.func28 (by kernel_rfl) rfl (by simp [Tryz.ntmps28]) ?_;simp only [Tryz.ntmps28,Tryz.results28];simp [go_sem]
 refine ⟨by omega,fun h1=>?_,fun h1=>?_⟩
 ·simp [XM];omega
 ·have hmax:¬500<l.length:=by omega
  refine ⟨by omega,?_⟩
  refine ZN (fun i:Nat=>i≤l.length∧∀ j,j<i→Xx (Zl l j)=true) (fun i=>l.length-i) (fun i=>.of [(1,.ptr 0 1 0 0),(20,.sl 4 l.length (Za l)),(21,.lit (.int .i64 l.length)),(22,.lit (.int .i64 i))] [some ⟨55,1,1,fun _=>[.sl 4 l.length (Za l)]⟩]) ⟨0,⟨by omega,by simp⟩,?_⟩ (fun i hi=>?_)
  ·simp [go_sem]
   exact cl
  ·simp [go_sem,YF]
   refine ⟨fun h=>⟨h,Zc (ZkU (Zl l i) (hw i h)) ?_ ?_⟩,fun h=>?_⟩
   ·simp [go_sem,POp.cells]
   ·simp [go_sem]
    refine ⟨fun e=>?_,fun e=>⟨i+1,⟨by omega,fun j hj=>?_⟩,by omega,⟨⟨cl,Zj (by omega)⟩,cl⟩⟩⟩
    ·have:Wc l=false:=by
      simp only [Wc,List.all_eq_false,List.mem_range]
      exact ⟨i,h,by rw [e];simp⟩
     simp only [XM,this,if_neg hmax,if_true]
    ·rcases Nat.lt_succ_iff_lt_or_eq.mp hj with hj|rfl
     ·exact hi.2 j hj
     ·exact e
   ·have hok:Wc l=true:=by
     simp only [Wc,List.all_eq_true,List.mem_range]
     exact fun j hj=>hi.2 j (by omega)
    have hop:∀ j,j<l.length→Xx (Zl l j)=true:=fun j hj=>hi.2 j (by omega)
    clear hi h
    refine fun b=>⟨by omega,?_⟩
    refine ZN (fun p:Nat×List (Value×Value)=>p.1≤l.length∧ZmW l p.1 p.2∧∀ i',i'<p.1→∀ j,j<i'→XP (Zl l i') (Zl l j) 3=false) (fun p=>l.length-p.1)
     (fun p=>⟨[(1,.ptr 0 1 0 0),(5,.lit (.map (some b))),(32,.sl 4 l.length (Za l)),(33,.lit (.int .i64 l.length)),(34,.lit (.int .i64 p.1))],[some ⟨55,1,1,fun _=>[.sl 4 l.length (Za l)]⟩],[(b,⟨109,p.2⟩)],0⟩) ⟨(0,[]),⟨by omega,⟨by simp,by simp [mget]⟩,by simp⟩,?_⟩ (fun p hp=>?_)
    ·simp [go_sem]
     exact cl
    ·obtain ⟨i,es⟩:=p
     simp only at hp
     simp [go_sem,YF]
     refine ⟨fun h=>⟨h,Ua (HS (Zl l i)) ?_ ?_ ?_⟩,fun h=>?_⟩
     ·simp [go_sem,POp.cells]
     ·simp [go_sem]
     ·simp [go_sem]
      refine Yj Uv (Q4 (hw i h)) _ VB ?_
      simp [go_sem]
      simp only [QV]
      have hno:∀ (h0:(mget es (Wp (Zl l i))).isSome=true),YN l 3=true:=by
       intro h0
       obtain ⟨v,hv⟩:=Option.isSome_iff_exists.1 h0
       obtain ⟨j,hj,e⟩:=hp.2.1.2 _ v hv
       exact (XC l _).2 ⟨i,h,j,hj,placeV_eq.1 e⟩
      refine ⟨fun h0=>?_,fun h0=>?_⟩
      ·simp only [XM,hok,hno h0,if_neg hmax]
       rfl
      ·refine Ua (HS (Zl l i)) ?_ ?_ ?_
       ·simp [go_sem,POp.cells]
       ·simp [go_sem]
       ·simp [go_sem]
        refine Y0 Uv (Q4 (hw i h)) ?_
        simp [go_sem]
        simp only [QV]
        refine ⟨i+1,mput es (Wp (Zl l i)) (.int .i64 i),⟨by omega,⟨fun j hj=>?_,fun x v hv=>?_⟩,fun i' hi' j hj=>?_⟩,by omega,rfl,⟨cl,Zj (by omega)⟩,cl⟩
        ·rw [Yi]
         split
         ·rfl
         ·rename_i hne
          rcases Nat.lt_succ_iff_lt_or_eq.mp hj with hj|rfl
          ·exact hp.2.1.1 j hj
          ·exact absurd rfl hne
        ·rw [Yi] at hv
         split at hv
         ·rename_i e
          exact ⟨i,by omega,e.symm⟩
         ·obtain ⟨j,hj,e⟩:=hp.2.1.2 x v hv
          exact ⟨j,by omega,e⟩
        ·rcases Nat.lt_succ_iff_lt_or_eq.mp hi' with hi'|rfl
         ·exact hp.2.2 i' hi' j hj
         ·rw [Bool.eq_false_iff]
          intro e
          have h5:=hp.2.1.1 j hj
          rw [←placeV_eq.2 e,h0] at h5
          cases h5
     ·have hc3:YN l 3=false:=by
       rw [Bool.eq_false_iff]
       intro e
       obtain ⟨i',h4,j',h5,h6⟩:=(XC l _).1 e
       rw [hp.2.2 i' (by omega) j' h5] at h6
       cases h6
      clear hp h
      refine fun b2 hb2=>⟨by omega,?_⟩
      refine ZN (fun p:Nat×List (Value×Value)=>p.1≤l.length∧ZhY l p.1 p.2∧∀ i',i'<p.1→∀ j,j<i'→XP (Zl l i') (Zl l j) 4=false) (fun p=>l.length-p.1)
       (fun p=>⟨[(1,.ptr 0 1 0 0),(10,.lit (.map (some b2))),(54,.sl 4 l.length (Za l)),(55,.lit (.int .i64 l.length)),(56,.lit (.int .i64 p.1))],[some ⟨55,1,1,fun _=>[.sl 4 l.length (Za l)]⟩],[(b2,⟨3,p.2⟩)],0⟩) ⟨(0,[]),⟨by omega,⟨by simp,by simp [mget]⟩,by simp⟩,?_⟩ (fun p hp=>?_)
      ·simp [go_sem]
       exact cl
      ·obtain ⟨i,es⟩:=p
       simp only at hp
       simp [go_sem,YF]
       refine ⟨fun h=>⟨h,?_⟩,fun h=>?_⟩
       ·have hlv:=Up (hop i h)
        have hki:=ZmM (n:=(Zl l i).level) (by omega)
        refine Yj Za2 hki _ VB ?_
        have step:∀ (h4:∀ j,j<i→XP (Zl l i) (Zl l j) 4=false),ZhY l (i+1) (mput es (.int .i64 (Zl l i).level) (.int .i64 (WA (Zl l i))))∧∀ i',i'<i+1→∀ j,j<i'→XP (Zl l i') (Zl l j) 4=false:=by
         intro h4
         refine ⟨⟨fun j hj=>?_,fun x v hv=>?_⟩,fun i' hi' j hj=>?_⟩
         ·rw [Yi]
          rcases Nat.lt_succ_iff_lt_or_eq.mp hj with hj|rfl
          ·split
           ·rename_i e
            simp only [Value.int.injEq,true_and] at e
            have:=h4 j hj
            simp only [XP,e,decide_true,Bool.true_and,show ((4:Int)=3)=False by decide,if_false,decide_eq_false_iff_not,ne_eq,Classical.not_not] at this
            rw [this]
           ·exact hp.2.1.1 j hj
          ·rw [if_pos rfl]
         ·rw [Yi] at hv
          split at hv
          ·rename_i e
           exact ⟨i,by omega,e.symm⟩
          ·obtain ⟨j,hj,e⟩:=hp.2.1.2 x v hv
           exact ⟨j,by omega,e⟩
         ·rcases Nat.lt_succ_iff_lt_or_eq.mp hi' with hi'|rfl
          ·exact hp.2.2 i' hi' j hj
          ·exact h4 j hj
        cases hm:mget es (.int .i64 (Zl l i).level) with
        |none=>
         simp [go_sem]
         have h4:∀ j,j<i→XP (Zl l i) (Zl l j) 4=false:=by
          intro j hj
          simp only [XP,show ((4:Int)=3)=False by decide,if_false,Bool.and_eq_false_iff,decide_eq_false_iff_not]
          refine .inl fun e=>?_
          have:=hp.2.1.1 j hj
          rw [←e,hm] at this
          cases this
         refine Zn [5] (.q 0 <| .q 1 <| .q 2 <| .q 3 <| .or 4 (.or 5 (.done) (.nil)) (.nil)) (by kernel_rfl) ?_
         simp [go_sem]
         refine Zv (Zbm (Zl l i)) ?_ ?_
         ·simp [go_sem,POp.cells]
         ·simp [go_sem]
          refine Y0 Za2 hki ?_
          simp [go_sem]
          obtain ⟨s1,s2⟩:=step h4
          exact ⟨i+1,_,⟨by omega,s1,s2⟩,by omega,rfl,⟨cl,Zj (by omega)⟩,cl⟩
        |some v=>
         obtain ⟨j,hj,e⟩:=hp.2.1.2 _ v hm
         simp only [Value.int.injEq,true_and] at e
         have hv:v=.int .i64 (WA (Zl l j)):=by
          have:=hp.2.1.1 j hj
          rw [←e,hm] at this
          exact Option.some.inj this
         subst hv
         simp [go_sem]
         refine Zc (Zbm (Zl l i)) ?_ ?_
         ·simp [go_sem,POp.cells]
         ·simp [go_sem]
          refine ⟨fun hne=>?_,fun heq=>?_⟩
          ·have hc4:YN l 4=true:=by
            refine (XC l _).2 ⟨i,h,j,hj,?_⟩
            simp only [XP,show ((4:Int)=3)=False by decide,if_false,Bool.and_eq_true,decide_eq_true_eq]
            exact ⟨e,fun e2=>hne e2.symm⟩
           simp only [XM,hok,hc3,hc4,if_neg hmax]
           rfl
          ·have h4:∀ j,j<i→XP (Zl l i) (Zl l j) 4=false:=by
            intro j' hj'
            simp only [XP,show ((4:Int)=3)=False by decide,if_false,Bool.and_eq_false_iff,decide_eq_false_iff_not]
            by_cases e2:(Zl l i).level=(Zl l j').level
            ·refine .inr fun h5=>h5 ?_
             have:=hp.2.1.1 j' hj'
             rw [←e2,hm] at this
             simp only [Option.some.injEq,Value.int.injEq,true_and] at this
             rw [←heq,this]
            ·exact .inl e2
           refine Zn [5] (.q 0 <| .q 1 <| .q 2 <| .q 3 <| .or 4 (.or 5 (.done) (.nil)) (.nil)) (by kernel_rfl) ?_
           simp [go_sem]
           refine Zv (Zbm (Zl l i)) ?_ ?_
           ·simp [go_sem,POp.cells]
           ·simp [go_sem]
            refine Y0 Za2 hki ?_
            simp [go_sem]
            obtain ⟨s1,s2⟩:=step h4
            exact ⟨i+1,_,⟨by omega,s1,s2⟩,by omega,rfl,⟨cl,Zj (by omega)⟩,cl⟩
       ·have hc4:YN l 4=false:=by
         rw [Bool.eq_false_iff]
         intro e
         obtain ⟨i',h4,j',h5,h6⟩:=(XC l _).1 e
         rw [hp.2.2 i' (by omega) j' h5] at h6
         cases h6
        simp only [XM,hok,hc3,hc4,if_neg hmax]
        rfl
end Go.Proofs.YtadghlfkddkelaaGreatDoor.V
namespace Go.Proofs.YtadghlfkddkelaaGreatDoor.V
open Go.RowKit
def ZmZ (a b:AV):Prop:=∀ (w:World) (ok:Nat→Prop) (hd:Nat→Value) (m:Nat) (v:Value),Rep w ok hd m a v→Rep w ok hd m b v
theorem Zmb {sz n:Nat} {f g:Nat→List AV} (h:∀ i,i<n→f i=g i):ZmZ (.sl sz n f) (.sl sz n g):=by
 intro w ok hd m v hr
 cases hr with
 |sl _ _ _ A c u hc hm hsz hl ha hr=>exact .sl sz n g A c u hc hm hsz (fun i hi=>by rw [←h i hi];exact hl i hi) ha fun i j a hi hj=>hr i j a hi (by rw [h i hi];exact hj)
def Zhc:List AV→List AV→Prop
 |[],[]=>True
 |a::r,b::r'=>ZmZ a b∧Zhc r r'
 | _,_=>False
theorem ZbF:∀ {l l':List AV},Zhc l l'→l.length=l'.length∧∀ (j:Nat) a b,l[j]?=some a→l'[j]?=some b→ZmZ a b
 |[],[],_=>⟨rfl,fun j a b h=>by simp at h⟩
 |a::r,b::r',h=>by
  obtain ⟨h1,h2⟩:=ZbF h.2
  refine ⟨by simp [h1],fun j x y hx hy=>?_⟩
  cases j with
  |zero=>
   simp only [List.getElem?_cons_zero,Option.some.injEq] at hx hy
   subst hx;subst hy;exact h.1
  |succ j=>exact h2 j x y (by simpa using hx) (by simpa using hy)
 |[],_::_,h=>h.elim
 | _::_,[],h=>h.elim
theorem VFun.congr {P:Program} {f:FuncId} {args args':List AV} {R:AV→List Ob→Prop} (h:VFun P f args' R) (ha:Zhc args args'):VFun P f args R:=by
 obtain ⟨h1,h2⟩:=ZbF ha
 refine ⟨h.1,fun w vs hl hv=>h.2 w vs ⟨h1.symm.trans hl.1,hl.2⟩ fun j b u hb hu=>?_⟩
 have hj:j<args.length:=by have:=(List.getElem?_eq_some_iff.1 hb).1;omega
 exact h2 j _ b (List.getElem?_eq_getElem hj) hb _ _ _ _ _ (hv j _ u (List.getElem?_eq_getElem hj) hu)
theorem Zlz {α:Type} [Inhabited α] (cells:α→List AV) (p:α→Prop) {m:Nat} {f:Nat→List AV} (h:∀ i,i<m→∃ o,p o∧f i=cells o):∃ l:List α,l.length=m∧(∀ i,i<m→p (l.getD i default))∧∀ i,i<m→f i=cells (l.getD i default):=by
 induction m with
 |zero=>exact ⟨[],rfl,fun i hi=>by omega,fun i hi=>by omega⟩
 |succ m ih=>
  obtain ⟨l,h1,h2,h3⟩:=ih fun i hi=>h i (by omega)
  obtain ⟨o,h4,h5⟩:=h m (by omega)
  have low:∀ i,i<m→(l++[o]).getD i default=l.getD i default:=fun i hi=>by
   rw [List.getD_eq_getElem?_getD,List.getD_eq_getElem?_getD,List.getElem?_append_left (by omega)]
  have hi:(l++[o]).getD m default=o:=by
   rw [List.getD_eq_getElem?_getD,List.getElem?_append_right (by omega)];simp [h1]
  refine ⟨l++[o],by simp [h1],fun i hi'=>?_,fun i hi'=>?_⟩
  ·rcases Nat.lt_succ_iff_lt_or_eq.mp hi' with hlt|rfl
   ·rw [low i hlt];exact h2 i hlt
   ·rw [hi];exact h4
  ·rcases Nat.lt_succ_iff_lt_or_eq.mp hi' with hlt|rfl
   ·rw [low i hlt];exact h3 i hlt
   ·rw [hi];exact h5
def ZdK (d:Nat):ByteArray:=⟨#[(48+d).toUInt8]⟩
theorem ZgK (d:Nat) (h:d<10):[.lit (.int .u8 (48+d))]=Yd (ZdK d) 0:=by
 have e:Ze (ZdK d) 0=48+d:=by
  have h1:0<(ZdK d).size:=by show 0<1;omega
  unfold Ze
  rw [dif_pos h1]
  have:((ZdK d)[0]'h1)=(48+d).toUInt8:=rfl
  rw [this]
  simp [Nat.toUInt8]
  omega
 simp only [Yd,e]
def ZdJ (k:Nat) (acc:ByteArray):ByteArray:=if h:k=0 then acc else ZdJ (k/10) (ZdK (k%10)++acc)
termination_by k
decreasing_by omega
theorem ZiR (acc:ByteArray):ZdJ 0 acc=acc:=by rw [ZdJ];simp
theorem ZkQ {k:Nat} (h:0<k) (acc:ByteArray):ZdJ k acc=ZdJ (k/10) (ZdK (k%10)++acc):=by
 conv=>lhs;rw [ZdJ]
 rw [dif_neg (by omega)]
def ZaM (k:Nat):ByteArray:=⟨#[109]⟩++ZdJ k ⟨#[]⟩
theorem Zej {n:Int} (h:0≤n∧n<256):IntKind.u8.wrap n=n:=by
 simp only [IntKind.wrap,IntKind.bits,IntKind.signed]
 simp
 omega
theorem QB (k:Nat) (h:0<k∧k≤9223372036854775000):VFun Tryz.prog 42 [.lit (.int .i64 k)] (fun av obs=>obs=[]∧av=.lit (.string (ZaM k))):=by
 refine Zd Tryz.func42 (by kernel_rfl) rfl (by simp [Tryz.ntmps42]) ?_;simp only [Tryz.ntmps42,Tryz.results42];simp [go_sem]
 refine ⟨by omega,fun _=>?_⟩
 refine ZN (fun p:Nat×ByteArray=>ZdJ p.1 p.2=ZdJ k ⟨#[]⟩∧p.2.size+p.1≤k) (fun p=>p.1) (fun p=>.of [(0,.lit (.int .i64 p.1)),(3,.lit (.string p.2))] []) ⟨(k,⟨#[]⟩),⟨rfl,by show 0+k≤k;omega⟩,?_⟩ (fun p hp=>?_)
 ·simp [go_sem]
 ·obtain ⟨q,out⟩:=p
  simp only at hp
  simp [go_sem]
  refine ⟨fun h1=>?_,fun h1 w=>?_⟩
  ·refine ⟨ZdK (q%10),rfl,?_,?_⟩
   ·have e:(q:Int).tmod 10=((q%10:Nat):Int):=by rw [Int.tmod_eq_emod_of_nonneg (by omega)];omega
    rw [e,wrap_i64 (by omega),Zej (by omega)]
    exact ZgK (q%10) (by omega)
   ·refine ⟨_,fun w=>if_neg ?_,q/10,_,⟨?_,?_⟩,by omega,?_,rfl⟩
    ·have:(ZdK (q%10)).size=1:=rfl
     omega
    ·rw [←ZkQ h1];exact hp.1
    ·have:(ZdK (q%10)).size=1:=rfl
     rw [ByteArray.size_append]
     omega
    ·rw [wrap_i64 (by omega)];omega
  ·subst h1
   rw [if_neg (by omega)]
   have h2:=hp.1
   rw [ZiR] at h2
   rw [h2];rfl
theorem Qa {g:Nat→Nat}:∀ {l:List AV},l.all YL=true→l.map (Ww g)=l
 |[],_=>rfl
 |a::r,h=>by
  simp only [List.all_cons,Bool.and_eq_true] at h
  simp only [List.map_cons,Qa h.2]
  cases a<;>simp [YL] at h
  rfl
theorem Ks:∀ {l:List AV},l.all YL=true→l.all X8=true
 |[],_=>rfl
 |a::r,h=>by
  simp only [List.all_cons,Bool.and_eq_true] at h ⊢
  refine ⟨?_,Ks h.2⟩
  cases a<;>simp [YL] at h
  rfl
theorem Wr {idx:Nat→Nat} {ks:List Nat} {ty sz n:Nat} {f f':Nat→List AV} (h:∀ i,i<n→f i=f' i) (hl:∀ i,i<n→(f' i).all YL=true):WN idx ks ⟨ty,sz,n,f'⟩ (some (some ⟨ty,sz,n,f⟩)):=by
 refine ⟨rfl,rfl,rfl,fun i hi=>⟨?_,ZiN (Ks (hl i hi)),fun c hc q hq=>?_⟩⟩
 ·simp only
  rw [h i hi];exact Qa (hl i hi)
 ·simp only at hc
  rw [h i hi] at hc
  have:=List.all_eq_true.1 (hl i hi) c hc
  cases c<;>simp [YL] at this
  simp [WI] at hq
theorem K6 {g:Nat→Nat} {ty sz n:Nat} {f:Nat→List AV} (h:∀ i,(f i).all YL=true):VM g ⟨ty,sz,n,f⟩=⟨ty,sz,n,f⟩:=by
 simp only [VM]
 congr 1
 funext i
 exact Qa (h i)
@[go_sem] theorem opCells_ren {g:Nat→Nat} {l:List POp} {i:Nat}:(Za l i).map (Ww g)=Za l i:=Qa rfl
theorem ZK {f:Nat→Nat} {m:Nat}:∀ {l:List AV},l.all YL=true→ZO f m l l
 |[],_=>trivial
 |a::r,h=>by
  simp only [List.all_cons,Bool.and_eq_true] at h
  exact ⟨.closed _ (.of_lit h.1),ZK h.2⟩
def Zf (l:List PTok) (i:Nat):PTok:=l.getD i default
theorem Zg (l:List PTok) (i:Nat):Zk l i=[.lit (.int .i64 (Zf l i).kind),.lit (.string (Zf l i).gap),.lit (.string (Zf l i).text)]:=rfl
def XV (c:Int):Bool:=decide (48≤c)&&decide (c≤57)
def UE (c:Int):Bool:=decide ((97≤c∧c≤122)∨(65≤c∧c≤90)∨c=95)
def Xd (c:Int):Bool:=decide (c=32∨c=9∨c=10)
theorem Qe (c:Int):VFun Tryz.prog 62 [.lit (.int .u8 c)] (fun av obs=>obs=[]∧av=.lit (.bool (XV c))):=by
 refine Zd Tryz.func62 (by kernel_rfl) rfl (by simp [Tryz.ntmps62]) ?_;simp only [Tryz.ntmps62,Tryz.results62];simp [go_sem]
 by_cases h1:48≤c<;>by_cases h2:c≤57<;>simp [XV,h1,h2]<;>omega
theorem Kv (c:Int):VFun Tryz.prog 91 [.lit (.int .u8 c)] (fun av obs=>obs=[]∧av=.lit (.bool (XV c))):=by
 refine Zd Tryz.func91 (by kernel_rfl) rfl (by simp [Tryz.ntmps91]) ?_;simp only [Tryz.ntmps91,Tryz.results91];simp [go_sem]
 by_cases h1:48≤c<;>by_cases h2:c≤57<;>simp [XV,h1,h2]<;>omega
theorem QC (c:Int):VFun Tryz.prog 61 [.lit (.int .u8 c)] (fun av obs=>obs=[]∧av=.lit (.bool (UE c))):=by
 refine Zd Tryz.func61 (by kernel_rfl) rfl (by simp [Tryz.ntmps61]) ?_;simp only [Tryz.ntmps61,Tryz.results61];simp [go_sem]
 simp only [UE,X3,decide_eq_decide,decide_eq_true_eq]
 omega
theorem QE (c:Int):VFun Tryz.prog 90 [.lit (.int .u8 c)] (fun av obs=>obs=[]∧av=.lit (.bool (UE c))):=by
 refine Zd Tryz.func90 (by kernel_rfl) rfl (by simp [Tryz.ntmps90]) ?_;simp only [Tryz.ntmps90,Tryz.results90];simp [go_sem]
 simp only [UE,X3,decide_eq_decide,decide_eq_true_eq]
 omega
theorem Zi7 (c:Int):VFun Tryz.prog 95 [.lit (.int .u8 c)] (fun av obs=>obs=[]∧av=.lit (.bool (Xd c))):=by
 refine Zd Tryz.func95 (by kernel_rfl) rfl (by simp [Tryz.ntmps95]) ?_;simp only [Tryz.ntmps95,Tryz.results95];simp [go_sem]
 simp only [Xd,X3,decide_eq_decide,decide_eq_true_eq]
 omega
def Vq (z:ByteArray):Bool:=((List.range z.size).all fun i=>XV (Ze z i))&&decide (0<z.size)
def Wl (z:ByteArray) (i:Nat):Bool:=UE (Ze z i)||(decide (i≠0)&&XV (Ze z i))
def Qo (z:ByteArray):Bool:=((List.range z.size).all fun i=>Wl z i)&&decide (0<z.size)
theorem VA {p:Nat→Bool} {n i:Nat} (h:i<n) (e:p i=false):(List.range n).all p=false:=by
 simp only [List.all_eq_false,List.mem_range]
 exact ⟨i,h,by rw [e];simp⟩
theorem Qh {p:Nat→Bool} {n:Nat} (h:∀ i,i<n→p i=true):(List.range n).all p=true:=by
 simp only [List.all_eq_true,List.mem_range]
 exact h
theorem Hf (z:ByteArray) (hz:z.size≤9223372036854775807):VFun Tryz.prog 118 [.lit (.string z)] (fun av obs=>obs=[]∧av=.lit (.bool (Vq z))):=by
 refine Zd Tryz.func118 (by kernel_rfl) rfl (by simp [Tryz.ntmps118]) ?_;simp only [Tryz.ntmps118,Tryz.results118];simp [go_sem]
 refine ZN (fun i:Nat=>i≤z.size∧∀ j,j<i→XV (Ze z j)=true) (fun i=>z.size-i) (fun i=>.of [(0,.lit (.string z)),(3,.lit (.int .i64 i))] []) ⟨0,⟨by omega,by simp⟩,?_⟩ (fun i hi=>?_)
 ·simp [go_sem]
 ·simp [go_sem]
  refine ⟨fun h=>⟨h,Zc (Qe (Ze z i)) ?_ ?_⟩,fun h=>?_⟩
  ·simp [go_sem]
  ·simp [go_sem]
   refine ⟨fun e=>?_,fun e=>⟨i+1,⟨by omega,fun j hj=>?_⟩,by omega,Zj (by omega)⟩⟩
   ·simp only [Vq,VA (p:=fun i=>XV (Ze z i)) h e,Bool.false_and]
   ·rcases Nat.lt_succ_iff_lt_or_eq.mp hj with hj|rfl
    ·exact hi.2 j hj
    ·exact e
  ·simp only [Vq,Qh (p:=fun i=>XV (Ze z i)) (n:=z.size) fun j hj=>hi.2 j (by omega),Bool.true_and]
theorem Zbr (z:ByteArray) (hz:z.size≤9223372036854775807):VFun Tryz.prog 30 [.lit (.string z)] (fun av obs=>obs=[]∧av=.lit (.bool (Qo z))):=by
 refine Zd Tryz.func30 (by kernel_rfl) rfl (by simp [Tryz.ntmps30]) ?_;simp only [Tryz.ntmps30,Tryz.results30];simp [go_sem]
 refine ZN (fun i:Nat=>i≤z.size∧∀ j,j<i→Wl z j=true) (fun i=>z.size-i) (fun i=>.of [(0,.lit (.string z)),(3,.lit (.int .i64 i))] []) ⟨0,⟨by omega,by simp⟩,?_⟩ (fun i hi=>?_)
 ·simp [go_sem]
 ·simp [go_sem]
  refine ⟨fun h=>⟨h,Zc (QC (Ze z i)) ?_ ?_⟩,fun h=>?_⟩
  ·simp [go_sem]
  ·have step:Wl z i=true→∃ j:Nat,(j≤z.size∧∀ q,q<j→Wl z q=true)∧z.size-j<z.size-i∧IntKind.i64.wrap ((i:Int)+1)=j:=fun e=>⟨i+1,⟨by omega,fun j hj=>by
    rcases Nat.lt_succ_iff_lt_or_eq.mp hj with hj|rfl
    ·exact hi.2 j hj
    ·exact e⟩,by omega,Zj (by omega)⟩
   have bad:Wl z i=false→Qo z=false:=fun e=>by simp only [Qo,VA (p:=fun i=>Wl z i) h e,Bool.false_and]
   simp [go_sem]
   refine ⟨fun e1=>⟨fun h0=>⟨h,Zc (Qe (Ze z i)) ?_ ?_⟩,fun h0=>bad (by subst h0;simp [Wl,e1])⟩,fun e1=>step (by simp [Wl,e1])⟩
   ·simp [go_sem]
   ·simp [go_sem]
    exact ⟨fun e2=>bad (by simp [Wl,e1,e2]),fun e2=>step (by simp [Wl,e1,e2,h0])⟩
  ·simp only [Qo,Qh (p:=fun i=>Wl z i) (n:=z.size) fun j hj=>hi.2 j (by omega),Bool.true_and]
def Z5 (l:List POp) (z:ByteArray) (kd:Int):Bool:=(List.range l.length).any fun i=>decide ((Zl l i).text=z)&&decide ((Zl l i).kind=kd)
theorem UB (l:List POp) (hl:l.length≤9223372036854775807) (z:ByteArray) (kd:Int):VFun Tryz.prog 130 [.agg [.sl 4 l.length (Za l)],.lit (.string z),.lit (.int .i64 kd)] (fun av obs=>obs=[]∧∃ r:Int,av=.lit (.int .i64 r)∧(0≤r↔Z5 l z kd=true)):=by
 have cl:∀ (i:Nat) (c:AV),i<l.length→c∈Za l i→Closed c:=fun i c _ h=>Zo l i c h
 refine Zd Tryz.func130 (by kernel_rfl) rfl (by simp [Tryz.ntmps130]) ?_;simp only [Tryz.ntmps130,Tryz.results130];simp [go_sem]
 refine ZN (fun i:Nat=>i≤l.length∧∀ j,j<i→¬((Zl l j).text=z∧(Zl l j).kind=kd)) (fun i=>l.length-i) (fun i=>.of [(1,.lit (.string z)),(2,.lit (.int .i64 kd)),(3,.ptr 0 1 0 0),(7,.lit (.int .i64 i))] [some ⟨55,1,1,fun _=>[.sl 4 l.length (Za l)]⟩]) ⟨0,⟨by omega,by simp⟩,?_⟩ (fun i hi=>?_)
 ·simp [go_sem]
  exact cl
 ·simp [go_sem,YF,XQ]
  have step:¬((Zl l i).text=z∧(Zl l i).kind=kd)→∀ j,j<i+1→¬((Zl l j).text=z∧(Zl l j).kind=kd):=fun e j hj=>by
   rcases Nat.lt_succ_iff_lt_or_eq.mp hj with hj|rfl
   ·exact hi.2 j hj
   ·exact e
  refine ⟨by omega,fun h=>?_,fun h=>?_⟩
  ·have cl2:∀ (i:Nat) (c:AV),i<l.length→c=AV.lit (Value.string (Zl l i).text)∨c=AV.lit (Value.int IntKind.i64 (Zl l i).kind)∨c=AV.lit (Value.int IntKind.i64 (Zl l i).level)∨c=AV.lit (Value.int IntKind.i64 (Zl l i).side)→Closed c:=by
    rintro i c _ (rfl|rfl|rfl|rfl)<;>exact .lit _
   refine ⟨h,fun e1=>⟨h,fun e2=>?_,fun e2=>⟨i+1,⟨by omega,fun j hj e3 e4=>step (fun e5=>e2 e5.2) j hj ⟨e3,e4⟩⟩,by omega,Zj (by omega),cl2⟩⟩,fun e1=>⟨i+1,⟨by omega,fun j hj e3 e4=>step (fun e5=>e1 e5.1) j hj ⟨e3,e4⟩⟩,by omega,Zj (by omega),cl2⟩⟩
   simp only [Z5,List.any_eq_true,List.mem_range]
   exact ⟨i,h,by simp [e1,e2]⟩
  ·simp only [Z5,List.any_eq_false,List.mem_range]
   exact fun j hj=>by
    have:=hi.2 j (by omega)
    simp only [Bool.and_eq_true,decide_eq_true_eq]
    exact this
def KA (c:UInt8):List UInt8→List (List UInt8)
  |[]=>[[]]
  |b::r=>if b=c then []::KA c r else match KA c r with
    |p::ps=>(b::p)::ps
    |[]=>[[b]]
theorem Hd {c:UInt8}:∀ (p:List UInt8),c∉p→∀ r,KA c (p++c::r)=p::KA c r
  |[],_,r=>by simp [KA]
  |b::p,h,r=>by
    have hb:¬b=c:=fun e=>h (by simp [e])
    have:=Hd p (fun hm=>h (List.mem_cons_of_mem _ hm)) r
    simp only [List.cons_append]
    rw [KA,if_neg hb,this]
theorem Kt {c:UInt8}:∀ (p:List UInt8),c∉p→KA c p=[p]
  |[],_=>rfl
  |b::p,h=>by
    have hb:¬b=c:=fun e=>h (by simp [e])
    rw [KA,if_neg hb,Kt p (fun hm=>h (List.mem_cons_of_mem _ hm))]
theorem HO {c:UInt8}:∀ (l:List UInt8),(c∉l∧Lib.index l [c]=-1)∨∃ p r,l=p++c::r∧c∉p∧Lib.index l [c]=p.length
  |[]=>.inl ⟨by simp,rfl⟩
  |b::l=>by
    by_cases hb:b=c
    · subst hb
      exact .inr ⟨[],l,rfl,by simp,by simp [Lib.index]⟩
    · have hp:([c].isPrefixOf (b::l))=false:=by
        simp [List.isPrefixOf]
        exact fun e=>hb e.symm
      rcases HO (c:=c) l with ⟨h1,h2⟩|⟨p,r,rfl,h1,h2⟩
      · refine .inl ⟨by simp [h1];exact fun e=>hb e.symm,?_⟩
        simp only [Lib.index,hp,h2];rfl
      · refine .inr ⟨b::p,r,rfl,by simp [h1];exact fun e=>hb e.symm,?_⟩
        simp only [Lib.index,hp,h2]
        have:¬((p.length:Int)==-1)=true:=by simp<;>omega
        simp only [this,if_false,Bool.false_eq_true,List.length_cons]
        omega
theorem Zcg {c:UInt8}:∀ (k:Nat) (l:List UInt8),l.length≤k→Lib.splitK [c] 0 (Lib.count l [c]) l=KA c l
  |k,l,hk=>by
    rcases HO (c:=c) l with ⟨h1,h2⟩|⟨p,r,rfl,h1,h2⟩
    · rw [Lib.count_miss h2,Kt l h1];rfl
    · rw [Lib.count_hit (by simp) h2,Hd p h1]
      match k,hk with
      |0,hk=>simp at hk
      |k+1,hk=>
        have hr:r.length≤k:=by simp at hk;omega
        have e:(p++c::r).drop (p.length+[c].length)=r:=by simp
        rw [e,Nat.add_comm 1,Lib.splitK]
        have hm:¬(Lib.index (p++c::r) [c]==-1)=true:=by rw [h2];simp<;>omega
        rw [if_neg hm,h2]
        have e2:(p++c::r).take (((p.length:Nat):Int).toNat+0)=p:=by simp
        have e3:(p++c::r).drop (((p.length:Nat):Int).toNat+[c].length)=r:=by simp
        rw [e2,e3,Zcg k r hr]
def Z4 (c:UInt8) (z:ByteArray):List ByteArray:=(KA c z.data.toList).map fun l=>⟨l.toArray⟩
theorem ZgM (c:UInt8) (z:ByteArray):Lib.splitB ⟨#[c]⟩ 0 (Lib.countB z ⟨#[c]⟩) z=Z4 c z:=by
  have h:=Lib.splitB_data ⟨#[c]⟩ 0 (Lib.countB z ⟨#[c]⟩) z
  have h2:Lib.countB z ⟨#[c]⟩=Lib.count z.data.toList [c]:=rfl
  rw [h2] at h ⊢
  rw [show ((⟨#[c]⟩:ByteArray).data.toList)=[c] from rfl,Zcg _ _ (Nat.le_refl _)] at h
  unfold Z4
  rw [←h,List.map_map]
  refine (List.map_id _).symm.trans (List.map_congr_left fun x _=>?_)
  cases x;simp
def Yt (c:UInt8) (z:ByteArray):Nat→List (Nat×Nat)×Nat
  |0=>([],0)
  |i+1=>if i=z.size∨Ze z i=c.toNat then ((Yt c z i).1++[((Yt c z i).2,i)],i+1) else Yt c z i
theorem GF {z:ByteArray} {i:Nat} (hi:i<z.size):∃ b:UInt8,z.data.toList[i]?=some b∧Ze z i=b.toNat:=by
  refine ⟨z[i],?_,?_⟩
  · rw [Array.getElem?_toList]
    exact Array.getElem?_eq_getElem hi
  · unfold Ze;rw [dif_pos hi]
theorem J6 (z:ByteArray) (a b:Nat):(z.extract a b).data.toList=(z.data.toList.drop a).take (b-a):=by
  rw [ByteArray.data_extract,Array.toList_extract,List.extract]
theorem JV {c:UInt8} {l:List UInt8} {n:Nat} (h:∀ j,j<n→l[j]?≠some c):c∉l.take n:=fun hm=>by
  obtain ⟨j,hj⟩:=List.getElem?_of_mem hm
  rw [List.getElem?_take] at hj
  split at hj
  · exact h j (by assumption) hj
  · cases hj
theorem Zfg {c:UInt8} {z:ByteArray}:∀ i,i≤z.size→(Yt c z i).2≤i∧(∀ j,(Yt c z i).2≤j→j<i→z.data.toList[j]?≠some c)∧KA c z.data.toList=((Yt c z i).1.map fun p=>(z.extract p.1 p.2).data.toList)++KA c (z.data.toList.drop (Yt c z i).2)
  |0,_=>⟨Nat.le_refl _,fun j _ h=>by omega,by simp [Yt]⟩
  |i+1,hi=>by
    obtain ⟨h1,h2,h3⟩:=Zfg (c:=c) (z:=z) i (by omega)
    obtain ⟨b,hb,eb⟩:=GF (z:=z) (i:=i) (by omega)
    unfold Yt
    by_cases hc:Ze z i=c.toNat
    · rw [if_pos (.inr hc)]
      have ebc:b=c:=by
        rw [eb] at hc
        exact UInt8.toNat_inj.1 (by omega)
      subst ebc
      refine ⟨Nat.le_refl _,fun j g1 g2=>by simp only at g1;omega,?_⟩
      generalize Yt b z i=q at *
      have e:z.data.toList.drop q.2=(z.extract q.2 i).data.toList++b::z.data.toList.drop (i+1):=by
        rw [J6]
        have e1:z.data.toList.drop q.2=(z.data.toList.drop q.2).take (i-q.2)++(z.data.toList.drop q.2).drop (i-q.2):=(List.take_append_drop _ _).symm
        rw [List.drop_drop,show q.2+(i-q.2)=i by omega] at e1
        have hlt:i<z.data.toList.length:=(List.getElem?_eq_some_iff.1 hb).1
        rw [List.drop_eq_getElem_cons hlt,show z.data.toList[i]=b from (List.getElem?_eq_some_iff.1 hb).2] at e1
        exact e1
      rw [h3,e,Hd _ (by rw [J6];exact JV fun j hj=>by rw [List.getElem?_drop];exact h2 _ (by omega) (by omega))]
      simp
    · rw [if_neg (by rintro (h|h);· omega
                     · exact hc h)]
      refine ⟨by omega,fun j g1 g2=>?_,h3⟩
      by_cases e:j=i
      · subst e
        rw [hb]
        intro e2
        cases e2
        exact hc eb
      · exact h2 j g1 (by omega)
theorem Hc (c:UInt8) (z:ByteArray):((Yt c z (z.size+1)).1.map fun p=>z.extract p.1 p.2)=Z4 c z:=by
  obtain ⟨h1,h2,h3⟩:=Zfg (c:=c) (z:=z) z.size (Nat.le_refl _)
  rw [Yt,if_pos (.inl rfl)]
  have hl:z.data.toList.length=z.size:=rfl
  have e:z.data.toList.drop (Yt c z z.size).2=(z.extract (Yt c z z.size).2 z.size).data.toList:=by
    rw [J6,List.take_of_length_le (by rw [List.length_drop];omega)]
  rw [Kt (z.data.toList.drop (Yt c z z.size).2) (by
    rw [e,J6]
    exact JV fun j hj=>by rw [List.getElem?_drop];exact h2 _ (by omega) (by omega)),e] at h3
  unfold Z4
  rw [h3]
  simp only [List.map_append,List.map_cons,List.map_nil,List.map_map]
  congr 1
def WR (z:ByteArray):List ByteArray:=(Z4 32 z).filter fun w=>decide (0<w.size)
def Gt (l:List POp) (z:ByteArray):Bool:=Z5 l z 1||Z5 l z 2||Z5 l z 3
theorem Zk0 (l:List POp) (hl:l.length≤9223372036854775807) (z:ByteArray):VFun Tryz.prog 129 [.agg [.sl 4 l.length (Za l)],.lit (.string z)] (fun av obs=>obs=[]∧av=.lit (.bool (Gt l z))):=by
 have cl:∀ (i:Nat) (c:AV),i<l.length→c∈Za l i→Closed c:=fun i c _ h=>Zo l i c h
 have dec:∀ (r:Int) (b:Bool),(0≤r↔b=true)→decide (0≤r)=b:=fun r b h=>by cases b<;>simp_all
 refine Zd Tryz.func129 (by kernel_rfl) rfl (by simp [Tryz.ntmps129]) ?_;simp only [Tryz.ntmps129,Tryz.results129];simp [go_sem]
 refine ZP (UB l hl z 1) ?_ ?_
 ·simp [go_sem]
  exact Zb (by omega) cl
 ·rintro av obs ⟨rfl,r,rfl,hr⟩
  simp [go_sem]
  refine ⟨fun e1=>ZP (UB l hl z 2) ?_ ?_,fun e1=>by simp [Gt,hr.1 e1]⟩
  ·simp [go_sem]
   exact Zb (by omega) cl
  ·have n1:Z5 l z 1=false:=by rw [Bool.eq_false_iff];exact fun e=>by have:=hr.2 e;omega
   rintro av obs ⟨rfl,r2,rfl,hr2⟩
   simp [go_sem]
   refine ⟨fun e2=>ZP (UB l hl z 3) ?_ ?_,fun e2=>by simp [Gt,hr2.1 e2]⟩
   ·simp [go_sem]
    exact Zb (by omega) cl
   ·have n2:Z5 l z 2=false:=by rw [Bool.eq_false_iff];exact fun e=>by have:=hr2.2 e;omega
    rintro av obs ⟨rfl,r3,rfl,hr3⟩
    simp [go_sem,Gt,n1,n2,dec r3 _ hr3]
def XZ (l:List POp) (z:ByteArray):Int:=if Vq z then 1 else if Qo z then 2 else if z=⟨#[40]⟩ then 4 else if z=⟨#[41]⟩ then 5 else if Gt l z then 3 else 6
theorem Zfz (l:List POp) (hl:l.length≤9223372036854775807) (z:ByteArray) (hz:z.size≤9223372036854775807):VFun Tryz.prog 97 [.agg [.sl 4 l.length (Za l)],.lit (.string z)] (fun av obs=>obs=[]∧av=.lit (.int .i64 (XZ l z))):=by
 have cl:∀ (i:Nat) (c:AV),i<l.length→c∈Za l i→Closed c:=fun i c _ h=>Zo l i c h
 refine Zd Tryz.func97 (by kernel_rfl) rfl (by simp [Tryz.ntmps97]) ?_;simp only [Tryz.ntmps97,Tryz.results97];simp [go_sem]
 refine Zc (Hf z hz) ?_ ?_
 ·simp [go_sem]
 ·simp [go_sem]
  refine ⟨fun e1=>by simp [XZ,e1],fun e1=>Zc (Zbr z hz) ?_ ?_⟩
  ·simp [go_sem]
  ·simp [go_sem]
   have b1:z.toList=[40]↔z=⟨#[40]⟩:=by have:=XQ z ⟨#[40]⟩;simpa using this
   have b2:z.toList=[41]↔z=⟨#[41]⟩:=by have:=XQ z ⟨#[41]⟩;simpa using this
   refine ⟨fun e2=>by simp [XZ,e1,e2],fun e2=>⟨fun e3=>by rw [b1] at e3;simp only [XZ,e1,e2,if_pos e3];rfl,fun e3=>⟨fun e4=>by rw [b1] at e3;rw [b2] at e4;simp only [XZ,e1,e2,if_neg e3,if_pos e4];rfl,fun e4=>Zc (Zk0 l hl z) ?_ ?_⟩⟩⟩
   ·simp [go_sem]
    exact Zb (by omega) cl
   ·rw [b1] at e3
    rw [b2] at e4
    simp [go_sem]
    simp only [XZ,e1,e2,if_neg e3,if_neg e4]
    refine ⟨fun e5=>?_,fun e5=>?_⟩<;>rw [e5]<;>rfl
def Z9 (c:Int):Bool:=UE c||XV c
def run (p:Int→Bool) (z:ByteArray) (j:Nat):Nat:=if h:j<z.size then if p (Ze z j) then 1+run p z (j+1) else 0 else 0
termination_by z.size-j
theorem VC {p:Int→Bool} {z:ByteArray} {j:Nat} (h:z.size≤j):run p z j=0:=by rw [run,dif_neg (by omega)]
theorem Wv {p:Int→Bool} {z:ByteArray} {j:Nat} (h:j<z.size) (e:p (Ze z j)=true):run p z j=1+run p z (j+1):=by
 conv=>lhs;rw [run]
 rw [dif_pos h,if_pos e]
theorem VW {p:Int→Bool} {z:ByteArray} {j:Nat} (h:j<z.size) (e:p (Ze z j)=false):run p z j=0:=by rw [run,dif_pos h,if_neg (by rw [e];simp)]
theorem Zdd (p:Int→Bool) (z:ByteArray) (j:Nat) (h:j≤z.size):j+run p z j≤z.size:=by
 rcases Nat.lt_or_ge j z.size with h1|h1
 ·cases e:p (Ze z j)
  ·rw [VW h1 e];omega
  ·have:=Zdd p z (j+1) (by omega)
   rw [Wv h1 e];omega
 ·rw [VC h1];omega
termination_by z.size-j
def YW (z:ByteArray) (i:Nat):Nat:=if UZ (Ze z i) then (if z.size-i<16 then z.size-i else 16) else if Z9 (Ze z i) then 1+run Z9 z (i+1) else 1
theorem Zi6 (z:ByteArray) (hz:z.size≤1048576) (i:Nat) (hi:i<z.size):VFun Tryz.prog 128 [.lit (.string z),.lit (.int .i64 i)] (fun av obs=>obs=[]∧av=.lit (.int .i64 (YW z i))):=by
 refine Zd Tryz.func128 (by kernel_rfl) rfl (by simp [Tryz.ntmps128]) ?_;simp only [Tryz.ntmps128,Tryz.results128];simp [go_sem]
 refine ⟨hi,Zc (Zbt (Ze z i)) ?_ ?_⟩
 ·simp [go_sem]
 ·simp [go_sem]
  rw [wrap_i64 (by omega)]
  refine ⟨fun e0=>⟨fun h=>?_,fun h=>?_⟩,fun e0=>?_⟩
  ·simp only [YW,e0,if_true]
   rw [if_pos (by omega)];omega
  ·simp only [YW,e0,if_true]
   rw [if_neg (by omega)];rfl
  ·refine ZN (fun n:Nat=>1≤n∧i+n≤z.size∧YW z i=if Z9 (Ze z i) then n+run Z9 z (i+n) else n) (fun n=>z.size-n) (fun n=>.of [(0,.lit (.string z)),(1,.lit (.int .i64 i)),(5,.lit (.int .i64 n))] []) ⟨1,⟨by omega,by omega,?_⟩,?_⟩ (fun n hn=>?_)
   ·simp only [YW,e0]
    simp
   ·simp [go_sem]
   ·obtain ⟨h1,h2,h3⟩:=hn
    simp [go_sem]
    rw [wrap_i64 (n:=(i:Int)+n) (by omega)]
    have ex:z.size≤i+n→(n:Int)=YW z i:=fun h=>by
     rw [h3,VC h];simp
    refine ⟨fun h=>⟨hi,Zc (QC (Ze z i)) ?_ ?_⟩,fun h=>ex (by omega)⟩
    ·simp [go_sem]
    ·have hlt:((i:Int)+n<z.size)=True:=by simp;omega
     cases eL:UE (Ze z i) with
     |true=>
      have al:Z9 (Ze z i)=true:=by simp [Z9,eL]
      rw [al,if_pos rfl] at h3
      have stop:Z9 (Ze z (i+n))=false→(n:Int)=YW z i:=fun e=>by rw [h3,VW (by omega) e];simp
      have go_:Z9 (Ze z (i+n))=true→1≤n+1∧i+(n+1)≤z.size∧YW z i=if Z9 (Ze z i) then n+1+run Z9 z (i+(n+1)) else n+1:=fun e=>⟨by omega,by omega,by rw [al,if_pos rfl,h3,Wv (by omega) e,show i+(n+1)=i+n+1 by omega];omega⟩
      simp [go_sem]
      simp only [wrap_i64 (n:=(i:Int)+n) (by omega),show ((i:Int)+n).toNat=i+n by omega]
      refine ⟨by omega,by omega,Zc (QC (Ze z (i+n))) ?_ ?_⟩
      ·simp [go_sem]
      ·have done_:Z9 (Ze z (i+n))=true→∃ j:Nat,(1≤j∧i+j≤z.size∧YW z i=if Z9 (Ze z i)=true then j+run Z9 z (i+j) else j)∧z.size-j<z.size-n∧IntKind.i64.wrap ((n:Int)+1)=j:=fun e=>⟨n+1,go_ e,by omega,Zj (by omega)⟩
       cases fL:UE (Ze z (i+n)) with
       |true=>
        simp [go_sem]
        exact done_ (by simp [Z9,fL])
       |false=>
        simp [go_sem]
        simp only [wrap_i64 (n:=(i:Int)+n) (by omega),show ((i:Int)+n).toNat=i+n by omega]
        refine ⟨by omega,by omega,Zc (Qe (Ze z (i+n))) ?_ ?_⟩
        ·simp [go_sem]
        ·simp [go_sem]
         exact ⟨fun e=>done_ (by simp [Z9,e]),fun e=>stop (by simp [Z9,fL,e])⟩
     |false=>
      simp [go_sem]
      refine ⟨hi,Zc (Qe (Ze z i)) ?_ ?_⟩
      ·simp [go_sem]
      ·cases eD:XV (Ze z i) with
       |true=>
        have al:Z9 (Ze z i)=true:=by simp [Z9,eL,eD]
        rw [al,if_pos rfl] at h3
        have stop:Z9 (Ze z (i+n))=false→(n:Int)=YW z i:=fun e=>by rw [h3,VW (by omega) e];simp
        have go_:Z9 (Ze z (i+n))=true→1≤n+1∧i+(n+1)≤z.size∧YW z i=if Z9 (Ze z i) then n+1+run Z9 z (i+(n+1)) else n+1:=fun e=>⟨by omega,by omega,by rw [al,if_pos rfl,h3,Wv (by omega) e,show i+(n+1)=i+n+1 by omega];omega⟩
        simp [go_sem]
        simp only [wrap_i64 (n:=(i:Int)+n) (by omega),show ((i:Int)+n).toNat=i+n by omega]
        refine ⟨by omega,by omega,Zc (QC (Ze z (i+n))) ?_ ?_⟩
        ·simp [go_sem]
        ·have done_:Z9 (Ze z (i+n))=true→∃ j:Nat,(1≤j∧i+j≤z.size∧YW z i=if Z9 (Ze z i)=true then j+run Z9 z (i+j) else j)∧z.size-j<z.size-n∧IntKind.i64.wrap ((n:Int)+1)=j:=fun e=>⟨n+1,go_ e,by omega,Zj (by omega)⟩
         cases fL:UE (Ze z (i+n)) with
         |true=>
          simp [go_sem]
          exact done_ (by simp [Z9,fL])
         |false=>
          simp [go_sem]
          simp only [wrap_i64 (n:=(i:Int)+n) (by omega),show ((i:Int)+n).toNat=i+n by omega]
          refine ⟨by omega,by omega,Zc (Qe (Ze z (i+n))) ?_ ?_⟩
          ·simp [go_sem]
          ·simp [go_sem]
           exact ⟨fun e=>done_ (by simp [Z9,e]),fun e=>stop (by simp [Z9,fL,e])⟩
       |false=>
        simp [go_sem]
        have al:Z9 (Ze z i)=false:=by simp [Z9,eL,eD]
        rw [al] at h3
        rw [h3];simp
def Wm (l:List POp) (z:ByteArray) (i:Nat):Nat→Nat
 |0=>1
 |n+1=>if n=0 then 1 else if XZ l (z.extract i (i+(n+1)))≠6 then n+1 else Wm l z i n
def ZL (l:List POp) (z:ByteArray) (i:Nat):Nat:=Wm l z i (YW z i)
theorem U5 (z:ByteArray) (i:Nat) (hi:i<z.size):1≤YW z i∧i+YW z i≤z.size:=by
 unfold YW
 split
 ·split<;>omega
 ·split
  ·have:=Zdd Z9 z (i+1) (by omega)
   omega
  ·omega
theorem Zfy (l:List POp) (hl:l.length≤9223372036854775807) (z:ByteArray) (hz:z.size≤1048576) (i:Nat) (hi:i<z.size):VFun Tryz.prog 96 [.agg [.sl 4 l.length (Za l)],.lit (.string z),.lit (.int .i64 i)] (fun av obs=>obs=[]∧av=.lit (.int .i64 (ZL l z i))):=by
 have cl:∀ (i:Nat) (c:AV),i<l.length→c∈Za l i→Closed c:=fun i c _ h=>Zo l i c h
 have hr:=U5 z i hi
 refine Zd Tryz.func96 (by kernel_rfl) rfl (by simp [Tryz.ntmps96]) ?_;simp only [Tryz.ntmps96,Tryz.results96];simp [go_sem]
 refine Zc (Zi6 z hz i hi) ?_ ?_
 ·simp [go_sem]
 ·simp [go_sem]
  refine ZN (fun n:Nat=>1≤n∧i+n≤z.size∧ZL l z i=Wm l z i n) (fun n=>n) (fun n=>.of [(1,.lit (.string z)),(2,.lit (.int .i64 i)),(3,.ptr 0 1 0 0),(7,.lit (.int .i64 n))] [some ⟨55,1,1,fun _=>[.sl 4 l.length (Za l)]⟩]) ⟨YW z i,⟨by omega,by omega,rfl⟩,?_⟩ (fun n hn=>?_)
  ·simp [go_sem]
   exact cl
  ·simp [go_sem]
   refine ⟨fun h=>?_,fun h=>?_⟩
   ·refine Zn [] (.q 0 <| .q 1 <| .q 2 <| .q 3 <| .q 4 <| .q 5 <| .q 6 <| .or 7 (.q 8 <| .done) (.nil)) (by kernel_rfl) ?_
    simp [go_sem]
    simp only [wrap_i64 (n:=(i:Int)+n) (by omega),show ((i:Int)+n).toNat=i+n by omega]
    refine ⟨by omega,by omega,Zv (Zfz l hl (z.extract i (i+n)) (by rw [ByteArray.size_extract];omega)) ?_ ?_⟩
    ·simp [go_sem]
     exact Zb (by omega) cl
    ·obtain ⟨h1,h2,h3⟩:=hn
     obtain ⟨m,rfl⟩:∃ m,n=m+1:=⟨n-1,by omega⟩
     simp [go_sem]
     refine ⟨fun e=>?_,fun e=>?_⟩
     ·rw [h3,Wm,if_neg (by omega),if_pos (by simpa using e)]
      omega
     ·rw [h3,Wm,if_neg (by omega),if_neg (by simpa using e)]
      exact ⟨m,⟨by omega,by omega,rfl⟩,by omega,wrap_i64 (by omega),cl⟩
   ·have e:n=1:=by omega
    rw [hn.2.2,e];rfl
def Jl (w:ByteArray):Nat→Nat
 |0=>0
 |i+1=>Jl w i*10+(Ze w i-48).toNat
theorem G8 {w:ByteArray} (h:Vq w=true):∀ i,i≤w.size→Jl w i<10^i
 |0,_=>by simp [Jl]
 |i+1,hi=>by
  have ih:=G8 h i (by omega)
  simp only [Vq,Bool.and_eq_true,List.all_eq_true,List.mem_range] at h
  have:=h.1 i (by omega)
  simp only [XV,Bool.and_eq_true,decide_eq_true_eq] at this
  rw [Jl,Nat.pow_succ]
  omega
theorem Zk8 {w:ByteArray} (h:Vq w=true):Lib.atoi w.data.toList=some ((Jl w w.size:Nat):Int):=by
 have h0:=h
 simp only [Vq,Bool.and_eq_true,List.all_eq_true,List.mem_range,decide_eq_true_eq] at h
 have dig:∀ i,i<w.size→∃ b:UInt8,w.data.toList[i]?=some b∧Lib.digitVal b=some (Ze w i-48).toNat∧48≤b.toNat∧b.toNat≤57:=fun i hi=>by
  obtain ⟨b,h1,h2⟩:=GF hi
  have:=h.1 i hi
  simp only [XV,Bool.and_eq_true,decide_eq_true_eq] at this
  refine ⟨b,h1,?_,by omega,by omega⟩
  unfold Lib.digitVal
  rw [if_pos (by omega),h2]
  congr 1
  omega
 have step:∀ i,i≤w.size→Lib.decFrom 0 (w.data.toList.take i)=some (Jl w i):=fun i=>by
  induction i with
  |zero=>intro _;rfl
  |succ i ih=>
   intro hi
   obtain ⟨b,h1,h2,_⟩:=dig i (by omega)
   exact Lib.decFrom_take _ i 0 _ b _ (ih (by omega)) h1 h2
 have hl:w.data.toList.length=w.size:=rfl
 have hs:=step w.size (Nat.le_refl _)
 rw [List.take_of_length_le (by omega)] at hs
 obtain ⟨b,h1,_,h3,h4⟩:=dig 0 h.2
 match hd:w.data.toList,h1,hs with
 |x::r,h1,hs=>
  simp only [List.getElem?_cons_zero,Option.some.injEq] at h1
  subst h1
  have n45:¬(x==45)=true:=fun e=>by
   have:x=45:=by simpa using e
   rw [this] at h3;exact absurd h3 (by decide)
  have n43:¬(x==43)=true:=fun e=>by
   have:x=43:=by simpa using e
   rw [this] at h3;exact absurd h3 (by decide)
  simp only [Lib.atoi,if_neg n45,if_neg n43,Lib.decNat,List.isEmpty_cons,Bool.false_eq_true,if_false,hs,Option.map_some]
def Y1 (w:ByteArray):Option Nat:=if Vq w=true∧w.size≤6 then some (Jl w w.size) else none
def ZdA:ByteArray:=⟨#[98,101,103,105,110]⟩
def KK:ByteArray:=⟨#[117,115,101]⟩
def V4:ByteArray:=⟨#[112,114,101,102,105,120]⟩
def VO:ByteArray:=⟨#[105,110,102,105,120]⟩
def WE:ByteArray:=⟨#[112,111,115,116,102,105,120]⟩
def Zdz:ByteArray:=⟨#[108,101,102,116]⟩
def G4:ByteArray:=⟨#[114,105,103,104,116]⟩
def Zdy:ByteArray:=⟨#[110,111,110,101]⟩
def WH (w:ByteArray):Nat:=if w=Zdz then 1 else if w=G4 then 2 else if w=Zdy then 3 else 0
def WV (ws:List ByteArray) (i:Nat):ByteArray:=ws.getD i ByteArray.empty
def Xa (ws:List ByteArray):Option POp:=
 if ws.length<3 then none else match Y1 (WV ws 2) with
  |none=>none
  |some v=>if WV ws 0=V4∧ws.length=3 then some ⟨WV ws 1,1,v,0⟩ else if WV ws 0=WE∧ws.length=3 then some ⟨WV ws 1,3,v,0⟩
   else if WV ws 0=VO∧ws.length=4∧0<WH (WV ws 3) then some ⟨WV ws 1,2,v,WH (WV ws 3)⟩ else none
structure US where
 uses:List ByteArray
 ops:List POp
 bad:Nat
def Y3 (ws:List ByteArray):Bool:=decide (ws=[ZdA])
def Xw (st:US) (i:Nat) (ws:List ByteArray):US:=
 if ws=[] then st else match Xa ws with
  |some o=>{ st with ops:=st.ops++[o] }
  |none=>if ws.length=2∧WV ws 0=KK then { st with uses:=st.uses++[WV ws 1] } else { st with bad:=if st.bad=0 then i+1 else st.bad }
def usR (L:List (List ByteArray)):Nat→US
 |0=>⟨[],[],0⟩
 |i+1=>Xw (usR L i) i (L.getD i [])
def Vf (L:List (List ByteArray)):Option Nat:=L.findIdx? Y3
def Zt (z:ByteArray):List (List ByteArray):=(Z4 10 z).map WR
def VZ (ps:List ByteArray):Nat→Nat
 |0=>0
 |i+1=>VZ ps i+(ps.getD i ByteArray.empty).size+1
def Vp (c:UInt8) (z:ByteArray) (k:Nat):Nat×Nat:=(Yt c z (z.size+1)).1.getD k (0,0)
theorem Zbh {c:UInt8} {z:ByteArray}:∀ i,i≤z.size+1→(Yt c z i).2≤i∧(∀ k,k<(Yt c z i).1.length→((Yt c z i).1.getD k (0,0)).1≤((Yt c z i).1.getD k (0,0)).2∧((Yt c z i).1.getD k (0,0)).2≤z.size∧((Yt c z i).1.getD k (0,0)).1=if k=0 then 0 else ((Yt c z i).1.getD (k-1) (0,0)).2+1)∧(Yt c z i).2=if (Yt c z i).1.length=0 then 0 else ((Yt c z i).1.getD ((Yt c z i).1.length-1) (0,0)).2+1
 |0,_=>by simp [Yt]
 |i+1,hi=>by
  obtain ⟨h1,h2,h3⟩:=Zbh (c:=c) (z:=z) i (by omega)
  unfold Yt
  split
  ·generalize Yt c z i=q at *
   obtain ⟨D,a⟩:=q
   simp only at *
   have old:∀ k,k<D.length→(D++[(a,i)]).getD k (0,0)=D.getD k (0,0):=fun k hk=>by
    rw [List.getD_eq_getElem?_getD,List.getD_eq_getElem?_getD,List.getElem?_append_left hk]
   have new:(D++[(a,i)]).getD D.length (0,0)=(a,i):=by
    rw [List.getD_eq_getElem?_getD,List.getElem?_append_right (Nat.le_refl _)];simp
   refine ⟨Nat.le_refl _,fun k hk=>?_,?_⟩
   ·simp only [List.length_append,List.length_singleton] at hk
    by_cases e:k<D.length
    ·rw [old k e]
     obtain ⟨g1,g2,g3⟩:=h2 k e
     refine ⟨g1,g2,g3.trans ?_⟩
     split
     ·rfl
     ·rw [old (k-1) (by omega)]
    ·obtain rfl:k=D.length:=by omega
     rw [new]
     refine ⟨h1,by simp only;omega,?_⟩
     refine h3.trans ?_
     split
     ·rfl
     ·rw [old _ (by omega)]
   ·simp only [List.length_append,List.length_singleton,Nat.add_sub_cancel]
    rw [if_neg (by omega),new]
  ·exact ⟨by omega,h2,h3⟩
theorem Zdg (c:UInt8) (z:ByteArray):(Yt c z (z.size+1)).1.length=(Z4 c z).length:=by rw [←Hc,List.length_map]
theorem Zdh (c:UInt8) (z:ByteArray):∀ k,k<(Z4 c z).length→(Vp c z k).1=VZ (Z4 c z) k∧(Vp c z k).2+1=VZ (Z4 c z) (k+1)∧(Vp c z k).1≤(Vp c z k).2∧(Vp c z k).2≤z.size∧z.extract (Vp c z k).1 (Vp c z k).2=(Z4 c z).getD k ByteArray.empty:=by
 have hc:=(Zbh (c:=c) (z:=z) (z.size+1) (Nat.le_refl _)).2.1
 rw [Zdg] at hc
 have he:∀ k,k<(Z4 c z).length→z.extract (Vp c z k).1 (Vp c z k).2=(Z4 c z).getD k ByteArray.empty:=fun k hk=>by
  have h:=Hc c z
  rw [←h,List.getD_eq_getElem?_getD,List.getElem?_map]
  unfold Vp
  rw [List.getD_eq_getElem?_getD,List.getElem?_eq_getElem (by rw [Zdg];exact hk)]
  rfl
 intro k
 induction k with
 |zero=>
  intro hk
  obtain ⟨g1,g2,g3⟩:=hc 0 hk
  have h0:=he 0 hk
  rw [if_pos rfl] at g3
  refine ⟨g3,?_,g1,g2,h0⟩
  unfold VZ VZ
  rw [←h0,ByteArray.size_extract]
  show _+1=0+(min _ _ - _)+1
  have e1:(Vp c z 0).1=0:=g3
  have e2:(Vp c z 0).2≤z.size:=g2
  omega
 |succ k ih=>
  intro hk
  obtain ⟨i1,i2,_⟩:=ih (by omega)
  obtain ⟨g1,g2,g3⟩:=hc (k+1) hk
  have h0:=he (k+1) hk
  rw [if_neg (by omega),Nat.add_sub_cancel] at g3
  have e1:(Vp c z (k+1)).1=(Vp c z k).2+1:=g3
  have e2:(Vp c z (k+1)).2≤z.size:=g2
  have e3:(Vp c z (k+1)).1≤(Vp c z (k+1)).2:=g1
  refine ⟨by omega,?_,e3,e2,h0⟩
  rw [VZ,←h0,ByteArray.size_extract]
  omega
structure Unt where
 uses:List ByteArray
 ops:List POp
 body:ByteArray
def Z2 (z:ByteArray):Unt×Int×Int:=
 if 20000<z.size then (⟨[],[],⟨#[]⟩⟩,1,0) else
  match Vf (Zt z) with
  |none=>if (usR (Zt z) (Zt z).length).bad=0 then (⟨[],[],⟨#[]⟩⟩,3,0) else (⟨[],[],⟨#[]⟩⟩,2,(usR (Zt z) (Zt z).length).bad)
  |some k=>if (usR (Zt z) k).bad=0 then (⟨(usR (Zt z) k).uses,(usR (Zt z) k).ops,z.extract (min (VZ (Z4 10 z) (k+1)) z.size) z.size⟩,0,0) else (⟨[],[],⟨#[]⟩⟩,2,(usR (Zt z) k).bad)
end Go.Proofs.YtadghlfkddkelaaGreatDoor.V
namespace Go.Proofs.YtadghlfkddkelaaGreatDoor.V
def XL (R:Nat→Nat→Bool):Nat→Nat→Nat→Bool
 |0,i,j=>R i j
 |m+1,i,j=>XL R m i j||(XL R m i m&&XL R m m j)
inductive Pth (R:Nat→Nat→Bool) (n:Nat):Nat→Nat→Prop
 |one {i j:Nat} (h:R i j=true):Pth R n i j
 |cons {i k j:Nat} (h:R i k=true) (hk:k<n) (r:Pth R n k j):Pth R n i j
theorem Pth.up {R:Nat→Nat→Bool} {n m i j:Nat} (h:Pth R n i j) (hnm:n≤m):Pth R m i j:=by
 induction h with
 |one h=>exact .one h
 |cons h hk r ih=>exact .cons h (by omega) ih
theorem Pth.app {R:Nat→Nat→Bool} {n i k j:Nat} (h:Pth R n i k) (hk:k<n) (h2:Pth R n k j):Pth R n i j:=by
 induction h with
 |one h=>exact .cons h hk h2
 |cons h hk' r ih=>exact .cons h hk' (ih hk h2)
theorem Xz {R:Nat→Nat→Bool}:∀ (m i j:Nat),XL R m i j=true↔Pth R m i j
 |0,i,j=>⟨fun h=>.one h,fun h=>by
  cases h with
  |one h=>exact h
  |cons h hk r=>exact absurd hk (Nat.not_lt_zero _)⟩
 |m+1,i,j=>by
  refine ⟨fun h=>?_,fun h=>?_⟩
  ·simp only [XL,Bool.or_eq_true,Bool.and_eq_true] at h
   rcases h with h|⟨h1,h2⟩
   ·exact ((Xz m i j).1 h).up (by omega)
   ·exact (((Xz m i m).1 h1).up (by omega)).app (by omega) (((Xz m m j).1 h2).up (by omega))
  ·induction h with
   |one h=>simp only [XL,Bool.or_eq_true];exact .inl ((Xz m _ _).2 (.one h))
   |cons h hk r ih=>
    rename_i i k j
    simp only [XL,Bool.or_eq_true,Bool.and_eq_true] at ih ⊢
    by_cases e:k=m
    ·subst e
     refine .inr ⟨(Xz k _ _).2 (.one h),?_⟩
     rcases ih with ih|⟨_,ih⟩<;>exact ih
    ·have hk':k<m:=by omega
     rcases ih with ih|⟨ih1,ih2⟩
     ·exact .inl ((Xz m _ _).2 (.cons h hk' ((Xz m _ _).1 ih)))
     ·exact .inr ⟨(Xz m _ _).2 (.cons h hk' ((Xz m _ _).1 ih1)),ih2⟩
theorem Zjo {R:Nat→Nat→Bool} {m i:Nat}:XL R (m+1) i m=XL R m i m:=by
 show (XL R m i m||(XL R m i m&&XL R m m m))=_
 cases XL R m i m<;>simp
theorem Zjn {R:Nat→Nat→Bool} {m j:Nat}:XL R (m+1) m j=XL R m m j:=by
 show (XL R m m j||(XL R m m m&&XL R m m j))=_
 cases XL R m m j<;>cases XL R m m m<;>rfl
def V5 (R:Nat→Nat→Bool) (m i j:Nat) (a b:Nat):Bool:=if a<i∨(a=i∧b<j) then XL R (m+1) a b else XL R m a b
theorem Zjq {R:Nat→Nat→Bool} {m i j a:Nat}:V5 R m i j a m=XL R m a m:=by
 unfold V5
 split
 ·exact Zjo
 ·rfl
theorem Zjp {R:Nat→Nat→Bool} {m i j b:Nat}:V5 R m i j m b=XL R m m b:=by
 unfold V5
 split
 ·exact Zjn
 ·rfl
theorem Hm {R:Nat→Nat→Bool} {m i j a b:Nat}:V5 R m i (j+1) a b=if a=i∧b=j then (V5 R m i j i j||(V5 R m i j i m&&V5 R m i j m j)) else V5 R m i j a b:=by
 by_cases h:a=i∧b=j
 ·obtain ⟨rfl,rfl⟩:=h
  rw [if_pos ⟨rfl,rfl⟩,Zjq,Zjp]
  unfold V5
  rw [if_pos (by omega),if_neg (by omega)]
  rfl
 ·rw [if_neg h]
  unfold V5
  by_cases h2:a<i∨(a=i∧b<j)
  ·rw [if_pos h2,if_pos (by omega)]
  ·rw [if_neg h2,if_neg (by omega)]
theorem Zfh {p q:Nat→Bool}:∀ {l:List Nat},(∀ j,j∈l→p j=true→q j=true)→l.countP p≤l.countP q
 |[],_=>Nat.le_refl _
 |a::l,h=>by
  have ih:=Zfh (l:=l) fun j hj=>h j (List.mem_cons_of_mem _ hj)
  rw [List.countP_cons,List.countP_cons]
  have ha:=h a (by simp)
  cases hp:p a with
  |false=>simp;omega
  |true=>rw [ha hp];simp;omega
theorem Zbj {p q:Nat→Bool}:∀ {l:List Nat},(∀ j,j∈l→p j=true→q j=true)→(∃ j,j∈l∧q j=true∧p j=false)→l.countP p<l.countP q
 |[],_,⟨j,hj,_⟩=>by simp at hj
 |a::l,h,⟨j,hj,hq,hp⟩=>by
  have hl:=fun j hj=>h j (List.mem_cons_of_mem a hj)
  have ha:=h a (by simp)
  rw [List.countP_cons,List.countP_cons]
  rcases List.mem_cons.1 hj with rfl|hj'
  ·have:=Zfh hl
   rw [hq,hp];simp;omega
  ·have ih:=Zbj hl ⟨j,hj',hq,hp⟩
   cases hpa:p a with
   |false=>simp;omega
   |true=>rw [ha hpa];simp;omega
def U6 (R:Nat→Nat→Bool) (n i:Nat):Nat:=(List.range n).countP fun j=>XL R n i j
theorem ZlD {R:Nat→Nat→Bool} {n i k:Nat} (hc:XL R n k k=false) (hk:k<n) (h:R i k=true):U6 R n k<U6 R n i:=
 Zbj (fun j _ hj=>(Xz n i j).2 (.cons h hk ((Xz n k j).1 hj))) ⟨k,List.mem_range.2 hk,(Xz n i k).2 (.one h),hc⟩
open Go.RowKit
def UY (l:List POp) (n:Nat) (o:POp):Bool:=(List.range n).any fun i=>Zdk (Zl l i) o
theorem Zl4 (l:List POp) (n:Nat) (hn:n≤9223372036854775807) (o:POp):VFun Tryz.prog 87 [.sl 4 n (Za l),.agg o.cells] (fun av obs=>obs=[]∧av=.lit (.bool (UY l n o))):=by
 have cl:∀ (i:Nat) (c:AV),i<n→c∈Za l i→Closed c:=fun i c _ h=>Zo l i c h
 obtain ⟨z,kd,lv,sd⟩:=o
 simp only [POp.cells]
 refine Zd Tryz.func87 (by kernel_rfl) rfl (by simp [Tryz.ntmps87]) ?_;simp only [Tryz.ntmps87,Tryz.results87];simp [go_sem]
 refine ZN (fun i:Nat=>i≤n∧∀ j,j<i→Zdk (Zl l j) ⟨z,kd,lv,sd⟩=false) (fun i=>n-i) (fun i=>.of [(0,.sl 4 n (Za l)),(3,.ptr 0 4 0 0),(5,.lit (.int .i64 i))] [some ⟨73,4,1,fun _=>POp.cells ⟨z,kd,lv,sd⟩⟩]) ⟨0,⟨by omega,by simp⟩,?_⟩ (fun i hi=>?_)
 ·simp [go_sem,POp.cells]
  exact cl
 ·simp [go_sem]
  refine ⟨by omega,fun h=>?_,fun h=>?_⟩
  ·refine Zn [] (.q 0 <| .q 1 <| .q 2 <| .q 3 <| .q 4 <| .q 5 <| .done) (by kernel_rfl) ?_
   simp [go_sem,YF,POp.cells]
   refine ⟨h,.bool (Zdk (Zl l i) ⟨z,kd,lv,sd⟩),fun w=>?_,?_⟩
   ·simp only [Zdk,XQ,HZ,X3]
    by_cases h1:(Zl l i).text=z<;>by_cases h2:(Zl l i).kind=kd<;>by_cases h3:(Zl l i).level=lv<;>by_cases h4:(Zl l i).side=sd<;>simp [h1,h2,h3,h4]
   ·simp [go_sem]
    refine ⟨fun e=>?_,fun e=>⟨i+1,⟨by omega,fun j hj=>?_⟩,by omega,⟨cl,Zj (by omega)⟩⟩⟩
    ·simp only [UY,List.any_eq_true,List.mem_range]
     exact ⟨i,h,e⟩
    ·rcases Nat.lt_succ_iff_lt_or_eq.mp hj with hj|rfl
     ·exact hi.2 j hj
     ·exact e
  ·simp only [UY,List.any_eq_false,List.mem_range]
   exact fun j hj=>by rw [hi.2 j (by omega)];simp
theorem Zji {mem:List (Option Ob)} {k sz lo n N ty:Nat} {f f':Nat→List AV} (hk:mem[k]?=some (some ⟨ty,sz,N,f⟩)) (hsz:0<sz) (hn:lo+n≤N) (h:∀ i,i<n→f (lo+i)=f' i∧∀ c,c∈f' i→Closed c):QI mem (.sub k sz lo n) sz n f':=
 ⟨hsz,fun i=>f (lo+i),by simp [ZY,hk,hn],h⟩
def uniq (l:List POp):Nat→List POp
 |0=>[]
 |i+1=>if UY l i (Zl l i) then uniq l i else uniq l i++[Zl l i]
def WF (a b:List POp):List POp:=uniq (a++b) (a.length+b.length)
theorem Zau (l:List POp):∀ i,(uniq l i).length≤i
 |0=>by simp [uniq]
 |i+1=>by
  have:=Zau l i
  simp only [uniq]
  split
  ·omega
  ·simp;omega
theorem ZaJ (a b:List POp) (i:Nat):Zl (a++b) i=if i<a.length then Zl a i else Zl b (i-a.length):=by
 unfold Zl
 by_cases h:i<a.length
 ·rw [if_pos h,List.getD_eq_getElem?_getD,List.getD_eq_getElem?_getD,List.getElem?_append_left h]
 ·rw [if_neg h,List.getD_eq_getElem?_getD,List.getD_eq_getElem?_getD,List.getElem?_append_right (by omega)]
theorem Gi (a b:List POp) (i:Nat):Za (a++b) i=ZH a.length (Za a) (Za b) i:=by
 unfold ZH
 simp only [YF,ZaJ]
 split<;>rfl
theorem Gh (l:List POp) (o:POp) (i:Nat) (h:i<l.length+1):ZH l.length (Za l) (fun _=>o.cells) i=Za (l++[o]) i:=by
 rw [Gi]
 unfold ZH
 split
 ·rfl
 ·have:i-l.length=0:=by omega
  rw [this];rfl
@[go_sem] theorem opOne (l:List POp) (i:Nat):(Za l i).all Xg=true:=rfl
theorem GB (a b:List POp) (h:a.length+b.length≤10000000):VFun Tryz.prog 63 [.agg [.sl 4 a.length (Za a)],.agg [.sl 4 b.length (Za b)]] (fun av obs=>av=.agg [.own 0]∧obs=[⟨73,4,(WF a b).length,Za (WF a b)⟩]):=by
 have cla:∀ (i:Nat) (c:AV),i<a.length→c∈Za a i→Closed c:=fun i c _ h=>Zo a i c h
 have clb:∀ (i:Nat) (c:AV),i<b.length→c∈Za b i→Closed c:=fun i c _ h=>Zo b i c h
 refine Zd Tryz.func63 (by kernel_rfl) rfl (by simp [Tryz.ntmps63]) ?_;simp only [Tryz.ntmps63,Tryz.results63];simp [go_sem]
 refine ⟨by omega,by omega,by omega,by omega,?_⟩
 refine ZC (fun i:Nat=>i≤a.length+b.length) (fun i=>a.length+b.length-i) (fun i=>.of [(4,.ptr 0 1 0 0),(5,.own 1),(6,.own 2),(7,.lit (.int .i64 i))] [some ⟨55,1,1,fun _=>[.lit (.slice none 0 0)]⟩,some ⟨73,4,a.length+b.length,Za (a++b)⟩,some ⟨73,4,(uniq (a++b) i).length,Za (uniq (a++b) i)⟩]) ⟨0,by omega,?_⟩ (fun i hi=>?_)
 ·refine ZU [2,5,6] (by simp) (by simp) (by simp) (by simp) trivial ?_ ?_
  ·simp [go_sem]
  ·simp [go_sem]
   refine ⟨.inl fun i hi=>⟨?_,Zo _ _⟩,.inl ⟨rfl,fun i hi=>by simp [uniq] at hi⟩⟩
   rw [Gi]
   unfold ZH
   simp
 ·simp [go_sem]
  refine ⟨by omega,fun h1=>?_,fun h1=>?_⟩
  ·have hu:=Zau (a++b) i
   refine Zn [] (.q 0 <| .q 1 <| .q 2 <| .q 3 <| .q 4 <| .q 5 <| .q 6 <| .or 7 (.q 8 <| .done) (.nil)) (by kernel_rfl) ?_
   simp [go_sem,YF]
   refine ⟨by omega,by omega,by omega,Zv (Zl4 (a++b) i (by omega) (Zl (a++b) i)) ?_ ?_⟩
   ·simp [go_sem,POp.cells]
    exact Zji (k:=1) rfl (by omega) (by omega) fun j hj=>⟨by rw [Nat.zero_add],Zo _ _⟩
   ·simp [go_sem,YF]
    refine ⟨fun e=>⟨h1,by omega,by omega,by omega,i+1,by omega,by omega,?_⟩,fun e=>⟨i+1,by omega,by omega,?_⟩⟩
    ·refine ZU [0,1,4] (by simp) (by simp) (by simp) (by simp) trivial ?_ ?_
     ·simp [go_sem]
      exact Zj (by omega)
     ·have e2:uniq (a++b) (i+1)=uniq (a++b) i++[Zl (a++b) i]:=by simp only [uniq,e];rfl
      simp [go_sem,e2]
      refine ⟨.inl fun j _=>Zo _ _,.inl fun j hj=>⟨?_,Zo _ _⟩⟩
      rw [←Gh _ _ _ hj]
      unfold ZH
      split
      ·rfl
      ·have:j-(uniq (a++b) i).length=0:=by omega
       rw [this];rfl
    ·refine ZU [0,1,2] (by simp) (by simp) (by simp) (by simp) trivial ?_ ?_
     ·simp [go_sem]
      exact Zj (by omega)
     ·have e2:uniq (a++b) (i+1)=uniq (a++b) i:=by simp only [uniq,e];rfl
      simp [go_sem,e2]
      exact ⟨.inl fun j _=>Zo _ _,.inl fun j _=>Zo _ _⟩
  ·have e:i=a.length+b.length:=by omega
   subst e
   exact obsSame_one.mpr ⟨⟨73,4,(WF a b).length,Za (WF a b)⟩,⟨rfl,rfl,rfl,fun j hj=>⟨rfl,rfl⟩⟩,rfl⟩
open Go.Maps (Keyed)
def i64 (n:Int):Prop:=-9223372036854775808≤n∧n≤9223372036854775807
def POp.rng (o:POp):Prop:=i64 o.kind∧i64 o.level∧i64 o.side
def opV (o:POp):Value:=.agg #[.string o.text,.int .i64 o.kind,.int .i64 o.level,.int .i64 o.side]
theorem Zkq (o:POp):Value.agg #[.string o.text,.int .i64 o.kind,.int .i64 o.level,.int .i64 o.side]=opV o:=rfl
theorem opV_eq {a b:POp}:opV a=opV b↔Zdk a b=true:=by
 simp only [opV,Zdk,HZ,X3,Value.agg.injEq,Array.mk.injEq,List.cons.injEq,Value.string.injEq,Value.int.injEq,true_and,and_true,Bool.and_eq_true,decide_eq_true_eq]
 exact ⟨fun ⟨h1,h2,h3,h4⟩=>⟨⟨⟨h1,h2⟩,h3⟩,h4⟩,fun ⟨⟨⟨h1,h2⟩,h3⟩,h4⟩=>⟨h1,h2,h3,h4⟩⟩
theorem ZnQ:(73:TypeId)<Tryz.prog.types.size:=of_decide_eq_true (by kernel_rfl)
theorem co_op:Tryz.prog.cellsOf 73=4:=by kernel_rfl
theorem ZdB:Keyed Tryz.prog 73:=Keyed.of_law (deep_law_laid Zdx (m:=2) (by omega) ZnQ (by kernel_rfl) (by kernel_rfl))
theorem Zml {o:POp} (h:o.wf) (hr:o.rng):∃ l,keyOf Tryz.prog 73 (opV o)=some l:=by
 obtain ⟨z,k,lv,sd⟩:=o
 obtain ⟨h1,h2,h3⟩:=hr
 refine JY Tryz.underlying73 (by kernel_rfl) co_op.symm (by kernel_rfl) Zmh fun d=>?_
 simp only [List.mapM_cons,List.mapM_nil,ZcE,ZmQ,List.drop_zero,List.take_succ_cons,List.take_zero,List.drop_succ_cons,Gs Tryz.underlying9 h,Q5 Tryz.underlying3 h1,Q5 Tryz.underlying3 h2,Q5 Tryz.underlying3 h3]
 exact ⟨_,rfl⟩
noncomputable def addEs (es:List (Value×Value)) (o:POp):List (Value×Value):=if (mget es (opV o)).isSome then es else mput es (opV o) (.int .i64 es.length)
theorem Zn3 (b:Nat) (es:List (Value×Value)) (o:POp) (ho:o.wf) (hr:o.rng):VProc Tryz.prog 93 [.lit (.map (some b)),.agg o.cells] [] [(b,⟨73,es⟩)] (fun av mem maps=>av=.lit (.bool !(mget es (opV o)).isSome)∧mem=[]∧maps=[(b,⟨73,addEs es o⟩)]):=by
 have hk:=Zml ho hr
 obtain ⟨z,kd,lv,sd⟩:=o
 simp only [POp.cells]
 refine Zu Tryz.func93 (by kernel_rfl) rfl (by simp [Tryz.ntmps93]) ?_;simp only [Tryz.ntmps93,Tryz.results93];simp [go_sem]
 refine Yj ZdB hk _ VB ?_
 have hf:Value.agg #[.string z,.int .i64 kd,.int .i64 lv,.int .i64 sd]=opV ⟨z,kd,lv,sd⟩:=rfl
 simp only [hf]
 cases hm:mget es (opV ⟨z,kd,lv,sd⟩) with
 |some v=>
  simp [go_sem]
  refine ⟨rfl,[],[],by simp,by simp,by simp [go_sem],by simp [go_sem],by simp [go_sem],?_⟩
  simp [go_sem,addEs,hm]
 |none=>
  simp [go_sem]
  refine Y0 ZdB hk ?_
  simp only [hf]
  simp [go_sem]
  refine ⟨rfl,[],[],by simp,by simp,by simp [go_sem],by simp [go_sem],by simp [go_sem],?_⟩
  simp [go_sem,addEs,hm]
def ZcO (l:List POp) (i:Nat) (es:List (Value×Value)):Prop:=(∀ j,j<i→(mget es (opV (Zl l j))).isSome=true)∧∀ x v,mget es x=some v→∃ j,j<i∧x=opV (Zl l j)
theorem Zlw {l:List POp} {i:Nat} {es:List (Value×Value)} (h:ZcO l i es):(mget es (opV (Zl l i))).isSome=UY l i (Zl l i):=by
 rw [Bool.eq_iff_iff]
 simp only [UY,List.any_eq_true,List.mem_range]
 constructor
 ·intro h0
  obtain ⟨v,hv⟩:=Option.isSome_iff_exists.1 h0
  obtain ⟨j,hj,e⟩:=h.2 _ v hv
  exact ⟨j,hj,opV_eq.1 e.symm⟩
 ·rintro ⟨j,hj,e⟩
  rw [←opV_eq.2 e]
  exact h.1 j hj
theorem Zj5 {l:List POp} {i:Nat} {es:List (Value×Value)} (h:ZcO l i es):ZcO l (i+1) (addEs es (Zl l i)):=by
 unfold addEs
 split
 ·rename_i h0
  refine ⟨fun j hj=>?_,fun x v hv=>?_⟩
  ·rcases Nat.lt_succ_iff_lt_or_eq.mp hj with hj|rfl
   ·exact h.1 j hj
   ·exact h0
  ·obtain ⟨j,hj,e⟩:=h.2 x v hv
   exact ⟨j,by omega,e⟩
 ·refine ⟨fun j hj=>?_,fun x v hv=>?_⟩
  ·rw [Yi]
   split
   ·rfl
   ·rename_i hne
    rcases Nat.lt_succ_iff_lt_or_eq.mp hj with hj|rfl
    ·exact h.1 j hj
    ·exact absurd rfl hne
  ·rw [Yi] at hv
   split at hv
   ·rename_i e
    exact ⟨i,by omega,e.symm⟩
   ·obtain ⟨j,hj,e⟩:=h.2 x v hv
    exact ⟨j,by omega,e⟩
def sel (a b:List POp) (q:Nat):List POp:=if q=0 then a else b
def Vi (a b:List POp) (q:Nat):Nat:=if q=0 then 0 else if q=1 then a.length else a.length+b.length
theorem Zin (a b:List POp) (q:Nat) (h:q<2):Vi a b (q+1)=Vi a b q+(sel a b q).length:=by
 rcases (by omega:q=0∨q=1) with rfl|rfl<;>simp [Vi,sel]
theorem Zkr (a b:List POp) (q i:Nat) (h:q<2) (hi:i<(sel a b q).length):Zl (a++b) (Vi a b q+i)=Zl (sel a b q) i:=by
 rcases (by omega:q=0∨q=1) with rfl|rfl
 ·simp only [Vi,sel,if_true] at hi ⊢
  rw [ZaJ,if_pos (by omega),Nat.zero_add]
 ·simp only [Vi,sel,if_true,show ((1:Nat)=0)=False by decide,if_false] at hi ⊢
  rw [ZaJ,if_neg (by omega),Nat.add_sub_cancel_left]
def HB (l:List POp):Prop:=∀ i,i<l.length→(Zl l i).rng
theorem ZhT (a b:List POp) (h:a.length+b.length≤10000000) (hwa:XD a) (hwb:XD b) (hra:HB a) (hrb:HB b):VFun Tryz.prog 68 [.agg [.sl 4 a.length (Za a)],.agg [.sl 4 b.length (Za b)]] (fun av obs=>av=.agg [.own 0]∧obs=[⟨73,4,(WF a b).length,Za (WF a b)⟩]):=by
 have cla:∀ (i:Nat) (c:AV),i<a.length→c∈Za a i→Closed c:=fun i c _ h=>Zo a i c h
 have clb:∀ (i:Nat) (c:AV),i<b.length→c∈Za b i→Closed c:=fun i c _ h=>Zo b i c h
 refine Zd Tryz.func68 (by kernel_rfl) rfl (by simp [Tryz.ntmps68]) ?_;simp only [Tryz.ntmps68,Tryz.results68];simp [go_sem]
 refine fun bm=>?_
 have hL:(a++b).length=a.length+b.length:=by simp
 have clS:∀ q i (c:AV),c∈Za (sel a b q) i→Closed c:=fun q i c h=>Zo _ i c h
 refine ZC (fun p:Nat×List (Value×Value)=>p.1≤2∧ZcO (a++b) (Vi a b p.1) p.2) (fun p=>2-p.1)
  (fun p=>⟨[(4,.ptr 0 1 0 0),(5,.ptr 1 1 0 0),(6,.lit (.map (some bm))),(17,.own 2),(18,.lit (.int .i64 2)),(19,.lit (.int .i64 p.1))],
   [some ⟨55,1,1,fun _=>[.lit (.slice none 0 0)]⟩,some ⟨55,1,1,fun _=>[.own 3]⟩,some ⟨42,1,2,fun i=>[.sl 4 (sel a b i).length (Za (sel a b i))]⟩,some ⟨73,4,(uniq (a++b) (Vi a b p.1)).length,Za (uniq (a++b) (Vi a b p.1))⟩],[(bm,⟨73,p.2⟩)],0⟩) ⟨(0,[]),⟨by omega,by simp [Vi],by simp [mget]⟩,?_⟩ (fun p hp=>?_)
 ·refine (Ent.adopt (j:=3) (c:=0) rfl rfl rfl 73 4 (by omega) (fun _=>[])).trans ?_
  refine ZU [2,3,4,5] (by simp) (by simp) (by simp) (by simp) (by simp [go_sem]) ?_ ?_
  ·simp [go_sem]
  ·simp [go_sem]
   refine ⟨.inl fun i hi=>⟨?_,fun j c _ hc=>clS i j c hc⟩,.inl ⟨rfl,fun i hi=>by simp [Vi,uniq] at hi⟩⟩
   rcases (by omega:i=0∨i=1) with rfl|rfl<;>rfl
 ·obtain ⟨q,es⟩:=p
  simp only at hp
  simp [go_sem]
  refine ⟨fun h1=>?_,fun h1=>?_⟩
  ·have hq:q<2:=by omega
   have hsl:(sel a b q).length≤a.length+b.length:=by
    unfold sel;split<;>omega
   have hpl:Vi a b q+(sel a b q).length≤a.length+b.length:=by
    rcases (by omega:q=0∨q=1) with rfl|rfl<;>simp [Vi,sel]
   refine ⟨h1,hq,by omega,?_⟩
   refine ZC (fun p:Nat×List (Value×Value)=>p.1≤(sel a b q).length∧ZcO (a++b) (Vi a b q+p.1) p.2) (fun p=>(sel a b q).length-p.1)
    (fun p=>⟨[(4,.ptr 0 1 0 0),(5,.ptr 1 1 0 0),(6,.lit (.map (some bm))),(17,.own 2),(18,.lit (.int .i64 2)),(19,.lit (.int .i64 q)),(23,.sl 4 (sel a b q).length (Za (sel a b q))),(24,.lit (.int .i64 (sel a b q).length)),(25,.lit (.int .i64 p.1))],
     [some ⟨55,1,1,fun _=>[.lit (.slice none 0 0)]⟩,some ⟨55,1,1,fun _=>[.own 3]⟩,some ⟨42,1,2,fun i=>[.sl 4 (sel a b i).length (Za (sel a b i))]⟩,some ⟨73,4,(uniq (a++b) (Vi a b q+p.1)).length,Za (uniq (a++b) (Vi a b q+p.1))⟩],[(bm,⟨73,p.2⟩)],0⟩) ⟨(0,es),⟨by omega,by simpa using hp.2⟩,?_⟩ (fun p hp2=>?_)
   ·refine ZU [0,1,2,3] (by simp) (by simp) (by simp) (by simp) (by simp [go_sem]) ?_ ?_
    ·simp [go_sem]
     exact fun i c _ hc=>clS q i c hc
    ·simp [go_sem]
     refine ⟨fun i _ j c _ hc=>clS i j c hc,.inl fun i _=>Zo _ _⟩
   ·obtain ⟨i,es2⟩:=p
    simp only at hp2
    simp [go_sem,YF]
    refine ⟨fun h2=>⟨h2,?_⟩,fun h2=>?_⟩
    ·have he:=Zkr a b q i hq h2
     have hw:(Zl (sel a b q) i).wf:=by
      rcases (by omega:q=0∨q=1) with rfl|rfl
      ·exact hwa i h2
      ·exact hwb i h2
     have hr:(Zl (sel a b q) i).rng:=by
      rcases (by omega:q=0∨q=1) with rfl|rfl
      ·exact hra i h2
      ·exact hrb i h2
     have hst:=Zj5 hp2.2
     have hsh:=Zlw hp2.2
     rw [he] at hst hsh
     have hu:=Zau (a++b) (Vi a b q+i)
     refine Zx [] (Zn3 bm es2 (Zl (sel a b q) i) hw hr) (by simp) ?_ ?_ ?_ ?_
     ·simp [go_sem,POp.cells]
     ·simp [go_sem]
     ·simp [go_sem]
     ·rintro av mem maps ⟨rfl,rfl,rfl⟩
      simp [go_sem]
      have hsi:ZcO (a++b) (Vi a b q+(i+1)) (addEs es2 (Zl (sel a b q) i)):=hst
      refine ⟨fun hn=>⟨by omega,by omega,i+1,_,⟨by omega,hsi⟩,by omega,?_⟩,fun hn=>⟨i+1,_,⟨by omega,hsi⟩,by omega,?_⟩⟩
      ·have hh:UY (a++b) (Vi a b q+i) (Zl (sel a b q) i)=false:=by rw [←hsh,hn];rfl
       have e2:uniq (a++b) (Vi a b q+(i+1))=uniq (a++b) (Vi a b q+i)++[Zl (sel a b q) i]:=by
        show uniq (a++b) (Vi a b q+i+1)=_
        simp only [uniq,he,hh];rfl
       refine ZU [0,1,2,6] (by simp) (by simp) (by simp) (by simp) (by simp [go_sem]) ?_ ?_
       ·simp [go_sem]
        exact ⟨fun i c _ hc=>clS q i c hc,Zj (by omega)⟩
       ·simp [go_sem,e2]
        refine ⟨fun i _ j c _ hc=>clS i j c hc,.inl fun j hj=>⟨?_,Zo _ _⟩⟩
        rw [←Gh _ _ _ hj]
        unfold ZH
        split
        ·rfl
        ·have:j-(uniq (a++b) (Vi a b q+i)).length=0:=by omega
         rw [this];rfl
      ·have hh:UY (a++b) (Vi a b q+i) (Zl (sel a b q) i)=true:=by rw [←hsh,hn]
       have e2:uniq (a++b) (Vi a b q+(i+1))=uniq (a++b) (Vi a b q+i):=by
        show uniq (a++b) (Vi a b q+i+1)=_
        simp only [uniq,he,hh];rfl
       refine ZU [0,1,2,3] (by simp) (by simp) (by simp) (by simp) (by simp [go_sem]) ?_ ?_
       ·simp [go_sem]
        exact ⟨fun i c _ hc=>clS q i c hc,Zj (by omega)⟩
       ·simp [go_sem,e2]
        exact ⟨fun i _ j c _ hc=>clS i j c hc,.inl fun j _=>Zo _ _⟩
    ·have hi:i=(sel a b q).length:=by omega
     have hps:=Zin a b q hq
     subst hi
     refine ⟨q+1,es2,⟨by omega,by rw [hps];exact hp2.2⟩,by omega,?_⟩
     refine ZU [0,1,2,3] (by simp) (by simp) (by simp) (by simp) (by simp [go_sem]) ?_ ?_
     ·simp [go_sem]
      exact Zj (by omega)
     ·simp [go_sem,hps]
      exact ⟨fun i _ j c _ hc=>clS i j c hc,.inl fun j _=>Zo _ _⟩
  ·have hq:q=2:=by omega
   subst hq
   have e3:Vi a b 2=a.length+b.length:=rfl
   rw [e3]
   exact obsSame_one.mpr ⟨⟨73,4,(WF a b).length,Za (WF a b)⟩,⟨rfl,rfl,rfl,fun j hj=>⟨rfl,rfl⟩⟩,rfl⟩
end Go.Proofs.YtadghlfkddkelaaGreatDoor.V
namespace Go.Proofs.YtadghlfkddkelaaGreatDoor.V
def scF (O:Nat→List POp) (U:Nat→List Nat):Nat→Nat→List POp
 |0,i=>WF (O i) []
 |f+1,i=>(U i).foldl (fun t u=>WF t (scF O U f u)) (WF (O i) [])
theorem Jh {α β:Type} {f g:β→α→β}:∀ {l:List α} {b:β},(∀ b a,a∈l→f b a=g b a)→l.foldl f b=l.foldl g b
 |[],_,_=>rfl
 |a::l,b,h=>by
  rw [List.foldl_cons,List.foldl_cons,h b a (by simp)]
  exact Jh fun b a ha=>h b a (List.mem_cons_of_mem _ ha)
theorem ZaC {O:Nat→List POp} {U:Nat→List Nat} {rk:Nat→Nat} (h:∀ i u,u∈U i→rk u<rk i):∀ (f g i:Nat),rk i≤f→rk i≤g→scF O U f i=scF O U g i
 |0,0,i,_,_=>rfl
 |0,g+1,i,hf,_=>by
  have:U i=[]:=List.eq_nil_iff_forall_not_mem.2 fun u hu=>by have:=h i u hu;omega
  show _=(U i).foldl _ _
  rw [this];rfl
 |f+1,0,i,_,hg=>by
  have:U i=[]:=List.eq_nil_iff_forall_not_mem.2 fun u hu=>by have:=h i u hu;omega
  show (U i).foldl _ _=_
  rw [this];rfl
 |f+1,g+1,i,hf,hg=>Jh fun t u hu=>by
  have:=h i u hu
  rw [ZaC h f g u (by omega) (by omega)]
def rdD (U:Nat→List Nat) (d:Nat→Bool):Nat→Nat→Bool
 |0=>d
 |i+1=>fun a=>if a=i then rdD U d i i||(U i).all (rdD U d i) else rdD U d i a
def rnD (U:Nat→List Nat) (n:Nat):Nat→Nat→Bool
 |0=>fun _=>false
 |r+1=>rdD U (rnD U n r) n
theorem ZeG {U:Nat→List Nat} {d:Nat→Bool} {a:Nat} (h:d a=true):∀ i,rdD U d i a=true
 |0=>h
 |i+1=>by
  have ih:=ZeG (U:=U) h i
  show (if a=i then _ else _)=true
  split
  ·rename_i e;subst e;rw [ih];rfl
  ·exact ih
theorem Zhx {U:Nat→List Nat} {d:Nat→Bool} {a:Nat} (h:∀ u,u∈U a→d u=true):∀ i,a<i→rdD U d i a=true
 |0,hi=>by omega
 |i+1,hi=>by
  show (if a=i then _ else _)=true
  split
  ·rename_i e;subst e
   have:(U a).all (rdD U d a)=true:=List.all_eq_true.2 fun u hu=>ZeG (h u hu) a
   rw [this,Bool.or_true]
  ·exact Zhx h i (by omega)
theorem ZeB {U:Nat→List Nat} {n:Nat} {rk:Nat→Nat} (h:∀ i u,i<n→u∈U i→u<n∧rk u<rk i):∀ (r i:Nat),i<n→rk i<r→rnD U n r i=true
 |0,i,_,hr=>by omega
 |r+1,i,hi,hr=>Zhx (fun u hu=>by
  obtain ⟨h1,h2⟩:=h i u hi hu
  exact ZeB h r u h1 (by omega)) n hi
theorem Zcm {R:Nat→Nat→Bool} {n i:Nat} (hi:i<n) (hc:XL R n i i=false):U6 R n i<n:=by
 have h:=Zbj (p:=fun j=>XL R n i j) (q:=fun _=>true) (l:=List.range n) (fun _ _ _=>rfl) ⟨i,List.mem_range.2 hi,rfl,hc⟩
 have e:(List.range n).countP (fun _=>true)=n:=by
  rw [List.countP_eq_length.2 fun _ _=>rfl,List.length_range]
 unfold U6
 omega
end Go.Proofs.YtadghlfkddkelaaGreatDoor.V
namespace Go.Proofs.YtadghlfkddkelaaGreatDoor.V
open Go.RowKit
section
variable {P:Program} {n:Nat} {base:Fr} {w0 w:World} {hd:Nat→Value} {s:VS} {a:Act}
def VV (m:Nat) (args:List AV) (N:Nat) (vs0:Nat→Value) (as0:Nat→AV) (mem0:List (Option Ob)) (maps0:List (Nat×Mp)):VS:=
 ⟨(m,.fam N vs0 as0)::(List.range args.length).map fun j=>(j,args.getD j .undef),mem0,maps0,mem0.length⟩
theorem Vm {fn:Func} {args:List AV} {mem0:List (Option Ob)} {maps0:List (Nat×Mp)} (hl:args.length≤fn.ntmps) {w:World} {vs:List Value} {hd0:Nat→Value} (hlen:GS P w (Sh w hd0 mem0 maps0) args vs)
  (hrep:∀ (j:Nat) a u,args[j]?=some a→vs[j]?=some u→Rep w (Zw mem0 hd0) hd0 mem0.length a u) (hm:MemRel (fun _=>True) w hd0 mem0) (hmp:MapRel P (fun _=>True) w maps0) (htl:WP hd0 (Sh w hd0 mem0 maps0)) :
  RelH fn.ntmps ⟨P,Sh w hd0 mem0 maps0,hd0,[]⟩ w hd0 (X1 args mem0 maps0) { tmps:=vs.toArray++Array.replicate (fn.ntmps-vs.toArray.size) undef,defers:=[] } w:=by
 obtain ⟨hlen,hgw,hlo⟩:=hlen
 have hst:∀ t,lk (X1 args mem0 maps0).tmps t=args.getD t .undef:=by
  intro t
  have:∀ (l:List Nat) (t:Nat),lk (l.map fun j=>(j,args.getD j .undef)) t=if t∈l then args.getD t .undef else .undef:=by
   intro l t
   induction l with
   |nil=>rfl
   |cons x l ih=>
    simp only [List.map_cons,lk]
    by_cases e:x=t
    ·subst e;simp
    ·rw [if_neg e,ih]
     have e':¬t=x:=fun h=>e h.symm
     simp [e']
  rw [X1,this]
  by_cases ht:t<args.length
  ·rw [if_pos (by simpa using ht)]
  ·rw [if_neg (by simpa using ht),List.getD_eq_getElem?_getD,List.getElem?_eq_none (by omega)];rfl
 refine ⟨rfl,by simp;omega,Bel.refl _ _,⟨fun b hb=>.inl hb,hgw,hlo⟩,Nat.le_refl _,⟨fun k hk=>rfl,TailEq.refl _,htl⟩,fun b mp hb=>?_,fun t=>?_,⟨fun k ob hk b hb=>.inr (.inl ⟨k,ob,hk,hb⟩),hm.obs,hm.hds,hm.apart⟩⟩
 ·obtain ⟨_,es,clock,q1,q2⟩:=hmp b mp hb
  exact ⟨.inr (.inr (by have:lkm maps0 b=some mp:=hb;rw [this];rfl)),es,clock,q1,q2⟩
 ·rw [hst]
  by_cases ht:t<args.length
  ·have h1:(vs.toArray++Array.replicate (fn.ntmps-vs.toArray.size) undef).getD t undef=vs[t]'(by omega):=by
    rw [Array.getD_eq_getD_getElem?,Array.getElem?_append_left (by simp;omega)]
    simp [show t<vs.length by omega]
   rw [h1,List.getD_eq_getElem?_getD,List.getElem?_eq_getElem ht]
   exact hrep t _ _ (List.getElem?_eq_getElem ht) (List.getElem?_eq_getElem (by omega))
  ·rw [List.getD_eq_getElem?_getD,List.getElem?_eq_none (by omega)];exact .undef _
theorem XA {f:FuncId} {fn:Func} {c:Code} {args:List AV} {N:Nat} {vs0:Nat→Value} {as0:Nat→AV} {mem0:List (Option Ob)} {maps0:List (Nat×Mp)} {R:AV→List (Option Ob)→List (Nat×Mp)→Prop} (hf:P.funcs[f]?=some fn) (hn:(fn.name== "runtime.NumGoroutine")=false) (hb:fn.body=some c) (hl:args.length≤fn.ntmps)
  (h:vc P fn.ntmps c (VV fn.ntmps args N vs0 as0 mem0 maps0) (Zh1 P mem0.length maps0 fn.results.toList R)):VProcG P f args N vs0 as0 mem0 maps0 R:=by
 refine ⟨⟨fn,hf,hn,by rw [hb];rfl⟩,fun w vs hd0 hlen hrep hfam hm hmp htl=>?_⟩
 refine calls_of_wp hf hb ?_
 have hrel:=(Vm (P:=P) hl hlen hrep hm hmp htl).tell fn.ntmps (N:=N) (vs:=vs0) («as»:=as0) hfam
 refine X6 rfl c hrel h fun x hd' s' a' w' h' hk=>?_
 cases x with
 |exit id=>exact hk.elim
 |normal=>
  obtain ⟨v,h1,h2⟩:=WW h' hk.1 hk.2
  exact ⟨h'.defers,v,h1,v,rfl,h2⟩
 |ret=>
  obtain ⟨v,h1,h2⟩:=WW h' hk.1 hk.2
  exact ⟨h'.defers,v,h1,v,rfl,h2⟩
def ZcQ (P:Program) (maps0:List (Nat×Mp)) (rs:List ResultVar) (R:AV→List (Option Ob)→List (Nat×Mp)→Nat→(Nat→Value)→(Nat→AV)→Prop) (s:VS):AV→Prop
 | .fam N vs as'=>(∀ i,i<N→Closed (as' i))∧Zag P maps0 rs (fun av mem maps=>R av mem maps N vs as') s
 | _=>False
@[go_sem] theorem vtellR_f {maps0:List (Nat×Mp)} {rs:List ResultVar} {R:AV→List (Option Ob)→List (Nat×Mp)→Nat→(Nat→Value)→(Nat→AV)→Prop} {N:Nat} {vs:Nat→Value} {as':Nat→AV}:ZcQ P maps0 rs R s (.fam N vs as')=((∀ i,i<N→Closed (as' i))∧Zag P maps0 rs (fun av mem maps=>R av mem maps N vs as') s):=_root_.id rfl
def Zlj (P:Program) (m g:Nat) (maps0:List (Nat×Mp)) (rs:List ResultVar) (R:AV→List (Option Ob)→List (Nat×Mp)→Nat→(Nat→Value)→(Nat→AV)→Prop) (e:VX) (s:VS):Prop:=match e with
 | .exit _=>False
 | _=>s.fix=m∧ZcQ P maps0 rs R s (lk s.tmps g)
@[go_sem] theorem KfinGT_r {m g:Nat} {maps0:List (Nat×Mp)} {rs:List ResultVar} {R:AV→List (Option Ob)→List (Nat×Mp)→Nat→(Nat→Value)→(Nat→AV)→Prop}:Zlj P m g maps0 rs R .ret s=(s.fix=m∧ZcQ P maps0 rs R s (lk s.tmps g)):=_root_.id rfl
theorem KF {f:FuncId} {fn:Func} {c:Code} {args:List AV} {N:Nat} {vs0:Nat→Value} {as0:Nat→AV} {mem0:List (Option Ob)} {maps0:List (Nat×Mp)} {R:AV→List (Option Ob)→List (Nat×Mp)→Nat→(Nat→Value)→(Nat→AV)→Prop} (hf:P.funcs[f]?=some fn) (hn:(fn.name== "runtime.NumGoroutine")=false) (hb:fn.body=some c) (hl:args.length≤fn.ntmps)
  (h:vc P fn.ntmps c (VV fn.ntmps args N vs0 as0 mem0 maps0) (Zlj P mem0.length fn.ntmps maps0 fn.results.toList R)):VProcGT P f args N vs0 as0 mem0 maps0 R:=by
 refine ⟨⟨fn,hf,hn,by rw [hb];rfl⟩,fun w vs hd0 hlen hrep hfam hm hmp htl=>?_⟩
 refine calls_of_wp hf hb ?_
 have hrel:=(Vm (P:=P) hl hlen hrep hm hmp htl).tell fn.ntmps (N:=N) (vs:=vs0) («as»:=as0) hfam
 refine X6 rfl c hrel h fun x hd' s' a' w' h' hk=>?_
 have fin:s'.fix=mem0.length∧ZcQ P maps0 fn.results.toList R s' (lk s'.tmps fn.ntmps)→∃ v,(results fn a'.tmps).run P w'=.ok v w'∧Bel (Sh w hd0 mem0 maps0) w w'∧∃ hd av mem maps N vs1 as1,(R av mem maps N vs1 as1∧∀ i,i<N→Closed (as1 i)∧Rep w' (Zw mem hd) hd mem.length (as1 i) (vs1 i))∧PostOk mem0 maps0 av mem maps∧
   ((∀ k,k<mem0.length→hd k=hd0 k)∧TailEq hd0 hd)∧MemRel (Sh w hd0 mem0 maps0) w' hd mem∧MapRel P (Sh w hd0 mem0 maps0) w' maps∧Rep w' (Zw mem hd) hd mem.length av v:=fun hk=>by
  obtain ⟨hfix,hk⟩:=hk
  have ht:=h'.tm fn.ntmps
  generalize a'.tmps.getD fn.ntmps undef=u0 at ht
  generalize lk s'.tmps fn.ntmps=x at hk ht
  match x,hk with
  | .fam N1 vs1 as1,⟨hcl,hk⟩=>
   obtain ⟨v,h1,h2,hd2,av,mem,maps,h3,h4,h5,h6,h7,h8,h9⟩:=Jv h' hfix hk
   cases ht with
   |fam _ _ _ _ ht=>exact ⟨v,h1,h2,hd2,av,mem,maps,N1,vs1,as1,⟨h3,fun i hi=>⟨hcl i hi,Rep.closed (hcl i hi) (fun ad u q1 q2=>⟨q2,h9 _ q1⟩) (ht i hi)⟩⟩,h4,h5,h6,h7,h8⟩
 cases x with
 |exit id=>exact hk.elim
 |normal=>
  obtain ⟨v,h1,h2⟩:=fin hk
  exact ⟨h'.defers,v,h1,v,rfl,h2⟩
 |ret=>
  obtain ⟨v,h1,h2⟩:=fin hk
  exact ⟨h'.defers,v,h1,v,rfl,h2⟩
def QD (pv:Value) (base:Fr) (w0:World) (M0:List (Nat×Mp)):Exit→Act→World→Prop:=fun e a w=>e=.panic [{ v:=pv,recovered:=false }]∧a.defers=base.ds∧Bel base.may w0 w∧MapRel base.P base.may w M0
theorem QD.free {pv:Value} {M0:List (Nat×Mp)} {base:Fr} {w0:World}:ZbI (QD pv base w0 M0):=fun _ _ d _ _ h=>by cases d<;>exact h
def Zap (P:Program) (pv:Value) (M0:List (Nat×Mp)) (f:FuncId) (avs:List AV) (s:VS):Prop:=
 ∃ ks args' mem0 maps0 t N vs0 as0 as1,ks.Nodup∧ZO (fun j=>ks.getD j 0) ks.length avs args'∧(lk s.tmps t=.fam N vs0 as0∧∀ i,i<N→Rn (fun j=>ks.getD j 0) ks.length (as0 i) (as1 i))∧XS (fun j=>ks.getD j 0) ks.length s.mem ks mem0∧(∀ p,p∈maps0→lkm s.maps p.1=some p.2)∧(∀ p,p∈M0→lkm maps0 p.1=some p.2)∧
  ZcN P f pv args' N vs0 as1 mem0 maps0
def Zao (P:Program) (pv:Value) (M0:List (Nat×Mp)) (s:VS) (op:Op):Prop:=match WB P s op with
 |some (f,xs)=>Zap P pv M0 f (xs.map (ev s)) s
 |none=>match op with
  | .panic x=>ev s x=.lit pv∧(∃ t v,pv=.iface t v)∧Yc s.maps M0
  | _=>False
theorem Zan (h:RelH n base w0 hd s a w) (hP:base.P=P) {pv:Value} {M0:List (Nat×Mp)} {o:Oper} (hv:Zao P pv M0 s o.op) {K:Act→World→Prop}:o.wp P a w K (QD pv base w0 M0):=by
 unfold Zao at hv
 split at hv
 ·rename_i f xs hcall
  obtain ⟨ks,args',mem0,maps0,t,N,vs0,as0,as1,hnd,hargs,⟨hgt,hg⟩,hsh,hmaps,hM0,hfn,hc⟩:=hv
  have hrun:(execOp a.eval o).run P w=.ok (.enter f (xs.map a.eval).toArray) w:=(He h hcall).trans (UJ hfn _ w)
  obtain ⟨hlen,_,hrep,hfam,hm0,hmp0,htl0⟩:=Ku h hP hnd hargs hgt hg hsh hmaps
  have hcalls:=hc w (xs.map a.eval) (hdF hd ks s.mem false) hlen hrep hfam hm0 hmp0 htl0
  unfold Oper.wp
  rw [hrun]
  simp only [Oper.upon]
  refine hcalls.mono ?_
  rintro e w' ⟨rfl,hb,hmr⟩
  refine ⟨rfl,h.defers,?_⟩
  have may:∀ b,Sh w (hdF hd ks s.mem false) mem0 maps0 b→base.may b:=by
   obtain ⟨f0,f1⟩:=Y9 hsh
   rintro b (h1|⟨j,ob',h1,h2⟩|h1)
   ·exact h.le _ (Nat.le_trans h.below.size h1)
   ·have hj:j<ks.length:=by have:=(List.getElem?_eq_some_iff.1 h1).1;omega
    obtain ⟨ob,_,_,h4,_⟩:=f1 j (ks.getD j 0) (by rw [List.getD_eq_getElem?_getD,List.getElem?_eq_getElem hj];rfl)
    rw [Xy hj] at h2
    exact h.me.alw _ ob h4 b h2
   ·cases hq:lkm maps0 b with
    |none=>rw [hq] at h1;simp at h1
    |some mp=>exact (h.mp b mp (hmaps _ (Xt hq))).1
  refine ⟨⟨hb.os.trans h.below.os,hb.tape.trans h.below.tape,hb.output.trans h.below.output,Nat.le_trans h.below.size hb.size,fun k hk hk2=>(hb.block k (Nat.lt_of_lt_of_le hk h.below.size) (fun e=>hk2 (may k e))).trans (h.below.block k hk hk2)⟩,fun b mp hq=>?_⟩
  obtain ⟨h1,es,clock,h2,h3⟩:=hmr b mp (hM0 _ (Xt hq))
  exact ⟨may b h1,es,clock,h2,by rw [hP];exact h3⟩
 ·split at hv
  ·rename_i x hop
   obtain ⟨hx,⟨t,v,rfl⟩,hM0⟩:=hv
   have hrun:(execOp a.eval o).run P w=.halt (.panic (.iface t v)) w:=by
    unfold execOp
    simp only [hop,YH h hx]
    rfl
   unfold Oper.wp
   rw [hrun]
   exact ⟨rfl,h.defers,h.below,fun b mp hq=>h.mp b mp (Z7 hM0 _ (Xt hq))⟩
  ·exact hv.elim
def UG (P:Program) (n:Nat) (pv:Value) (M0:List (Nat×Mp)):Nat→List Oper→VS→Prop
 | _,[],_=>False
 |0,o::_,s=>o.guard=none∧Zao P pv M0 s o.op
 |i+1,o::r,s=>o.guard=none∧ZR P n o s (fun s'=>UG P n pv M0 i r s')
theorem KG (hP:base.P=P) {pv:Value} {M0:List (Nat×Mp)} {all:Array Oper}:∀ (i:Nat) (ops:List Oper) {hd:Nat→Value} {s:VS} {a:Act} {w:World},RelH n base w0 hd s a w→UG P n pv M0 i ops s→wpList P all (QD pv base w0 M0) ops a w
 | _,[],_,_,_,_,_,hv=>by cases ‹Nat›<;>exact hv.elim
 |0,o::r,hd,s,a,w,h,hv=>by
  unfold wpList
  rw [if_pos (by simp [Region.wanted,hv.1])]
  exact .inl (Zan h hP hv.2)
 |i+1,o::r,hd,s,a,w,h,hv=>by
  unfold wpList
  rw [if_pos (by simp [Region.wanted,hv.1])]
  exact .inl (VH h hP hv.2 fun hd' s' a' w' h' hk=>KG hP i r h' hk)
def WC (P:Program) (n:Nat) (pv:Value) (M0:List (Nat×Mp)) (all:List Oper) (fin:List Nat):Plan→VS→Prop
 | .done,_=>False
 | .nil,_=>True
 | .q i p,s=>match all[i]? with
  |some o=>V6 P n all [o] s (fun s'=>WC P n pv M0 all fin p s')
  |none=>False
 | .or i p r,s=>(match all[i]? with
  |some o=>if i∈fin then o.guard=none∧Zao P pv M0 s o.op else Jw P n all o s (fun s'=>WC P n pv M0 all fin p s')
  |none=>False)∧WC P n pv M0 all fin r s
theorem ZcY (hP:base.P=P) {pv:Value} {M0:List (Nat×Mp)} {all:List Oper} {fin:List Nat} {md:Region.Mode} (hsel:Region.noSelect all.toArray=true) {Q:Act→World→Prop} :
  ∀ (p:Plan) (fuel:Nat) (listed:Array Bool) (m:Option (List Nat)) {hd:Nat→Value} {s:VS} {a:Act} {w:World},RelH n base w0 hd s a w→Down md all.toArray listed→Yy P md all.toArray fin p fuel listed m=true→WC P n pv M0 all fin p s→
   match m with
   |none=>VT P md all.toArray (QD pv base w0 M0) fin Q fuel listed a w
   |some js=>(∀ j,j∈js→j∈Region.ready md all.toArray listed)→∀ fuel',fuel=fuel'+1→∀ j,j∈js→wpOp P all.toArray (QD pv base w0 M0) j (fun a' w'=>(j∉fin→w.grownBy w' none)∧VT P md all.toArray (QD pv base w0 M0) fin Q fuel' (listed.setIfInBounds j true) a' w') a w:=by
 intro p
 induction p with
 |done=>intro fuel listed m hd s a w h hdn hok hv;exact hv.elim
 |nil=>
  intro fuel listed m hd s a w h hdn hok hv
  cases m with
  |none=>simp [Yy] at hok
  |some js=>cases js with
   |nil=>exact fun _ _ _ j hj=>by cases hj
   |cons j js=>simp [Yy] at hok
 |q i p ih=>
  intro fuel listed m hd s a w h hdn hok hv
  cases m with
  |some js=>cases js<;>cases fuel<;>simp [Yy] at hok
  |none=>
   cases fuel with
   |zero=>simp [Yy] at hok
   |succ fuel=>
    simp only [Yy,Bool.and_eq_true,Bool.not_eq_true',List.contains_eq_mem,decide_eq_false_iff_not] at hok
    obtain ⟨⟨⟨⟨⟨hr,hf⟩,hq⟩,hif⟩,hL⟩,hok⟩:=hok
    have hr':i∈Region.ready md all.toArray listed:=by simpa using hr
    obtain ⟨_,o,ho,_⟩:=mem_ready.1 hr'
    rw [ho] at hq
    have ho':all[i]?=some o:=by simpa using ho
    simp only [WC,ho'] at hv
    obtain ⟨v,hy,s',h1,h2⟩:=Zd4 h hP hq hv
    rcases Bool.or_eq_true _ _▸hL with hL|hL
    ·exact Jt QD.free ho (Region.noSelect_spec hsel) hif fuel listed a w hdn hL (Region.free_spec ho hf) hr' hy (ih fuel _ none h1 (hdn.set hr') hok h2)
    ·rw [ho] at hL
     obtain ⟨v,hy,s',h1,h2⟩:=Zd3 h hL hv
     exact KC QD.free ho (Region.noSelect_spec hsel) hif fuel listed a w hdn (Region.free_spec ho hf) hr' hy (ih fuel _ none h1 (hdn.set hr') hok h2)
 |or i p r ihp ihr=>
  intro fuel listed m hd s a w h hdn hok hv
  have one:∀ fuel' (hr:i∈Region.ready md all.toArray listed) (hok:Yy P md all.toArray fin p fuel' (listed.setIfInBounds i true) none=true),wpOp P all.toArray (QD pv base w0 M0) i (fun a' w'=>(i∉fin→w.grownBy w' none)∧VT P md all.toArray (QD pv base w0 M0) fin Q fuel' (listed.setIfInBounds i true) a' w') a w:=by
   intro fuel' hr hok
   obtain ⟨_,o,ho,_⟩:=mem_ready.1 hr
   have ho':all[i]?=some o:=by simpa using ho
   have hv1:=hv.1
   simp only [ho'] at hv1
   split at hv1
   ·unfold wpOp
    simp only [ho]
    rw [if_pos (by simp [Region.wanted,hv1.1])]
    exact .inl (Zan h hP hv1.2)
   ·exact H6 h hP ho hv1 fun hd' s' a' w' hg h1 h2=>⟨fun _=>hg,ihp fuel' _ none h1 (hdn.set hr) hok h2⟩
  cases fuel with
  |zero=>cases m with
   |none=>simp [Yy] at hok
   |some js=>cases js<;>simp [Yy] at hok
  |succ fuel=>
   cases m with
   |none=>
    simp only [Yy] at hok
    split at hok
    ·rename_i j js hrd
     simp only [Bool.and_eq_true,beq_iff_eq] at hok
     obtain ⟨⟨rfl,hok1⟩,hok2⟩:=hok
     refine ⟨fun e=>(by rw [hrd] at e;cases e),fun j hj=>?_⟩
     have hrest:=ihr (fuel+1) listed (some js) h hdn hok2 hv.2 (fun j hj=>by rw [hrd];simp [hj]) fuel rfl
     rw [hrd] at hj
     rcases List.mem_cons.1 hj with rfl|hj
     ·exact one fuel (by rw [hrd];simp) hok1
     ·exact hrest j hj
    ·cases hok
   |some js=>
    cases js with
    |nil=>simp [Yy] at hok
    |cons j js=>
     simp only [Yy,Bool.and_eq_true,beq_iff_eq] at hok
     obtain ⟨⟨rfl,hok1⟩,hok2⟩:=hok
     intro hsub fuel' hf j hj
     obtain rfl:fuel=fuel':=by omega
     rcases List.mem_cons.1 hj with rfl|hj
     ·exact one fuel (hsub _ (by simp)) hok1
     ·exact ihr (fuel+1) listed (some js) h hdn hok2 hv.2 (fun j hj=>hsub j (by simp [hj])) fuel rfl j hj
theorem Zam (h:RelH n base w0 hd s a w) (hP:base.P=P) {pv:Value} {M0:List (Nat×Mp)} {id:Nat} {all:List Oper} {fin:List Nat} {p:Plan} (hok:W9 P all.toArray fin p=true) (hv:WC P n pv M0 all fin p s) :
  (Code.region id all.toArray true).wp P (QD pv base w0 M0) a w:=by
 simp only [W9,Bool.and_eq_true] at hok
 obtain ⟨⟨h1,h3⟩,h4⟩:=hok
 refine wp_region_any h1 (KR (Q:=fun _ _=>False) (Q0:=QD pv base w0 M0) (fun _ _ h=>h.elim) (fun _ _ _ h=>h) _ _ _ _ (ZcY (w0:=w0) hP h3 p _ _ none (h.grown ⟨rfl,rfl,rfl,Nat.le_refl _,fun _ _ _=>rfl⟩) (fun j oj hj hl=>?_) h4 hv))
 exfalso
 rcases Nat.lt_or_ge j all.toArray.size with h'|h'
 ·simp at hl h';simp [h'] at hl
 ·simp at hl h';simp [Array.getElem?_eq_none,h'] at hl
end
def vd (P:Program) (n:Nat) (pv:Value) (M0:List (Nat×Mp)):Code→VS→Prop
 | .region _ ops false,s=>∃ i,UG P n pv M0 i ops.toList s
 | .region _ ops true,s=>∃ fin p,W9 P ops fin p=true∧WC P n pv M0 ops.toList fin p s
 | .seq x y,s=>vd P n pv M0 x s∨vc P n x s (fun e s'=>match e with
  | .normal=>vd P n pv M0 y s'
  | _=>False)
 | .cond c x y,s=>match ev s c with
  | .lit (.bool t)=>(t=true→vd P n pv M0 x s)∧(t=false→vd P n pv M0 y s)
  | _=>False
 | .block _ x,s=>vd P n pv M0 x s
 | .loop x,s=>∃ (ι:Type) (I:ι→Prop) (μ:ι→Nat) (S:ι→VS),(∃ i,I i∧Ent s (S i))∧∀ i,I i→vd P n pv M0 x (S i)∨vc P n x (S i) (fun e s'=>match e with
  | .normal=>∃ j,I j∧μ j<μ i∧Ent s' (S j)
  | _=>False)
 | .scope x,s=>vd P n pv M0 x s
 | _,_=>False
section
variable {P:Program} {n:Nat} {base:Fr} {w0:World}
theorem ZjJ (hP:base.P=P) {pv:Value} {M0:List (Nat×Mp)}:∀ (c:Code) {hd:Nat→Value} {s:VS} {a:Act} {w:World},RelH n base w0 hd s a w→vd P n pv M0 c s→c.wp P (QD pv base w0 M0) a w:=by
 intro c
 induction c with
 |region id ops draw=>
  intro hd s a w h hv
  cases draw with
  |true=>
   obtain ⟨fin,p,h1,h2⟩:=hv
   exact Zam h hP (all:=ops.toList) h1 h2
  |false=>
   obtain ⟨i,hv⟩:=hv
   exact wp_region_list (KG hP i ops.toList h hv)
 |seq x y ihx ihy=>
  intro hd s a w h hv
  rcases hv with hv|hv
  ·refine wp_seq (wp_mono (ihx h hv) (fun e a' w' hq=>?_))
   obtain ⟨rfl,hq⟩:=hq
   exact ⟨rfl,hq⟩
  ·refine wp_seq (X6 hP x h hv fun e hd' s' a' w' h' hk=>?_)
   cases e with
   |normal=>exact ihy h' hk
   |exit id=>exact hk.elim
   |ret=>exact hk.elim
 |cond c x y ihx ihy=>
  intro hd s a w h hv
  simp only [vd] at hv
  split at hv
  ·rename_i t e
   have hc:=(h.ev_ c).val_ (X9 e)
   cases t with
   |true=>exact wp_cond_true hc (ihx h (hv.1 rfl))
   |false=>exact wp_cond_false hc (ihy h (hv.2 rfl))
  ·exact hv.elim
 |block id x ih=>
  intro hd s a w h hv
  refine wp_block (wp_mono (ih h hv) (fun e a' w' hq=>?_))
  obtain ⟨rfl,hq⟩:=hq
  exact ⟨rfl,hq⟩
 |loop x ih=>
  intro hd s a w h hv
  obtain ⟨ι,I,μ,S,⟨i0,hI0,hle0⟩,hround⟩:=hv
  refine KQ (ι:=ι) (fun i a w=>I i∧∃ hd,RelH n base w0 hd (S i) a w) μ (fun i a w hI=>?_) (i:=i0) ⟨hI0,hle0 _ _ _ _ _ _ h⟩
  obtain ⟨hIi,hd1,h1⟩:=hI
  rcases hround i hIi with hr|hr
  ·refine wp_mono (ih h1 hr) (fun e a' w' hq=>?_)
   obtain ⟨rfl,hq⟩:=hq
   exact ⟨rfl,hq⟩
  ·refine X6 hP x h1 hr fun e hd' s' a' w' h' hk=>?_
   cases e with
   |normal=>
    obtain ⟨j,hj,hlt,hle⟩:=hk
    exact ⟨j,⟨hj,hle _ _ _ _ _ _ h'⟩,hlt⟩
   |exit id=>exact hk.elim
   |ret=>exact hk.elim
 |scope x ih=>
  intro hd s a w h hv
  refine wp_scope_straight (wp_mono (ih h hv) (fun e a' w' hq=>?_))
  obtain ⟨rfl,hq⟩:=hq
  exact ⟨rfl,hq⟩
 | _=>intro hd s a w h hv;exact hv.elim
theorem XW {f:FuncId} {fn:Func} {c:Code} {pv:Value} {args:List AV} {N:Nat} {vs0:Nat→Value} {as0:Nat→AV} {mem0:List (Option Ob)} {maps0:List (Nat×Mp)} (hf:P.funcs[f]?=some fn) (hn:(fn.name== "runtime.NumGoroutine")=false) (hb:fn.body=some c) (hl:args.length≤fn.ntmps)
  (h:vd P fn.ntmps pv maps0 c (VV fn.ntmps args N vs0 as0 mem0 maps0)):ZcN P f pv args N vs0 as0 mem0 maps0:=by
 refine ⟨⟨fn,hf,hn,by rw [hb];rfl⟩,fun w vs hd0 hlen hrep hfam hm hmp htl=>?_⟩
 refine calls_of_wp hf hb ?_
 have hrel:=(Vm (P:=P) hl hlen hrep hm hmp htl).tell fn.ntmps (N:=N) (vs:=vs0) («as»:=as0) hfam
 refine wp_mono (ZjJ rfl c hrel h) (fun e a' w' hq=>?_)
 obtain ⟨rfl,hq1,hq2⟩:=hq
 exact ⟨hq1,rfl,hq2⟩
end
section
variable {P:Program} {n:Nat} {s:VS} {pv:Value} {M0:List (Nat×Mp)} {all r:List Oper} {d:Option Tmp} {op:Op} {ty:TypeId} {ps:String} {af:Array Edge} {g:Option (Nat×Bool)}
theorem Yr {f:FuncId} {avs args':List AV} {k:AV→VS→Prop} {N:Nat} {vs0:Nat→Value} {as0 as1:Nat→AV} {mem0:List (Option Ob)} {maps0:List (Nat×Mp)} {R:AV→List (Option Ob)→List (Nat×Mp)→Prop} (ks:List Nat) (t:Nat) (h:VProcG P f args' N vs0 as1 mem0 maps0 R) (hnd:ks.Nodup) (hg:lk s.tmps t=.fam N vs0 as0) (hg2:∀ i,i<N→Rn (fun j=>ks.getD j 0) ks.length (as0 i) (as1 i)) (ha:ZO (fun j=>ks.getD j 0) ks.length avs args')
  (hs:XS (fun j=>ks.getD j 0) ks.length s.mem ks mem0) (hm:Yc s.maps maps0)
  (hk:∀ av mem' maps',R av mem' maps'→k (ren (YV ks s.mem.length) av) { s with mem:=YQ s.mem ks mem',maps:=maps'++s.maps }):Wn P f avs s k:=
 .inr (.inr (.inr (.inl ⟨ks,args',mem0,maps0,t,N,vs0,as0,as1,hnd,ha,⟨hg,hg2⟩,hs,Z7 hm,h.mono fun av mem' maps' r=>hk av mem' maps' r⟩)))
theorem Zga {f:FuncId} {avs args':List AV} {k:AV→VS→Prop} {mem0:List (Option Ob)} {maps0:List (Nat×Mp)} {R:AV→List (Option Ob)→List (Nat×Mp)→Nat→(Nat→Value)→(Nat→AV)→Prop} (ks:List Nat) (t:Nat) (h:VProcT P f args' mem0 maps0 R) (hnd:ks.Nodup) (ha:ZO (fun j=>ks.getD j 0) ks.length avs args')
  (hs:XS (fun j=>ks.getD j 0) ks.length s.mem ks mem0) (hm:Yc s.maps maps0)
  (hk:∀ av mem' maps' N vs as',R av mem' maps' N vs as'→k (ren (YV ks s.mem.length) av) { s with tmps:=(t,.fam N vs (fun i=>Zil (YV ks s.mem.length) (as' i)))::s.tmps,mem:=YQ s.mem ks mem',maps:=maps'++s.maps }):Wn P f avs s k:=
 .inr (.inr (.inr (.inr (.inl ⟨ks,args',mem0,maps0,t,hnd,ha,hs,Z7 hm,h.mono fun av mem' maps' N vs as' r=>hk av mem' maps' N vs as' r⟩))))
theorem QN {f:FuncId} {avs args':List AV} {k:AV→VS→Prop} {N:Nat} {vs0:Nat→Value} {as0 as1:Nat→AV} {mem0:List (Option Ob)} {maps0:List (Nat×Mp)} {R:AV→List (Option Ob)→List (Nat×Mp)→Nat→(Nat→Value)→(Nat→AV)→Prop} (ks:List Nat) (t t':Nat) (h:VProcGT P f args' N vs0 as1 mem0 maps0 R) (hnd:ks.Nodup) (hg:lk s.tmps t=.fam N vs0 as0) (hg2:∀ i,i<N→Rn (fun j=>ks.getD j 0) ks.length (as0 i) (as1 i)) (ha:ZO (fun j=>ks.getD j 0) ks.length avs args')
  (hs:XS (fun j=>ks.getD j 0) ks.length s.mem ks mem0) (hm:Yc s.maps maps0)
  (hk:∀ av mem' maps' N' vs' as',R av mem' maps' N' vs' as'→k (ren (YV ks s.mem.length) av) { s with tmps:=(t',.fam N' vs' as')::s.tmps,mem:=YQ s.mem ks mem',maps:=maps'++s.maps }):Wn P f avs s k:=
 .inr (.inr (.inr (.inr (.inr ⟨ks,args',mem0,maps0,t,N,vs0,as0,as1,t',hnd,ha,⟨hg,hg2⟩,hs,Z7 hm,h.mono fun av mem' maps' N vs as' r=>hk av mem' maps' N vs as' r⟩))))
theorem WY {f:FuncId} {avs args':List AV} {N:Nat} {vs0:Nat→Value} {as0 as1:Nat→AV} {mem0:List (Option Ob)} {maps0:List (Nat×Mp)} (ks:List Nat) (t:Nat) (h:ZcN P f pv args' N vs0 as1 mem0 maps0) (hnd:ks.Nodup) (hg:lk s.tmps t=.fam N vs0 as0) (hg2:∀ i,i<N→Rn (fun j=>ks.getD j 0) ks.length (as0 i) (as1 i)) (ha:ZO (fun j=>ks.getD j 0) ks.length avs args')
  (hs:XS (fun j=>ks.getD j 0) ks.length s.mem ks mem0) (hm:Yc s.maps maps0) (hM:Yc maps0 M0):Zap P pv M0 f avs s:=
 ⟨ks,args',mem0,maps0,t,N,vs0,as0,as1,hnd,ha,⟨hg,hg2⟩,hs,Z7 hm,Z7 hM,h⟩
theorem Vk {T:TypeId} {k:AV→VS→Prop} {ad:Addr} {N:Nat} {vs:Nat→Value} {as':Nat→AV} {cs:List AV} (t i:Nat) (ht:lk s.tmps t=.fam N vs as') (hi:i<N) (hv:vs i=.pointer (some ad)) (ha:as' i=.bptr cs) (hk:vrd s k (XU P T) (tsz P T) cs 0):Zf3 P T s k ad:=
 ⟨t,N,vs,as',i,cs,ht,hi,hv,ha,hk⟩
def KD (P:Program) (n:Nat) (pv:Value) (M0:List (Nat×Mp)) (y:Code) (e:VX) (s:VS):Prop:=match e with
 | .normal=>vd P n pv M0 y s
 | _=>False
@[go_sem] theorem KD_n {y:Code}:KD P n pv M0 y .normal s=vd P n pv M0 y s:=_root_.id rfl
theorem Qj {x y:Code} (h:vd P n pv M0 x s):vd P n pv M0 (.seq x y) s:=.inl h
theorem Yx {x y:Code} (h:vc P n x s (KD P n pv M0 y)):vd P n pv M0 (.seq x y) s:=.inr h
def Zd0 {ι:Type} (I:ι→Prop) (μ:ι→Nat) (S:ι→VS) (i:ι) (e:VX) (s:VS):Prop:=match e with
 | .normal=>∃ j,I j∧μ j<μ i∧Ent s (S j)
 | _=>False
section
variable {ι:Type} {I:ι→Prop} {μ:ι→Nat} {S:ι→VS} {i:ι}
@[go_sem] theorem KDround_n:Zd0 I μ S i .normal s=(∃ j,I j∧μ j<μ i∧Ent s (S j)):=_root_.id rfl
@[go_sem] theorem KDround_r:Zd0 I μ S i .ret s=False:=_root_.id rfl
end
theorem ZjK {x:Code} {ι:Type} (I:ι→Prop) (μ:ι→Nat) (S:ι→VS) (h0:∃ i,I i∧Ent s (S i)) (h:∀ i,I i→vd P n pv M0 x (S i)∨vc P n x (S i) (Zd0 I μ S i)):vd P n pv M0 (.loop x) s:=⟨ι,I,μ,S,h0,h⟩
@[go_sem] theorem vd_block {x:Code} {id:Nat}:vd P n pv M0 (.block id x) s=vd P n pv M0 x s:=_root_.id rfl
def Hn (P:Program) (n:Nat) (pv:Value) (M0:List (Nat×Mp)) (x y:Code) (s:VS):AV→Prop
 | .lit (.bool t)=>(t=true→vd P n pv M0 x s)∧(t=false→vd P n pv M0 y s)
 | _=>False
@[go_sem] theorem vd_cond {c:Operand} {x y:Code}:vd P n pv M0 (.cond c x y) s=Hn P n pv M0 x y s (ev s c):=by
 simp only [vd]
 generalize ev s c=v
 cases v with
 |lit v=>cases v<;>rfl
 | _=>rfl
@[go_sem] theorem vdcond_b {x y:Code} {t:Bool}:Hn P n pv M0 x y s (.lit (.bool t))=((t=true→vd P n pv M0 x s)∧(t=false→vd P n pv M0 y s)):=_root_.id rfl
@[go_sem 2000] theorem vdcond_t {x y:Code}:Hn P n pv M0 x y s (.lit (.bool true))=vd P n pv M0 x s:=by simp [Hn]
@[go_sem 2000] theorem vdcond_f {x y:Code}:Hn P n pv M0 x y s (.lit (.bool false))=vd P n pv M0 y s:=by simp [Hn]
theorem Zhi {id:Nat} {l:List Oper} (i:Nat) (h:UG P n pv M0 i l s):vd P n pv M0 (.region id l.toArray false) s:=⟨i,h⟩
theorem Jy {id:Nat} {l:List Oper} (fin:List Nat) (p:Plan) (hok:W9 P l.toArray fin p=true) (h:WC P n pv M0 l fin p s):vd P n pv M0 (.region id l.toArray true) s:=⟨fin,p,hok,h⟩
def Zmp (P:Program) (n:Nat) (pv:Value) (M0:List (Nat×Mp)) (i:Nat) (r:List Oper) (s:VS):Prop:=UG P n pv M0 i r s
@[go_sem] theorem KDops_ {i:Nat}:Zmp P n pv M0 i r s=UG P n pv M0 i r s:=_root_.id rfl
@[go_sem] theorem vdopsAt_z {o:Oper}:UG P n pv M0 0 (o::r) s=(o.guard=none∧Zao P pv M0 s o.op):=_root_.id rfl
@[go_sem] theorem vdopsAt_s {i:Nat} {o:Oper}:UG P n pv M0 (i+1) (o::r) s=(o.guard=none∧ZR P n o s (Zmp P n pv M0 i r)):=_root_.id rfl
def Zhb (P:Program) (n:Nat) (pv:Value) (M0:List (Nat×Mp)) (all:List Oper) (fin:List Nat) (p:Plan) (s:VS):Prop:=WC P n pv M0 all fin p s
@[go_sem] theorem KDplan_ {fin:List Nat} {p:Plan}:Zhb P n pv M0 all fin p s=WC P n pv M0 all fin p s:=_root_.id rfl
def vdO (P:Program) (pv:Value) (M0:List (Nat×Mp)) (s:VS):Option Oper→Prop
 |some o=>o.guard=none∧Zao P pv M0 s o.op
 |none=>False
def vdB (P:Program) (n:Nat) (pv:Value) (M0:List (Nat×Mp)) (all:List Oper) (k:VS→Prop) (s:VS) (o:Option Oper):Bool→Prop
 |true=>vdO P pv M0 s o
 |false=>Qi P n all k s o
@[go_sem] theorem vdplan_nil {fin:List Nat}:WC P n pv M0 all fin .nil s=True:=_root_.id rfl
@[go_sem] theorem vdplan_q {fin:List Nat} {i:Nat} {p:Plan}:WC P n pv M0 all fin (.q i p) s=KT P n all (Zhb P n pv M0 all fin p) s (all[i]?):=by
 simp only [WC]
 cases all[i]?<;>rfl
@[go_sem] theorem vdplan_or {fin:List Nat} {i:Nat} {p q:Plan}:WC P n pv M0 all fin (.or i p q) s=(vdB P n pv M0 all (Zhb P n pv M0 all fin p) s (all[i]?) (decide (i∈fin))∧WC P n pv M0 all fin q s):=by
 simp only [WC]
 cases all[i]? with
 |none=>by_cases h:i∈fin<;>simp [h,vdB,vdO,Qi]
 |some o=>by_cases h:i∈fin<;>simp [h,vdB,vdO,Qi]<;>intro _<;>rfl
@[go_sem] theorem vdB_t {k:VS→Prop} {o:Option Oper}:vdB P n pv M0 all k s o true=vdO P pv M0 s o:=_root_.id rfl
@[go_sem] theorem vdB_f {k:VS→Prop} {o:Option Oper}:vdB P n pv M0 all k s o false=Qi P n all k s o:=_root_.id rfl
@[go_sem] theorem vdO_s {o:Oper}:vdO P pv M0 s (some o)=(o.guard=none∧Zao P pv M0 s o.op):=_root_.id rfl
@[go_sem] theorem vdop_call {f:FuncId} {args:List Operand} {tys:Array TypeId}:Zao P pv M0 s (.call { callee:=.value (.func f),args:=args.toArray,argTypes:=tys })=Zap P pv M0 f (args.map (ev s)) s:=_root_.id rfl
def ZjI (P:Program) (pv:Value) (M0:List (Nat×Mp)) (s:VS) (avs:List AV):AV→Prop
 | .lit (.func (.func f) first caps)=>Zap P pv M0 f (first.toList.map .lit++avs++caps.toList.map .lit) s
 | _=>False
@[go_sem] theorem vdop_fval {x:Tmp} {args:List Operand} {tys:Array TypeId}:Zao P pv M0 s (.call { callee:=.value (.tmp x),args:=args.toArray,argTypes:=tys })=ZjI P pv M0 s (args.map (ev s)) (lk s.tmps x):=by
 unfold Zao WB UN WT
 simp only [ev]
 generalize lk s.tmps x=ar
 cases ar with
 |lit v=>
  cases v with
  |func fn first caps=>
   cases fn with
   |func f=>
    simp only [ZjI]
    have e:(first.toList.map Operand.const++args++caps.toList.map Operand.const).map (ev s)=first.toList.map .lit++args.map (ev s)++caps.toList.map .lit:=by
     simp [Function.comp_def,ev]
    simp only [e]
   | _=>rfl
  | _=>rfl
 | _=>rfl
@[go_sem] theorem vdfun_s {avs:List AV} {f:FuncId} {first caps:Array Value}:ZjI P pv M0 s avs (.lit (.func (.func f) first caps))=Zap P pv M0 f (first.toList.map .lit++avs++caps.toList.map .lit) s:=_root_.id rfl
@[go_sem] theorem vdop_panic {x:Operand}:Zao P pv M0 s (.panic x)=(ev s x=.lit pv∧(∃ t v,pv=.iface t v)∧Yc s.maps M0):=_root_.id rfl
end
attribute [go_sem] VV
end Go.Proofs.YtadghlfkddkelaaGreatDoor.V
namespace Go.Proofs.YtadghlfkddkelaaGreatDoor.V
open Go.RowKit
open Go.ChangeMaps (setBlock)
theorem UL {w:World} {ok:Nat→Prop} {hd:Nat→Value} {m k sz i j:Nat} {v:Value} (h:Rep w ok hd m (.ptr k sz i j) v):∃ b n c,hd k=.slice (some ⟨b,0,none⟩) n c∧v=.pointer (some ⟨b,i*sz+j,none⟩):=by
 cases h with
 |ptr _ _ _ _ b n c _ hh=>exact ⟨b,n,c,hh,rfl⟩
section
variable {P:Program} {n:Nat} {base:Fr} {w0 w:World} {hd:Nat→Value} {s:VS} {a:Act}
theorem J3 (mem:List (Option Ob)) (hd:Nat→Value) (k b:Nat) (h:Zw mem hd b):Zw (mem.set k none) hd b:=by
 refine ⟨fun q ob hq=>h.1 q ob ?_,h.2⟩
 by_cases e:k=q
 ·subst e
  rw [List.getElem?_set_self'] at hq
  cases hm:mem[k]?<;>rw [hm] at hq<;>simp at hq
 ·rwa [List.getElem?_set_ne e] at hq
theorem Uy {mem:List (Option Ob)} {k q:Nat} {ob:Ob} (h:(mem.set k none)[q]?=some (some ob)):mem[q]?=some (some ob)∧q≠k:=by
 by_cases e:k=q
 ·subst e
  rw [List.getElem?_set_self'] at h
  cases hm:mem[k]?<;>rw [hm] at h<;>simp at h
 ·rw [List.getElem?_set_ne e] at h
  exact ⟨h,fun e'=>e e'.symm⟩
theorem RelH.free (h:RelH n base w0 hd s a w) (k:Nat):RelH n base w0 hd { s with mem:=s.mem.set k none } a w:=by
 have hc:∀ ad u,Zw s.mem hd ad.block→w.cell? ad=some u→w.cell? ad=some u∧Zw (s.mem.set k none) hd ad.block:=fun ad u ho hcell=>⟨hcell,J3 _ _ _ _ ho⟩
 refine ⟨h.defers,h.size,h.below,h.le,by simpa using h.fixl,h.fix,h.mp,fun t=>(h.tm t).mono hc (fun _ _=>rfl) (by simp),⟨fun q ob hq=>h.me.alw q ob (Uy hq).1,fun q ob hq=>?_,fun q hq=>h.me.hds q (by simpa using hq),fun q q' ob ob' hq hq'=>h.me.apart q q' ob ob' (Uy hq).1 (Uy hq').1⟩⟩
 obtain ⟨hs,vals,ho,hr⟩:=h.me.obs q ob (Uy hq).1
 refine ⟨hs,vals,ho,fun i hi=>⟨(hr i hi).1,fun j av hj=>?_⟩⟩
 obtain ⟨u,h1,h2,h3⟩:=(hr i hi).2 j av hj
 exact ⟨u,h1,h2,h3.mono hc (fun _ _=>rfl) (by simp)⟩
theorem RelH.freed (h:RelH n base w0 hd s a w) {k:Nat} {ob:Ob} (hk:s.mem[k]?=some (some ob)) (hn:0<ob.n) {v:Value} (hv:Rep w (Zw s.mem hd) hd s.mem.length (.ptr k ob.sz 0 0) v):Rep w (Zw (s.mem.set k none) hd) hd (s.mem.set k none).length (.bptr (ob.f 0)) v:=by
 have hc:∀ ad u,Zw s.mem hd ad.block→w.cell? ad=some u→w.cell? ad=some u∧Zw (s.mem.set k none) hd ad.block:=fun ad u ho hcell=>⟨hcell,J3 _ _ _ _ ho⟩
 cases hv with
 |ptr _ _ _ _ b n' c' hlt hb=>
  have hcells:=h.cells_ hk hb hn
  obtain ⟨hs,vals,ho,hr⟩:=h.me.obs k ob hk
  have hlen:=(hr 0 hn).1
  have hown:(hd k).ownBlock=some b:=by rw [hb];rfl
  refine .bptr (ob.f 0) _ (fun j=>(w.cell? ((⟨b,0*ob.sz,none⟩:Addr).add j)).getD undef) (fun e=>by rw [e] at hlen;simp at hlen;omega) ⟨fun q ob' hq e=>?_,h.ownTail (h.me.alw k ob hk b hown)⟩ (fun j hj=>?_) fun j av hj=>?_
  ·obtain ⟨hq1,hq2⟩:=Uy hq
   rcases h.me.apart q k ob' ob hq1 hk hq2 with e'|e'
   ·rw [e] at e';cases e'
   ·exact e' (by rw [e,hown])
  ·obtain ⟨u,h1,_⟩:=hcells j _ (List.getElem?_eq_getElem hj)
   show w.cell? ((⟨b,0*ob.sz+0,none⟩:Addr).add j)=_
   rw [Nat.add_zero,h1];rfl
  ·obtain ⟨u,h1,h2⟩:=hcells j av hj
   rw [h1]
   exact h2.mono hc (fun _ _=>rfl) (by simp)
theorem RelH.told (h:RelH n base w0 hd s a w) {t N:Nat} {vs:Nat→Value} {as':Nat→AV} (ht:lk s.tmps t=.fam N vs as') {i:Nat} (hi:i<N):Rep w (Zw s.mem hd) hd s.mem.length (as' i) (vs i):=by
 have h1:=h.tm t
 rw [ht] at h1
 generalize a.tmps.getD t undef=u0 at h1
 cases h1 with
 |fam _ _ _ _ hf=>exact hf i hi
theorem RelH.again_map (h:RelH n base w0 hd s a w) {b:Nat} {mp:Mp} {es:Array MapEntry} {clock:Nat} (hb:w.heap[b]?=some (.map es clock)) (hm:MapIs base.P mp es clock) (hmay:base.may b):RelH n base w0 hd { s with maps:=(b,mp)::s.maps } a w:=by
 refine ⟨h.defers,h.size,h.below,h.le,h.fixl,h.fix,fun c mq hc=>?_,h.tm,h.me⟩
 have hc':lkm ((b,mp)::s.maps) c=some mq:=hc
 simp only [lkm] at hc'
 split at hc'
 ·rename_i e
  simp only [Option.some.injEq] at hc'
  subst hc';subst e
  exact ⟨hmay,es,clock,hb,hm⟩
 ·exact h.mp c mq hc'
theorem RelH.iterTurn (h:RelH n base w0 hd s a w) {b:Nat} {o:Obj} (hb:w.heap[b]?=some o) (h1:∀ cs t fz,o≠.cells cs t fz) (h2:∀ es c,o≠.map es c) (hcell:∀ ad u,ad.block=b→w.cell? ad≠some u) (hmay:base.may b) (o':Obj):RelH n base w0 hd s a (setBlock w b o'):=by
 have hg:w.grownBy (setBlock w b o') (some b):=⟨rfl,rfl,rfl,by simp [setBlock],fun i _ hi=>by
  have hne:i≠b:=fun e=>hi (by rw [e])
  simp only [setBlock]
  rw [Array.getElem?_setIfInBounds_ne (fun e=>hne e.symm)]⟩
 have ne_cell:∀ ad u,w.cell? ad=some u→ad.block≠b:=fun ad u hc e=>hcell ad u e hc
 have hc:∀ ad u,Zw s.mem hd ad.block→w.cell? ad=some u→(setBlock w b o').cell? ad=some u∧Zw s.mem hd ad.block:=fun ad u ho hcl=>⟨Wz (hg.block _ (World.block_lt_of_cell? w _ hcl) (by simpa using ne_cell ad u hcl)) hcl,ho⟩
 refine ⟨h.defers,h.size,h.below.grown hg (fun q hq=>by simp only [Option.some.injEq] at hq;rw [←hq];exact hmay),h.le,h.fixl,h.fix,h.mp.grown hg (fun c mp hq hm=>?_),fun t=>(h.tm t).mono hc (fun _ _=>rfl) (Nat.le_refl _),⟨h.me.alw,fun k ob hk=>?_,h.me.hds,h.me.apart⟩⟩
 ·simp only [Option.some.injEq] at hq
  subst hq
  obtain ⟨_,es,clock,h3,_⟩:=h.mp b mp hm
  rw [hb] at h3
  simp only [Option.some.injEq] at h3
  exact h2 _ _ h3
 ·obtain ⟨hs,vals,ho,hr⟩:=h.me.obs k ob hk
  have hne:(hd k).ownBlock≠some b:=by
   intro e
   rcases ho.2 with ⟨e2,_⟩|⟨g,cap,cur,e2,⟨_,_,hh,_⟩,_⟩
   ·rw [e2] at e;simp [Value.ownBlock] at e
   ·rw [e2] at e
    simp only [Value.ownBlock,Option.some.injEq] at e
    rw [e,hb] at hh
    simp only [Option.some.injEq] at hh
    exact h1 _ _ _ hh
  refine ⟨hs,vals,ho.kept hg (by
   cases hq:(hd k).ownBlock with
   |none=>exact .inl rfl
   |some c=>exact .inr (fun e=>hne (by rw [hq];exact e))),fun i hi=>⟨(hr i hi).1,fun j av hj=>?_⟩⟩
  obtain ⟨u,g1,g2,g3⟩:=(hr i hi).2 j av hj
  exact ⟨u,g1,g2,g3.mono hc (fun _ _=>rfl) (Nat.le_refl _)⟩
theorem RelH.rebase (h:RelH n base w0 hd s a w) (no:Nat→Prop) (h1:∀ b,no b→b<w.heap.size) (h2:∀ b,no b→∀ mp,lkm s.maps b≠some mp) (h3:∀ b,no b→∀ k ob,s.mem[k]?=some (some ob)→(hd k).ownBlock≠some b):RelH n ⟨base.P,fun b=>base.may b∧¬no b,base.hd0,base.ds⟩ w hd s a w:=by
 obtain ⟨K,hK⟩:=h.fix.2.2
 refine ⟨h.defers,h.size,Bel.refl _ _,⟨fun b hb=>⟨h.le b (Nat.le_trans h.below.size hb),fun hn=>by have:=h1 b hn;omega⟩,h.gw,fun b hb=>h.le.low b hb.1⟩,h.fixl,⟨h.fix.1,h.fix.2.1,K,fun k hk b hb hm=>hK k hk b hb hm.1⟩,fun b mp hb=>?_,h.tm,⟨fun k ob hk b hb=>⟨h.me.alw k ob hk b hb,fun hn=>h3 b hn k ob hk hb⟩,h.me.obs,h.me.hds,h.me.apart⟩⟩
 obtain ⟨g1,g2⟩:=h.mp b mp hb
 exact ⟨⟨g1,fun hn=>h2 b hn mp hb⟩,g2⟩
theorem RelH.unbase {may':Nat→Prop} {w':World} {hd':Nat→Value} {s':VS} {a':Act} (h:RelH n base w0 hd s a w) (h':RelH n ⟨base.P,may',base.hd0,base.ds⟩ w hd' s' a' w') (hm:∀ b,may' b→base.may b):RelH n base w0 hd' s' a' w':=by
 refine ⟨h'.defers,h'.size,⟨h'.below.os.trans h.below.os,h'.below.tape.trans h.below.tape,h'.below.output.trans h.below.output,Nat.le_trans h.below.size h'.below.size,fun k hk hk2=>(h'.below.block k (Nat.lt_of_lt_of_le hk h.below.size) (fun e=>hk2 (hm k e))).trans (h.below.block k hk hk2)⟩,h.le,h'.fixl,⟨h'.fix.1,h'.fix.2.1,h.fix.2.2⟩,fun b mp hb=>?_,h'.tm,⟨fun k ob hk b hb=>hm b (h'.me.alw k ob hk b hb),h'.me.obs,h'.me.hds,h'.me.apart⟩⟩
 obtain ⟨g1,g2⟩:=h'.mp b mp hb
 exact ⟨hm b g1,g2⟩
theorem RelH.own_ne (h:RelH n base w0 hd s a w) {b:Nat} {o:Obj} (hb:w.heap[b]?=some o) (h1:∀ cs t fz,o≠.cells cs t fz) (k:Nat) (ob:Ob) (hk:s.mem[k]?=some (some ob)):(hd k).ownBlock≠some b:=by
 obtain ⟨hs,vals,ho,hr⟩:=h.me.obs k ob hk
 intro e
 rcases ho.2 with ⟨e2,_⟩|⟨g,cap,cur,e2,⟨_,_,hh,_⟩,_⟩
 ·rw [e2] at e;simp [Value.ownBlock] at e
 ·rw [e2] at e
  simp only [Value.ownBlock,Option.some.injEq] at e
  rw [e,hb] at hh
  simp only [Option.some.injEq] at hh
  exact h1 _ _ _ hh
theorem Zhl {c:Code} {K:VX→VS→Prop} {Q:Exit→Act→World→Prop} (h:RelH n base w0 hd s a w) (hP:base.P=P) (no:Nat→Prop) (h1:∀ b,no b→b<w.heap.size) (h2:∀ b,no b→∀ mp,lkm s.maps b≠some mp) (h3:∀ b,no b→∀ k ob,s.mem[k]?=some (some ob)→(hd k).ownBlock≠some b) (hv:vc P n c s K)
  (hQ:∀ x hd' s' a' w',RelH n base w0 hd' s' a' w'→(∀ b,no b→w'.heap[b]?=w.heap[b]?)→K x s'→Q x.out a' w'):c.wp P Q a w:=
 X6 (base:=⟨base.P,fun b=>base.may b∧¬no b,base.hd0,base.ds⟩) hP c (h.rebase no h1 h2 h3) hv fun x hd' s' a' w' h' hk=>hQ x hd' s' a' w' (h.unbase h' fun b hb=>hb.1) (fun b hb=>h'.below.block b (h1 b hb) fun hm=>hm.2 hb) hk
theorem H4 {all:Array Oper} {o:Oper} {rest:List Oper} {Q:Exit→Act→World→Prop} {k:VS→Prop} (h:RelH n base w0 hd s a w) (hP:base.P=P) (no:Nat→Prop) (h1:∀ b,no b→b<w.heap.size) (h2:∀ b,no b→∀ mp,lkm s.maps b≠some mp) (h3:∀ b,no b→∀ k ob,s.mem[k]?=some (some ob)→(hd k).ownBlock≠some b) (hg:o.guard=none) (hv:ZR P n o s k)
  (hK:∀ hd' s' a' w',RelH n base w0 hd' s' a' w'→(∀ b,no b→w'.heap[b]?=w.heap[b]?)→k s'→wpList P all Q rest a' w'):wpList P all Q (o::rest) a w:=by
 unfold wpList
 rw [if_pos (by simp [Region.wanted,hg])]
 exact .inl (VH (base:=⟨base.P,fun b=>base.may b∧¬no b,base.hd0,base.ds⟩) (h.rebase no h1 h2 h3) hP hv fun hd' s' a' w' h' hk=>hK hd' s' a' w' (h.unbase h' fun b hb=>hb.1) (fun b hb=>h'.below.block b (h1 b hb) fun hm=>hm.2 hb) hk)
end
end Go.Proofs.YtadghlfkddkelaaGreatDoor.V
namespace Go.Proofs.YtadghlfkddkelaaGreatDoor.V
open Go.RowKit
section
variable {P:Program} {n:Nat} {base:Fr} {w0 w:World} {hd:Nat→Value} {s:VS} {a:Act}
theorem ZkG {ts:List Nat} {x:AV} {r:List (Nat×AV)} {u:Nat}:lk (ts.map (fun t=>(t,x))++r) u=if u∈ts then x else lk r u:=by
 induction ts with
 |nil=>simp
 |cons t ts ih=>
  simp only [List.map_cons,List.cons_append,lk]
  by_cases e:t=u
  ·subst e;simp
  ·rw [if_neg e,ih]
   have e':¬u=t:=fun h=>e h.symm
   simp [e']
theorem RelH.rowSl (h:RelH n base w0 hd s a w) {k:Nat} {ob:Ob} (hk:s.mem[k]?=some (some ob)) (hc:∀ i,i<ob.n→∀ c,c∈ob.f i→Closed c):Rep w (Zw (s.mem.set k none) hd) hd (s.mem.set k none).length (.sl ob.sz ob.n ob.f) (hd k):=by
 obtain ⟨hs,vals,ho,hr⟩:=h.me.obs k ob hk
 have hok:∀ ad u,Zw s.mem hd ad.block→w.cell? ad=some u→w.cell? ad=some u∧Zw (s.mem.set k none) hd ad.block:=fun ad u ho hcell=>⟨hcell,J3 _ _ _ _ ho⟩
 rcases ho.2 with ⟨e,h0⟩|⟨g,cap,cur,e,h3,h1,h2,h4⟩
 ·rw [e,show Value.slice none 0 0=Value.slice none ob.n 0 by rw [h0]]
  exact .sl _ _ _ none 0 (fun _ _=>undef) (by omega) (by omega) hs (fun i hi=>(hr i hi).1) (fun hp=>by omega) (fun i j av hi=>by omega)
 ·have hcells:=fun i hi=>h.cells_ hk e (i:=i) hi
  have hown:(hd k).ownBlock=some g:=by rw [e];rfl
  rw [e]
  refine .sl _ _ _ _ _ (fun i j=>(w.cell? ((⟨g,i*ob.sz,none⟩:Addr).add j)).getD undef) (by omega) (by simp only [maxLen] at h2;omega) hs (fun i hi=>(hr i hi).1) (fun hp=>⟨_,rfl,⟨fun q ob' hq e'=>?_,h.ownTail (h.me.alw k ob hk g hown)⟩,fun i j hi hj=>?_⟩) fun i j av hi hj=>?_
  ·obtain ⟨hq1,hq2⟩:=Uy hq
   rcases h.me.apart q k ob' ob hq1 hk hq2 with e2|e2
   ·rw [e'] at e2;cases e2
   ·exact e2 (by rw [e',hown])
  ·obtain ⟨u,h1,_⟩:=hcells i hi j _ (List.getElem?_eq_getElem (by rw [(hr i hi).1];exact hj))
   have e3:((⟨g,0,none⟩:Addr).add (i*ob.sz+j))=(⟨g,i*ob.sz,none⟩:Addr).add j:=by
    by_cases hj0:j=0
    ·subst hj0
     by_cases hi0:i*ob.sz=0
     ·simp [Addr.add,hi0]
     ·simp only [Addr.add,Nat.add_zero];rw [if_neg hi0];simp
    ·have hne:¬(i*ob.sz+j=0):=by omega
     simp only [Addr.add];rw [if_neg hne,if_neg hj0];simp
   rw [e3,h1];rfl
  ·obtain ⟨u,h1,h2⟩:=hcells i hi j av hj
   simp only [h1]
   exact Rep.closed (hc i hi av (List.mem_of_getElem? hj)) (fun ad u' g1 g2=>⟨g2,J3 _ _ _ _ g1⟩) h2
end
theorem Ent.give {s:VS} (ts:List Nat) (k:Nat) {ob:Ob} (hk:s.mem[k]?=some (some ob)) (hc:∀ i,i<ob.n→∀ c,c∈ob.f i→Closed c) (ht:∀ t,t∈ts→lk s.tmps t=.own k) :
  Ent s { s with tmps:=ts.map (fun t=>(t,.sl ob.sz ob.n ob.f))++s.tmps,mem:=s.mem.set k none }:=by
 intro n base w0 hd a w h
 have hf:=h.free k
 have hr:=h.rowSl hk hc
 refine ⟨hd,hf.defers,hf.size,hf.below,hf.le,hf.fixl,hf.fix,hf.mp,fun u=>?_,hf.me⟩
 simp only [ZkG]
 split
 ·rename_i hu
  have:=h.tm u
  rw [ht u hu] at this
  generalize a.tmps.getD u undef=v at this
  cases this
  exact hr
 ·exact hf.tm u
end Go.Proofs.YtadghlfkddkelaaGreatDoor.V
namespace Go.Proofs.YtadghlfkddkelaaGreatDoor.V
open Go.RowKit
theorem Ent.giveIn {s:VS} (j k c:Nat) {ob oj:Ob} (hk:s.mem[k]?=some (some ob)) (hcl:∀ i,i<ob.n→∀ c,c∈ob.f i→Closed c) (hj:s.mem[j]?=some (some oj)) (hjk:j≠k) (hc:∀ i,i<oj.n→(oj.f i)[c]?=some (.own k)) :
  Ent s { s with mem:=(s.mem.set k none).set j (some { oj with f:=fun i=>(oj.f i).set c (.sl ob.sz ob.n ob.f) }) }:=by
 intro n base w0 hd a w h
 have hf:=h.free k
 have hr:=h.rowSl hk hcl
 have hj':(s.mem.set k none)[j]?=some (some oj):=by rw [List.getElem?_set_ne (fun e=>hjk e.symm)];exact hj
 refine ⟨hd,hf.recell (s:={ s with mem:=s.mem.set k none }) hj' rfl rfl rfl fun i hi=>⟨by simp,fun q av av' u h1 h2 h3=>?_⟩⟩
 simp only at h2
 rw [List.getElem?_set] at h2
 by_cases e:c=q
 ·subst e
  rw [if_pos rfl] at h2
  split at h2
  ·rw [hc i hi] at h1
   cases h1;cases h2
   cases h3
   exact hr
  ·cases h2
 ·rw [if_neg e,h1] at h2
  cases h2;exact h3
theorem Ent.giveAt {s:VS} (j k i0 c:Nat) {ob oj:Ob} (hk:s.mem[k]?=some (some ob)) (hcl:∀ i,i<ob.n→∀ c,c∈ob.f i→Closed c) (hj:s.mem[j]?=some (some oj)) (hjk:j≠k) (hc:(oj.f i0)[c]?=some (.own k)) :
  Ent s { s with mem:=(s.mem.set k none).set j (some { oj with f:=fun i=>if i=i0 then (oj.f i).set c (.sl ob.sz ob.n ob.f) else oj.f i }) }:=by
 intro n base w0 hd a w h
 have hf:=h.free k
 have hr:=h.rowSl hk hcl
 have hj':(s.mem.set k none)[j]?=some (some oj):=by rw [List.getElem?_set_ne (fun e=>hjk e.symm)];exact hj
 refine ⟨hd,hf.recell (s:={ s with mem:=s.mem.set k none }) hj' rfl rfl rfl fun i hi=>⟨by simp only;split<;>simp,fun q av av' u h1 h2 h3=>?_⟩⟩
 simp only at h2
 by_cases ei:i=i0
 ·subst ei
  rw [if_pos rfl,List.getElem?_set] at h2
  by_cases e:c=q
  ·subst e
   rw [if_pos rfl] at h2
   split at h2
   ·rw [hc] at h1
    cases h1;cases h2
    cases h3
    exact hr
   ·cases h2
  ·rw [if_neg e,h1] at h2
   cases h2;exact h3
 ·rw [if_neg ei,h1] at h2
  cases h2;exact h3
theorem VFun.adoptA {P:Program} {f:FuncId} {args:List AV} {R R':AV→List Ob→Prop} (h:VFun P f args R) (ty sz:Nat) (hsz:0<sz) (g:Nat→List AV)
  (hr:∀ av obs,R av obs→R' av obs∨∃ xs:List Value,av=.tup (.agg [.lit (.slice none 0 0)]::xs.map .lit)∧obs=[]∧R' (.tup (.agg [.own 0]::xs.map .lit)) [⟨ty,sz,0,g⟩]):VFun P f args R':=by
 refine ⟨h.1,fun w vs hl hv=>(h.2 w vs hl hv).mono fun e w' ⟨v,e1,gr,hd,av,obs,r,fl,hlit,hm,hrep⟩=>?_⟩
 rcases hr av obs r with r'|⟨xs,rfl,rfl,r'⟩
 ·exact ⟨v,e1,gr,hd,av,obs,r',fl,hlit,hm,hrep⟩
 ·refine ⟨v,e1,gr,fun _=>.slice none 0 0,_,_,r',?_,fun ob ho i hi=>?_,⟨fun k ob hk b hb=>?_,fun k ob hk=>?_,fun k hk=>⟨none,0,0,rfl⟩,fun k k' o o' hk hk' hne=>.inl rfl⟩,?_⟩
  ·simp [Vb,VP,X8]
  ·simp only [List.mem_singleton] at ho
   subst ho
   simp at hi
  ·simp [Value.ownBlock] at hb
  ·cases k with
   |zero=>
    simp only [List.map_cons,List.map_nil,List.getElem?_cons_zero,Option.some.injEq] at hk
    subst hk
    exact ⟨hsz,[],⟨by simp,.inl ⟨rfl,rfl⟩⟩,fun i hi=>by simp at hi⟩
   |succ k=>simp at hk
  ·cases hrep with
   |tup _ us hl2 hr2=>
    match us,hl2 with
    |u1::us,hl2=>
     have q1:=hr2 0 _ u1 rfl rfl
     cases q1 with
     |agg _ ws hl3 hr3=>
      match ws,hl3 with
      |[x],_=>
       have q2:=hr3 0 _ x rfl rfl
       cases q2
       refine .tup _ (.agg #[.slice none 0 0]::us) (by simpa using hl2) fun j a u ha hu=>?_
       cases j with
       |zero=>
        simp only [List.getElem?_cons_zero,Option.some.injEq] at ha hu
        subst ha;subst hu
        refine .agg _ [.slice none 0 0] rfl fun j a u ha hu=>?_
        cases j with
        |zero=>
         simp only [List.getElem?_cons_zero,Option.some.injEq] at ha hu
         subst ha;subst hu
         exact .own (hd:=fun _=>.slice none 0 0) 0 (by simp)
        |succ j=>simp at ha
       |succ j=>
        simp only [List.getElem?_cons_succ] at ha hu
        have:=hr2 (j+1) a u (by simpa using ha) (by simpa using hu)
        rw [List.getElem?_map,Option.map_eq_some_iff] at ha
        obtain ⟨y,hy,rfl⟩:=ha
        cases this
        exact .lit _
theorem Bel.weak {may may':Nat→Prop} {w w':World} (h:Bel may w w') (hh:∀ b,may b→may' b):Bel may' w w':=⟨h.os,h.tape,h.output,h.size,fun k hk hm=>h.block k hk fun e=>hm (hh k e)⟩
theorem VProc.adoptNil {P:Program} {f:FuncId} {u:Value} {maps0:List (Nat×Mp)} {R:AV→List (Option Ob)→List (Nat×Mp)→Prop} {ty sz:Nat} {g:Nat→List AV} (hsz:0<sz)
  (h:VProc P f [.lit u,.own 0] [some ⟨ty,sz,0,g⟩] maps0 R):VProc P f [.lit u,.lit (.slice none 0 0)] [] maps0 R:=by
 refine ⟨h.1,fun w vs hd0 hl hv hm hmp htl=>?_⟩
 obtain ⟨HD,hHD⟩:∃ HD:Nat→Value,HD=fun k=>if k=0 then .slice none 0 0 else hd0 k:=⟨_,rfl⟩
 have h0:HD 0=.slice none 0 0:=by rw [hHD];exact if_pos rfl
 have heqT:TailEq hd0 HD:=⟨1,fun k hk=>by rw [hHD];exact if_neg (by omega)⟩
 have hsh:∀ b,Sh w HD [some ⟨ty,sz,0,g⟩] maps0 b→Sh w hd0 [] maps0 b:=by
  rintro b (q|⟨k,o,hk,hb⟩|q)
  ·exact .inl q
  ·have hkl:=(List.getElem?_eq_some_iff.1 hk).1
   obtain rfl:k=0:=by simpa using hkl
   rw [h0] at hb;simp [Value.ownBlock] at hb
  ·exact .inr (.inr q)
 have htl':WP HD (Sh w HD [some ⟨ty,sz,0,g⟩] maps0):=by
  obtain ⟨K,hK⟩:=htl
  obtain ⟨M,hM⟩:=heqT
  refine ⟨K+M,fun k hk b hb hs=>?_⟩
  rw [hM k (by omega)] at hb
  exact hK k (by omega) b hb (hsh b hs)
 have hmr:MemRel (fun _=>True) w HD [some ⟨ty,sz,0,g⟩]:=by
  refine ⟨fun _ _ _ _ _=>trivial,fun k ob hk=>?_,fun k hk=>?_,fun k k' o o' hk hk' hne=>?_⟩
  ·have hkl:=(List.getElem?_eq_some_iff.1 hk).1
   obtain rfl:k=0:=by simpa using hkl
   simp only [List.getElem?_cons_zero,Option.some.injEq] at hk
   subst hk
   rw [h0]
   exact ⟨hsz,[],⟨by simp,.inl ⟨rfl,rfl⟩⟩,fun i hi=>by simp at hi⟩
  ·obtain rfl:k=0:=by simpa using hk
   exact ⟨none,0,0,h0⟩
  ·have hkl:=(List.getElem?_eq_some_iff.1 hk).1
   have hkl':=(List.getElem?_eq_some_iff.1 hk').1
   simp at hkl hkl'
   omega
 refine (h.2 w vs HD ⟨by simpa using hl.1,hl.2.1,fun b hb=>hl.2.2 b (hsh b hb)⟩ (fun j a x ha hx=>?_) hmr hmp htl').mono fun e w' ⟨v,e1,bel,hd,av,mm,maps,r,po,hfix,hmr,hmap,hrep⟩=>?_
 ·match j,ha with
  |0,ha=>
   have:=hv 0 (.lit u) x rfl hx
   simp at ha
   subst ha
   cases this
   exact .lit _
  |1,ha=>
   have:=hv 1 (.lit (.slice none 0 0)) x rfl hx
   simp at ha
   subst ha
   cases this
   rw [←h0]
   exact .own 0 (by simp)
  |j+2,ha=>simp at ha
 ·refine ⟨v,e1,bel.weak hsh,hd,av,mm,maps,r,⟨by simp,po.flat,po.cells,po.maps⟩,⟨fun k hk=>by simp at hk,heqT.trans hfix.2⟩,⟨fun k o hk b hb=>hsh b (hmr.alw k o hk b hb),hmr.obs,hmr.hds,hmr.apart⟩,fun b mp hb=>?_,hrep⟩
  obtain ⟨q1,q2⟩:=hmap b mp hb
  exact ⟨hsh b q1,q2⟩
theorem U7 {idx:Nat→Nat} {ks:List Nat} {ob:Ob} (h:∀ i,(ob.f i).all YL=true):WN idx ks ob (some (some ob))=True:=eq_true (by
 obtain ⟨ty,sz,n,f⟩:=ob
 exact Wr (fun _ _=>rfl) (fun i _=>h i))
def Zs (ws:List ByteArray) (i:Nat):ByteArray:=ws.getD i ByteArray.empty
def Zp (ws:List ByteArray) (i:Nat):List AV:=[.lit (.string (Zs ws i))]
theorem Zr (ws:List ByteArray) (i:Nat):Zp ws i=[.lit (.string (Zs ws i))]:=rfl
theorem Yg (l:List ByteArray) (i:Nat) (c:AV) (h:c∈Zp l i):Closed c:=by
 simp [Zp] at h;subst h;exact .lit _
theorem KH (l:List ByteArray) (i:Nat):(Zp l i).all YL=true:=rfl
@[go_sem] theorem txCells_ren (f:Nat→Nat) (l:List ByteArray) (i:Nat):(Zp l i).map (Ww f)=Zp l i:=rfl
@[go_sem] theorem txCells_one (l:List ByteArray) (i:Nat):(Zp l i).all Xg=true:=rfl
def UI (ws:List ByteArray):Option Ob:=some ⟨9,1,ws.length,Zp ws⟩
def RowIs (f:Nat→List AV) (ws:List ByteArray):Prop:=∀ i,i<ws.length→f i=Zp ws i
theorem RowIs.rfl {ws:List ByteArray}:RowIs (Zp ws) ws:=fun _ _=>_root_.rfl
theorem RowIs.one {z:ByteArray}:RowIs (fun i=>[[AV.lit (.string z)]][i]?.getD []) [z]:=fun i hi=>by
 obtain rfl:i=0:=by simpa using hi
 exact _root_.rfl
theorem RowIs.join {n:Nat} {f g:Nat→List AV} {a b:List ByteArray} (hf:RowIs f a) (hg:RowIs g b) (hn:n=a.length):RowIs (ZH n f g) (a++b):=fun i hi=>by
 subst hn
 unfold ZH Zp Zs
 by_cases h:i<a.length
 ·rw [if_pos h,hf i h,List.getD_eq_getElem?_getD,List.getElem?_append_left h]
  simp [Zp,Zs]
 ·simp only [List.length_append] at hi
  rw [if_neg h,hg _ (by omega),List.getD_eq_getElem?_getD,List.getElem?_append_right (by omega)]
  simp [Zp,Zs]
theorem Zlq {ty n:Nat} {f:Nat→List AV} {ws ws':List ByteArray} (h:RowIs f ws) (e:ws=ws') (hn:n=ws'.length):X5 [⟨ty,1,n,f⟩] [⟨ty,1,ws'.length,Zp ws'⟩]:=by
 subst e;subst hn
 exact obsSame_one.mpr ⟨⟨ty,1,ws.length,Zp ws⟩,⟨rfl,rfl,rfl,fun j hj=>⟨h j hj,KH _ j⟩⟩,rfl⟩
theorem Hq {g:Nat→Nat} {m:Nat} (T:List ByteArray) (w:ByteArray):(∀ i,i<T.length+1→ZO g m (ZH T.length (Zp T) (fun i=>[[AV.lit (.string w)]][i]?.getD []) i) (Zp (T++[w]) i))=True:=eq_true fun i hi=>by
 have:ZH T.length (Zp T) (fun i=>[[AV.lit (.string w)]][i]?.getD []) i=Zp (T++[w]) i:=by
  unfold ZH Zp Zs
  by_cases h:i<T.length
  ·rw [if_pos h,List.getD_eq_getElem?_getD,List.getD_eq_getElem?_getD,List.getElem?_append_left h]
  ·have:i=T.length:=by omega
   subst this
   rw [if_neg (by omega),List.getD_eq_getElem?_getD,List.getElem?_append_right (by omega)]
   simp
 rw [this]
 exact ZK (KH _ i)
end Go.Proofs.YtadghlfkddkelaaGreatDoor.V
namespace Go.Proofs.YtadghlfkddkelaaGreatDoor.V
open Go.RowKit
theorem K5:(∀ t:List ByteArray,UI t=some ⟨9,1,t.length,Zp t⟩)∧(∀ l i c,(c∈Za l i→Closed c)=True)∧(∀ l i c,(c∈Zp l i→Closed c)=True)∧
  (∀ g m l i,ZO g m (Za l i) (Za l i)=True)∧(∀ g m l i,ZO g m (Zp l i) (Zp l i)=True)∧
  (∀ (g:Nat→Nat) ks ty n l,WN g ks ⟨ty,4,n,Za l⟩ (some (some ⟨ty,4,n,Za l⟩))=True)∧(∀ (g:Nat→Nat) ks ty n l,WN g ks ⟨ty,1,n,Zp l⟩ (some (some ⟨ty,1,n,Zp l⟩))=True):=
 ⟨fun _=>rfl,fun _ _ _=>eq_true (Zo _ _ _),fun _ _ _=>eq_true (Yg _ _ _),
  fun _ _ _ i=>eq_true (ZK (ZhC _ i)),fun _ _ _ i=>eq_true (ZK (KH _ i)),
  fun _ _ _ _ _=>U7 fun i=>ZhC _ i,fun _ _ _ _ _=>U7 fun i=>KH _ i⟩
section
variable {P:Program} {s:VS}
theorem uS {f:FuncId} {avs args':List AV} {k:AV→VS→Prop} {mem0:List (Option Ob)} {maps0:List (Nat×Mp)} {R:AV→List (Option Ob)→List (Nat×Mp)→Prop} (ks:List Nat) (h:VProc P f args' mem0 maps0 R)
  (hk:∀ av mem' maps',R av mem' maps'→k (ren (YV ks s.mem.length) av) { s with mem:=YQ s.mem ks mem',maps:=maps'++s.maps })
  (hnd:ks.Nodup:=by simp) (ha:ZO (fun j=>ks.getD j 0) ks.length avs args':=by simp [go_sem,K5]) (hs:XS (fun j=>ks.getD j 0) ks.length s.mem ks mem0:=by simp [go_sem,K5]) (hm:Yc s.maps maps0:=by simp [go_sem]):Wn P f avs s k:=Zx ks h hnd ha hs hm hk
theorem uSF {f:FuncId} {avs args':List AV} {k:AV→VS→Prop} {mem0:List (Option Ob)} {maps0:List (Nat×Mp)} {R:AV→List (Option Ob)→List (Nat×Mp)→Prop} (ks:List Nat) (h:VProc P f args' mem0 maps0 R)
  (hk:∀ av mem' maps',R av mem' maps'→Zd1 s.maps maps0 maps'→k (ren (YV ks s.mem.length) av) { s with mem:=YQ s.mem ks mem',maps:=maps'++s.maps })
  (hnd:ks.Nodup:=by simp) (ha:ZO (fun j=>ks.getD j 0) ks.length avs args':=by simp [go_sem,K5]) (hs:XS (fun j=>ks.getD j 0) ks.length s.mem ks mem0:=by simp [go_sem,K5]) (hm:Yc s.maps maps0:=by simp [go_sem]):Wn P f avs s k:=Zc0 ks h hnd ha hs hm hk
theorem uE (ks:List Nat) {t t':List (Nat×AV)} {m m':List (Option Ob)} {M M':List (Nat×Mp)} {x:Nat}
  (h4:Zha (fun j=>ks.getD j 0) ks.length m ks m':=by simp [go_sem,K5]) (h1:Ke (fun j=>ks.getD j 0) ks.length t t':=by simp [go_sem,K5]) (hnd:ks.Nodup:=by simp) (hlt:∀ k,k∈ks→k<m.length:=by simp) (hx:x≤ks.length:=by simp) (hf:∀ k,k<x→ks.getD k 0=k:=by first|decide|(dsimp only;decide)) (hM:Yc M M':=by simp [go_sem]):Ent ⟨t,m,M,x⟩ ⟨t',m',M',x⟩:=ZU ks hnd hlt hx hf hM h1 h4
theorem uF {maps0:List (Nat×Mp)} {R:AV→List (Option Ob)→List (Nat×Mp)→Prop} {av:AV} (ex:List Nat) (mem':List (Option Ob))
  (hm:UC (YX s.fix ex) (XY s.fix ex) s.mem (XY s.fix ex) mem':=by simp [go_sem,K5]) (hR:R (ren (YX s.fix ex) av) mem' s.maps:=by simp [go_sem,K5]) (hnd:ex.Nodup:=by simp) (he:∀ e,e∈ex→s.fix≤e∧e<s.mem.length:=by simp) (hq:(∀ q,q∈Wi av→q∈XY s.fix ex)∧clW av:=by simp [go_sem])
  (hM:∀ b,(lkm maps0 b).isSome=true→(lkm s.maps b).isSome=true:=by simp [go_sem]):VJ maps0 R s av:=⟨rfl,ex,mem',hnd,he,hq,hm,hM,hR⟩
end
end Go.Proofs.YtadghlfkddkelaaGreatDoor.V
namespace Go.Proofs.YtadghlfkddkelaaGreatDoor.V
open Go.RowKit
theorem Zf6 {P:Program} {f:FuncId} {vs:List Value} {v:Value} (hf:ZbM P f) (h:∀ w,Calls P f vs.toArray w fun e w'=>e=.returned v∧Below w.heap.size w w'):VFun P f (vs.map .lit) (fun av obs=>obs=[]∧av=.lit v):=by
 refine ⟨hf,fun w us hl hu=>?_⟩
 have e:us=vs:=by
  have hl':vs.length=us.length:=by simpa using hl.1
  apply List.ext_getElem hl'.symm
  intro j h1 h2
  have:=hu j (.lit vs[j]) us[j] (by simp [h2]) (List.getElem?_eq_getElem h1)
  generalize us[j]=x at this
  generalize vs[j]=y at this
  cases this
  rfl
 subst e
 refine (h w).mono fun e w' ⟨he,hw⟩=>?_
 subst he
 exact ⟨v,rfl,⟨hw.os,hw.tape,hw.output,hw.size,fun k hk _=>hw.block k hk⟩,fun _=>undef,.lit v,[],⟨rfl,rfl⟩,rfl,fun ob h=>by simp at h,⟨fun k ob h=>by simp at h,fun k ob h=>by simp at h,fun k h=>by simp at h,fun k k' ob ob' h=>by simp at h⟩,.lit v⟩
def digitBytes:ByteArray:={ data:=#[48,49,50,51,52,53,54,55,56,57] }
theorem Zbk (b:UInt8):digitBytes.data.toList.contains b=XV b.toNat:=by
 revert b
 have h:(List.range 256).all (fun n=>digitBytes.data.toList.contains n.toUInt8==XV n)=true:=by kernel_rfl
 intro b
 have:=List.all_eq_true.mp h b.toNat (List.mem_range.mpr b.toNat_lt)
 simpa using this
theorem ZbT {α:Type} {p:α→Bool} {l:List α}:l.dropWhile p=[]↔∀ x,x∈l→p x=true:=by
 induction l with
 |nil=>simp
 |cons a l ih=>
  rw [List.dropWhile_cons]
  split
  ·rename_i h;simp [ih,h]
  ·rename_i h;simp [h]
theorem ZjY {l cs:List UInt8}:Lib.trimS l cs=[]↔∀ x,x∈l→cs.contains x=true:=by
 unfold Lib.trimS Lib.trimLeftS
 rw [ZbT]
 unfold Lib.trimRightS
 constructor
 ·intro h x hx
  have hd:l=(l.reverse.dropWhile (cs.contains ·)).reverse++(l.reverse.takeWhile (cs.contains ·)).reverse:=by
   rw [←List.reverse_append,List.takeWhile_append_dropWhile,List.reverse_reverse]
  rw [hd,List.mem_append] at hx
  rcases hx with hx|hx
  ·exact h x hx
  ·rw [List.mem_reverse] at hx
   exact List.all_eq_true.mp (List.all_takeWhile (p:=(cs.contains ·)) (l:=l.reverse)) x hx
 ·intro h x hx
  rw [List.mem_reverse] at hx
  exact h x (List.mem_reverse.mp ((List.dropWhile_sublist _).subset hx))
def Zc6 (z:ByteArray):ByteArray:=⟨(Lib.trimS z.data.toList digitBytes.data.toList).toArray⟩
theorem Zgf (z:ByteArray) (h:0<z.size):decide (Zc6 z=⟨#[]⟩)=Vq z:=by
 have e:Zc6 z=⟨#[]⟩↔∀ i,i<z.size→XV (Ze z i)=true:=by
  unfold Zc6
  rw [ByteArray.mk.injEq,Array.mk.injEq,ZjY]
  simp only [Zbk]
  constructor
  ·intro h i hi
   have:=h (z.data.toList[i]'hi) (List.getElem_mem _)
   unfold Ze
   rw [dif_pos hi]
   exact this
  ·intro h x hx
   obtain ⟨i,hi,rfl⟩:=List.getElem_of_mem hx
   have:=h i hi
   unfold Ze at this
   rw [dif_pos (show i<z.size from hi)] at this
   exact this
 rw [Bool.eq_iff_iff,decide_eq_true_eq,e]
 simp only [Vq,h,decide_true,Bool.and_true,List.all_eq_true,List.mem_range]
theorem ZmR (z:ByteArray) (hz:z.size≤9223372036854775807):VFun Tryz.prog 157 [.lit (.string z),.lit (.string digitBytes)] (fun av obs=>obs=[]∧av=.lit (.string (Zc6 z))):=
 Zf6 (vs:=[.string z,.string digitBytes]) ⟨_,Tryz.func157,rfl,rfl⟩ (fun w=>Any.strings_Trim_laid Tryz.lays160 (by kernel_rfl) z digitBytes w hz (by decide) (ascii_of_all (by decide)))
theorem ba_nil {z:ByteArray}:z.toList=[]↔z.size=0:=by
 rw [ByteArray.toList_eq]
 constructor
 ·intro h
  show z.data.size=0
  rw [←Array.length_toList,h];rfl
 ·intro h
  apply List.eq_nil_of_length_eq_zero
  rw [Array.length_toList];exact h
theorem Zk7 {z:ByteArray}:z.toList.isEmpty=decide (z=⟨#[]⟩):=by
 rw [Bool.eq_iff_iff,List.isEmpty_iff,decide_eq_true_iff,ba_nil]
 constructor
 ·intro h
  exact ByteArray.ext (Array.eq_empty_of_size_eq_zero h)
 ·intro h
  rw [h];rfl
theorem Zbi (c:UInt8):∀ l:List UInt8,(KA c l).length≤l.length+1
 |[]=>by simp [KA]
 |b::r=>by
  have ih:=Zbi c r
  unfold KA
  split
  ·simp;omega
  ·split
   ·rename_i h;rw [h] at ih;simp at ih ⊢;omega
   ·simp
theorem ZcD {c:UInt8}:∀ (k:Nat) (l:List UInt8),l.length≤k→Lib.count l [c]+1=(KA c l).length
 |k,l,hk=>by
  rcases HO (c:=c) l with ⟨h1,h2⟩|⟨p,r,rfl,h1,h2⟩
  ·rw [Lib.count_miss h2,Kt l h1];rfl
  ·rw [Lib.count_hit (by simp) h2,Hd p h1]
   match k,hk with
   |0,hk=>simp at hk
   |k+1,hk=>
    have hr:r.length≤k:=by simp at hk;omega
    have e:(p++c::r).drop (p.length+[c].length)=r:=by simp
    rw [e,List.length_cons,←ZcD k r hr]
    omega
theorem Zbg (c:UInt8) (z:ByteArray):(Z4 c z).length≤z.size+1:=by
 unfold Z4
 rw [List.length_map]
 exact Zbi c _
theorem ZhR (c:UInt8) (z:ByteArray) (hz:z.size≤1048576):VFun Tryz.prog 82 [.lit (.string z),.lit (.string ⟨#[c]⟩)] (fun av obs=>av=.own 0∧obs=[⟨9,1,(Z4 c z).length,Zp (Z4 c z)⟩]):=by
 refine ⟨⟨_,Tryz.func82,rfl,rfl⟩,fun w us hl hu=>?_⟩
 have e:us=[.string z,.string ⟨#[c]⟩]:=by
  have hl':=hl.1
  match us,hl',hu with
  |[x,y],_,hu=>
   have h0:=hu 0 _ x rfl rfl
   have h1:=hu 1 _ y rfl rfl
   cases h0;cases h1;rfl
 subst e
 obtain ⟨hsz,W,hW,hLX,hsame⟩:=hl.2.1
 obtain ⟨m,hm⟩:=Tryz.laysM146.s1_3 W hW
 have hm':w.cell? ⟨0,0,none⟩=some (.int .i64 m):=by
  have h0:=hsame 0 (by decide)
  have hm:W.cell? ⟨0,0,none⟩=some (.int .i64 m):=hm
  unfold World.cell? at hm ⊢
  simp only at hm ⊢
  rw [h0];exact hm
 refine (Any.strings_Split Tryz.lays146 (by kernel_rfl) z ⟨#[c]⟩ m w (by omega) hm' (Nat.le_refl _)).mono fun e w' ⟨he,hw⟩=>?_
 rw [ZgM] at hw
 have hcnt:Lib.countB z ⟨#[c]⟩+1=(Z4 c z).length:=by
  unfold Z4
  rw [List.length_map,←ZcD _ _ (Nat.le_refl _)]
 rw [hcnt] at he
 subst he
 have hlen:=Zbg c z
 subst hw
 refine ⟨_,rfl,World.grownBy_alloc w _ none,fun _=>.slice (some ⟨w.heap.size,0,none⟩) (Z4 c z).length (Z4 c z).length,.own 0,_,⟨rfl,rfl⟩,rfl,fun ob ho i hi=>?_,⟨fun k ob hk b hb=>?_,fun k ob hk=>?_,fun k hk=>⟨_,_,_,rfl⟩,fun k k' o o' hk hk' hne=>?_⟩,.own 0 (by simp)⟩
 ·simp only [List.mem_singleton] at ho
  subst ho
  exact KH _ i
 ·simp only [Value.ownBlock,Option.some.injEq] at hb
  omega
 ·have e0:k=0:=by have:=(List.getElem?_eq_some_iff.1 hk).1;simpa using this
  subst e0
  simp only [List.map_cons,List.map_nil,List.getElem?_cons_zero,Option.some.injEq] at hk
  subst hk
  refine ⟨Nat.one_pos,(Z4 c z).map Value.string,⟨by simp,.inr ⟨w.heap.size,(Z4 c z).length,((Z4 c z).map Value.string).toArray,rfl,⟨9,(0,0),heap_alloc_new _ _,.inl ⟨rfl,rfl⟩⟩,Nat.le_refl _,by simp only [maxLen];omega,by simp,by simp only [Nat.mul_one,List.toList_toArray];rw [List.take_of_length_le (by simp)]⟩⟩,fun i hi=>⟨rfl,fun j a ha=>?_⟩⟩
  have hj:j=0:=by have:=(List.getElem?_eq_some_iff.1 ha).1;simpa [Zp] using this
  subst hj
  simp only [Zp,List.getElem?_cons_zero,Option.some.injEq] at ha
  subst ha
  refine ⟨.string (Zs (Z4 c z) i),?_,rfl,.lit _⟩
  have hi':i<(Z4 c z).length:=hi
  simp only [Nat.mul_one,Nat.add_zero,List.getElem?_map,Zs,List.getD_eq_getElem?_getD]
  rw [List.getElem?_eq_getElem hi']
  rfl
 ·have e0:k=0:=by have:=(List.getElem?_eq_some_iff.1 hk).1;simpa using this
  have e1:k'=0:=by have:=(List.getElem?_eq_some_iff.1 hk').1;simpa using this
  omega
def wR (z:ByteArray) (i:Nat):List ByteArray:=((Yt 32 z i).1.map fun p=>z.extract p.1 p.2).filter fun w=>decide (0<w.size)
theorem ZfW (z:ByteArray):wR z (z.size+1)=WR z:=by rw [wR,Hc];rfl
theorem HR {c:UInt8} {z:ByteArray} {i:Nat} (h:¬(i=z.size∨Ze z i=c.toNat)):Yt c z (i+1)=Yt c z i:=by rw [Yt,if_neg h]
theorem Q8 {c:UInt8} {z:ByteArray} {i:Nat} (h:i=z.size∨Ze z i=c.toNat):Yt c z (i+1)=((Yt c z i).1++[((Yt c z i).2,i)],i+1):=by rw [Yt,if_pos h]
theorem G9 {c:UInt8} {z:ByteArray} {i:Nat} (h:i≤z.size+1):(Yt c z i).2≤i∧(Yt c z i).1.length≤i:=by
  induction i with
  |zero=>simp [Yt]
  |succ i ih=>
    have:=ih (by omega)
    by_cases e:i=z.size∨Ze z i=c.toNat
    · rw [Q8 e];simp;omega
    · rw [HR e];omega
theorem Zjs {z:ByteArray} {i:Nat} (hi:i≤z.size) (h:i=z.size∨Ze z i=32):wR z (i+1)=if (Yt 32 z i).2<i then wR z i++[z.extract (Yt 32 z i).2 i] else wR z i:=by
  rw [wR,Q8 h]
  simp only [List.map_append,List.map_cons,List.map_nil,List.filter_append]
  have hs:(z.extract (Yt 32 z i).2 i).size=i-(Yt 32 z i).2:=by rw [ByteArray.size_extract];omega
  split
  · rename_i h
    rw [List.filter_cons_of_pos (by simp only [hs,decide_eq_true_eq];omega)]
    rfl
  · rename_i h
    rw [List.filter_cons_of_neg (by simp only [hs,decide_eq_true_eq];omega)]
    simp [wR]
theorem Zjr {z:ByteArray} {i:Nat} (h:i≤z.size+1):(wR z i).length≤i:=Nat.le_trans (List.length_filter_le _ _) (by rw [List.length_map];exact (G9 h).2)
set_option maxRecDepth 100000 in
theorem Zi0 (z:ByteArray) (hz:z.size≤1048576):VFun Tryz.prog 79 [.lit (.string z)] (fun av obs=>av=.own 0∧obs=[⟨9,1,(WR z).length,Zp (WR z)⟩]):=by
  refine Zd Tryz.func79 (by kernel_rfl) rfl (by simp [Tryz.ntmps79]) ?_;simp only [Tryz.ntmps79,Tryz.results79];simp [go_sem]
  refine ZC (fun i:Nat=>i≤z.size+1) (fun i=>z.size+1-i) (fun i=>.of [(0,.lit (.string z)),(3,.own 0),(4,.lit (.int .i64 (Yt 32 z i).2)),(5,.lit (.int .i64 i))] [some ⟨9,1,(wR z i).length,Zp (wR z i)⟩]) ⟨0,by omega,?_⟩ (fun i hi=>?_)
  · exact uE [0] (h1:=by simp [go_sem,Yt]) (h4:=by simp [go_sem,K5,wR,Yt])
  · have hc:=G9 (c:=32) hi
    have hl:=Zjr hi
    have hwr:i≤z.size→IntKind.i64.wrap ((i:Int)+1)=(i:Int)+1:=fun h=>wrap_i64 (by omega)
    have step:(i=z.size∨Ze z i=32)→(Yt 32 z (i+1)).2=i+1:=fun e=>by rw [Q8 e]
    have grow:∀ (hw:i≤z.size) (e:i=z.size∨Ze z i=32),(Yt 32 z i).2<i→wR z (i+1)=wR z i++[z.extract (Yt 32 z i).2 i]:=fun hw e h=>by rw [Zjs hw e,if_pos h]
    have keep:∀ (hw:i≤z.size) (e:i=z.size∨Ze z i=32),¬(Yt 32 z i).2<i→wR z (i+1)=wR z i:=fun hw e h=>by rw [Zjs hw e,if_neg h]
    simp [go_sem]
    refine ⟨fun hw=>?_,fun hgt=>?_⟩
    · have hwr:=hwr hw
      refine ⟨fun hne=>⟨by omega,fun hb=>⟨fun hlt=>⟨by omega,by omega,by omega,by omega,i+1,by omega,by omega,?_⟩,fun hge=>⟨i+1,by omega,by omega,?_⟩⟩,fun hb=>⟨i+1,by omega,by omega,?_⟩⟩,fun he=>⟨fun hlt=>⟨by omega,by omega,by omega,by omega,i+1,by omega,by omega,?_⟩,fun hge=>⟨i+1,by omega,by omega,?_⟩⟩⟩
      · have g:=grow hw (.inr hb) hlt
        have s1:=step (.inr hb)
        exact uE [2] (h1:=by simp [go_sem,hwr,s1]) (h4:=by simp [go_sem,K5,g,Hq])
      · have g:=keep hw (.inr hb) (by omega)
        have s1:=step (.inr hb)
        exact uE [0] (h1:=by simp [go_sem,hwr,s1]) (h4:=by simp [go_sem,K5,g])
      · have s1:Yt 32 z (i+1)=Yt 32 z i:=HR (fun h=>h.elim (fun h=>by omega) hb)
        exact uE [0] (h1:=by simp [go_sem,hwr,s1]) (h4:=by simp [go_sem,K5,wR,s1])
      · have hz':i=z.size:=by omega
        have g:=grow hw (.inl hz') hlt
        have s1:=step (.inl hz')
        exact uE [2] (h1:=by simp [go_sem,hwr,s1]) (h4:=by simp [go_sem,K5,g,Hq])
      · have hz':i=z.size:=by omega
        have g:=keep hw (.inl hz') (by omega)
        have s1:=step (.inl hz')
        exact uE [0] (h1:=by simp [go_sem,hwr,s1]) (h4:=by simp [go_sem,K5,g])
    · obtain rfl:i=z.size+1:=by omega
      rw [←ZfW]
      exact Zlq .rfl rfl rfl
structure PLin where
  ws:List ByteArray
  a:Nat
  b:Nat
deriving Inhabited
def PLin.cells (l:PLin):List AV:=[.sl 1 l.ws.length (Zp l.ws),.lit (.int .i64 l.a),.lit (.int .i64 l.b)]
def Yu (L:List PLin) (i:Nat):PLin:=L.getD i default
def Yh (L:List PLin) (i:Nat):List AV:=(Yu L i).cells
theorem W2 (L:List PLin) (i:Nat):Yh L i=[.sl 1 (Yu L i).ws.length (Zp (Yu L i).ws),.lit (.int .i64 (Yu L i).a),.lit (.int .i64 (Yu L i).b)]:=rfl
theorem Qb (L:List PLin) (i:Nat) (c:AV) (h:c∈Yh L i):Closed c:=by
  rw [W2] at h
  simp at h
  rcases h with rfl|rfl|rfl
  · exact .sl _ _ _ fun i c _ h=>Yg _ i c h
  · exact .lit _
  · exact .lit _
theorem YR {f:Nat→Nat} {m:Nat}:∀ {l:List AV},(∀ c,c∈l→Closed c)→ZO f m l l
  |[],_=>trivial
  |a::r,h=>⟨.closed _ (h a (by simp)),YR fun c hc=>h c (by simp [hc])⟩
@[go_sem] theorem linCells_ren (f:Nat→Nat) (L:List PLin) (i:Nat):(Yh L i).map (Ww f)=Yh L i:=rfl
@[go_sem] theorem linCells_one (L:List PLin) (i:Nat):(Yh L i).all Xg=true:=rfl
theorem ZmK {g:Nat→Nat} {ks:List Nat} {ty n:Nat} {L:List PLin}:WN g ks ⟨ty,3,n,Yh L⟩ (some (some ⟨ty,3,n,Yh L⟩)):=
  ⟨rfl,rfl,rfl,fun i hi=>⟨rfl,fun c hc=>by
    have hc:c∈Yh L i:=hc
    rw [W2] at hc
    simp at hc
    rcases hc with rfl|rfl|rfl
    · exact .inr ⟨⟨_,_,_,rfl⟩,.sl _ _ _ fun i c _ h=>Yg _ i c h⟩
    · exact .inl rfl
    · exact .inl rfl,fun c hc q hq=>by
    have hc:c∈Yh L i:=hc
    rw [W2] at hc
    simp at hc
    rcases hc with rfl|rfl|rfl<;>simp [WI] at hq⟩⟩
def Za1 (L:List PLin):Option Ob:=some ⟨95,3,L.length,Yh L⟩
theorem KL:(∀ L,Za1 L=some ⟨95,3,L.length,Yh L⟩)∧(∀ L i c,(c∈Yh L i→Closed c)=True)∧(∀ g m L i,ZO g m (Yh L i) (Yh L i)=True)∧(∀ (g:Nat→Nat) ks ty n L,WN g ks ⟨ty,3,n,Yh L⟩ (some (some ⟨ty,3,n,Yh L⟩))=True):=
  ⟨fun _=>rfl,fun _ _ _=>eq_true (Qb _ _ _),fun _ _ L i=>eq_true (YR fun c h=>Qb L i c h),fun _ _ _ _ _=>eq_true ZmK⟩
def lnR (z:ByteArray) (i:Nat):List PLin:=(Yt 10 z i).1.map fun p=>⟨WR (z.extract p.1 p.2),p.1,p.2⟩
def Z1 (z:ByteArray):List PLin:=lnR z (z.size+1)
theorem ZhJ {z:ByteArray} {i:Nat} (h:i=z.size∨Ze z i=10):lnR z (i+1)=lnR z i++[⟨WR (z.extract (Yt 10 z i).2 i),(Yt 10 z i).2,i⟩]:=by rw [lnR,Q8 h];simp [lnR]
theorem ZhI {z:ByteArray} {i:Nat} (h:i≤z.size+1):(lnR z i).length≤i:=by rw [lnR,List.length_map];exact (G9 h).2
theorem Zac (z:ByteArray):(WR z).length≤z.size+1:=by rw [←ZfW];exact Zjr (Nat.le_refl _)
theorem ZiF (T:List PLin) (x:PLin) (i:Nat) (hi:i<T.length+1):Yu (T++[x]) i=if i=T.length then x else Yu T i:=by
  unfold Yu
  by_cases h:i=T.length
  · subst h
    rw [if_pos rfl,List.getD_eq_getElem?_getD,List.getElem?_append_right (Nat.le_refl _)];simp
  · rw [if_neg h,List.getD_eq_getElem?_getD,List.getD_eq_getElem?_getD,List.getElem?_append_left (by omega)]
theorem ZhL {g:Nat→Nat} {m k:Nat} (T:List PLin) (ws:List ByteArray) (a b:Nat):(∀ i,i<T.length+1→ZO g m (if i=T.length then (ZH T.length (Yh T) (fun q=>[[AV.own k,AV.lit (.int .i64 a),AV.lit (.int .i64 b)]][q]?.getD []) i).set 0 (.sl 1 ws.length (Zp ws)) else ZH T.length (Yh T) (fun q=>[[AV.own k,AV.lit (.int .i64 a),AV.lit (.int .i64 b)]][q]?.getD []) i) (Yh (T++[⟨ws,a,b⟩]) i))=True:=eq_true fun i hi=>by
  have:(if i=T.length then (ZH T.length (Yh T) (fun q=>[[AV.own k,AV.lit (.int .i64 a),AV.lit (.int .i64 b)]][q]?.getD []) i).set 0 (.sl 1 ws.length (Zp ws)) else ZH T.length (Yh T) (fun q=>[[AV.own k,AV.lit (.int .i64 a),AV.lit (.int .i64 b)]][q]?.getD []) i)=Yh (T++[⟨ws,a,b⟩]) i:=by
    unfold ZH
    rw [show Yh (T++[⟨ws,a,b⟩]) i=(Yu (T++[⟨ws,a,b⟩]) i).cells from rfl,ZiF T _ i hi]
    by_cases h:i=T.length
    · subst h
      simp [PLin.cells]
    · rw [if_neg h,if_pos (by omega),if_neg h]
      rfl
  rw [this]
  exact YR fun c h=>Qb _ i c h
set_option maxRecDepth 100000 in
theorem Zi3 (z:ByteArray) (hz:z.size≤1048576):VProc Tryz.prog 53 [.lit (.string z)] [] [] (fun av mem maps=>av=.own 0∧mem=[Za1 (Z1 z)]∧maps=[]):=by
  refine Zu Tryz.func53 (by kernel_rfl) rfl (by simp [Tryz.ntmps53]) ?_;simp only [Tryz.ntmps53,Tryz.results53];simp [go_sem]
  refine ZC (fun i:Nat=>i≤z.size+1) (fun i=>z.size+1-i) (fun i=>.of [(0,.lit (.string z)),(3,.own 0),(4,.lit (.int .i64 (Yt 10 z i).2)),(5,.lit (.int .i64 i))] [Za1 (lnR z i)]) ⟨0,by omega,?_⟩ (fun i hi=>?_)
  · exact uE [0] (h1:=by simp [go_sem,Yt]) (h4:=by simp [go_sem,KL,lnR,Yt])
  · have hc:=G9 (c:=10) hi
    have hl:=ZhI hi
    have hwr:i≤z.size→IntKind.i64.wrap ((i:Int)+1)=(i:Int)+1:=fun h=>wrap_i64 (by omega)
    simp [go_sem,KL]
    have step:(i=z.size∨Ze z i=10)→(Yt 10 z (i+1)).2=i+1:=fun e=>by rw [Q8 e]
    have hw1:=Zi0 (z.extract (Yt 10 z i).2 i) (by rw [ByteArray.size_extract];omega)
    have hwl:=Zac (z.extract (Yt 10 z i).2 i)
    rw [ByteArray.size_extract] at hwl
    refine ⟨fun hw=>?_,fun hgt=>?_⟩
    · have hwr:=hwr hw
      refine ⟨fun hne=>⟨by omega,fun hb=>⟨by omega,by omega,ZP hw1 (by simp [go_sem]) ?_⟩,fun hb=>⟨i+1,by omega,by omega,?_⟩⟩,fun he=>⟨by omega,by omega,ZP hw1 (by simp [go_sem]) ?_⟩⟩
      · rintro av obs ⟨rfl,rfl⟩
        simp [go_sem]
        have s1:=step (.inr hb)
        have g:=ZhJ (z:=z) (i:=i) (.inr hb)
        refine ⟨by omega,by omega,i+1,by omega,by omega,?_⟩
        refine Ent.trans (Ent.giveAt 3 1 (lnR z i).length 0 rfl (fun i _ c h=>Yg _ i c h) rfl (by decide) ?_) ?_
        · simp [ZH]
        · simp only [List.set_cons_succ,List.set_cons_zero]
          exact uE [3] (h1:=by simp [go_sem,hwr,s1]) (h4:=by simp [go_sem,KL,g,ZhL])
      · have s1:Yt 10 z (i+1)=Yt 10 z i:=HR (fun h=>h.elim (fun h=>by omega) hb)
        exact uE [0] (h1:=by simp [go_sem,hwr,s1]) (h4:=by simp [go_sem,KL,lnR,s1])
      · rintro av obs ⟨rfl,rfl⟩
        simp [go_sem]
        have hz':i=z.size:=by omega
        have s1:=step (.inl hz')
        have g:=ZhJ (z:=z) (i:=i) (.inl hz')
        refine ⟨by omega,by omega,i+1,by omega,by omega,?_⟩
        refine Ent.trans (Ent.giveAt 3 1 (lnR z i).length 0 rfl (fun i _ c h=>Yg _ i c h) rfl (by decide) ?_) ?_
        · simp [ZH]
        · simp only [List.set_cons_succ,List.set_cons_zero]
          exact uE [3] (h1:=by simp [go_sem,hwr,s1]) (h4:=by simp [go_sem,KL,g,ZhL])
    · obtain rfl:i=z.size+1:=by omega
      exact uF [0] [Za1 (Z1 z)] (hm:=by simp [go_sem,KL,Z1]) (hR:=by simp [go_sem,KL])
theorem GI {w:ByteArray} {l:List UInt8}:(w.toList=l)=(w=⟨l.toArray⟩):=propext ⟨fun h=>by
 rw [ByteArray.toList_eq] at h
 cases w
 simp only at h
 rw [←h],fun h=>by rw [h,ByteArray.toList_eq]⟩
theorem KW5:(∀ w:ByteArray,(w.toList=[98,101,103,105,110])=(w=ZdA))∧(∀ w:ByteArray,(w.toList=[117,115,101])=(w=KK))∧(∀ w:ByteArray,(w.toList=[112,114,101,102,105,120])=(w=V4))∧(∀ w:ByteArray,(w.toList=[105,110,102,105,120])=(w=VO))∧(∀ w:ByteArray,(w.toList=[112,111,115,116,102,105,120])=(w=WE))∧(∀ w:ByteArray,(w.toList=[108,101,102,116])=(w=Zdz))∧(∀ w:ByteArray,(w.toList=[114,105,103,104,116])=(w=G4))∧(∀ w:ByteArray,(w.toList=[110,111,110,101])=(w=Zdy)):=
 ⟨fun _=>GI,fun _=>GI,fun _=>GI,fun _=>GI,fun _=>GI,fun _=>GI,fun _=>GI,fun _=>GI⟩
theorem KW6:(¬WE=V4)∧(¬VO=V4)∧(¬VO=WE)∧(¬V4=WE)∧(¬V4=VO)∧(¬WE=VO):=by decide
def iOf:Option Nat→Int
 |some k=>k
 |none=>-1
def V1 (L:List PLin):Option Nat:=L.findIdx? fun l=>Y3 l.ws
theorem HK (z:ByteArray):(Z1 z).map (·.ws)=Zt z:=by
 unfold Z1 lnR Zt
 rw [←Hc]
 simp [List.map_map,Function.comp_def]
theorem Qf (z:ByteArray):V1 (Z1 z)=Vf (Zt z):=by
 rw [←HK]
 unfold V1 Vf
 rw [List.findIdx?_map]
 rfl
theorem GH {L:List PLin} (h:∀ j,j<L.length→Y3 (Yu L j).ws=false):V1 L=none:=by
 unfold V1
 rw [List.findIdx?_eq_none_iff]
 intro x hx
 obtain ⟨j,hj⟩:=List.getElem?_of_mem hx
 have:=h j (List.getElem?_eq_some_iff.1 hj).1
 unfold Yu at this
 rw [List.getD_eq_getElem?_getD,hj] at this
 exact this
theorem GG {L:List PLin} {i:Nat} (hi:i<L.length) (h:∀ j,j<i→Y3 (Yu L j).ws=false) (hb:Y3 (Yu L i).ws=true):V1 L=some i:=by
 unfold V1
 rw [List.findIdx?_eq_some_iff_getElem]
 have e:∀ j (hj:j<L.length),Yu L j=L[j]:=fun j hj=>by
  unfold Yu;rw [List.getD_eq_getElem?_getD,List.getElem?_eq_getElem hj];rfl
 refine ⟨hi,by rw [←e i hi];exact hb,fun j hj=>?_⟩
 rw [←e j (by omega),h j hj]
 simp
set_option maxRecDepth 100000 in
theorem Zi5 (L:List PLin) (hL:L.length≤2000000) (hW:∀ i,(Yu L i).ws.length≤2000000):VFun Tryz.prog 54 [.sl 3 L.length (Yh L)] (fun av obs=>obs=[]∧av=.lit (.int .i64 (iOf (V1 L)))):=by
 refine Zd Tryz.func54 (by kernel_rfl) rfl (by simp [Tryz.ntmps54]) ?_;simp only [Tryz.ntmps54,Tryz.results54];simp [go_sem]
 refine ZN (fun i:Nat=>i≤L.length∧∀ j,j<i→Y3 (Yu L j).ws=false) (fun i=>L.length-i) (fun i=>.of [(0,.sl 3 L.length (Yh L)),(3,.lit (.int .i64 i))] []) ⟨0,⟨by omega,fun j h=>by omega⟩,?_⟩ (fun i hi=>?_)
 ·simp [go_sem,KL]
 ·obtain ⟨hi,hj⟩:=hi
  have hwr:i<L.length→IntKind.i64.wrap ((i:Int)+1)=(i:Int)+1:=fun h=>wrap_i64 (by omega)
  have next:i<L.length→Y3 (Yu L i).ws=false→∀ j,j<i+1→Y3 (Yu L j).ws=false:=fun h e j h2=>by
   by_cases e2:j=i
   ·rw [e2];exact e
   ·exact hj j (by omega)
  have one:∀ ws:List ByteArray,ws.length=1→ws=[Zs ws 0]:=fun ws h=>by
   obtain ⟨x,rfl⟩:=List.length_eq_one_iff.1 h
   rfl
  simp [go_sem,W2,Zr,KW5,K5]
  refine ⟨by omega,fun h=>⟨h,?_⟩,fun h=>?_⟩
  ·have hwr:=hwr h
   have hWi:=hW i
   have cl:∀ (i:Nat) (c:AV),i<L.length→(c=AV.sl 1 (Yu L i).ws.length (Zp (Yu L i).ws)∨c=AV.lit (Value.int IntKind.i64 ↑(Yu L i).a)∨c=AV.lit (Value.int IntKind.i64 ↑(Yu L i).b))→Closed c:=fun i c _ h=>Qb L i c (by rw [W2];simpa using h)
   refine ⟨by omega,fun h1=>⟨h,by omega,fun h2=>?_,fun h2=>⟨i+1,⟨by omega,next h ?_⟩,by omega,cl,by rw [hwr];rfl⟩⟩,fun h1=>⟨i+1,⟨by omega,next h ?_⟩,by omega,cl,by rw [hwr];rfl⟩⟩
   ·have e:=one (Yu L i).ws (by omega)
    rw [h2] at e
    rw [GG h hj (by simp [Y3,e])]
    rfl
   ·simp only [Y3,decide_eq_false_iff_not]
    intro e
    rw [e] at h2
    exact h2 rfl
   ·simp only [Y3,decide_eq_false_iff_not]
    intro e
    rw [e] at h1
    exact h1 rfl
  ·rw [GH fun j h2=>hj j (by omega)]
   rfl
def Zdp (w:ByteArray):Int:=match Y1 w with
 |some v=>v
 |none=>-1
set_option maxRecDepth 100000 in
theorem Zi4 (w:ByteArray) (hw:w.size≤1048576):VFun Tryz.prog 80 [.lit (.string w)] (fun av obs=>obs=[]∧av=.lit (.int .i64 (Zdp w))):=by
 have h1:=Hf w (by omega)
 refine Zd Tryz.func80 (by kernel_rfl) rfl (by simp [Tryz.ntmps80]) ?_;simp only [Tryz.ntmps80,Tryz.results80];simp [go_sem]
 refine Zc h1 (by simp [go_sem]) ?_
 simp [go_sem]
 have hlv:Vq w=true→w.size≤6→Zdp w=(Jl w w.size:Nat):=fun h h2=>by unfold Zdp Y1;rw [if_pos ⟨h,h2⟩]
 refine ⟨fun hn=>⟨fun h6=>?_,fun h6=>?_⟩,fun hn=>?_⟩
 ·unfold Zdp Y1
  rw [if_neg (by omega)]
 ·refine ZN (fun i:Nat=>i≤w.size) (fun i=>w.size-i) (fun i=>.of [(0,.lit (.string w)),(3,.lit (.int .i64 (Jl w i))),(4,.lit (.int .i64 i))] []) ⟨0,by omega,?_⟩ (fun i hi=>?_)
  ·simp [go_sem,Jl]
  ·have hd:=G8 hn i hi
   have hp:10^i≤10^6:=Nat.pow_le_pow_right (by omega) (by omega)
   simp [go_sem]
   refine ⟨fun h=>⟨h,?_⟩,fun h=>?_⟩
   ·have hg:48≤Ze w i∧Ze w i≤57:=by
     simp only [Vq,Bool.and_eq_true,List.all_eq_true,List.mem_range] at hn
     have:=hn.1 i h
     simpa [XV] using this
    have hd2:=G8 hn (i+1) h
    have hp2:10^(i+1)≤10^6:=Nat.pow_le_pow_right (by omega) (by omega)
    have e1:IntKind.u8.wrap (Ze w i-48)=Ze w i-48:=Zej (by omega)
    rw [e1]
    refine ⟨i+1,h,by omega,?_,Zj (by omega)⟩
    have hk:Jl w i≤1000000:=by omega
    rw [wrap_i64 (n:=Ze w i-48) (by omega),wrap_i64 (n:=(Jl w i:Int)*10) (by omega),wrap_i64 (by omega)]
    rw [Jl]
    omega
   ·obtain rfl:i=w.size:=by omega
    rw [hlv hn (by omega)]
 ·unfold Zdp Y1
  rw [if_neg (by simp [hn])]
set_option maxRecDepth 100000 in
theorem ZkW (w:ByteArray):VFun Tryz.prog 81 [.lit (.string w)] (fun av obs=>obs=[]∧av=.lit (.int .i64 (WH w:Nat))):=by
 refine Zd Tryz.func81 (by kernel_rfl) rfl (by simp [Tryz.ntmps81]) ?_;simp only [Tryz.ntmps81,Tryz.results81];simp [go_sem]
 simp [go_sem,KW5]
 unfold WH
 refine ⟨fun h=>by rw [if_pos h];rfl,fun h=>⟨fun h2=>by rw [if_neg h,if_pos h2];rfl,fun h2=>⟨fun h3=>by rw [if_neg h,if_neg h2,if_pos h3];rfl,fun h3=>by rw [if_neg h,if_neg h2,if_neg h3];rfl⟩⟩⟩
def nilOp:POp:=⟨⟨#[]⟩,0,0,0⟩
def Ha (ws:List ByteArray):List AV:=match Xa ws with
 |some o=>[.agg o.cells,.lit (.bool true)]
 |none=>[.agg nilOp.cells,.lit (.bool false)]
theorem ZiD {w:ByteArray} (h:Y1 w=none):Zdp w=-1:=by unfold Zdp;rw [h]
theorem ZiC {w:ByteArray} {v:Nat} (h:Y1 w=some v):Zdp w=v:=by unfold Zdp;rw [h]
theorem Zfe {ws:List ByteArray} (h:ws.length<3):Ha ws=[.agg nilOp.cells,.lit (.bool false)]:=by unfold Ha Xa;rw [if_pos h]
theorem ZiS {ws:List ByteArray} (h:Y1 (Zs ws 2)=none):Ha ws=[.agg nilOp.cells,.lit (.bool false)]:=by
 unfold Ha Xa
 have h:Y1 (WV ws 2)=none:=h
 rw [h]
 by_cases h2:ws.length<3<;>simp only [h2,if_true,if_false]
theorem ZkR {ws:List ByteArray} {v:Nat} (hl:¬ws.length<3) (h:Y1 (Zs ws 2)=some v):Ha ws=if Zs ws 0=V4∧ws.length=3 then [.agg (⟨Zs ws 1,1,v,0⟩:POp).cells,.lit (.bool true)] else if Zs ws 0=WE∧ws.length=3 then [.agg (⟨Zs ws 1,3,v,0⟩:POp).cells,.lit (.bool true)]
   else if Zs ws 0=VO∧ws.length=4∧0<WH (Zs ws 3) then [.agg (⟨Zs ws 1,2,v,WH (Zs ws 3)⟩:POp).cells,.lit (.bool true)] else [.agg nilOp.cells,.lit (.bool false)]:=by
 unfold Ha Xa
 have h:Y1 (WV ws 2)=some v:=h
 rw [if_neg hl,h]
 show (match (if Zs ws 0=V4∧ws.length=3 then some (⟨Zs ws 1,1,v,0⟩:POp) else if Zs ws 0=WE∧ws.length=3 then some ⟨Zs ws 1,3,v,0⟩ else if Zs ws 0=VO∧ws.length=4∧0<WH (Zs ws 3) then some ⟨Zs ws 1,2,v,WH (Zs ws 3)⟩ else none) with
  |some o=>[AV.agg o.cells,.lit (.bool true)]
  |none=>[.agg nilOp.cells,.lit (.bool false)])=_
 by_cases hA:Zs ws 0=V4∧ws.length=3
 ·rw [if_pos hA,if_pos hA]
 rw [if_neg hA,if_neg hA]
 by_cases hB:Zs ws 0=WE∧ws.length=3
 ·rw [if_pos hB,if_pos hB]
 rw [if_neg hB,if_neg hB]
 by_cases hC:Zs ws 0=VO∧ws.length=4∧0<WH (Zs ws 3)
 ·rw [if_pos hC,if_pos hC]
 rw [if_neg hC,if_neg hC]
set_option maxRecDepth 100000 in
theorem ZkX (ws:List ByteArray) (hl:ws.length≤2000000) (hB:∀ i,(Zs ws i).size≤1048576):VFun Tryz.prog 55 [.sl 1 ws.length (Zp ws)] (fun av obs=>obs=[]∧av=.tup (Ha ws)):=by
 have h1:=Zi4 (Zs ws 2) (hB 2)
 have h2:=ZkW (Zs ws 3)
 by_cases h3:ws.length<3
 ·rw [Zfe h3]
  refine Zd Tryz.func55 (by kernel_rfl) rfl (by simp [Tryz.ntmps55]) ?_;simp only [Tryz.ntmps55,Tryz.results55];simp [go_sem]
  simp [go_sem,Zr,KW5]
  exact ⟨by omega,fun h=>absurd h (by omega),fun h=>by simp [nilOp,POp.cells]⟩
 match hlev:Y1 (Zs ws 2) with
 |none=>
  rw [ZiD hlev] at h1
  rw [ZiS hlev]
  refine Zd Tryz.func55 (by kernel_rfl) rfl (by simp [Tryz.ntmps55]) ?_;simp only [Tryz.ntmps55,Tryz.results55];simp [go_sem]
  simp [go_sem,Zr,KW5]
  refine ⟨by omega,fun h=>⟨by omega,Zc h1 (by simp [go_sem]) ?_⟩,fun h=>absurd h (by omega)⟩
  simp [go_sem,nilOp,POp.cells]
 |some v=>
  rw [ZiC hlev] at h1
  rw [ZkR h3 hlev]
  refine Zd Tryz.func55 (by kernel_rfl) rfl (by simp [Tryz.ntmps55]) ?_;simp only [Tryz.ntmps55,Tryz.results55];simp [go_sem]
  simp [go_sem,Zr,KW5]
  refine ⟨by omega,fun h=>⟨by omega,Zc h1 (by simp [go_sem]) ?_⟩,fun h=>absurd h (by omega)⟩
  simp [go_sem,Zr,KW5]
  refine ⟨fun h=>absurd h (by omega),?_⟩
  refine Zn [9] (.q 0 <| .q 1 <| .q 2 <| .q 3 <| .q 4 <| .q 5 <| .or 6 (.q 7 <| .or 8 (.or 9 (.done) (.nil)) (.nil)) (.or 8 (.or 6 (.q 7 <| .or 9 (.done) (.nil)) (.nil)) (.nil))) (by kernel_rfl) ?_
  simp [go_sem,Zr,KW5]
  refine ⟨by omega,by omega,Zv h1 (by simp [go_sem]) ?_,Zv h1 (by simp [go_sem]) ?_⟩
  all_goals
   have e0:0<ws.length:=by omega
   have e1:ws.length≤9223372036854775807:=by omega
   by_cases a0:Zs ws 0=V4
   ·by_cases a1:ws.length=3
    ·simp [go_sem,Zr,KW5,KW6,a0,a1,POp.cells,nilOp]
    ·have a2:¬(ws.length:Int)=3:=by omega
     simp [go_sem,Zr,KW5,KW6,a0,a1,a2,e0,e1,POp.cells,nilOp]
   by_cases b0:Zs ws 0=WE
   ·by_cases a1:ws.length=3
    ·simp [go_sem,Zr,KW5,KW6,b0,a1,POp.cells,nilOp]
    ·have a2:¬(ws.length:Int)=3:=by omega
     simp [go_sem,Zr,KW5,KW6,b0,a1,a2,e0,e1,POp.cells,nilOp]
   by_cases c0:Zs ws 0=VO
   ·by_cases a1:ws.length=4
    ·simp [go_sem,Zr,KW5,KW6,c0,a1,POp.cells,nilOp]
     refine Zc h2 (by simp [go_sem]) ?_
     simp [go_sem,Zr,KW5,KW6,c0,a1,POp.cells,nilOp]
     refine fun c2=>Zc h2 (by simp [go_sem]) ?_
     simp [go_sem,c2,POp.cells]
    ·have a2:¬(ws.length:Int)=4:=by omega
     simp [go_sem,Zr,KW5,KW6,c0,a1,a2,e0,e1,POp.cells,nilOp]
   ·simp [go_sem,Zr,KW5,KW6,a0,b0,c0,e0,e1,POp.cells,nilOp]
def XH (l:List POp):Option Ob:=some ⟨73,4,l.length,Za l⟩
theorem ZhA {g:Nat→Nat} {m:Nat} (l:List POp) (o:POp):(∀ i,i<l.length+1→ZO g m (ZH l.length (Za l) (fun q=>[[AV.lit (.string o.text),AV.lit (.int .i64 o.kind),AV.lit (.int .i64 o.level),AV.lit (.int .i64 o.side)]][q]?.getD []) i) (Za (l++[o]) i))=True:=eq_true fun i hi=>by
 have:ZH l.length (Za l) (fun q=>[[AV.lit (.string o.text),AV.lit (.int .i64 o.kind),AV.lit (.int .i64 o.level),AV.lit (.int .i64 o.side)]][q]?.getD []) i=Za (l++[o]) i:=by
  unfold ZH
  by_cases h:i<l.length
  ·rw [if_pos h]
   show (l.getD i default).cells=((l++[o]).getD i default).cells
   rw [List.getD_eq_getElem?_getD,List.getD_eq_getElem?_getD,List.getElem?_append_left h]
  ·have:i=l.length:=by omega
   subst this
   rw [if_neg h]
   show _=((l++[o]).getD l.length default).cells
   rw [List.getD_eq_getElem?_getD,List.getElem?_append_right (by omega)]
   simp [POp.cells]
 rw [this]
 exact ZK (ZhC _ i)
theorem Xq {mem:List (Option Ob)} {k sz n N ty:Nat} {f f':Nat→List AV} (hk:mem[k]?=some (some ⟨ty,sz,N,f⟩)) (hsz:0<sz) (hn:N=n) (h:∀ i,i<n→f i=f' i) (hc:∀ (i:Nat) c,i<n→c∈f' i→Closed c):QI mem (.own k) sz n f':=
 ⟨hsz,f,by simp [ZY,hk,hn],fun i hi=>⟨h i hi,fun c hc'=>hc i c hi hc'⟩⟩
theorem ZlV (z:ByteArray):z.extract z.size z.size=⟨#[]⟩:=by
 apply ByteArray.ext
 rw [ByteArray.data_extract]
 simp
def ZjV (u:Unt) (c ln:Int) (av:AV) (obs:List Ob):Prop:=av=.tup [.agg [.own 0,.own 1,.lit (.string u.body)],.lit (.int .i64 c),.lit (.int .i64 ln)]∧obs=[⟨9,1,u.uses.length,Zp u.uses⟩,⟨73,4,u.ops.length,Za u.ops⟩]
def ZjW (u:Unt) (c ln:Int) (av:AV) (obs:List Ob):Prop:=av=.tup [.agg [.lit (.slice none 0 0),.lit (.slice none 0 0),.lit (.string u.body)],.lit (.int .i64 c),.lit (.int .i64 ln)]∧obs=[]∧u.uses=[]∧u.ops=[]
theorem Zd2 {z w:ByteArray} (h:w∈WR z):w.size≤z.size:=by
 rw [←ZfW] at h
 unfold wR at h
 have h:=(List.mem_filter.1 h).1
 rw [List.mem_map] at h
 obtain ⟨p,_,rfl⟩:=h
 rw [ByteArray.size_extract];omega
theorem HL {z:ByteArray} {i:Nat}:(Yu (Z1 z) i)=if i<(Z1 z).length then ⟨WR (z.extract (Vp 10 z i).1 (Vp 10 z i).2),(Vp 10 z i).1,(Vp 10 z i).2⟩ else default:=by
 unfold Yu Z1 lnR Vp
 rw [List.getD_eq_getElem?_getD,List.getElem?_map,List.length_map]
 by_cases h:i<(Yt 10 z (z.size+1)).1.length
 ·rw [if_pos h,List.getD_eq_getElem?_getD,List.getElem?_eq_getElem h];rfl
 ·rw [if_neg h,List.getElem?_eq_none (by omega)];rfl
theorem Zcx (z:ByteArray) (i:Nat):(Yu (Z1 z) i).ws.length≤z.size+1:=by
 rw [HL]
 split
 ·have:=Zac (z.extract (Vp 10 z i).1 (Vp 10 z i).2)
  rw [ByteArray.size_extract] at this
  simp only
  omega
 ·exact Nat.zero_le _
theorem Qu (z:ByteArray) (i j:Nat):(Zs (Yu (Z1 z) i).ws j).size≤z.size:=by
 rw [HL]
 split
 ·simp only [Zs]
  rw [List.getD_eq_getElem?_getD]
  cases h:(WR (z.extract (Vp 10 z i).1 (Vp 10 z i).2))[j]? with
  |none=>exact Nat.zero_le _
  |some w=>
   have:=Zd2 (List.mem_of_getElem? h)
   rw [ByteArray.size_extract] at this
   simp only [Option.getD_some]
   omega
 ·exact Nat.zero_le _
theorem Ut (z:ByteArray):(Z1 z).length=(Z4 10 z).length:=by unfold Z1 lnR;rw [List.length_map,Zdg]
theorem Zcw (z:ByteArray):(Z1 z).length≤z.size+1:=ZhI (Nat.le_refl _)
theorem Us (z:ByteArray):(Zt z).length=(Z1 z).length:=by rw [←HK,List.length_map]
theorem Gq (z:ByteArray) (i:Nat):(Zt z).getD i []=(Yu (Z1 z) i).ws:=by
 rw [←HK]
 unfold Yu
 rw [List.getD_eq_getElem?_getD,List.getD_eq_getElem?_getD,List.getElem?_map]
 cases (Z1 z)[i]?<;>rfl
theorem GX (L:List (List ByteArray)):∀ i,(usR L i).uses.length≤i∧(usR L i).ops.length≤i
 |0=>by simp [usR]
 |i+1=>by
  have:=GX L i
  unfold usR Xw
  split
  ·omega
  ·split
   ·simp;omega
   ·split
    ·simp;omega
    ·simp;omega
theorem Zb7 {L:List (List ByteArray)} {i:Nat} (h:(usR L i).bad≠0):∀ k,(usR L (i+k)).bad=(usR L i).bad
 |0=>rfl
 |k+1=>by
  have ih:=Zb7 h k
  show (Xw (usR L (i+k)) (i+k) _).bad=_
  unfold Xw
  split
  ·exact ih
  ·split
   ·exact ih
   ·split
    ·exact ih
    ·rw [if_neg (by rw [ih];exact h)];exact ih
theorem Zb6 {st:US} {i:Nat} {ws:List ByteArray} {o:POp} (h:Xa ws=some o):Xw st i ws={ st with ops:=st.ops++[o] }:=by
 unfold Xw
 rw [if_neg (by rintro rfl;simp [Xa] at h),h]
theorem Zar {st:US} {i:Nat} {ws:List ByteArray} (h:Xa ws=none) (h2:ws.length=2) (h3:Zs ws 0=KK):Xw st i ws={ st with uses:=st.uses++[Zs ws 1] }:=by
 unfold Xw
 rw [if_neg (by rintro rfl;simp at h2),h]
 simp only
 rw [if_pos ⟨h2,h3⟩];rfl
theorem Zat {st:US} {i:Nat} {ws:List ByteArray} (h:Xa ws=none) (h2:¬(ws.length=2∧Zs ws 0=KK)) (h3:0<ws.length) (h0:st.bad=0):Xw st i ws={ st with bad:=i+1 }:=by
 unfold Xw
 rw [if_neg (by rintro rfl;simp at h3),h]
 simp only
 have h2:¬(ws.length=2∧WV ws 0=KK):=h2
 rw [if_neg h2,if_pos h0]
theorem Zas {st:US} {i:Nat} {ws:List ByteArray} (h:ws.length=0):Xw st i ws=st:=by
 unfold Xw
 rw [if_pos (List.length_eq_zero_iff.1 h)]
def ZlX (z:ByteArray) (B:Int) (E:Nat):Prop:=(B=-1∧E=(Z1 z).length∧V1 (Z1 z)=none)∨(B=E∧E<(Z1 z).length∧V1 (Z1 z)=some E)
theorem ZlW (z:ByteArray):∃ B E,iOf (V1 (Z1 z))=B∧ZlX z B E:=by
 match h:V1 (Z1 z) with
 |none=>exact ⟨-1,(Z1 z).length,rfl,.inl ⟨rfl,rfl,h⟩⟩
 |some k=>
  refine ⟨k,k,rfl,.inr ⟨rfl,?_,h⟩⟩
  unfold V1 at h
  rw [List.findIdx?_eq_some_iff_getElem] at h
  exact h.1
theorem ZjX {z:ByteArray} {B:Int} {E:Nat} (hz:¬20000<z.size) (hE:ZlX z B E) (h:(usR (Zt z) E).bad≠0):Z2 z=((⟨[],[],⟨#[]⟩⟩:Unt),(2:Int),((usR (Zt z) E).bad:Int)):=by
 unfold Z2
 rw [if_neg hz,←Qf]
 rcases hE with ⟨_,rfl,e⟩|⟨_,_,e⟩
 ·rw [e];simp only [Us];rw [if_neg h]
 ·rw [e];simp only;rw [if_neg h]
theorem Zh9 {z:ByteArray} {B:Int} {E:Nat} (hz:¬20000<z.size) (hE:ZlX z B E) (hB:B<0) (h:(usR (Zt z) E).bad=0):Z2 z=((⟨[],[],⟨#[]⟩⟩:Unt),(3:Int),(0:Int)):=by
 unfold Z2
 rw [if_neg hz,←Qf]
 rcases hE with ⟨_,rfl,e⟩|⟨e1,_,e⟩
 ·rw [e];simp only [Us];rw [if_pos h]
 ·omega
theorem Zh8 {z:ByteArray} {B:Int} {E:Nat} (hz:¬20000<z.size) (hE:ZlX z B E) (hB:¬B<0) (h:(usR (Zt z) E).bad=0) :
  Z2 z=(⟨(usR (Zt z) E).uses,(usR (Zt z) E).ops,z.extract (min ((Yu (Z1 z) E).b+1) z.size) z.size⟩,0,0)∧(Yu (Z1 z) E).b≤z.size:=by
 rcases hE with ⟨rfl,_⟩|⟨e1,e2,e⟩
 ·omega
 have hp:=Zdh 10 z E (by rw [←Ut];exact e2)
 have hb:(Yu (Z1 z) E).b=(Vp 10 z E).2:=by rw [HL,if_pos e2]
 refine ⟨?_,by rw [hb];exact hp.2.2.2.1⟩
 unfold Z2
 rw [if_neg hz,←Qf,e]
 simp only
 rw [if_pos h,←hp.2.1,hb]
set_option maxRecDepth 100000 in
theorem GP (z:ByteArray) (hz:z.size≤1048576):VFun Tryz.prog 22 [.lit (.string z)] (fun av obs=>ZjV (Z2 z).1 (Z2 z).2.1 (Z2 z).2.2 av obs∨ZjW (Z2 z).1 (Z2 z).2.1 (Z2 z).2.2 av obs):=by
 have h1:=Zi3 z hz
 refine Zd Tryz.func22 (by kernel_rfl) rfl (by simp [Tryz.ntmps22]) ?_;simp only [Tryz.ntmps22,Tryz.results22];simp [go_sem]
 refine ⟨fun hbig=>.inr ?_,fun hsm=>?_⟩
 ·have e:Z2 z=((⟨[],[],⟨#[]⟩⟩:Unt),(1:Int),(0:Int)):=by unfold Z2;rw [if_pos (by omega)]
  rw [e]
  exact ⟨rfl,rfl,rfl,rfl⟩
 ·have hsm:¬20000<z.size:=by omega
  have hL1:=Zcw z
  have hL2:=Zcx z
  have hL3:=Qu z
  have hws:=Gq z
  have hul:=GX (Zt z)
  obtain ⟨B,E,hB,hE⟩:=ZlW z
  have h2:=Zi5 (Z1 z) (by omega) (fun i=>by have:=hL2 i;omega)
  rw [hB] at h2
  have u1:=fun h=>ZjX (z:=z) hsm hE h
  have u2:=fun h h'=>Zh9 (z:=z) hsm hE h h'
  have u3:=fun h h'=>Zh8 (z:=z) hsm hE h h'
  have hE1:E≤(Z1 z).length:=by rcases hE with ⟨_,e,_⟩|⟨_,e,_⟩<;>omega
  have hE2:B<0→E=(Z1 z).length:=fun h=>by rcases hE with ⟨_,e,_⟩|⟨e,_,_⟩<;>omega
  have hE3:¬B<0→B=E∧E<(Z1 z).length:=fun h=>by rcases hE with ⟨e,_,_⟩|⟨e,e2,_⟩<;>omega
  refine uS [] h1 ?_
  rintro av mem' maps' ⟨rfl,rfl,rfl⟩
  simp [go_sem,KL]
  refine Zc h2 (by simp [go_sem];exact Xq rfl (by omega) rfl (fun _ _=>rfl) fun i c _ h=>Qb _ i c h) ?_
  simp [go_sem]
  refine ⟨fun hB0=>⟨by omega,?_⟩,fun hB0=>?_⟩
  case' refine_1=>have e7:((Z1 z).length:Int)=E:=by rw [hE2 hB0]
  case' refine_2=>have e7:B=E:=(hE3 (by omega)).1
  all_goals
   refine ZC (fun i:Nat=>i≤E∧(usR (Zt z) i).bad=0) (fun i=>E-i) (fun i=>.of [(0,.lit (.string z)),(2,.ptr 0 3 0 0),(5,.own 1),(6,.lit (.int .i64 B)),(7,.lit (.int .i64 E)),(8,.ptr 4 3 0 0),(9,.lit (.int .i64 i))]
    [some ⟨44,3,1,fun _=>[.lit (.slice none 0 0),.lit (.slice none 0 0),.lit (.string ⟨#[]⟩)]⟩,Za1 (Z1 z),UI (usR (Zt z) i).uses,XH (usR (Zt z) i).ops,some ⟨44,3,1,fun _=>[.own 2,.own 3,.lit (.string ⟨#[]⟩)]⟩]) ⟨0,⟨by omega,rfl⟩,?_⟩ (fun i hi=>?_)
   ·exact uE [0,1,2,3,4] (h1:=by simp [go_sem,e7]) (h4:=by simp [go_sem,KL,K5,XH,usR])
   ·obtain ⟨hi1,hi2⟩:=hi
    have hl:=hul i
    have hwl:=hL2 i
    have h3:=ZkX (Yu (Z1 z) i).ws (by omega) (fun j=>by have:=hL3 i j;omega)
    have hnx:usR (Zt z) (i+1)=Xw (usR (Zt z) i) i (Yu (Z1 z) i).ws:=by rw [←hws];rfl
    have hwr:IntKind.i64.wrap ((i:Int)+1)=(i:Int)+1:=wrap_i64 (by omega)
    simp [go_sem,KL,K5,XH,W2]
    refine ⟨fun h=>⟨by omega,?_⟩,fun h=>?_⟩
    ·cases hd:Xa (Yu (Z1 z) i).ws with
     |some o=>
      rw [Ha,hd] at h3
      rw [Zb6 hd] at hnx
      refine ZP h3 (by simp [go_sem];exact Zb (by omega) fun i c _ h=>Yg _ i c h) ?_
      rintro av obs ⟨rfl,rfl⟩
      simp [go_sem,POp.cells]
      refine ⟨by omega,by omega,i+1,⟨by omega,by rw [hnx];exact hi2⟩,by omega,?_⟩
      exact uE [0,1,2,7,4] (h1:=by simp [go_sem,hwr]) (h4:=by simp [go_sem,KL,K5,hnx,ZhA])
     |none=>
      rw [Ha,hd] at h3
      refine ZP h3 (by simp [go_sem];exact Zb (by omega) fun i c _ h=>Yg _ i c h) ?_
      rintro av obs ⟨rfl,rfl⟩
      simp [go_sem,nilOp,POp.cells,Zr,KW5]
      have bad:∀ (h2:¬((Yu (Z1 z) i).ws.length=2∧Zs (Yu (Z1 z) i).ws 0=KK)) (h3:0<(Yu (Z1 z) i).ws.length),Z2 z=((⟨[],[],⟨#[]⟩⟩:Unt),(2:Int),((i+1:Nat):Int)):=fun g1 g2=>by
       rw [Zat hd g1 g2 hi2] at hnx
       have s1:(usR (Zt z) (i+1)).bad≠0:=by rw [hnx];simp
       have s2:=Zb7 s1 (E-(i+1))
       rw [show i+1+(E-(i+1))=E by omega] at s2
       rw [u1 (by rw [s2];exact s1),s2,hnx]
      have nil:(Yu (Z1 z) i).ws=[]→usR (Zt z) (i+1)=usR (Zt z) i:=fun g=>by rw [hnx,Zas (by rw [g];rfl)]
      refine ⟨by omega,fun g1=>⟨by omega,fun g2=>?_,fun g2=>⟨by omega,fun g3=>.inr ?_,fun g3=>⟨i+1,⟨by omega,by rw [nil g3];exact hi2⟩,by omega,?_⟩⟩⟩,fun g1=>⟨by omega,fun g3=>.inr ?_,fun g3=>⟨i+1,⟨by omega,by rw [nil g3];exact hi2⟩,by omega,?_⟩⟩⟩
      ·refine Zn [6,8] (.q 0 <| .q 1 <| .q 2 <| .q 3 <| .q 4 <| .or 5 (.or 6 (.q 7 <| .or 8 (.done) (.nil)) (.nil)) (.nil)) (by kernel_rfl) ?_
       simp [go_sem,Zr]
       rw [Zar hd (by omega) g2] at hnx
       refine ⟨by omega,by omega,by omega,i+1,⟨by omega,by rw [hnx];exact hi2⟩,by omega,?_⟩
       exact uE [0,1,7,3,4] (h1:=by simp [go_sem,hwr]) (h4:=by simp [go_sem,KL,K5,hnx,Hq])
      ·rw [bad (fun g=>g2 g.2) g3]
       exact ⟨by rw [hwr];rfl,rfl,rfl,rfl⟩
      ·exact uE [0,1,2,3,4] (h1:=by simp [go_sem,hwr]) (h4:=by simp [go_sem,KL,K5,nil g3])
      ·rw [bad (fun g=>g1 (by rw [g.1];rfl)) g3]
       exact ⟨by rw [hwr];rfl,rfl,rfl,rfl⟩
      ·exact uE [0,1,2,3,4] (h1:=by simp [go_sem,hwr]) (h4:=by simp [go_sem,KL,K5,nil g3])
    ·have hiE:i=E:=by omega
     subst hiE
     refine ⟨fun g=>.inr ?_,fun g=>?_⟩
     ·rw [u2 g hi2]
      exact ⟨rfl,rfl,rfl,rfl⟩
     ·obtain ⟨g1,g2⟩:=hE3 (by omega)
      obtain ⟨g3,g4⟩:=u3 (by omega) hi2
      have e8:B.toNat=i:=by omega
      have hw:IntKind.i64.wrap (((Yu (Z1 z) i).b:Int)+1)=((Yu (Z1 z) i).b:Int)+1:=wrap_i64 (by omega)
      have e9:(((Yu (Z1 z) i).b:Int)+1).toNat=(Yu (Z1 z) i).b+1:=by omega
      have o1:X5 [⟨9,1,(usR (Zt z) i).uses.length,Zp (usR (Zt z) i).uses⟩,⟨73,4,(usR (Zt z) i).ops.length,Za (usR (Zt z) i).ops⟩] [⟨9,1,(usR (Zt z) i).uses.length,Zp (usR (Zt z) i).uses⟩,⟨73,4,(usR (Zt z) i).ops.length,Za (usR (Zt z) i).ops⟩]:=
       ⟨⟨rfl,rfl,rfl,fun j hj=>⟨rfl,KH _ j⟩⟩,⟨rfl,rfl,rfl,fun j hj=>⟨rfl,ZhC _ j⟩⟩,trivial⟩
      rw [e8,g3,hw,e9]
      refine ⟨by omega,by omega,g2,fun g5=>⟨by omega,by omega,g2,by omega,by omega,_,o1,.inl ⟨?_,rfl⟩⟩,fun g5=>⟨_,o1,.inl ⟨?_,rfl⟩⟩⟩
      ·simp only
       rw [Nat.min_eq_left (by omega)];rfl
      ·simp only
       rw [Nat.min_eq_right (by omega),ZlV];rfl
end Go.Proofs.YtadghlfkddkelaaGreatDoor.V
namespace Go.Proofs.YtadghlfkddkelaaGreatDoor.V
open Go.RowKit
section
variable {P:Program} {n:Nat} {base:Fr} {w0 w:World} {hd:Nat→Value} {s:VS} {a:Act}
theorem RelH.rowSub (h:RelH n base w0 hd s a w) {k:Nat} {ob:Ob} (hk:s.mem[k]?=some (some ob)) (hc:∀ i,i<ob.n→∀ c,c∈ob.f i→Closed c) {m c:Nat} {A:Option Addr} (hm:m≤ob.n) (hmc:m≤c)
  (hA:0<m→∃ b n' c',hd k=.slice (some ⟨b,0,none⟩) n' c'∧A=some ⟨b,0,none⟩):Rep w (Zw (s.mem.set k none) hd) hd (s.mem.set k none).length (.sl ob.sz m ob.f) (.slice A m c):=by
 obtain ⟨hs,vals,ho,hr⟩:=h.me.obs k ob hk
 rcases id ho.2 with ⟨e,h0⟩|⟨g,cap,cur,e,h3,h1,h2,h4⟩
 ·have hm0:m=0:=by omega
  subst hm0
  exact .sl _ _ _ A c (fun _ _=>undef) hmc (by omega) hs (fun i hi=>by omega) (fun hp=>by omega) (fun i j av hi=>by omega)
 ·have hcells:=fun i hi=>h.cells_ hk e (i:=i) hi
  have hown:(hd k).ownBlock=some g:=by rw [e];rfl
  refine .sl _ _ _ _ _ (fun i j=>(w.cell? ((⟨g,i*ob.sz,none⟩:Addr).add j)).getD undef) hmc (by simp only [maxLen] at h2;omega) hs (fun i hi=>(hr i (by omega)).1) (fun hp=>?_) fun i j av hi hj=>?_
  ·obtain ⟨b,n',c',e5,rfl⟩:=hA hp
   rw [e] at e5
   simp only [Value.slice.injEq,Option.some.injEq,Addr.mk.injEq,and_true] at e5
   obtain ⟨rfl,_,_⟩:=e5
   refine ⟨_,rfl,⟨fun q ob' hq e'=>?_,h.ownTail (h.me.alw k ob hk g hown)⟩,fun i j hi hj=>?_⟩
   ·obtain ⟨hq1,hq2⟩:=Uy hq
    rcases h.me.apart q k ob' ob hq1 hk hq2 with e2|e2
    ·rw [e'] at e2;cases e2
    ·exact e2 (by rw [e',hown])
   ·obtain ⟨u,h1,_⟩:=hcells i (by omega) j _ (List.getElem?_eq_getElem (by rw [(hr i (by omega)).1];exact hj))
    have e3:((⟨g,0,none⟩:Addr).add (i*ob.sz+j))=(⟨g,i*ob.sz,none⟩:Addr).add j:=by
     by_cases hj0:j=0
     ·subst hj0
      by_cases hi0:i*ob.sz=0
      ·simp [Addr.add,hi0]
      ·simp only [Addr.add,Nat.add_zero];rw [if_neg hi0];simp
     ·have hne:¬(i*ob.sz+j=0):=by omega
      simp only [Addr.add];rw [if_neg hne,if_neg hj0];simp
    rw [e3,h1];rfl
  ·obtain ⟨u,h1,h2⟩:=hcells i (by omega) j av hj
   simp only [h1]
   exact Rep.closed (hc i (by omega) av (List.mem_of_getElem? hj)) (fun ad u' g1 g2=>⟨g2,J3 _ _ _ _ g1⟩) h2
end
theorem Rep.slExt {w:World} {ok:Nat→Prop} {hd:Nat→Value} {m sz n:Nat} {f f':Nat→List AV} {v:Value} (h:Rep w ok hd m (.sl sz n f) v) (e:∀ i,i<n→f i=f' i):Rep w ok hd m (.sl sz n f') v:=by
 cases h with
 |sl _ _ _ A c u hc hm hsz hl ha h=>exact .sl _ _ _ A c u hc hm hsz (fun i hi=>by rw [←e i hi];exact hl i hi) ha fun i j a hi hj=>h i j a hi (by rw [e i hi];exact hj)
theorem VProc.giveR {P:Program} {f:FuncId} {args:List AV} {R R':AV→List (Option Ob)→List (Nat×Mp)→Prop} (h:VProc P f args [] [] R)
  (hr:∀ av mem maps,R av mem maps→∃ ob m f',(∀ i,i<m→ob.f i=f' i)∧mem=[some ob]∧maps=[]∧m≤ob.n∧(∀ i,i<ob.n→∀ c,c∈ob.f i→Closed c)∧(av=.own 0∧m=ob.n∨av=.sub 0 ob.sz 0 m)∧R' (.sl ob.sz m f') [] []):VProc P f args [] [] R':=by
 refine ⟨h.1,fun w vs hd0 hl hv hm hmp ht=>(h.2 w vs hd0 hl hv hm hmp ht).mono fun e w' ⟨v,e1,g,hd,av,mem,maps,r,po,hx,me,mp,rp⟩=>?_⟩
 obtain ⟨ob,m,f',hff,rfl,rfl,hmn,hcl,hav,r'⟩:=hr av mem maps r
 have h:RelH 0 ⟨P,Sh w hd0 [] [],hd0,[]⟩ w hd ⟨[],[some ob],[],0⟩ ⟨#[],[]⟩ w':=
  ⟨rfl,rfl,g,⟨fun b hb=>.inl hb,hl.2.1,hl.2.2⟩,Nat.zero_le _,⟨fun k hk=>absurd hk (Nat.not_lt_zero k),hx.2,ht⟩,mp,fun t=>.undef _,me⟩
 have hcl':Closed (.sl ob.sz m ob.f):=.sl _ _ _ fun i c hi hc=>hcl i (by omega) c hc
 have fin:∀ {v},Rep w' (Zw ([some ob].set 0 none) hd) hd ([some ob].set 0 none).length (.sl ob.sz m ob.f) v→Rep w' (Zw [] hd) hd 0 (.sl ob.sz m ob.f) v:=fun hrep=>
  Rep.closed hcl' (fun ad u g1 g2=>⟨g2,fun k ob hk=>by simp at hk,g1.2⟩) hrep
 have hsz:∃ v',v=v'∧Rep w' (Zw [] hd) hd 0 (.sl ob.sz m ob.f) v':=by
  rcases hav with ⟨rfl,rfl⟩|rfl
  ·cases rp with
   |own _ _=>exact ⟨_,rfl,fin (h.rowSl (k:=0) rfl hcl)⟩
  ·cases rp with
   |sub _ _ _ _ A c hk hc ha=>exact ⟨_,rfl,fin (h.rowSub (k:=0) rfl hcl hmn hc (fun hp=>by obtain ⟨b,n',c',q1,q2,_⟩:=ha (by omega);exact ⟨b,n',c',q1,by rw [q2];simp⟩))⟩
 obtain ⟨v',rfl,hrep⟩:=hsz
 have hcl2:Closed (.sl ob.sz m f'):=.sl _ _ _ fun i c hi hc=>hcl i (by omega) c (by rw [hff i hi];exact hc)
 exact ⟨v,e1,g,hd,_,_,_,r',⟨Nat.zero_le _,.inr hcl2,fun k ob hk=>by simp at hk,fun b hb=>hb⟩,⟨fun k hk=>by simp at hk,hx.2⟩,⟨fun k ob hk=>by simp at hk,fun k ob hk=>by simp at hk,fun k hk=>absurd hk (Nat.not_lt_zero k),fun k k' o o' hk=>by simp at hk⟩,mp,hrep.slExt hff⟩
end Go.Proofs.YtadghlfkddkelaaGreatDoor.V
namespace Go.Proofs.YtadghlfkddkelaaGreatDoor.V
open Go.RowKit
def G7:Value:=.func (.func 121) #[] #[]
theorem ZcF (z:ByteArray):VFun Tryz.prog 121 [.lit (.string z)] (fun av obs=>obs=[]∧av=.lit (.bool (decide (z=ByteArray.empty)))):=by
 refine Zd Tryz.func121 (by kernel_rfl) rfl (by simp [Tryz.ntmps121]) ?_;simp only [Tryz.ntmps121,Tryz.results121];simp [go_sem]
 show z.toList.isEmpty=_
 rw [Zk7]
 rfl
def Qy (ws:List ByteArray):Option Nat:=ws.findIdx? fun w=>decide (w=ByteArray.empty)
theorem Ze7 {ws:List ByteArray} (h:∀ j,j<ws.length→¬Zs ws j=ByteArray.empty):Qy ws=none:=by
 unfold Qy
 rw [List.findIdx?_eq_none_iff]
 intro x hx
 obtain ⟨j,hj⟩:=List.getElem?_of_mem hx
 have:=h j (List.getElem?_eq_some_iff.1 hj).1
 unfold Zs at this
 rw [List.getD_eq_getElem?_getD,hj] at this
 simpa using this
theorem Ze6 {ws:List ByteArray} {i:Nat} (hi:i<ws.length) (h:∀ j,j<i→¬Zs ws j=ByteArray.empty) (hb:Zs ws i=ByteArray.empty):Qy ws=some i:=by
 unfold Qy
 rw [List.findIdx?_eq_some_iff_getElem]
 have e:∀ j (hj:j<ws.length),Zs ws j=ws[j]:=fun j hj=>by
  unfold Zs;rw [List.getD_eq_getElem?_getD,List.getElem?_eq_getElem hj];rfl
 refine ⟨hi,by rw [←e i hi];simpa using hb,fun j hj=>?_⟩
 rw [←e j (by omega)]
 simpa using h j hj
set_option maxRecDepth 100000 in
theorem ZfC (ws:List ByteArray) (hl:ws.length≤2000000):VFun Tryz.prog 156 [.sl 1 ws.length (Zp ws),.lit G7] (fun av obs=>obs=[]∧av=.lit (.int .i64 (iOf (Qy ws)))):=by
 refine Zd Tryz.func156 (by kernel_rfl) rfl (by simp [Tryz.ntmps156]) ?_;simp only [Tryz.ntmps156,Tryz.results156];simp [go_sem]
 simp [go_sem,K5,G7]
 refine ⟨by omega,ZN (fun i:Nat=>i≤ws.length∧∀ j,j<i→¬Zs ws j=ByteArray.empty) (fun i=>ws.length-i) (fun i=>.of [(0,.sl 1 ws.length (Zp ws)),(1,.lit (.func (.func 121) #[] #[])),(7,.lit (.int .i64 ws.length)),(8,.lit (.int .i64 i))] []) ⟨0,⟨by omega,fun j h=>by omega⟩,?_⟩ (fun i hi=>?_)⟩
 ·simp [go_sem,K5]
 ·obtain ⟨hi,hj⟩:=hi
  simp [go_sem,K5,Zr]
  refine ⟨fun h=>⟨h,Zc (ZcF (Zs ws i)) (by simp [go_sem]) ?_⟩,fun h=>?_⟩
  ·simp [go_sem]
   refine ⟨fun h2=>?_,fun h2=>⟨i+1,⟨h,fun j h3=>?_⟩,by omega,fun i c _ h=>Yg ws i c h,Zj (by omega)⟩⟩
   ·rw [Ze6 h hj h2];rfl
   ·by_cases e:j=i
    ·rw [e];exact h2
    ·exact hj j (by omega)
  ·rw [Ze7 fun j h2=>hj j (by omega)];rfl
def VQ (ws:List ByteArray) (i:Nat):List ByteArray:=(ws.take i).filter fun w=>decide (0<w.size)
theorem J9 (ws:List ByteArray) (i:Nat):(VQ ws i).length≤i:=Nat.le_trans (List.length_filter_le _ _) (by rw [List.length_take];omega)
theorem Zbd (ws:List ByteArray):VQ ws ws.length=ws.filter fun w=>decide (0<w.size):=by unfold VQ;rw [List.take_length]
theorem Ue {ws:List ByteArray} {i:Nat} (h:i<ws.length):VQ ws (i+1)=if Zs ws i=ByteArray.empty then VQ ws i else VQ ws i++[Zs ws i]:=by
 unfold VQ
 rw [List.take_succ_eq_append_getElem h,List.filter_append]
 have e:Zs ws i=ws[i]:=by unfold Zs;rw [List.getD_eq_getElem?_getD,List.getElem?_eq_getElem h];rfl
 rw [e]
 by_cases h2:ws[i]=ByteArray.empty
 ·rw [if_pos h2,List.filter_cons_of_neg (by rw [h2];simp)];simp
 ·rw [if_neg h2,List.filter_cons_of_pos (by simp;exact Nat.pos_of_ne_zero fun h0=>h2 (by apply ByteArray.ext;exact Array.eq_empty_of_size_eq_zero h0))];simp
theorem ZgL {ws:List ByteArray} {k:Nat} (hk:Qy ws=some k):k<ws.length∧(∀ j,j<k→¬Zs ws j=ByteArray.empty)∧Zs ws k=ByteArray.empty:=by
 unfold Qy at hk
 rw [List.findIdx?_eq_some_iff_getElem] at hk
 obtain ⟨h1,h2,h3⟩:=hk
 have e:∀ j (hj:j<ws.length),Zs ws j=ws[j]:=fun j hj=>by
  unfold Zs;rw [List.getD_eq_getElem?_getD,List.getElem?_eq_getElem hj];rfl
 refine ⟨h1,fun j hj=>?_,by rw [e k h1];simpa using h2⟩
 rw [e j (by omega)]
 simpa using h3 j hj
theorem Zfd {ws:List ByteArray} {k:Nat} (hk:∀ j,j<k→¬Zs ws j=ByteArray.empty) (hl:k≤ws.length):VQ ws k=ws.take k:=by
 induction k with
 |zero=>simp [VQ]
 |succ k ih=>
  rw [Ue (by omega),if_neg (hk k (by omega)),ih (fun j hj=>hk j (by omega)) (by omega),List.take_succ_eq_append_getElem (by omega)]
  congr 2
  unfold Zs;rw [List.getD_eq_getElem?_getD,List.getElem?_eq_getElem (by omega)];rfl
def QT (ws:List ByteArray) (j:Nat):List ByteArray:=VQ ws j++ws.drop (VQ ws j).length
theorem ZeA {ws:List ByteArray} {j:Nat} (h:j≤ws.length):(QT ws j).length=ws.length:=by
 have:=J9 ws j
 unfold QT
 rw [List.length_append,List.length_drop];omega
theorem ZlA {ws:List ByteArray} {j:Nat}:Zs (QT ws j) j=Zs ws j:=by
 have:=J9 ws j
 unfold Zs QT
 rw [List.getD_eq_getElem?_getD,List.getD_eq_getElem?_getD,List.getElem?_append_right (by omega),List.getElem?_drop]
 congr 2;omega
theorem Zka {ws:List ByteArray} {j:Nat} (h:j<ws.length) (hn:¬Zs ws j=ByteArray.empty):QT ws (j+1)=(QT ws j).set (VQ ws j).length (Zs ws j):=by
 have hd:=J9 ws j
 unfold QT
 rw [Ue h,if_neg hn,List.set_append_right _ _ (Nat.le_refl _),Nat.sub_self,List.length_append,List.length_singleton]
 rw [List.drop_eq_getElem_cons (i:=(VQ ws j).length) (by omega),List.set_cons_zero,List.append_assoc]
 rfl
theorem Zig {ws:List ByteArray} {j:Nat} (h:j<ws.length) (hn:Zs ws j=ByteArray.empty):QT ws (j+1)=QT ws j:=by
 unfold QT
 rw [Ue h,if_pos hn]
theorem Zmy {g:Nat→Nat} {m n k:Nat} {l:List ByteArray} {x:ByteArray} (hn:l.length=n) (hk:k<n):(∀ i,i<n→ZO g m (Hp n (Zp l) k 0 [AV.lit (.string x)] i) (Zp (l.set k x) i)):=fun i hi=>by
 have:Hp n (Zp l) k 0 [AV.lit (.string x)] i=Zp (l.set k x) i:=by
  unfold Hp Zp Zs Y5
  simp only [List.getD_eq_getElem?_getD,List.getElem?_set]
  by_cases e:n=1
  ·have e1:k=0:=by omega
   have e2:i=0:=by omega
   subst e1;subst e2
   simp [e,hn]
  ·by_cases e2:i=k
   ·subst e2;simp [e,hn,hi]
   ·have e3:¬k=i:=fun h=>e2 h.symm
    simp [e,e2,e3]
 rw [this]
 exact ZK (KH _ i)
def ZhQ (ws:List ByteArray) (av:AV) (mem:List (Option Ob)) (maps:List (Nat×Mp)):Prop:=maps=[]∧∃ f m,mem=[some ⟨9,1,ws.length,f⟩]∧m=(ws.filter fun w=>decide (0<w.size)).length∧(av=.own 0∧m=ws.length∨av=.sub 0 1 0 m)∧
  (∀ i,(f i).all YL=true)∧∀ i,i<m→f i=Zp (ws.filter fun w=>decide (0<w.size)) i
set_option maxRecDepth 100000 in
theorem ZdT (ws:List ByteArray) (hl:ws.length≤2000000):VProc Tryz.prog 120 [.own 0,.lit G7] [UI ws] [] (ZhQ ws):=by
 have h1:=ZfC ws hl
 match hf:Qy ws with
 |none=>
  rw [hf] at h1
  refine Zu Tryz.func120 (by kernel_rfl) rfl (by simp [Tryz.ntmps120]) ?_;simp only [Tryz.ntmps120,Tryz.results120];simp [go_sem]
  simp [go_sem,K5]
  refine Zc h1 (by simp [go_sem];exact Xq rfl (by omega) rfl (fun _ _=>rfl) fun i c _ h=>Yg ws i c h) ?_
  simp [go_sem,iOf]
  have e:(ws.filter fun w=>decide (0<w.size))=ws:=by
   rw [←Zbd,Zfd (fun j hj e=>?_) (Nat.le_refl _),List.take_length]
   unfold Qy at hf
   rw [List.findIdx?_eq_none_iff] at hf
   have:=hf (Zs ws j) (by unfold Zs;rw [List.getD_eq_getElem?_getD,List.getElem?_eq_getElem hj];exact List.getElem_mem hj)
   simp [e] at this
  refine uF [] [UI ws] (hR:=⟨rfl,Zp ws,ws.length,rfl,by rw [e],.inl ⟨rfl,rfl⟩,fun i=>KH _ i,fun i hi=>by rw [e]⟩)
 |some k=>
  rw [hf] at h1
  obtain ⟨f1,f2,f3⟩:=ZgL hf
  refine Zu Tryz.func120 (by kernel_rfl) rfl (by simp [Tryz.ntmps120]) ?_;simp only [Tryz.ntmps120,Tryz.results120];simp [go_sem]
  simp [go_sem,K5]
  refine Zc h1 (by simp [go_sem];exact Xq rfl (by omega) rfl (fun _ _=>rfl) fun i c _ h=>Yg ws i c h) ?_
  simp [go_sem,iOf]
  refine ZC (fun j:Nat=>j≤ws.length) (fun j=>ws.length-j) (fun j=>⟨[(0,.own 0),(1,.lit (.func (.func 121) #[] #[])),(5,.lit (.int .i64 (VQ ws j).length)),(6,.lit (.int .i64 j))],[UI (QT ws j)],[],1⟩) ⟨k+1,by omega,?_⟩ (fun j hj=>?_)
  ·have e0:VQ ws (k+1)=ws.take k:=by rw [Ue f1,if_pos f3,Zfd f2 (by omega)]
   have e1:(VQ ws (k+1)).length=k:=by rw [e0,List.length_take];omega
   have e2:QT ws (k+1)=ws:=by unfold QT;rw [e1,e0,List.take_append_drop]
   have hwr:IntKind.i64.wrap ((k:Int)+1)=(k:Int)+1:=wrap_i64 (by omega)
   exact uE [0] (h1:=by simp [go_sem,e1,hwr,G7]) (h4:=by simp [go_sem,K5,e2])
  ·have hd:=J9 ws j
   have hr:=ZeA hj
   have ha:=ZlA (ws:=ws) (j:=j)
   simp [go_sem,K5,hr,Zr,ha]
   refine ⟨by omega,fun h=>⟨h,Zc (ZcF (Zs ws j)) (by simp [go_sem]) ?_⟩,fun h=>?_⟩
   ·have hwr:IntKind.i64.wrap ((j:Int)+1)=(j:Int)+1:=wrap_i64 (by omega)
    have hwd:IntKind.i64.wrap (((VQ ws j).length:Int)+1)=((VQ ws j).length:Int)+1:=wrap_i64 (by omega)
    simp [go_sem]
    refine ⟨fun hn=>⟨by omega,j+1,h,by omega,?_⟩,fun hn=>⟨j+1,h,by omega,?_⟩⟩
    ·have s1:VQ ws (j+1)=VQ ws j++[Zs ws j]:=by rw [Ue h,if_neg hn]
     have s2:=Zka h hn
     have s3:(QT ws (j+1)).length=ws.length:=ZeA h
     exact uE [0] (h1:=by simp [go_sem,hwr,hwd,s1]) (h4:=by simp [go_sem,K5,s3];rw [s2];exact .inr (Zmy hr (by omega)))
    ·have s1:VQ ws (j+1)=VQ ws j:=by rw [Ue h,if_pos hn]
     have s2:=Zig h hn
     exact uE [0] (h1:=by simp [go_sem,hwr,s1]) (h4:=by simp [go_sem,K5,s2,hr])
   ·obtain rfl:j=ws.length:=by omega
    have hz0:W7 Tryz.prog 9 (.string ⟨#[]⟩):=fun w=>Tryz.zeroValue9 w
    refine ⟨by omega,by omega,.string ⟨#[]⟩,hz0,rfl,rfl,by omega,?_⟩
    refine uF [] [some ⟨9,1,ws.length,W5 (Zp (QT ws ws.length)) (VQ ws ws.length).length (ws.length-(VQ ws ws.length).length) (.string ⟨#[]⟩)⟩] (hm:=?_) (hR:=⟨rfl,_,(VQ ws ws.length).length,rfl,by rw [Zbd],.inr rfl,fun i=>?_,fun i hi=>?_⟩)
    ·simp [go_sem]
     exact of_eq_true (U7 fun i=>by
      simp only
      unfold W5
      split
      ·rfl
      ·exact KH _ i)
    ·unfold W5
     split
     ·rfl
     ·exact KH _ i
    ·unfold W5
     rw [if_neg (by omega)]
     have:Zs (QT ws ws.length) i=Zs (VQ ws ws.length) i:=by
      unfold Zs QT
      rw [List.getD_eq_getElem?_getD,List.getD_eq_getElem?_getD,List.getElem?_append_left hi]
     simp only [Zr,this,Zbd]
theorem ZeD {g:Nat→Nat}:∀ {l:List AV},l.all YL=true→l.map (Ww g)=l
 |[],_=>rfl
 |a::r,h=>by
  simp only [List.all_cons,Bool.and_eq_true] at h
  rw [List.map_cons,ZeD h.2]
  cases a<;>simp [YL] at h<;>rfl
theorem Zl2 (z:ByteArray) (hz:z.size≤1048576):VProc Tryz.prog 83 [.lit (.string z)] [] [] (fun av mem maps=>av=.sl 1 (WR z).length (Zp (WR z))∧mem=[]∧maps=[]):=by
 have hl:=Zbg 32 z
 have h1:=ZhR 32 z hz
 have h2:=ZdT (Z4 32 z) (by omega)
 have h:VProc Tryz.prog 83 [.lit (.string z)] [] [] (ZhQ (Z4 32 z)):=by
  refine Zu Tryz.func83 (by kernel_rfl) rfl (by simp [Tryz.ntmps83]) ?_;simp only [Tryz.ntmps83,Tryz.results83];simp [go_sem]
  refine ZP h1 (by simp [go_sem]) ?_
  rintro av obs ⟨rfl,rfl⟩
  simp [go_sem]
  refine uS [0] h2 ?_ (ha:=by simp [go_sem,K5];rfl)
  rintro av mem maps ⟨rfl,f,m,rfl,hm,hav,hlit,hf⟩
  have hren:(fun i=>List.map (Ww (YV [0] 1)) (f i))=f:=funext fun i=>ZeD (hlit i)
  rcases hav with ⟨rfl,hav⟩|rfl
  ·simp [go_sem]
   rw [hren]
   exact uF [0] [some ⟨9,1,(Z4 32 z).length,f⟩] (hm:=by simp [go_sem];exact of_eq_true (U7 hlit)) (hR:=⟨rfl,f,m,rfl,hm,.inl ⟨rfl,hav⟩,hlit,hf⟩)
  ·simp [go_sem]
   rw [hren]
   exact uF [0] [some ⟨9,1,(Z4 32 z).length,f⟩] (hm:=by simp [go_sem];exact of_eq_true (U7 hlit)) (hR:=⟨rfl,f,m,rfl,hm,.inr rfl,hlit,hf⟩)
 refine h.giveR fun av mem maps hp=>?_
 obtain ⟨rfl,f,m,rfl,hm,hav,hlit,hf⟩:=hp
 refine ⟨_,m,Zp (WR z),hf,rfl,rfl,?_,fun i hi c hc=>?_,hav,?_⟩
 ·rw [hm];exact List.length_filter_le _ _
 ·have:=List.all_eq_true.1 (hlit i) c hc
  cases c with
  |lit v=>exact .lit v
  | _=>simp [YL] at this
 ·rw [hm];exact ⟨rfl,rfl,rfl⟩
theorem Zed {P:Program} {f:FuncId} {vs:List Value} {x y:Value} (hf:ZbM P f) (h:∀ w,Calls P f vs.toArray w fun e w'=>e=.returned (.tuple #[x,y])∧Below w.heap.size w w'):VFun P f (vs.map .lit) (fun av obs=>obs=[]∧av=.tup [.lit x,.lit y]):=by
 refine ⟨hf,fun w us hl hu=>?_⟩
 have e:us=vs:=by
  have hl':vs.length=us.length:=by simpa using hl.1
  apply List.ext_getElem hl'.symm
  intro j h1 h2
  have:=hu j (.lit vs[j]) us[j] (by simp [h2]) (List.getElem?_eq_getElem h1)
  generalize us[j]=x at this
  generalize vs[j]=y at this
  cases this
  rfl
 subst e
 refine (h w).mono fun e w' ⟨he,hw⟩=>?_
 subst he
 refine ⟨_,rfl,⟨hw.os,hw.tape,hw.output,hw.size,fun k hk _=>hw.block k hk⟩,fun _=>undef,.tup [.lit x,.lit y],[],⟨rfl,rfl⟩,rfl,fun ob h=>by simp at h,⟨fun k ob h=>by simp at h,fun k ob h=>by simp at h,fun k h=>by simp at h,fun k k' o o' h=>by simp at h⟩,.tup _ [x,y] rfl fun j a u ha hu=>?_⟩
 match j with
 |0=>simp at ha hu;subst ha;subst hu;exact .lit _
 |1=>simp at ha hu;subst ha;subst hu;exact .lit _
 |j+2=>simp at ha
theorem ZmT {w:ByteArray} (h:Vq w=true) (hs:w.size≤6):VFun Tryz.prog 158 [.lit (.string w)] (fun av obs=>obs=[]∧av=.tup [.lit (.int .i64 (Jl w w.size:Nat)),.lit .nilIface]):=
 Zed (vs:=[.string w]) ⟨_,Tryz.func158,rfl,rfl⟩ fun W=>(Any.strconv_Atoi Tryz.lays172 w _ (by omega) (Zk8 h) W).mono fun e w' ⟨he,t,hw⟩=>⟨he,by rw [hw];exact Lib.bytesWorld_below W _ t⟩
set_option maxRecDepth 100000 in
theorem ZiZ (w:ByteArray) (hw:w.size≤1048576):VFun Tryz.prog 124 [.lit (.string w)] (fun av obs=>obs=[]∧av=.tup (match Y1 w with|some v=>[.lit (.int .i64 v),.lit (.bool true)]|none=>[.lit (.int .i64 0),.lit (.bool false)])):=by
 have h1:=ZmR w (by omega)
 have lvN:¬(Vq w=true∧w.size≤6)→Y1 w=none:=fun h=>by unfold Y1;rw [if_neg h]
 have lvS:(Vq w=true∧w.size≤6)→Y1 w=some (Jl w w.size):=fun h=>by unfold Y1;rw [if_pos h]
 refine Zd Tryz.func124 (by kernel_rfl) rfl (by simp [Tryz.ntmps124]) ?_;simp only [Tryz.ntmps124,Tryz.results124];simp [go_sem]
 refine ⟨fun hp=>⟨fun h6=>?_,fun h6=>?_⟩,fun hp=>?_⟩
 ·have hn:=Zgf w (by omega)
  refine Zc h1 (by simp [go_sem,digitBytes]) ?_
  simp [go_sem]
  refine ⟨fun hd=>?_,fun hd=>?_⟩
  ·have hnz:¬Vq w=true:=fun e=>hd (by
    rw [←hn] at e
    rw [of_decide_eq_true e,ByteArray.toList_eq])
   rw [lvN (fun h=>hnz h.1)]
  ·have hnz:Vq w=true:=by
    rw [←hn]
    exact decide_eq_true (ByteArray.ext (by rw [ByteArray.toList_eq] at hd;exact Array.toList_inj.1 (by rw [hd])))
   have h2:=ZmT hnz (by omega)
   rw [lvS ⟨hnz,by omega⟩]
   refine ZP h2 (by simp [go_sem]) ?_
   rintro av obs ⟨rfl,rfl⟩
   simp [go_sem]
   refine Zn [] (.q 0 <| .q 1 <| .q 2 <| .q 3 <| .q 4 <| .done) (by kernel_rfl) ?_
   simp [go_sem]
 ·rw [lvN (fun h=>by omega)]
 ·rw [lvN (fun h=>by
   have:=h.1
   simp only [Vq,Bool.and_eq_true,decide_eq_true_eq] at this
   omega)]
def atI (ws:List ByteArray) (x:ByteArray):Option Nat:=ws.findIdx? fun w=>decide (w=x)
theorem Zla {ws:List ByteArray} {x:ByteArray} (h:∀ j,j<ws.length→¬Zs ws j=x):atI ws x=none:=by
 unfold atI
 rw [List.findIdx?_eq_none_iff]
 intro y hy
 obtain ⟨j,hj⟩:=List.getElem?_of_mem hy
 have:=h j (List.getElem?_eq_some_iff.1 hj).1
 unfold Zs at this
 rw [List.getD_eq_getElem?_getD,hj] at this
 simpa using this
theorem Zk9 {ws:List ByteArray} {x:ByteArray} {i:Nat} (hi:i<ws.length) (h:∀ j,j<i→¬Zs ws j=x) (hb:Zs ws i=x):atI ws x=some i:=by
 unfold atI
 rw [List.findIdx?_eq_some_iff_getElem]
 have e:∀ j (hj:j<ws.length),Zs ws j=ws[j]:=fun j hj=>by
  unfold Zs;rw [List.getD_eq_getElem?_getD,List.getElem?_eq_getElem hj];rfl
 refine ⟨hi,by rw [←e i hi];simpa using hb,fun j hj=>?_⟩
 rw [←e j (by omega)]
 simpa using h j hj
set_option maxRecDepth 100000 in
theorem ZfB (ws:List ByteArray) (hl:ws.length≤2000000) (x:ByteArray):VFun Tryz.prog 122 [.sl 1 ws.length (Zp ws),.lit (.string x)] (fun av obs=>obs=[]∧av=.lit (.int .i64 (iOf (atI ws x)))):=by
 refine Zd Tryz.func122 (by kernel_rfl) rfl (by simp [Tryz.ntmps122]) ?_;simp only [Tryz.ntmps122,Tryz.results122];simp [go_sem]
 refine ⟨by omega,ZN (fun i:Nat=>i≤ws.length∧∀ j,j<i→¬Zs ws j=x) (fun i=>ws.length-i) (fun i=>.of [(0,.sl 1 ws.length (Zp ws)),(1,.lit (.string x)),(7,.lit (.int .i64 ws.length)),(8,.lit (.int .i64 i))] []) ⟨0,⟨by omega,fun j h=>by omega⟩,?_⟩ (fun i hi=>?_)⟩
 ·simp [go_sem,K5]
 ·obtain ⟨hi,hj⟩:=hi
  simp [go_sem,K5,Zr]
  refine ⟨fun h=>⟨h,fun e=>?_,fun e=>⟨i+1,⟨h,fun j h3=>?_⟩,by omega,Zj (by omega)⟩⟩,fun h=>?_⟩
  ·rw [Zk9 h hj ((XQ _ _).1 e).symm];rfl
  ·by_cases e2:j=i
   ·rw [e2];exact fun e3=>e (by rw [e3])
   ·exact hj j (by omega)
  ·rw [Zla fun j h2=>hj j (by omega)];rfl
def Q3:List ByteArray:=[⟨#[]⟩,V4,VO,WE]
def JE:List ByteArray:=[⟨#[]⟩,Zdz,G4,Zdy]
theorem ZnR {a b c d:ByteArray} {ty:Nat}:X5 [⟨ty,1,4,fun i=>[[AV.lit (.string a)],[AV.lit (.string b)],[AV.lit (.string c)],[AV.lit (.string d)]][i]?.getD []⟩] [⟨ty,1,4,Zp [a,b,c,d]⟩]:=
 obsSame_one.mpr ⟨⟨ty,1,4,Zp [a,b,c,d]⟩,⟨rfl,rfl,rfl,fun j hj=>⟨by
  match j,hj with
  |0,_=>rfl
  |1,_=>rfl
  |2,_=>rfl
  |3,_=>rfl
  |j+4,hj=>exact absurd hj (by simp only;omega),by
  match j,hj with
  |0,_=>rfl
  |1,_=>rfl
  |2,_=>rfl
  |3,_=>rfl
  |j+4,hj=>exact absurd hj (by simp only;omega)⟩⟩,rfl⟩
theorem GC:VFun Tryz.prog 123 [] (fun av obs=>av=.own 0∧obs=[⟨9,1,4,Zp Q3⟩]):=by
 refine Zd Tryz.func123 (by kernel_rfl) rfl (by simp [Tryz.ntmps123]) ?_;simp only [Tryz.ntmps123,Tryz.results123];simp [go_sem]
 exact ZnR
theorem Zfp:VFun Tryz.prog 125 [] (fun av obs=>av=.own 0∧obs=[⟨9,1,4,Zp JE⟩]):=by
 refine Zd Tryz.func125 (by kernel_rfl) rfl (by simp [Tryz.ntmps125]) ?_;simp only [Tryz.ntmps125,Tryz.results125];simp [go_sem]
 exact ZnR
theorem Gy {ws:List ByteArray} (h:ws.length<3):Xa ws=none:=by unfold Xa;rw [if_pos h]
theorem HQ {ws:List ByteArray} (h:Y1 (Zs ws 2)=none):Xa ws=none:=by
  unfold Xa
  have h:Y1 (WV ws 2)=none:=h
  rw [h]
  by_cases h2:ws.length<3<;>simp only [h2,if_true,if_false]
theorem Q7 {ws:List ByteArray} {v:Nat} (hl:¬ws.length<3) (h:Y1 (Zs ws 2)=some v):Xa ws=if Zs ws 0=V4∧ws.length=3 then some (⟨Zs ws 1,1,v,0⟩:POp) else if Zs ws 0=WE∧ws.length=3 then some ⟨Zs ws 1,3,v,0⟩
      else if Zs ws 0=VO∧ws.length=4∧0<WH (Zs ws 3) then some ⟨Zs ws 1,2,v,WH (Zs ws 3)⟩ else none:=by
  unfold Xa
  have h:Y1 (WV ws 2)=some v:=h
  rw [if_neg hl,h]
  rfl
theorem Zbf {ws:List ByteArray} (h:¬(Zs ws 0=V4∧ws.length=3)∧¬(Zs ws 0=WE∧ws.length=3)∧¬(Zs ws 0=VO∧ws.length=4∧0<WH (Zs ws 3))):Xa ws=none:=by
  by_cases h3:ws.length<3
  · exact Gy h3
  · cases hv:Y1 (Zs ws 2) with
    |none=>exact HQ hv
    |some v=>rw [Q7 h3 hv,if_neg h.1,if_neg h.2.1,if_neg h.2.2]
theorem ZgF (w:ByteArray):(w=V4∧iOf (atI Q3 w)=1)∨(w=VO∧iOf (atI Q3 w)=2)∨(w=WE∧iOf (atI Q3 w)=3)∨(¬w=V4∧¬w=VO∧¬w=WE∧iOf (atI Q3 w)<1):=by
  by_cases h1:w=V4
  · exact .inl ⟨h1,by rw [h1];rfl⟩
  by_cases h2:w=VO
  · exact .inr (.inl ⟨h2,by rw [h2];rfl⟩)
  by_cases h3:w=WE
  · exact .inr (.inr (.inl ⟨h3,by rw [h3];rfl⟩))
  refine .inr (.inr (.inr ⟨h1,h2,h3,?_⟩))
  by_cases h4:w=⟨#[]⟩
  · rw [h4];decide
  · have e:∀ {x:ByteArray},¬w=x→decide (x=w)=false:=fun h=>decide_eq_false fun h'=>h h'.symm
    have:atI Q3 w=none:=by
      unfold atI Q3
      simp only [List.findIdx?_cons,e h1,e h2,e h3,e h4,List.findIdx?_nil]
      rfl
    rw [this];decide
theorem Zgn (w:ByteArray):(0<WH w∧iOf (atI JE w)=WH w)∨(WH w=0∧iOf (atI JE w)≤0):=by
  by_cases h1:w=Zdz
  · rw [h1];exact .inl (by decide)
  by_cases h2:w=G4
  · rw [h2];exact .inl (by decide)
  by_cases h3:w=Zdy
  · rw [h3];exact .inl (by decide)
  refine .inr ⟨by unfold WH;rw [if_neg h1,if_neg h2,if_neg h3],?_⟩
  by_cases h4:w=⟨#[]⟩
  · rw [h4];decide
  · have e:∀ {x:ByteArray},¬w=x→decide (x=w)=false:=fun h=>decide_eq_false fun h'=>h h'.symm
    have:atI JE w=none:=by
      unfold atI JE
      simp only [List.findIdx?_cons,e h1,e h2,e h3,e h4,List.findIdx?_nil]
      rfl
    rw [this];decide
def Hb (ws:List ByteArray) (av:AV) (obs:List Ob):Prop:=obs=[]∧∃ o',av=.tup [.agg (POp.cells o'),.lit (.bool (Xa ws).isSome)]∧∀ o,Xa ws=some o→o'=o
theorem Zk2 (w:ByteArray):VFun Tryz.prog 122 [.sl 1 4 (Zp Q3),.lit (.string w)] (fun av obs=>obs=[]∧av=.lit (.int .i64 (iOf (atI Q3 w)))):=ZfB Q3 (by decide) w
theorem ZkT (w:ByteArray):VFun Tryz.prog 122 [.sl 1 4 (Zp JE),.lit (.string w)] (fun av obs=>obs=[]∧av=.lit (.int .i64 (iOf (atI JE w)))):=ZfB JE (by decide) w
set_option maxRecDepth 100000 in
theorem Zg1 (ws:List ByteArray) (hl:ws.length≤2000000) (h0:0<ws.length) (hB:∀ i,(Zs ws i).size≤1048576):VFun Tryz.prog 84 [.sl 1 ws.length (Zp ws)] (Hb ws):=by
  have h1:=Zk2 (Zs ws 0)
  have h2:=ZkT (Zs ws 3)
  have h3:=ZiZ (Zs ws 2) (hB 2)
  have hk:=ZgF (Zs ws 0)
  have hs:=Zgn (Zs ws 3)
  generalize iOf (atI Q3 (Zs ws 0))=kI at *
  generalize iOf (atI JE (Zs ws 3))=sI at *
  have fin:Xa ws=none→Hb ws (.tup [.agg [AV.lit (Value.string { data:=#[] }),AV.lit (Value.int IntKind.i64 0),AV.lit (Value.int IntKind.i64 0),AV.lit (Value.int IntKind.i64 0)],.lit (.bool false)]) []:=fun hn=>⟨rfl,⟨⟨#[]⟩,0,0,0⟩,by rw [hn];rfl,fun o h=>by rw [hn] at h;cases h⟩
  have k6:=KW6
  have n1:kI<1→Xa ws=none:=fun h=>Zbf (by
    rcases hk with ⟨e,e1⟩|⟨e,e1⟩|⟨e,e1⟩|⟨e,e1,e2,_⟩
    · omega
    · omega
    · omega
    · exact ⟨fun h=>e h.1,fun h=>e2 h.1,fun h=>e1 h.1⟩)
  have n2:kI=2→¬ws.length=4→Xa ws=none:=fun h h4=>Zbf (by
    rcases hk with ⟨e,e1⟩|⟨e,e1⟩|⟨e,e1⟩|⟨e,e1,e2,_⟩
    · omega
    · exact ⟨fun h=>k6.2.1 (e▸h.1),fun h=>k6.2.2.1 (e▸h.1),fun h=>h4 h.2.1⟩
    · omega
    · omega)
  have n3:¬kI=2→1≤kI→¬ws.length=3→Xa ws=none:=fun h h' h4=>Zbf (by
    rcases hk with ⟨e,e1⟩|⟨e,e1⟩|⟨e,e1⟩|⟨e,e1,e2,_⟩
    · exact ⟨fun h=>h4 h.2,fun h=>h4 h.2,fun h=>k6.2.1 (h.1▸e)⟩
    · omega
    · exact ⟨fun h=>h4 h.2,fun h=>h4 h.2,fun h=>k6.2.2.1 (h.1▸e)⟩
    · omega)
  have f1:∀ {v:Nat},¬kI=2→1≤kI→ws.length=3→Y1 (Zs ws 2)=some v→Hb ws (.tup [.agg [.lit (.string (Zs ws 1)),.lit (.int .i64 kI),.lit (.int .i64 v),.lit (.int .i64 0)],.lit (.bool true)]) []:=fun {v} g1 g2 g3 g4=>by
    rcases hk with ⟨e,e1⟩|⟨e,e1⟩|⟨e,e1⟩|⟨e,e1,e2,_⟩
    · have hd:Xa ws=some ⟨Zs ws 1,1,v,0⟩:=by rw [Q7 (by omega) g4,if_pos ⟨e,g3⟩]
      subst e1
      exact ⟨rfl,⟨Zs ws 1,1,v,0⟩,by rw [hd];rfl,fun o h=>by rw [hd] at h;cases h;rfl⟩
    · omega
    · have hd:Xa ws=some ⟨Zs ws 1,3,v,0⟩:=by rw [Q7 (by omega) g4,if_neg (fun h=>k6.1 (e▸h.1)),if_pos ⟨e,g3⟩]
      subst e1
      exact ⟨rfl,⟨Zs ws 1,3,v,0⟩,by rw [hd];rfl,fun o h=>by rw [hd] at h;cases h;rfl⟩
    · omega
  have f2:∀ {v:Nat},kI=2→ws.length=4→Y1 (Zs ws 2)=some v→Hb ws (.tup [.agg [.lit (.string (Zs ws 1)),.lit (.int .i64 2),.lit (.int .i64 v),.lit (.int .i64 sI)],.lit (.bool (decide (0<sI)))]) []:=fun {v} g1 g3 g4=>by
    rcases hk with ⟨e,e1⟩|⟨e,e1⟩|⟨e,e1⟩|⟨e,e1,e2,_⟩
    · omega
    · have hd:Xa ws=if Zs ws 0=VO∧ws.length=4∧0<WH (Zs ws 3) then some ⟨Zs ws 1,2,v,WH (Zs ws 3)⟩ else none:=by rw [Q7 (by omega) g4,if_neg (fun h=>k6.2.1 (e▸h.1)),if_neg (fun h=>k6.2.2.1 (e▸h.1))]
      rcases hs with ⟨s1,s2⟩|⟨s1,s2⟩
      · rw [if_pos ⟨e,g3,s1⟩] at hd
        subst s2
        exact ⟨rfl,⟨Zs ws 1,2,v,WH (Zs ws 3)⟩,by rw [hd];simp [POp.cells];exact s1,fun o h=>by rw [hd] at h;cases h;rfl⟩
      · rw [if_neg (fun h=>by omega)] at hd
        exact ⟨rfl,⟨Zs ws 1,2,v,sI⟩,by rw [hd];simp [POp.cells];exact s2,fun o h=>by rw [hd] at h;cases h⟩
    · omega
    · omega
  refine Zd Tryz.func84 (by kernel_rfl) rfl (by simp [Tryz.ntmps84]) ?_;simp only [Tryz.ntmps84,Tryz.results84];simp [go_sem]
  refine Zn [7] (.q 1 <| .q 2 <| .q 3 <| .or 0 (.or 4 (.q 5 <| .or 6 (.or 7 (.done) (.nil)) (.nil)) (.or 6 (.or 4 (.q 5 <| .or 7 (.done) (.nil)) (.nil)) (.nil))) (.or 6 (.or 0 (.or 4 (.q 5 <| .or 7 (.done) (.nil)) (.nil)) (.nil)) (.nil))) (by kernel_rfl) ?_
  simp [go_sem,Zr]
  refine ⟨h0,Yk GC (by simp [go_sem]) ?_,Yk GC (by simp [go_sem]) ?_⟩
  all_goals rintro av obs ⟨rfl,rfl⟩
  all_goals simp [go_sem,Zr]
  all_goals first
    |refine ⟨Yk h1 (by simp [go_sem];exact Xq rfl (by decide) rfl (fun _ _=>rfl) fun i c _ h=>Yg _ i c h) ?_,Yk h1 (by simp [go_sem];exact Xq rfl (by decide) rfl (fun _ _=>rfl) fun i c _ h=>Yg _ i c h) ?_⟩
    |refine Yk h1 (by simp [go_sem];exact Xq rfl (by decide) rfl (fun _ _=>rfl) fun i c _ h=>Yg _ i c h) ?_
  all_goals rintro av obs ⟨rfl,rfl⟩
  all_goals simp [go_sem,Zr]
  all_goals refine ⟨fun e=>⟨fun e1=>⟨by omega,fun e2=>fin (n2 e (by omega)),fun e2=>⟨by omega,by omega,?_⟩⟩,fun e2=>fin (n1 e2)⟩,fun e=>⟨fun e1=>⟨by omega,fun e2=>fin (n3 e e1 (by omega)),fun e2=>⟨by omega,by omega,?_⟩⟩,fun e2=>fin (n1 e2)⟩⟩
  all_goals
    cases hlev:Y1 (Zs ws 2) with
    |none=>
      rw [hlev] at h3
      refine ZP h3 (by simp [go_sem]) ?_
      rintro av obs ⟨rfl,rfl⟩
      simp [go_sem]
      exact fin (HQ hlev)
    |some v=>
      rw [hlev] at h3
      refine ZP h3 (by simp [go_sem]) ?_
      rintro av obs ⟨rfl,rfl⟩
      simp [go_sem,e]
      first
        |exact f1 e e1 (by omega) hlev
        | (refine Zn [6] (.q 1 <| .q 2 <| .q 3 <| .or 0 (.or 4 (.q 5 <| .or 6 (.done) (.nil)) (.nil)) (.nil)) (by kernel_rfl) ?_
           simp [go_sem,Zr]
           refine ⟨by omega,Yk Zfp (by simp [go_sem]) ?_⟩
           rintro av obs ⟨rfl,rfl⟩
           simp [go_sem,Zr]
           refine Yk h2 (by simp [go_sem];exact Xq rfl (by decide) rfl (fun _ _=>rfl) fun i c _ h=>Yg _ i c h) ?_
           rintro av obs ⟨rfl,rfl⟩
           simp [go_sem]
           exact f2 e (by omega) hlev)
noncomputable def lmR (L:List (List ByteArray)):Nat→List (Value×Value)
 |0=>[]
 |i+1=>match Xa (L.getD i []) with
  |some o=>mput (lmR L i) (opV o) (.int .i64 i)
  |none=>lmR L i
def lnZ (z:ByteArray) (j:Nat):List ByteArray:=(Zt z).getD j []
theorem Zg5 {z:ByteArray} (h:∀ j,j<(Z4 10 z).length→Y3 (lnZ z j)=false):Vf (Zt z)=none:=by
 rw [←Qf]
 exact GH fun j hj=>by rw [←Gq];exact h j (by rw [←Ut];exact hj)
theorem Zg4 {z:ByteArray} {i:Nat} (hi:i<(Z4 10 z).length) (h:∀ j,j<i→Y3 (lnZ z j)=false) (hb:Y3 (lnZ z i)=true):Vf (Zt z)=some i:=by
 rw [←Qf]
 exact GG (by rw [Ut];exact hi) (fun j hj=>by rw [←Gq];exact h j hj) (by rw [←Gq];exact hb)
theorem Zb9 {z:ByteArray} {k:Nat} (hz:¬20000<z.size) (h:Vf (Zt z)=some k∨Vf (Zt z)=none∧k=(Z4 10 z).length) (hb:0<(usR (Zt z) k).bad):Z2 z=((⟨[],[],⟨#[]⟩⟩:Unt),(2:Int),((usR (Zt z) k).bad:Int)):=by
 unfold Z2
 rw [if_neg hz]
 rcases h with e|⟨e,rfl⟩
 ·rw [e];simp only;rw [if_neg (by omega)]
 ·rw [e];simp only [Us,Ut];rw [if_neg (by omega)]
theorem Zge {z:ByteArray} (hz:¬20000<z.size) (e:Vf (Zt z)=none) (hb:(usR (Zt z) (Z4 10 z).length).bad=0):Z2 z=((⟨[],[],⟨#[]⟩⟩:Unt),(3:Int),(0:Int)):=by
 unfold Z2
 rw [if_neg hz,e];simp only [Us,Ut];rw [if_pos hb]
theorem Zgd {z:ByteArray} {k:Nat} (hz:¬20000<z.size) (e:Vf (Zt z)=some k) (hb:(usR (Zt z) k).bad=0):Z2 z=((⟨(usR (Zt z) k).uses,(usR (Zt z) k).ops,z.extract (min (VZ (Z4 10 z) (k+1)) z.size) z.size⟩:Unt),(0:Int),(0:Int)):=by
 unfold Z2
 rw [if_neg hz,e];simp only;rw [if_pos hb]
def Zht (u:Unt) (b:Nat) (n:Nat) (k1 k2 k3:Nat):Option Ob:=some ⟨103,6,1,fun _=>[.own k1,.own k2,.lit (.string u.body),.own k3,.lit (.map (some b)),.lit (.int .i64 n)]⟩
def Zlu (z:ByteArray) (av:AV) (mem:List (Option Ob)) (maps:List (Nat×Mp)):Prop:=
 (∃ k b,Vf (Zt z)=some k∧(Z2 z).2=(0,0)∧av=.tup [.ptr 0 6 0 0,.lit (.int .i64 0),.lit (.int .i64 0)]∧mem=[Zht (Z2 z).1 b (min (VZ (Z4 10 z) (k+1)) z.size) 1 2 3,UI (Z2 z).1.uses,XH (Z2 z).1.ops,UI ((Z4 10 z).take k)]∧maps=[(b,⟨73,lmR (Zt z) k⟩)])∨
 (¬(Z2 z).2.1=0∧(Z2 z).1.uses=[]∧(Z2 z).1.ops=[]∧(Z2 z).1.body=⟨#[]⟩∧av=.tup [.lit (.pointer none),.lit (.int .i64 (Z2 z).2.1),.lit (.int .i64 (Z2 z).2.2)]∧mem=[])
theorem Zeh {st:US} {i:Nat} {ws:List ByteArray} (h:Xa ws=none) (h2:¬(ws.length=2∧Zs ws 0=KK)) (h0:¬st.bad=0):Xw st i ws=st:=by
 unfold Xw
 split
 ·rfl
 ·rw [h]
  simp only
  have h2:¬(ws.length=2∧WV ws 0=KK):=h2
  rw [if_neg h2]
  first
   |done
   |rfl
   |rw [if_neg h0]
theorem Zbe {ws:List ByteArray} {o:POp} (h:Xa ws=some o) (hB:∀ i,(Zs ws i).size≤1048576):o.wf∧o.rng:=by
 by_cases h3:ws.length<3
 ·rw [Gy h3] at h;cases h
 cases hv:Y1 (Zs ws 2) with
 |none=>rw [HQ hv] at h;cases h
 |some v=>
  have hlt:v<1000000:=by
   unfold Y1 at hv
   split at hv
   ·rename_i hh
    cases hv
    have:=G8 hh.1 _ (Nat.le_refl _)
    have hp:10^(Zs ws 2).size≤10^6:=Nat.pow_le_pow_right (by omega) hh.2
    omega
   ·cases hv
  have hsd:WH (Zs ws 3)≤3:=by unfold WH;(repeat' split)<;>omega
  have hb:=hB 1
  rw [Q7 h3 hv] at h
  split at h
  ·cases h;exact ⟨by simp only [POp.wf,maxLen];omega,by simp only [POp.rng,i64];omega⟩
  ·split at h
   ·cases h;exact ⟨by simp only [POp.wf,maxLen];omega,by simp only [POp.rng,i64];omega⟩
   ·split at h
    ·cases h;exact ⟨by simp only [POp.wf,maxLen];omega,by simp only [POp.rng,i64];omega⟩
    ·cases h
theorem ZmD {ty:Nat} {x y u:Value}:WN (YX 0 [0,2,3,4]) [0,2,3,4] ⟨ty,6,1,fun _=>[.own 1,.own 2,.lit x,.own 3,.lit y,.lit u]⟩ (some (some ⟨ty,6,1,fun _=>[.own 2,.own 3,.lit x,.own 4,.lit y,.lit u]⟩)):=
 ⟨rfl,rfl,rfl,fun i hi=>⟨rfl,fun c hc=>by
  simp at hc
  rcases hc with rfl|rfl|rfl|rfl|rfl|rfl<;>exact .inl rfl,fun c hc q hq=>by
  simp at hc
  rcases hc with rfl|rfl|rfl|rfl|rfl|rfl<;>simp [WI] at hq<;>simp [hq]⟩⟩
theorem ZhN (z:ByteArray) {i:Nat} (h:i≤(Z4 10 z).length):VZ (Z4 10 z) i≤z.size+1:=by
 cases i with
 |zero=>simp [VZ]
 |succ i=>
  obtain ⟨_,h2,_,h4,_⟩:=Zdh 10 z i h
  rw [←h2];omega
theorem ZeI {c:UInt8} {z:ByteArray} (i:Nat):(Zs (Z4 c z) i).size≤z.size:=by
 by_cases h:i<(Z4 c z).length
 ·obtain ⟨_,_,_,_,h5⟩:=Zdh c z i h
  have:Zs (Z4 c z) i=(Z4 c z).getD i ByteArray.empty:=rfl
  rw [this,←h5,ByteArray.size_extract];omega
 ·unfold Zs
  rw [List.getD_eq_getElem?_getD,List.getElem?_eq_none (by omega)]
  exact Nat.zero_le _
theorem ZiE (z:ByteArray) {i:Nat} (h:i<(Z4 10 z).length):WR (Zs (Z4 10 z) i)=(Zt z).getD i []:=by
 unfold Zt Zs
 rw [List.getD_eq_getElem?_getD,List.getD_eq_getElem?_getD,List.getElem?_map,List.getElem?_eq_getElem h]
 rfl
theorem Zhq (L:List (List ByteArray)):∀ i,(usR L i).bad≤i
 |0=>Nat.le_refl _
 |i+1=>by
  have:=Zhq L i
  show (Xw (usR L i) i _).bad≤_
  unfold Xw
  split
  ·omega
  ·split
   ·simp only;omega
   ·split
    ·simp only;omega
    ·simp only;split<;>omega
set_option maxHeartbeats 2000000 in
set_option maxRecDepth 100000 in
theorem ZgU (z:ByteArray) (hz:z.size≤1048576):VProc Tryz.prog 56 [.lit (.string z)] [] [] (Zlu z):=by
 have h1:=ZhR 10 z hz
 refine Zu Tryz.func56 (by kernel_rfl) rfl (by simp [Tryz.ntmps56]) ?_;simp only [Tryz.ntmps56,Tryz.results56];simp [go_sem]
 refine ⟨fun hbig=>?_,fun hsm=>?_⟩
 ·have e:Z2 z=((⟨[],[],⟨#[]⟩⟩:Unt),(1:Int),(0:Int)):=by unfold Z2;rw [if_pos (by omega)]
  exact uF [] [] (hR:=.inr (by rw [e];exact ⟨by decide,rfl,rfl,rfl,rfl,rfl⟩))
 ·intro b
  have hsm:¬20000<z.size:=by omega
  have hpl:=Zbg 10 z
  refine ZP h1 (by simp [go_sem]) ?_
  rintro av obs ⟨rfl,rfl⟩
  simp [go_sem]
  refine ⟨by omega,?_⟩
  refine ZC (fun i:Nat=>i≤(Z4 10 z).length∧∀ j,j<i→Y3 (lnZ z j)=false) (fun i=>(Z4 10 z).length-i)
   (fun i=>⟨[(0,.lit (.string z)),(5,.ptr 0 6 0 0),(6,.lit (.int .i64 (VZ (Z4 10 z) i))),(7,.lit (.int .i64 (usR (Zt z) i).bad)),(20,.own 1),(21,.lit (.int .i64 (Z4 10 z).length)),(22,.lit (.int .i64 i))],
    [some ⟨103,6,1,fun _=>[.own 2,.own 3,.lit (.string ⟨#[]⟩),.own 4,.lit (.map (some b)),.lit (.int .i64 (-1))]⟩,UI (Z4 10 z),UI (usR (Zt z) i).uses,XH (usR (Zt z) i).ops,UI ((Z4 10 z).take i)],
    [(b,⟨73,lmR (Zt z) i⟩)],0⟩) ⟨0,⟨by omega,fun j h=>by omega⟩,?_⟩ (fun i hi=>?_)
  ·refine (Ent.adopt (j:=0) rfl rfl (c:=0) rfl 9 1 (by omega) (Zp [])).trans ?_
   refine (Ent.adopt (j:=0) rfl rfl (c:=1) rfl 73 4 (by omega) (Za [])).trans ?_
   refine (Ent.adopt (j:=0) rfl rfl (c:=3) rfl 9 1 (by omega) (Zp [])).trans ?_
   exact uE [0,1,2,3,4] (h1:=by simp [go_sem,VZ,usR]) (h4:=by simp [go_sem,K5,XH,usR]) (hM:=by simp [go_sem,lmR])
  ·obtain ⟨hi1,hi2⟩:=hi
   have hmin:min i (Z4 10 z).length=i:=Nat.min_eq_left hi1
   have hf:=ZhN z hi1
   simp [go_sem,K5,XH,Zr,hmin]
   refine ⟨fun h=>⟨h,?_⟩,fun h=>?_⟩
   ·have hps:=ZeI (c:=10) (z:=z) i
    have hW:WR (Zs (Z4 10 z) i)=(Zt z).getD i []:=ZiE z h
    have hwl:=Zcx z i
    have hB:=Qu z i
    have hnx:usR (Zt z) (i+1)=Xw (usR (Zt z) i) i ((Zt z).getD i []):=rfl
    have hlm:lmR (Zt z) (i+1)=match Xa ((Zt z).getD i []) with
     |some o=>mput (lmR (Zt z) i) (opV o) (.int .i64 i)
     |none=>lmR (Zt z) i:=rfl
    have hfz:VZ (Z4 10 z) (i+1)=VZ (Z4 10 z) i+(Zs (Z4 10 z) i).size+1:=rfl
    have hul:=GX (Zt z) i
    have hbd:=Zhq (Zt z) i
    have hf2:=ZhN z (i:=i+1) h
    rw [←Gq] at hwl
    have hB:∀ j,(Zs ((Zt z).getD i []) j).size≤z.size:=fun j=>by rw [Gq];exact hB j
    have w1:IntKind.i64.wrap (((Zs (Z4 10 z) i).size:Int)+1)=((Zs (Z4 10 z) i).size:Int)+1:=wrap_i64 (by omega)
    have w2:IntKind.i64.wrap ((VZ (Z4 10 z) i:Int)+(((Zs (Z4 10 z) i).size:Int)+1))=(VZ (Z4 10 z) (i+1):Int):=by rw [wrap_i64 (by omega),hfz];omega
    have w3:IntKind.i64.wrap ((i:Int)+1)=(i:Int)+1:=wrap_i64 (by omega)
    have hw1:=Zl2 (Zs (Z4 10 z) i) (by omega)
    rw [hW] at hw1
    rw [w1,w2]
    have nxt:Y3 (lnZ z i)=false→∀ j,j<i+1→Y3 (lnZ z j)=false:=fun e j h2=>by
     by_cases e2:j=i
     ·rw [e2];exact e
     ·exact hi2 j (by omega)
    have hlz:lnZ z i=(Zt z).getD i []:=rfl
    generalize hWs:(Zt z).getD i []=W at *
    refine uS [] hw1 ?_
    rintro av mem maps ⟨rfl,rfl,rfl⟩
    simp [go_sem,K5,Zr,KW5]
    refine ⟨by omega,fun g1=>⟨by omega,fun g2=>?_,fun g2=>?_⟩,fun g1=>?_⟩
    ·have hq:(if z.size<VZ (Z4 10 z) (i+1) then (z.size:Int) else (VZ (Z4 10 z) (i+1):Int))=((min (VZ (Z4 10 z) (i+1)) z.size:Nat):Int):=by split<;>omega
     have hbs:=Zg4 h hi2 (by
      rw [hlz]
      obtain ⟨x,rfl⟩:=List.length_eq_one_iff.1 (show W.length=1 by omega)
      have:x=ZdA:=g2
      rw [this];rfl)
     rw [hq]
     refine ⟨fun g=>?_,fun g=>⟨fun g3=>by omega,fun g3=>⟨by omega,by omega,?_⟩⟩⟩
     ·have hu:=Zb9 hsm (.inl hbs) g
      exact uF [] [] (hR:=.inr (by rw [hu];exact ⟨(by decide:¬(2:Int)=0),rfl,rfl,rfl,rfl,rfl⟩))
     ·have hu:=Zgd hsm hbs g
      refine uF [0,2,3,4] [Zht (Z2 z).1 b (min (VZ (Z4 10 z) (i+1)) z.size) 1 2 3,UI (Z2 z).1.uses,XH (Z2 z).1.ops,UI ((Z4 10 z).take i)] (hm:=?_) (hR:=.inl ⟨i,b,hbs,by rw [hu],?_,rfl,rfl⟩)
      ·simp [go_sem,K5,Zht,XH,hu,hmin]
       exact ZmD
      ·simp [go_sem]
    case' refine_2=>
     have hnb:Y3 (lnZ z i)=false:=by
      simp only [Y3,decide_eq_false_iff_not]
      intro e;rw [hlz] at e;rw [e] at g2;exact g2 rfl
    case' refine_3=>
     have hnb:Y3 (lnZ z i)=false:=by
      simp only [Y3,decide_eq_false_iff_not]
      intro e;rw [hlz] at e;rw [e] at g1;exact g1 rfl
    all_goals
     have hTk:(Z4 10 z).take (i+1)=(Z4 10 z).take i++[Zs (Z4 10 z) i]:=by
      rw [List.take_succ_eq_append_getElem h]
      congr 2
      unfold Zs;rw [List.getD_eq_getElem?_getD,List.getElem?_eq_getElem h];rfl
     have hTn:=fun g m=>Hq (g:=g) (m:=m) ((Z4 10 z).take i) (Zs (Z4 10 z) i)
     simp only [List.length_take,hmin] at hTn
     have hmin2:min (i+1) (Z4 10 z).length=i+1:=Nat.min_eq_left h
     refine ⟨by omega,by omega,by omega,fun g=>⟨i+1,⟨h,nxt hnb⟩,by omega,?_⟩,fun g=>?_⟩
     ·have hdn:Xa W=none:=by rw [g];rfl
      rw [Zas (by rw [g];rfl)] at hnx
      rw [hdn] at hlm
      exact uE [0,1,2,3,6] (h1:=by simp [go_sem,w3,hnx]) (h4:=by simp [go_sem,K5,XH,hnx,hTk,hmin,hmin2];exact .inr (of_eq_true (hTn _ _))) (hM:=by simp [go_sem,hlm])
     ·have hpos:0<W.length:=List.length_pos_iff.2 g
      have hdc:=Zg1 W (by omega) hpos (fun j=>by have:=hB j;omega)
      cases hd:Xa W with
      |some o=>
       rw [Zb6 hd] at hnx
       rw [hd] at hlm
       refine ZP hdc (by simp [go_sem];exact Zb (by omega) fun i c _ h=>Yg _ i c h) ?_
       rintro av obs ⟨rfl,o',rfl,ho⟩
       obtain rfl:=ho o hd
       have hky:=Zml (Zbe hd fun j=>by have:=hB j;omega).1 (Zbe hd fun j=>by have:=hB j;omega).2
       rw [hd]
       simp [go_sem,POp.cells]
       refine Zn [8,12] (.q 1 <| .q 2 <| .q 3 <| .q 4 <| .q 5 <| .q 6 <| .or 0 (.or 7 (.or 8 (.q 9 <| .q 10 <| .q 11 <| .or 12 (.done) (.nil)) (.nil)) (.nil)) (.or 7 (.or 0 (.or 8 (.q 9 <| .q 10 <| .q 11 <| .or 12 (.done) (.nil)) (.nil)) (.or 8 (.q 0 <| .q 9 <| .q 10 <| .q 11 <| .or 12 (.done) (.nil)) (.nil))) (.nil))) (by kernel_rfl) ?_
       simp [go_sem]
       refine ⟨⟨by omega,by omega,?_⟩,⟨by omega,by omega,?_⟩,by omega,by omega,?_⟩
       all_goals
        refine Zn [6] (.q 0 <| .q 1 <| .q 2 <| .q 3 <| .q 4 <| .q 5 <| .or 6 (.done) (.nil)) (by kernel_rfl) ?_
        simp [go_sem]
        refine Y0 ZdB hky ?_
        simp [go_sem]
        refine ⟨i+1,⟨h,nxt hnb⟩,by omega,?_⟩
        exact uE [0,1,2,9,6] (h1:=by simp [go_sem,w3,hnx]) (h4:=by simp [go_sem,K5,XH,hnx,hTk,hmin,hmin2,ZhA];exact .inr (of_eq_true (hTn _ _))) (hM:=by simp [go_sem,hlm,opV])
      |none=>
       rw [hd] at hlm
       refine ZP hdc (by simp [go_sem];exact Zb (by omega) fun i c _ h=>Yg _ i c h) ?_
       rintro av obs ⟨rfl,o',rfl,ho⟩
       rw [hd]
       simp [go_sem,POp.cells,Zr,KW5]
       have nb0:∀ (h2:¬(W.length=2∧Zs W 0=KK)),(usR (Zt z) i).bad=0→usR (Zt z) (i+1)={ usR (Zt z) i with bad:=i+1 }:=fun h2 h3=>by rw [hnx,Zat hd h2 hpos h3]
       have nb1:∀ (h2:¬(W.length=2∧Zs W 0=KK)),¬(usR (Zt z) i).bad=0→usR (Zt z) (i+1)=usR (Zt z) i:=fun h2 h3=>by rw [hnx,Zeh hd h2 h3]
       have hlm':lmR (Zt z) (i+1)=lmR (Zt z) i:=hlm
       refine ⟨by omega,fun g1=>⟨by omega,fun g2=>?_,fun g2=>⟨fun g3=>⟨i+1,⟨h,nxt hnb⟩,by omega,?_⟩,fun g3=>⟨i+1,⟨h,nxt hnb⟩,by omega,?_⟩⟩⟩,fun g1=>⟨fun g3=>⟨i+1,⟨h,nxt hnb⟩,by omega,?_⟩,fun g3=>⟨i+1,⟨h,nxt hnb⟩,by omega,?_⟩⟩⟩
       ·rw [Zar hd (by omega) g2] at hnx
        refine Zn [10,14] (.q 1 <| .q 2 <| .q 3 <| .q 4 <| .q 5 <| .q 6 <| .q 7 <| .q 8 <| .or 0 (.or 9 (.or 10 (.q 11 <| .q 12 <| .q 13 <| .or 14 (.done) (.nil)) (.nil)) (.nil)) (.or 9 (.or 0 (.or 10 (.q 11 <| .q 12 <| .q 13 <| .or 14 (.done) (.nil)) (.nil)) (.or 10 (.q 0 <| .q 11 <| .q 12 <| .q 13 <| .or 14 (.done) (.nil)) (.nil))) (.nil))) (by kernel_rfl) ?_
        simp [go_sem,Zr]
        refine ⟨by omega,⟨by omega,by omega,i+1,⟨h,nxt hnb⟩,by omega,?_⟩,⟨by omega,by omega,i+1,⟨h,nxt hnb⟩,by omega,?_⟩,by omega,by omega,i+1,⟨h,nxt hnb⟩,by omega,?_⟩
        all_goals exact uE [0,1,9,3,6] (h1:=by simp [go_sem,w3,hnx]) (h4:=by simp [go_sem,K5,XH,hnx,hTk,hmin,hmin2,Hq];exact .inr (of_eq_true (hTn _ _))) (hM:=by simp [go_sem,hlm'])
       ·have hn:=nb0 (fun e=>g2 e.2) g3
        exact uE [0,1,2,3,6] (h1:=by simp [go_sem,w3,hn]) (h4:=by simp [go_sem,K5,XH,hn,hTk,hmin,hmin2];exact .inr (of_eq_true (hTn _ _))) (hM:=by simp [go_sem,hlm'])
       ·have hn:=nb1 (fun e=>g2 e.2) g3
        exact uE [0,1,2,3,6] (h1:=by simp [go_sem,w3,hn]) (h4:=by simp [go_sem,K5,XH,hn,hTk,hmin,hmin2];exact .inr (of_eq_true (hTn _ _))) (hM:=by simp [go_sem,hlm'])
       ·have hn:=nb0 (fun e=>g1 (by rw [e.1];rfl)) g3
        exact uE [0,1,2,3,6] (h1:=by simp [go_sem,w3,hn]) (h4:=by simp [go_sem,K5,XH,hn,hTk,hmin,hmin2];exact .inr (of_eq_true (hTn _ _))) (hM:=by simp [go_sem,hlm'])
       ·have hn:=nb1 (fun e=>g1 (by rw [e.1];rfl)) g3
        exact uE [0,1,2,3,6] (h1:=by simp [go_sem,w3,hn]) (h4:=by simp [go_sem,K5,XH,hn,hTk,hmin,hmin2];exact .inr (of_eq_true (hTn _ _))) (hM:=by simp [go_sem,hlm'])
   ·have e:i=(Z4 10 z).length:=by omega
    subst e
    have hbn:=Zg5 hi2
    refine ⟨fun g=>?_,fun g=>?_⟩
    ·have hu:=Zb9 hsm (.inr ⟨hbn,rfl⟩) g
     exact uF [] [] (hR:=.inr (by rw [hu];exact ⟨(by decide:¬(2:Int)=0),rfl,rfl,rfl,rfl,rfl⟩))
    ·have hu:=Zge hsm hbn g
     exact uF [] [] (hR:=.inr (by rw [hu];exact ⟨by decide,rfl,rfl,rfl,rfl,rfl⟩))
theorem VFun.adoptU {P:Program} {f:FuncId} {args:List AV} {R R':AV→List Ob→Prop} (h:VFun P f args R) (t1 t2:Nat) (g1 g2:Nat→List AV)
  (hr:∀ av obs,R av obs→R' av obs∨∃ (y:Value) (xs:List Value),av=.tup (.agg [.lit (.slice none 0 0),.lit (.slice none 0 0),.lit y]::xs.map .lit)∧obs=[]∧R' (.tup (.agg [.own 0,.own 1,.lit y]::xs.map .lit)) [⟨t1,1,0,g1⟩,⟨t2,4,0,g2⟩]):VFun P f args R':=by
 refine ⟨h.1,fun w vs hl hv=>(h.2 w vs hl hv).mono fun e w' ⟨v,e1,gr,hd,av,obs,r,fl,hlit,hm,hrep⟩=>?_⟩
 rcases hr av obs r with r'|⟨y,xs,rfl,rfl,r'⟩
 ·exact ⟨v,e1,gr,hd,av,obs,r',fl,hlit,hm,hrep⟩
 ·have two:∀ (k:Nat) (ob:Ob),([⟨t1,1,0,g1⟩,⟨t2,4,0,g2⟩]:List Ob)[k]?=some ob→0<ob.sz∧ob.n=0:=fun k ob hk=>by
   match k with
   |0=>simp at hk;subst hk;exact ⟨Nat.one_pos,rfl⟩
   |1=>simp at hk;subst hk;exact ⟨Nat.succ_pos 3,rfl⟩
   |k+2=>simp at hk
  have two':∀ (k:Nat) (ob:Ob),(([⟨t1,1,0,g1⟩,⟨t2,4,0,g2⟩]:List Ob).map some)[k]?=some (some ob)→0<ob.sz∧ob.n=0:=fun k ob hk=>by
   rw [List.getElem?_map,Option.map_eq_some_iff] at hk
   obtain ⟨x,hx,hx2⟩:=hk
   cases hx2
   exact two k ob hx
  refine ⟨v,e1,gr,fun _=>.slice none 0 0,_,_,r',?_,fun ob ho i hi=>?_,⟨fun k ob hk b hb=>?_,fun k ob hk=>?_,fun k hk=>⟨none,0,0,rfl⟩,fun k k' o o' hk hk' hne=>.inl rfl⟩,?_⟩
  ·simp [Vb,VP,X8]
  ·obtain ⟨k,hk⟩:=List.getElem?_of_mem ho
   have:=(two k ob hk).2
   omega
  ·simp [Value.ownBlock] at hb
  ·obtain ⟨h1,h2⟩:=two' k ob hk
   exact ⟨h1,[],⟨by rw [h2];simp,.inl ⟨rfl,h2⟩⟩,fun i hi=>by omega⟩
  ·cases hrep with
   |tup _ us hl2 hr2=>
    match us,hl2 with
    |u1::us,hl2=>
     have q1:=hr2 0 _ u1 rfl rfl
     cases q1 with
     |agg _ ws hl3 hr3=>
      match ws,hl3 with
      |[x1,x2,x3],_=>
       have q1:=hr3 0 _ x1 rfl rfl
       have q2:=hr3 1 _ x2 rfl rfl
       have q3:=hr3 2 _ x3 rfl rfl
       cases q1;cases q2;cases q3
       refine .tup _ (.agg #[.slice none 0 0,.slice none 0 0,y]::us) (by simpa using hl2) fun j a u ha hu=>?_
       cases j with
       |zero=>
        simp only [List.getElem?_cons_zero,Option.some.injEq] at ha hu
        subst ha;subst hu
        refine .agg _ [.slice none 0 0,.slice none 0 0,y] rfl fun j a u ha hu=>?_
        match j with
        |0=>simp at ha hu;subst ha;subst hu;exact .own (hd:=fun _=>.slice none 0 0) 0 (by simp)
        |1=>simp at ha hu;subst ha;subst hu;exact .own (hd:=fun _=>.slice none 0 0) 1 (by simp)
        |2=>simp at ha hu;subst ha;subst hu;exact .lit _
        |j+3=>simp at ha
       |succ j=>
        simp only [List.getElem?_cons_succ] at ha hu
        have:=hr2 (j+1) a u (by simpa using ha) (by simpa using hu)
        rw [List.getElem?_map,Option.map_eq_some_iff] at ha
        obtain ⟨y,hy,rfl⟩:=ha
        cases this
        exact .lit _
theorem ZjU {u:Unt} {c ln:Int} {av:AV} {obs:List Ob} (h:ZjV u c ln av obs∨ZjW u c ln av obs):ZjV u c ln av obs∨∃ (y:Value) (xs:List Value),av=.tup (.agg [.lit (.slice none 0 0),.lit (.slice none 0 0),.lit y]::xs.map .lit)∧obs=[]∧ZjV u c ln (.tup (.agg [.own 0,.own 1,.lit y]::xs.map .lit)) [⟨9,1,0,Zp []⟩,⟨73,4,0,Za []⟩]:=by
 rcases h with h|⟨rfl,rfl,h1,h2⟩
 ·exact .inl h
 ·exact .inr ⟨.string u.body,[.int .i64 c,.int .i64 ln],rfl,rfl,rfl,by rw [h1,h2];rfl⟩
theorem Q9 (z:ByteArray) (hz:z.size≤1048576):VFun Tryz.prog 22 [.lit (.string z)] (ZjV (Z2 z).1 (Z2 z).2.1 (Z2 z).2.2):=
 (GP z hz).adoptU _ _ _ _ fun av obs h=>ZjU h
theorem Zb8 (z:ByteArray):(Z2 z).1.uses.length≤20001∧(Z2 z).1.ops.length≤20001:=by
 have hl:=Zcw z
 have hn:∀ k,k≤(Zt z).length→(usR (Zt z) k).uses.length≤z.size+1∧(usR (Zt z) k).ops.length≤z.size+1:=fun k hk=>by
  have:=GX (Zt z) k
  rw [Us] at hk
  omega
 unfold Z2
 split
 ·simp
 ·split
  ·split<;>simp
  ·rename_i k hk
   have hk2:k≤(Zt z).length:=by
    unfold Vf at hk
    rw [List.findIdx?_eq_some_iff_getElem] at hk
    obtain ⟨h,_⟩:=hk
    omega
   split
   ·have:=hn k hk2
    simp only
    omega
   ·simp
end Go.Proofs.YtadghlfkddkelaaGreatDoor.V
