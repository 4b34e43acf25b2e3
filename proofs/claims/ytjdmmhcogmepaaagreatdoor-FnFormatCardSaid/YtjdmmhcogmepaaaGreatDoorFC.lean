import Derived.Test.YtjdmmhcogmepaaaGreatDoorFT
import Derived.Test.YtjdmmhcogmepaaaGreatDoorFB
import Derived.Test.YtjdmmhcogmepaaaGreatDoorShelf
import Derived.DeepKeys5
import Derived.Shelf.Strings.SlTrimAscii
set_option linter.unusedVariables false
set_option linter.unusedSimpArgs false
set_option linter.constructorNameAsVariable false
namespace Go.Proofs.YtjdmmhcogmepaaaGreatDoor.V
open Go.RowKit
theorem Zi4 {P:Program} {f:FuncId} {vs:List Value} {v:Value} (hf:Zei P f) (h:∀ w,Calls P f vs.toArray w fun e w'=>e=.returned v∧w'=w):VFun P f (vs.map .lit) (fun av obs=>obs=[]∧av=.lit v):=by
 refine ⟨hf,fun w us hl hu=>?_⟩
 have e:us=vs:=by
  have hl':vs.length=us.length:=by simpa using hl
  apply List.ext_getElem hl'.symm
  intro j h1 h2
  have:=hu j (.lit vs[j]) us[j] (by simp [h2]) (List.getElem?_eq_getElem h1)
  generalize us[j]=x at this
  generalize vs[j]=y at this
  cases this
  rfl
 subst e
 refine (h w).mono fun e w' ⟨he,hw⟩=>?_
 subst he;subst hw
 exact ⟨v,rfl,World.grownBy.refl _ _,fun _=>undef,.lit v,[],⟨rfl,rfl⟩,rfl,fun ob h=>by simp at h,⟨fun k ob h=>by simp at h,fun k ob h=>by simp at h,fun k h=>by simp at h,fun k k' ob ob' h=>by simp at h⟩,.lit v⟩
theorem wrap_i64 {n:Int} (h : -9223372036854775808≤n∧n≤9223372036854775807):IntKind.i64.wrap n=n:=by
 rw [IntKind.wrap_i64];omega
theorem Zn {i:Nat} (h:i<9223372036854775807):IntKind.i64.wrap ((i:Int)+1)=((i+1:Nat):Int):=by
 rw [wrap_i64 (by omega)];omega
def signBytes:ByteArray:={ data:=#[43,45,42,47,60,62,61,33,38,124,94,126,63,58,64,37,36,46] }
def XT (c:Int):Bool:=(List.range 18).any fun i=>Zh signBytes i=c
theorem Zjn:signBytes.size=18:=rfl
theorem ZgN {c:Int} (h:∀ j,j<18→¬Zh signBytes j=c):XT c=false:=by simpa [XT] using h
theorem Zir {c:Int} {i:Nat} (h:i<18) (e:Zh signBytes i=c):XT c=true:=by simpa [XT] using ⟨i,h,e⟩
theorem Ku (c:Int):VFun Tryz.prog 138 [.lit (.int .u8 c)] (fun av obs=>obs=[]∧av=.lit (.bool (XT c))):=by
 refine Zi Tryz.func138 (by kernel_rfl) rfl (by simp [Tryz.ntmps138]) ?_;simp only [Tryz.ntmps138,Tryz.results138];simp [go_sem]
 refine Yn (fun i:Nat=>i≤18∧∀ j,j<i→¬Zh signBytes j=c) (fun i=>18-i) (fun i=>.of [(0,.lit (.int .u8 c)),(2,.lit (.bool false)),(3,.lit (.string signBytes)),(4,.lit (.int .i64 i))] []) ⟨0,?_,?_⟩ (fun i hi=>?_)
 ·simp
 ·simp [go_sem,signBytes]
 ·simp [go_sem,Zjn]
  refine ⟨fun h=>⟨h,fun e=>Zir (by omega) e,fun e=>⟨i+1,⟨⟨by omega,fun j hj=>?_⟩,by omega,Zn (by omega)⟩⟩⟩,fun h=>ZgN fun j hj=>hi.2 j (by omega)⟩
  rcases Nat.lt_succ_iff_lt_or_eq.mp hj with hj|rfl
  ·exact hi.2 j hj
  ·exact e
theorem HX (z:ByteArray) (i:Nat):0≤Zh z i∧Zh z i<256:=by
 unfold Zh
 split
 ·rename_i h
  have:=(z[i]'h).toNat_lt
  omega
 ·omega
theorem ZkO:(List.range 256).all (fun n=>decide (0≤Lib.indexByte signBytes.data.toList n.toUInt8)==XT n)=true:=by kernel_rfl
theorem Zis (c:Int) (h:0≤c∧c<256):decide (0≤Lib.indexByte signBytes.data.toList c.toNat.toUInt8)=XT c:=by
 have:=List.all_eq_true.mp ZkO c.toNat (List.mem_range.mpr (by omega))
 have e:((c.toNat:Nat):Int)=c:=by omega
 rw [beq_iff_eq,e] at this
 exact this
theorem Zkq (c:Int) (h:0≤c∧c<256):VFun Tryz.prog 141 [.lit (.int .u8 c)] (fun av obs=>obs=[]∧av=.lit (.bool (XT c))):=by
 refine Zi Tryz.func141 (by kernel_rfl) rfl (by simp [Tryz.ntmps141]) ?_;simp only [Tryz.ntmps141,Tryz.results141];simp [go_sem]
 refine Zc (Zi4 (vs:=[.string signBytes,.int .u8 c]) ⟨_,Tryz.func152,rfl,rfl⟩ (fun w=>Tryz.strings_IndexByte signBytes c w)) ?_ ?_
 ·simp [go_sem,signBytes]
 ·simp [go_sem]
  exact Zis c h
def Za2 (z:ByteArray):Bool:=(List.range z.size).all fun i=>XT (Zh z i)
def Kg (z:ByteArray):Bool:=Za2 z&&decide (1≤z.size)&&decide (z.size≤16)
theorem GS {z:ByteArray} {i:Nat} (h:i<z.size) (e:XT (Zh z i)=false):Za2 z=false:=by
 simp [Za2];exact ⟨i,h,e⟩
theorem Za1 {z:ByteArray} (h:∀ i,i<z.size→XT (Zh z i)=true):Za2 z=true:=by simpa [Za2] using h
theorem Zc5 (z:ByteArray) (hz:z.size≤maxLen):VFun Tryz.prog 116 [.lit (.string z)] (fun av obs=>obs=[]∧av=.lit (.bool (Kg z))):=by
 refine Zi Tryz.func116 (by kernel_rfl) rfl (by simp [Tryz.ntmps116]) ?_;simp only [Tryz.ntmps116,Tryz.results116];simp [go_sem]
 simp only [maxLen] at hz
 refine Yn (fun i:Nat=>i≤z.size∧∀ j,j<i→XT (Zh z j)=true) (fun i=>z.size-i) (fun i=>.of [(0,.lit (.string z)),(2,.lit (.bool false)),(3,.lit (.int .i64 i))] []) ⟨0,?_,?_⟩ (fun i hi=>?_)
 ·simp
 ·simp [go_sem]
 ·simp [go_sem]
  refine ⟨fun h=>⟨h,Zc (Ku (Zh z i)) ?_ ?_⟩,fun h=>?_⟩
  ·simp [go_sem]
  ·simp [go_sem]
   refine ⟨fun e=>?_,fun e=>⟨i+1,⟨⟨by omega,fun j hj=>?_⟩,by omega,Zn (by omega)⟩⟩⟩
   ·simp [Kg,GS h e]
   ·rcases Nat.lt_succ_iff_lt_or_eq.mp hj with hj|rfl
    ·exact hi.2 j hj
    ·exact e
  ·have e:=Za1 (z:=z) fun j hj=>hi.2 j (by omega)
   have h2:((z.size:Int)≤16)↔z.size≤16:=by omega
   simp [Kg,e,h2]
   refine ⟨fun h=>?_,fun h=>by omega⟩
   have h1:1≤z.size:=by omega
   simp [h1]
theorem Zc3 (z:ByteArray) (hz:z.size≤maxLen):VFun Tryz.prog 120 [.lit (.string z)] (fun av obs=>obs=[]∧av=.lit (.bool (Kg z))):=by
 refine Zi Tryz.func120 (by kernel_rfl) rfl (by simp [Tryz.ntmps120]) ?_;simp only [Tryz.ntmps120,Tryz.results120];simp [go_sem]
 simp only [maxLen] at hz
 have h2:(16<(z.size:Int))↔16<z.size:=by omega
 have h1:((z.size:Int)<1)↔z.size<1:=by omega
 simp only [h1,h2]
 refine ⟨fun h3=>⟨fun h4=>?_,fun h4=>?_⟩,fun h3=>?_⟩
 ·simp [Kg,h4]
 ·refine Yn (fun i:Nat=>i≤z.size∧∀ j,j<i→XT (Zh z j)=true) (fun i=>z.size-i) (fun i=>.of [(0,.lit (.string z)),(2,.lit (.bool false)),(13,.lit (.int .i64 z.size)),(14,.lit (.int .i64 i))] []) ⟨0,?_,?_⟩ (fun i hi=>?_)
  ·simp
  ·simp [go_sem]
  ·simp [go_sem]
   refine ⟨fun h=>⟨h,Zc (Zkq (Zh z i) (HX z i)) ?_ ?_⟩,fun h=>?_⟩
   ·simp [go_sem]
   ·simp [go_sem]
    refine ⟨fun e=>?_,fun e=>⟨i+1,⟨⟨by omega,fun j hj=>?_⟩,by omega,Zn (by omega)⟩⟩⟩
    ·simp [Kg,GS h e]
    ·rcases Nat.lt_succ_iff_lt_or_eq.mp hj with hj|rfl
     ·exact hi.2 j hj
     ·exact e
   ·have e:=Za1 (z:=z) fun j hj=>hi.2 j (by omega)
    simp [Kg,e]
    omega
 ·simp [Kg]
  omega
structure POp where
 text:ByteArray
 kind:Int
 level:Int
 side:Int
def POp.cells (o:POp):List AV:=[.lit (.string o.text),.lit (.int .i64 o.kind),.lit (.int .i64 o.level),.lit (.int .i64 o.side)]
def POp.wf (o:POp):Prop:=o.text.size≤maxLen
def Yx (o:POp):Bool:=Kg o.text&&decide (1≤o.level∧o.level≤1000∧((o.kind=2∧1≤o.side∧o.side≤3)∨((o.kind=1∨o.kind=3)∧o.side=0)))
theorem WV (a b:Int):(a==b)=decide (a=b):=by
 rw [Bool.eq_iff_iff];simp
theorem ZfA (o:POp) (ho:o.wf):VFun Tryz.prog 78 [.agg o.cells] (fun av obs=>obs=[]∧av=.lit (.bool (Yx o))):=by
 obtain ⟨z,kind,level,side⟩:=o
 simp only [POp.cells]
 refine Zi Tryz.func78 (by kernel_rfl) rfl (by simp [Tryz.ntmps78]) ?_;simp only [Tryz.ntmps78,Tryz.results78];simp [go_sem]
 refine Zc (Zc5 z ho) ?_ ?_
 ·simp [go_sem]
 ·simp (maxSteps:=1000000) [go_sem]
  cases hs:Kg z
  ·simp [Yx,hs]
  ·simp only [Yx,hs,WV,Bool.true_and,decide_eq_decide,decide_eq_true_eq,decide_eq_false_iff_not,true_implies,reduceCtorEq,false_implies,and_true,true_and]
   omega
theorem Zkf (o:POp) (ho:o.wf):VFun Tryz.prog 86 [.agg o.cells] (fun av obs=>obs=[]∧av=.lit (.bool (Yx o))):=by
 obtain ⟨z,kind,level,side⟩:=o
 simp only [POp.cells]
 refine Zi Tryz.func86 (by kernel_rfl) rfl (by simp [Tryz.ntmps86]) ?_;simp only [Tryz.ntmps86,Tryz.results86];simp [go_sem]
 refine Zc (Zc3 z ho) ?_ ?_
 ·simp [go_sem]
 ·simp (maxSteps:=1000000) [go_sem]
  cases hs:Kg z
  ·simp [Yx,hs]
  ·simp only [Yx,hs,WV,Bool.true_and,decide_eq_decide,decide_eq_true_eq,decide_eq_false_iff_not,true_implies,reduceCtorEq,false_implies,and_true,true_and]
   omega
def ZH (o:POp) (second:Bool):Int:=if Yx o=false∨(second=true∧o.kind≠2) then 0 else if o.kind=2∧(o.side=3∨(decide (o.side=1)=second)) then o.level+1 else o.level
theorem V2 {o:POp} (h:Yx o=true):1≤o.level∧o.level≤1000:=by
 simp [Yx] at h;omega
theorem ZfB (o:POp) (ho:o.wf) (b:Bool):VFun Tryz.prog 85 [.agg o.cells,.lit (.bool b)] (fun av obs=>obs=[]∧av=.lit (.int .i64 (ZH o b))):=by
 have hc:=ZfA o ho
 have hl:=@V2 o
 obtain ⟨z,kind,level,side⟩:=o
 simp only [POp.cells] at hc ⊢
 refine Zi Tryz.func85 (by kernel_rfl) rfl (by simp [Tryz.ntmps85]) ?_;simp only [Tryz.ntmps85,Tryz.results85];simp [go_sem]
 refine Zc hc ?_ ?_
 ·simp [go_sem]
 ·simp (maxSteps:=1000000) [go_sem]
  have hw:Yx ⟨z,kind,level,side⟩=true→IntKind.i64.wrap (level+1)=level+1:=fun h=>wrap_i64 (by have:=hl h;simp only at this;omega)
  clear hc hl ho
  simp only [ZH,WV]
  generalize Yx ⟨z,kind,level,side⟩=q at hw ⊢
  cases q
  ·simp
  ·simp only [hw rfl]
   by_cases h1:kind=2<;>by_cases h2:side=3<;>by_cases h3:side=1<;>cases b<;>simp [h1,h2,h3]
theorem Kw (o:POp) (ho:o.wf) (b:Bool):VFun Tryz.prog 92 [.agg o.cells,.lit (.bool b)] (fun av obs=>obs=[]∧av=.lit (.int .i64 (ZH o b))):=by
 have hc:=Zkf o ho
 have hl:=@V2 o
 obtain ⟨z,kind,level,side⟩:=o
 simp only [POp.cells] at hc ⊢
 refine Zi Tryz.func92 (by kernel_rfl) rfl (by simp [Tryz.ntmps92]) ?_;simp only [Tryz.ntmps92,Tryz.results92];simp [go_sem]
 refine Zc hc ?_ ?_
 ·simp [go_sem]
 ·simp (maxSteps:=1000000) [go_sem]
  have hw:Yx ⟨z,kind,level,side⟩=true→IntKind.i64.wrap (level+1)=level+1:=fun h=>wrap_i64 (by have:=hl h;simp only at this;omega)
  clear hc hl ho
  simp only [ZH,WV]
  generalize Yx ⟨z,kind,level,side⟩=q at hw ⊢
  cases q
  ·simp
  ·simp only [hw rfl]
   by_cases h1:kind=2<;>by_cases h2:side=3<;>by_cases h3:side=1<;>cases b<;>simp [h1,h2,h3]
theorem ZhE:laidOutB Tryz.prog=true:=by kernel_rfl
theorem ZgP:∀ t e,t<Tryz.prog.types.size→Tryz.prog.underlying t=some (.slice e)→0<Tryz.prog.cellsOf e:=slices_full_of Tryz.prog (by kernel_rfl)
theorem own:ownKnob Tryz.prog.godebug=none:=by kernel_rfl
theorem Zle {α:Type} {p:α→Bool} {l:List α} (h:l.all p=true):∀ x,x∈l→p x=true:=List.all_eq_true.mp h
structure PTok where
 kind:Int
 gap:ByteArray
 text:ByteArray
 deriving Inhabited
def PTok.cells (o:PTok):List AV:=[.lit (.int .i64 o.kind),.lit (.string o.gap),.lit (.string o.text)]
def Zr (l:List PTok) (i:Nat):List AV:=(l.getD i default).cells
theorem Zs (l:List PTok) (i:Nat) (c:AV) (h:c∈Zr l i):Closed c:=by
 simp [Zr,PTok.cells] at h
 rcases h with rfl|rfl|rfl<;>exact .lit _
theorem ZlE (l:List PTok) (i:Nat):(Zr l i).all X1=true:=rfl
def VA (o:PTok):Nat:=o.gap.size+o.text.size
def Xp (l:List PTok):Nat:=(l.map VA).sum
theorem GO (l:List PTok) (i:Nat) (h:i<l.length):Xp (l.take (i+1))=Xp (l.take i)+VA (l.getD i default):=by
 unfold Xp
 rw [List.take_add_one,List.getElem?_eq_getElem h,List.map_append,List.sum_append_nat,List.getD_eq_getElem?_getD,List.getElem?_eq_getElem h]
 simp only [Option.toList_some,List.map_cons,List.map_nil,List.sum_cons,List.sum_nil,Option.getD_some,Nat.add_zero]
theorem Zb2 (a b:ByteArray) (i:Nat) (h:i<a.size+b.size):Zh (a++b) i=if i<a.size then Zh a i else Zh b (i-a.size):=by
 have hs:i<(a++b).size:=by rw [ByteArray.size_append];exact h
 unfold Zh
 rw [dif_pos hs]
 by_cases h1:i<a.size
 ·rw [if_pos h1,dif_pos h1,ByteArray.getElem_append_left h1]
 ·rw [if_neg h1,dif_pos (by omega),ByteArray.getElem_append_right (by omega)]
theorem V5 (a b:ByteArray) (i:Nat) (h:i<a.size+b.size):Z2 a.size (Zt a) (Zt b) i=Zt (a++b) i:=by
 unfold Z2 Zt
 rw [Zb2 a b i h]
 by_cases h1:i<a.size<;>simp [h1]
theorem HW (z:ByteArray) (i:Nat):(Zt z i).all XW=true:=rfl
theorem Zg4 (z:ByteArray) (i:Nat) (c:AV) (h:c∈Zt z i):Closed c:=by
 simp [Zt] at h
 subst h
 exact .lit _
def Js (l:List PTok):ByteArray:=l.foldl (fun b o=>b++o.gap++o.text) ByteArray.empty
theorem Zh6 (l:List PTok) (i:Nat) (h:i<l.length):Js (l.take (i+1))=Js (l.take i)++(l.getD i default).gap++(l.getD i default).text:=by
 unfold Js
 rw [List.take_add_one,List.getElem?_eq_getElem h,List.foldl_append,List.getD_eq_getElem?_getD,List.getElem?_eq_getElem h]
 rfl
theorem Za7 (l:List PTok):∀ b:ByteArray,(l.foldl (fun b o=>b++o.gap++o.text) b).size=b.size+Xp l:=by
 induction l with
 |nil=>intro b;simp [Xp]
 |cons o l ih=>
  intro b
  simp only [List.foldl_cons]
  rw [ih]
  simp only [ByteArray.size_append,Xp,List.map_cons,List.sum_cons,VA]
  omega
theorem K5 (l:List PTok):(Js l).size=Xp l:=by
 unfold Js
 rw [Za7]
 simp
theorem UR (l:List PTok) (i:Nat):Xp (l.take i)≤Xp l:=by
 unfold Xp
 rw [List.map_take]
 exact GP _ _
theorem Zd0 (l:List PTok) (hl:l.length+Xp l≤1048576):VFun Tryz.prog 109 [.sl 3 l.length (Zr l)] (fun av obs=>obs=[]∧av=.lit (.string (Js l))):=by
 refine Zi Tryz.func109 (by kernel_rfl) rfl (by simp [Tryz.ntmps109]) ?_;simp only [Tryz.ntmps109,Tryz.results109];simp [go_sem]
 refine Zjc (fun i:Nat=>i≤l.length) (fun i=>l.length-i) (fun i=>.of [(0,.sl 3 l.length (Zr l)),(3,.own 0),(4,.lit (.int .i64 i))] [some ⟨5,1,(Js (l.take i)).size,Zt (Js (l.take i))⟩]) (fun _=>4) ⟨0,by omega,?_⟩ (fun i hi=>?_)
 ·simp [go_sem,Js]
  exact fun i c _ h=>Zs l i c h
 ·simp [go_sem]
  refine ⟨by omega,fun h=>?_,fun h=>?_⟩
  ·have hs:=GO l i h
   rcases ho:l.getD i default with ⟨k,g,z⟩
   rw [ho] at hs
   have e:Zr l i=[.lit (.int .i64 k),.lit (.string g),.lit (.string z)]:=by unfold Zr;rw [ho];rfl
   have hr:=Zh6 l i h
   have hz:=K5 (l.take i)
   have hz2:=UR l (i+1)
   rw [ho] at hr
   simp only at hr
   simp only [VA] at hs
   simp [go_sem,e,-List.all_eq_true,HW]
   refine ⟨h,by omega,by omega,by omega,h,by omega,by omega,by omega,i+1,by omega,by omega,?_⟩
   refine Zk3 (K:=4) ?_ ?_ ?_
   ·simp [go_sem]
    exact ⟨fun i c _ h=>Zs l i c h,Zn (by omega)⟩
   ·simp
   ·simp [go_sem,hr]
    refine fun j hj=>⟨?_,Zg4 _ _⟩
    rw [←V5 (Js (l.take i)++g) z j (by simpa using hj)]
    unfold Z2
    rw [ByteArray.size_append]
    by_cases h1:j<(Js (l.take i)).size+g.size
    ·rw [if_pos h1,if_pos h1]
     exact V5 _ _ _ h1
    ·rw [if_neg h1,if_neg h1]
  ·have e2:l.take i=l:=List.take_of_length_le h
   rw [e2]
   exact ⟨rfl,fun _ _=>rfl⟩
theorem Zkv (a b:ByteArray):(a==b)=decide (a=b):=by
 rw [Bool.eq_iff_iff,decide_eq_true_iff]
 exact MapKept.bytes_beq a b
theorem X4 (a b:ByteArray):a.toList=b.toList↔a=b:=by
 constructor
 ·intro h
  rw [Go.ByteArray.toList_eq,Go.ByteArray.toList_eq] at h
  exact ByteArray.ext (Array.toList_inj.1 h)
 ·rintro rfl;rfl
theorem Ze {mem:List (Option Ob)} {sz n:Nat} {f:Nat→List AV} (hsz:0<sz) (h:∀ (i:Nat) c,i<n→c∈f i→Closed c):Zaf mem (.sl sz n f) sz n f:=
 ⟨hsz,f,by simp [Yw],fun i hi=>⟨rfl,fun c hc=>h i c hi hc⟩⟩
theorem Ym {mem:List (Option Ob)} {k sz n ty:Nat} {f:Nat→List AV} (hk:mem[k]?=some (some ⟨ty,sz,n,f⟩)) (hsz:0<sz) (h:∀ (i:Nat) c,i<n→c∈f i→Closed c):Zaf mem (.own k) sz n f:=
 ⟨hsz,f,by simp [Yw,hk],fun i hi=>⟨rfl,fun c hc=>h i c hi hc⟩⟩
instance:Inhabited POp:=⟨⟨⟨#[]⟩,0,0,0⟩⟩
def Zg (l:List POp) (i:Nat):List AV:=(l.getD i default).cells
theorem ZK (l:List POp) (i:Nat) (c:AV) (h:c∈Zg l i):Closed c:=by
 simp [Zg,POp.cells] at h
 rcases h with rfl|rfl|rfl|rfl<;>exact .lit _
theorem XV (l:List POp) (i:Nat):(Zg l i).all X1=true:=rfl
def ZfV:List AV:=[.lit (.string ⟨#[]⟩),.lit (.int .i64 0),.lit (.int .i64 0),.lit (.int .i64 0)]
def Znr (a b:POp):Bool:=a.text==b.text&&a.kind==b.kind&&a.level==b.level&&a.side==b.side
def Zm (l:List POp) (i:Nat):POp:=l.getD i default
theorem ZU (l:List POp) (i:Nat):Zg l i=[.lit (.string (Zm l i).text),.lit (.int .i64 (Zm l i).kind),.lit (.int .i64 (Zm l i).level),.lit (.int .i64 (Zm l i).side)]:=rfl
def XF (o:POp):Int:=if o.kind=1 then 2 else if o.kind=3 then 1 else o.side
theorem HT (o:POp):VFun Tryz.prog 117 [.agg o.cells] (fun av obs=>obs=[]∧av=.lit (.int .i64 (XF o))):=by
 obtain ⟨z,kind,level,side⟩:=o
 simp only [POp.cells]
 refine Zi Tryz.func117 (by kernel_rfl) rfl (by simp [Tryz.ntmps117]) ?_;simp only [Tryz.ntmps117,Tryz.results117];simp [go_sem]
 simp only [XF,WV,decide_eq_true_eq,decide_eq_false_iff_not]
 by_cases h1:kind=1<;>by_cases h2:kind=3<;>simp [h1,h2]
theorem ZbT (o:POp):VFun Tryz.prog 88 [.agg o.cells] (fun av obs=>obs=[]∧av=.lit (.int .i64 (XF o))):=by
 obtain ⟨z,kind,level,side⟩:=o
 simp only [POp.cells]
 refine Zi Tryz.func88 (by kernel_rfl) rfl (by simp [Tryz.ntmps88]) ?_;simp only [Tryz.ntmps88,Tryz.results88];simp [go_sem]
 simp only [XF,WV,decide_eq_true_eq,decide_eq_false_iff_not]
 by_cases h1:kind=1<;>by_cases h2:kind=3<;>simp [h1,h2]
theorem Gw (o:POp):VFun Tryz.prog 87 [.agg o.cells] (fun av obs=>obs=[]∧av=.agg [.lit (.string o.text),.lit (.bool (o.kind==1))]):=by
 obtain ⟨z,kind,level,side⟩:=o
 simp only [POp.cells]
 refine Zi Tryz.func87 (by kernel_rfl) rfl (by simp [Tryz.ntmps87]) ?_;simp only [Tryz.ntmps87,Tryz.results87];simp [go_sem]
def X3 (a b:POp) (code:Int):Bool:=if code=3 then decide (a.text=b.text)&&decide ((a.kind==1)=(b.kind==1)) else decide (a.level=b.level)&&decide (XF a≠XF b)
theorem ZiI (a b:POp) (code:Int):VFun Tryz.prog 79 [.agg a.cells,.agg b.cells,.lit (.int .i64 code)] (fun av obs=>obs=[]∧av=.lit (.bool (X3 a b code))):=by
 have ca:=HT a
 have cb:=HT b
 obtain ⟨z,k,l,s⟩:=a
 obtain ⟨z',k',l',s'⟩:=b
 simp only [POp.cells] at ca cb ⊢
 refine Zi Tryz.func79 (by kernel_rfl) rfl (by simp [Tryz.ntmps79]) ?_;simp only [Tryz.ntmps79,Tryz.results79];simp [go_sem]
 simp only [X4]
 refine ⟨fun h=>⟨fun h1=>?_,fun h1=>?_⟩,fun h=>?_⟩
 ·subst h1
  simp only [X3,if_pos h,decide_true,Bool.true_and]
  generalize (k==1)=x
  generalize (k'==1)=y
  cases x<;>cases y<;>rfl
 ·simp [X3,h,h1]
 ·by_cases hl:l=l'
  ·subst hl
   refine Zq [] (.q 0 <| .q 1 <| .q 2 <| .q 3 <| .q 4 <| .q 5 <| .q 6 <| .q 8 <| .or 7 (.or 9 (.q 10 <| .q 11 <| .q 12 <| .done) (.nil)) (.nil)) (by kernel_rfl) ?_
   simp [go_sem]
   refine Zu ca ?_ ?_
   ·simp [go_sem]
   ·simp [go_sem]
    refine Zu cb ?_ ?_
    ·simp [go_sem]
    ·simp [go_sem,X3,h]
     simp only [WV,bne,Bool.not_eq_true',decide_eq_false_iff_not,decide_not]
  ·refine Zq [] (.q 0 <| .q 1 <| .q 2 <| .q 3 <| .q 4 <| .q 5 <| .q 6 <| .q 8 <| .or 7 (.or 9 (.q 10 <| .q 11 <| .q 12 <| .done) (.nil)) (.nil)) (by kernel_rfl) ?_
   have e:(l==l')=false:=by simp [hl]
   simp [go_sem,e]
   simp [X3,h,hl]
def Y0 (l:List POp) (code:Int):Bool:=(List.range l.length).any fun i=>(List.range i).any fun j=>X3 (Zm l i) (Zm l j) code
theorem XQ (l:List POp) (code:Int):Y0 l code=true↔∃ i,i<l.length∧∃ j,j<i∧X3 (Zm l i) (Zm l j) code=true:=by
 simp [Y0]
def Wr (l:List POp):Bool:=(List.range l.length).all fun i=>Yx (Zm l i)
def Yv (l:List POp):Int:=if 500<l.length then 1 else if Wr l=false then 2 else if Y0 l 3=true then 3 else if Y0 l 4=true then 4 else 0
def YT (l:List POp):Prop:=∀ i,i<l.length→(Zm l i).wf
theorem Va (l:List POp) (hl:l.length≤9223372036854775807) (hw:YT l):VFun Tryz.prog 39 [.agg [.sl 4 l.length (Zg l)]] (fun av obs=>obs=[]∧av=.lit (.int .i64 (Yv l))):=by
 refine Zi Tryz.func39 (by kernel_rfl) rfl (by simp [Tryz.ntmps39]) ?_;simp only [Tryz.ntmps39,Tryz.results39];simp [go_sem]
 refine ⟨by omega,fun h1=>?_,fun h1=>?_⟩
 ·simp [Yv];omega
 ·refine Yn (fun i:Nat=>i≤l.length∧∀ j,j<i→Yx (Zm l j)=true) (fun i=>l.length-i) (fun i=>.of [(1,.ptr 0 1 0 0),(3,.lit (.int .i64 l.length)),(4,.lit (.int .i64 i))] [some ⟨30,1,1,fun _=>[.sl 4 l.length (Zg l)]⟩]) ⟨0,⟨by omega,by simp⟩,?_⟩ (fun i hi=>?_)
  ·simp [go_sem]
   exact fun i c _ h=>ZK l i c h
  ·simp [go_sem,ZU]
   have cl:∀ (i:Nat) (c:AV),i<l.length→c∈Zg l i→Closed c:=fun i c _ h=>ZK l i c h
   refine ⟨fun h=>⟨h,Zc (ZfA (Zm l i) (hw i h)) ?_ ?_⟩,fun h=>?_⟩
   ·simp [go_sem,POp.cells]
   ·simp [go_sem]
    refine ⟨fun e=>?_,fun e=>⟨i+1,⟨by omega,fun j hj=>?_⟩,by omega,Zn (by omega),cl⟩⟩
    ·have:Wr l=false:=by
      simp only [Wr,List.all_eq_false,List.mem_range]
      exact ⟨i,h,by rw [e];simp⟩
     simp only [Yv,this,if_neg (show ¬500<l.length by omega),if_true]
    ·rcases Nat.lt_succ_iff_lt_or_eq.mp hj with hj|rfl
     ·exact hi.2 j hj
     ·exact e
   ·have hok:Wr l=true:=by
     simp only [Wr,List.all_eq_true,List.mem_range]
     exact fun j hj=>hi.2 j (by omega)
    clear hi h
    refine Yn (fun c:Nat=>c≤2∧∀ q:Nat,q<c→Y0 l (3+q)=false) (fun c=>2-c) (fun c=>.of [(1,.ptr 0 1 0 0),(3,.lit (.int .i64 l.length)),(5,.lit (.int .i64 (3+c)))] [some ⟨30,1,1,fun _=>[.sl 4 l.length (Zg l)]⟩]) ⟨0,⟨by omega,by simp⟩,?_⟩ (fun c hc=>?_)
    ·simp [go_sem]
     exact cl
    ·simp [go_sem]
     refine ⟨fun h=>?_,fun h=>?_⟩
     ·refine Yn (fun i:Nat=>i≤l.length∧∀ i',i'<i→∀ j,j<i'→X3 (Zm l i') (Zm l j) (3+c)=false) (fun i=>l.length-i) (fun i=>.of [(1,.ptr 0 1 0 0),(3,.lit (.int .i64 l.length)),(5,.lit (.int .i64 (3+c))),(6,.lit (.int .i64 i))] [some ⟨30,1,1,fun _=>[.sl 4 l.length (Zg l)]⟩]) ⟨0,⟨by omega,by simp⟩,?_⟩ (fun i hi=>?_)
      ·simp [go_sem]
       exact cl
      ·simp [go_sem]
       refine ⟨fun h2=>?_,fun h2=>?_⟩
       ·refine Yn (fun j:Nat=>j≤i∧∀ j',j'<j→X3 (Zm l i) (Zm l j') (3+c)=false) (fun j=>i-j) (fun j=>.of [(1,.ptr 0 1 0 0),(3,.lit (.int .i64 l.length)),(5,.lit (.int .i64 (3+c))),(6,.lit (.int .i64 i)),(7,.lit (.int .i64 j))] [some ⟨30,1,1,fun _=>[.sl 4 l.length (Zg l)]⟩]) ⟨0,⟨by omega,by simp⟩,?_⟩ (fun j hj=>?_)
        ·simp [go_sem]
         exact cl
        ·simp [go_sem]
         refine ⟨fun h3=>?_,fun h3=>?_⟩
         ·refine Zq [] (.q 0 <| .q 1 <| .q 2 <| .q 3 <| .q 4 <| .q 5 <| .q 6 <| .q 7 <| .q 8 <| .q 9 <| .q 10 <| .or 11 (.done) (.nil)) (by kernel_rfl) ?_
          simp [go_sem,ZU]
          refine ⟨h2,by omega,Zu (ZiI (Zm l i) (Zm l j) (3+c)) ?_ ?_⟩
          ·simp [go_sem,POp.cells]
          ·simp [go_sem]
           refine ⟨fun e=>?_,fun e=>⟨j+1,⟨by omega,fun j' hj'=>?_⟩,by omega,Zn (by omega),cl⟩⟩
           ·have hcl:Y0 l (3+c)=true:=(XQ l _).2 ⟨i,h2,j,h3,e⟩
            rcases (by omega:c=0∨c=1) with rfl|rfl
            ·have h4:Y0 l 3=true:=hcl
             simp only [Yv,hok,h4,if_neg (show ¬500<l.length by omega)]
             rfl
            ·have h4:Y0 l 4=true:=hcl
             have h5:Y0 l 3=false:=hc.2 0 (by omega)
             simp only [Yv,hok,h4,h5,if_neg (show ¬500<l.length by omega)]
             rfl
           ·rcases Nat.lt_succ_iff_lt_or_eq.mp hj' with hj'|rfl
            ·exact hj.2 j' hj'
            ·exact e
         ·refine ⟨i+1,⟨by omega,fun i' hi' j' hj'=>?_⟩,by omega,Zn (by omega),cl⟩
          rcases Nat.lt_succ_iff_lt_or_eq.mp hi' with hi'|rfl
          ·exact hi.2 i' hi' j' hj'
          ·exact hj.2 j' (by omega)
       ·refine ⟨c+1,⟨by omega,fun q hq=>?_⟩,by omega,?_,cl⟩
        ·rcases Nat.lt_succ_iff_lt_or_eq.mp hq with hq|rfl
         ·exact hc.2 q hq
         ·rw [Bool.eq_false_iff]
          intro e
          obtain ⟨i',h4,j',h5,h6⟩:=(XQ l _).1 e
          rw [hi.2 i' (by omega) j' h5] at h6
          cases h6
        ·rw [wrap_i64 (by omega)];omega
     ·have:c=2:=by omega
      subst this
      have h4:Y0 l 3=false:=hc.2 0 (by omega)
      have h5:Y0 l 4=false:=hc.2 1 (by omega)
      simp only [Yv,hok,h4,h5,if_neg (show ¬500<l.length by omega)]
      rfl
open Go.Maps (Keyed)
open Classical in
theorem YD:∀ (es:List (Value×Value)) (x u y:Value),mget (mput es x u) y=if x=y then some u else mget es y
 |[],x,u,y=>by
  simp only [mput,mget]
 |(k,v)::r,x,u,y=>by
  simp only [mput]
  by_cases h:k=x
  ·subst h
   rw [if_pos rfl]
   simp only [mget]
   split<;>rfl
  ·rw [if_neg h]
   simp only [mget]
   by_cases h2:k=y
   ·subst h2
    rw [if_pos rfl,if_neg (fun e:x=k=>h e.symm)]
    simp [mget]
   ·rw [if_neg h2,if_neg h2]
    exact YD r x u y
theorem ZdP {P:Program} {k:TypeId} {fs:Array Field} {cs:Array Value} (hu:P.underlying k=some (.struct fs)) (hkt:P.keyType k=true) (hc:cs.size=P.cellsOf k) (hn:fs.all (·.name != "_")=true) (hsz:1≤P.types.size)
  (hm:∀ d,∃ lss,(fs.toList.mapM fun f=>P.keyLits (d+1) f.type ((cs.toList.drop f.offset).take (P.cellsOf f.type)))=some lss):∃ l,keyOf P k (.agg cs)=some l:=by
 obtain ⟨n,hn1⟩:∃ n,P.types.size=n+1:=⟨P.types.size-1,by omega⟩
 obtain ⟨lss,hl⟩:=hm n
 have h1:P.keyLits (P.types.size+1) k cs.toList=some lss.flatten:=by
  rw [hn1]
  unfold Program.keyLits
  simp only [hu,Array.length_toList,hc,hn,and_self,if_true,hl,Option.map_some]
 refine ⟨.string (keyBytes lss.flatten),?_⟩
 unfold keyOf
 rw [hu]
 simp only [hkt,Value.formed,hu,hc,beq_self_eq_true,Bool.and_self,if_true,Value.cells,h1,Option.map_some]
theorem Ze9 {P:Program} {t:TypeId} (hu:P.underlying t=some .string) {z:ByteArray} (h:z.size≤maxLen) (d:Nat):P.keyLits (d+1) t [.string z]=some [.string z.data.toList]:=by
 unfold Program.keyLits;simp only [hu,if_pos h]
theorem ZdQ {P:Program} {t:TypeId} (hu:P.underlying t=some .bool) {b:Bool} (d:Nat):P.keyLits (d+1) t [.bool b]=some [.bool b]:=by
 unfold Program.keyLits;simp only [hu]
theorem ZlO {n:Int} (h : -9223372036854775808≤n∧n≤9223372036854775807):(Lit.int .i64 n).wf=true:=by
 simp only [Lit.wf,IntKind.min,IntKind.max,IntKind.bits,IntKind.signed,decide_eq_true_eq,Bool.and_eq_true]
 exact h
theorem ZmB:1≤Tryz.prog.types.size:=of_decide_eq_true (by kernel_rfl)
theorem Zju:(151:TypeId)<Tryz.prog.types.size:=of_decide_eq_true (by kernel_rfl)
theorem co_place:Tryz.prog.cellsOf 151=2:=by kernel_rfl
theorem Zix:Tryz.prog.cellsOf 9=1:=by kernel_rfl
theorem Zlf:Tryz.prog.cellsOf 4=1:=by kernel_rfl
theorem U4:Keyed Tryz.prog 151:=Keyed.of_law (deep_law_laid ZhE (m:=2) (by omega) Zju (by kernel_rfl) (by kernel_rfl))
theorem U5:Keyed Tryz.prog 3:=Go.Maps.int_keyed Tryz.underlying3
theorem Y7:Keyed Tryz.prog 9:=Go.Maps.string_keyed Tryz.underlying9
theorem ZjZ {n:Int} (h : -9223372036854775808≤n∧n≤9223372036854775807):∃ l,keyOf Tryz.prog 3 (.int .i64 n)=some l:=
 ⟨_,Go.Maps.keyOf_int_mk Tryz.underlying3 (ZlO h)⟩
theorem XL {z:ByteArray} (h:z.size≤maxLen):∃ l,keyOf Tryz.prog 9 (.string z)=some l:=⟨_,Go.WideMaps.keyOf_string_mk Tryz.underlying9 h⟩
theorem KV {z:ByteArray} {b:Bool} (h:z.size≤maxLen):∃ l,keyOf Tryz.prog 151 (.agg #[.string z,.bool b])=some l:=by
 refine ZdP Tryz.underlying151 (by kernel_rfl) co_place.symm (by kernel_rfl) ZmB fun d=>?_
 simp only [List.mapM_cons,List.mapM_nil,Zix,Zlf,List.drop_zero,List.take_succ_cons,List.take_zero,List.drop_succ_cons,Ze9 Tryz.underlying9 h,ZdQ Tryz.underlying4]
 exact ⟨_,rfl⟩
theorem Hd:UJ Tryz.prog 3 (.int .i64 0):=fun w=>Tryz.zeroValue3 w
def WH (o:POp):Value:=.agg #[.string o.text,.bool (o.kind==1)]
theorem KM (o:POp):Value.agg #[.string o.text,.bool (o.kind==1)]=WH o:=rfl
theorem placeV_eq {a b:POp}:WH a=WH b↔X3 a b 3=true:=by
 simp only [WH,X3,if_true,Value.agg.injEq,Bool.and_eq_true,decide_eq_true_eq,Array.mk.injEq,List.cons.injEq,Value.string.injEq,Value.bool.injEq,and_true]
def ZlX (l:List POp) (i:Nat) (es:List (Value×Value)):Prop:=(∀ j,j<i→(mget es (WH (Zm l j))).isSome=true)∧∀ x v,mget es x=some v→∃ j,j<i∧x=WH (Zm l j)
def ZhK (l:List POp) (i:Nat) (es:List (Value×Value)):Prop:=(∀ j,j<i→mget es (.int .i64 (Zm l j).level)=some (.int .i64 (XF (Zm l j))))∧∀ x v,mget es x=some v→∃ j,j<i∧x=.int .i64 (Zm l j).level
theorem Q2 (l:List POp) (hl:l.length≤9223372036854775807) (hw:YT l):VFun Tryz.prog 42 [.agg [.sl 4 l.length (Zg l)]] (fun av obs=>obs=[]∧av=.lit (.int .i64 (Yv l))):=by
 have cl:∀ (i:Nat) (c:AV),i<l.length→c∈Zg l i→Closed c:=fun i c _ h=>ZK l i c h
 refine Zi Tryz.func42 (by kernel_rfl) rfl (by simp [Tryz.ntmps42]) ?_;simp only [Tryz.ntmps42,Tryz.results42];simp [go_sem]
 refine ⟨by omega,fun h1=>?_,fun h1=>?_⟩
 ·simp [Yv];omega
 ·have hmax:¬500<l.length:=by omega
  refine ⟨by omega,?_⟩
  refine Yn (fun i:Nat=>i≤l.length∧∀ j,j<i→Yx (Zm l j)=true) (fun i=>l.length-i) (fun i=>.of [(1,.ptr 0 1 0 0),(20,.sl 4 l.length (Zg l)),(21,.lit (.int .i64 l.length)),(22,.lit (.int .i64 i))] [some ⟨30,1,1,fun _=>[.sl 4 l.length (Zg l)]⟩]) ⟨0,⟨by omega,by simp⟩,?_⟩ (fun i hi=>?_)
  ·simp [go_sem]
   exact cl
  ·simp [go_sem,ZU]
   refine ⟨fun h=>⟨h,Zc (Zkf (Zm l i) (hw i h)) ?_ ?_⟩,fun h=>?_⟩
   ·simp [go_sem,POp.cells]
   ·simp [go_sem]
    refine ⟨fun e=>?_,fun e=>⟨i+1,⟨by omega,fun j hj=>?_⟩,by omega,⟨⟨cl,Zn (by omega)⟩,cl⟩⟩⟩
    ·have:Wr l=false:=by
      simp only [Wr,List.all_eq_false,List.mem_range]
      exact ⟨i,h,by rw [e];simp⟩
     simp only [Yv,this,if_neg hmax,if_true]
    ·rcases Nat.lt_succ_iff_lt_or_eq.mp hj with hj|rfl
     ·exact hi.2 j hj
     ·exact e
   ·have hok:Wr l=true:=by
     simp only [Wr,List.all_eq_true,List.mem_range]
     exact fun j hj=>hi.2 j (by omega)
    have hop:∀ j,j<l.length→Yx (Zm l j)=true:=fun j hj=>hi.2 j (by omega)
    clear hi h
    refine fun b=>⟨by omega,?_⟩
    refine Yn (fun p:Nat×List (Value×Value)=>p.1≤l.length∧ZlX l p.1 p.2∧∀ i',i'<p.1→∀ j,j<i'→X3 (Zm l i') (Zm l j) 3=false) (fun p=>l.length-p.1)
     (fun p=>⟨[(1,.ptr 0 1 0 0),(5,.lit (.map (some b))),(32,.sl 4 l.length (Zg l)),(33,.lit (.int .i64 l.length)),(34,.lit (.int .i64 p.1))],[some ⟨30,1,1,fun _=>[.sl 4 l.length (Zg l)]⟩],[(b,⟨151,p.2⟩)],0⟩) ⟨(0,[]),⟨by omega,⟨by simp,by simp [mget]⟩,by simp⟩,?_⟩ (fun p hp=>?_)
    ·simp [go_sem]
     exact cl
    ·obtain ⟨i,es⟩:=p
     simp only at hp
     simp [go_sem,ZU]
     refine ⟨fun h=>⟨h,Vp (Gw (Zm l i)) ?_ ?_ ?_⟩,fun h=>?_⟩
     ·simp [go_sem,POp.cells]
     ·simp [go_sem]
     ·simp [go_sem]
      refine Xk U4 (KV (hw i h)) _ Hd ?_
      simp [go_sem]
      simp only [KM]
      have hno:∀ (h0:(mget es (WH (Zm l i))).isSome=true),Y0 l 3=true:=by
       intro h0
       obtain ⟨v,hv⟩:=Option.isSome_iff_exists.1 h0
       obtain ⟨j,hj,e⟩:=hp.2.1.2 _ v hv
       exact (XQ l _).2 ⟨i,h,j,hj,placeV_eq.1 e⟩
      refine ⟨fun h0=>?_,fun h0=>?_⟩
      ·simp only [Yv,hok,hno h0,if_neg hmax]
       rfl
      ·refine Vp (Gw (Zm l i)) ?_ ?_ ?_
       ·simp [go_sem,POp.cells]
       ·simp [go_sem]
       ·simp [go_sem]
        refine Xj U4 (KV (hw i h)) ?_
        simp [go_sem]
        simp only [KM]
        refine ⟨i+1,mput es (WH (Zm l i)) (.int .i64 i),⟨by omega,⟨fun j hj=>?_,fun x v hv=>?_⟩,fun i' hi' j hj=>?_⟩,by omega,rfl,⟨cl,Zn (by omega)⟩,cl⟩
        ·rw [YD]
         split
         ·rfl
         ·rename_i hne
          rcases Nat.lt_succ_iff_lt_or_eq.mp hj with hj|rfl
          ·exact hp.2.1.1 j hj
          ·exact absurd rfl hne
        ·rw [YD] at hv
         split at hv
         ·rename_i e
          exact ⟨i,by omega,e.symm⟩
         ·obtain ⟨j,hj,e⟩:=hp.2.1.2 x v hv
          exact ⟨j,by omega,e⟩
        ·rcases Nat.lt_succ_iff_lt_or_eq.mp hi' with hi'|rfl
         ·exact hp.2.2 i' hi' j hj
         ·rw [Bool.eq_false_iff]
          intro e
          have h5:=hp.2.1.1 j hj
          rw [←placeV_eq.2 e,h0] at h5
          cases h5
     ·have hc3:Y0 l 3=false:=by
       rw [Bool.eq_false_iff]
       intro e
       obtain ⟨i',h4,j',h5,h6⟩:=(XQ l _).1 e
       rw [hp.2.2 i' (by omega) j' h5] at h6
       cases h6
      clear hp h
      refine fun b2 hb2=>⟨by omega,?_⟩
      refine Yn (fun p:Nat×List (Value×Value)=>p.1≤l.length∧ZhK l p.1 p.2∧∀ i',i'<p.1→∀ j,j<i'→X3 (Zm l i') (Zm l j) 4=false) (fun p=>l.length-p.1)
       (fun p=>⟨[(1,.ptr 0 1 0 0),(10,.lit (.map (some b2))),(54,.sl 4 l.length (Zg l)),(55,.lit (.int .i64 l.length)),(56,.lit (.int .i64 p.1))],[some ⟨30,1,1,fun _=>[.sl 4 l.length (Zg l)]⟩],[(b2,⟨3,p.2⟩)],0⟩) ⟨(0,[]),⟨by omega,⟨by simp,by simp [mget]⟩,by simp⟩,?_⟩ (fun p hp=>?_)
      ·simp [go_sem]
       exact cl
      ·obtain ⟨i,es⟩:=p
       simp only at hp
       simp [go_sem,ZU]
       refine ⟨fun h=>⟨h,?_⟩,fun h=>?_⟩
       ·have hlv:=V2 (hop i h)
        have hki:=ZjZ (n:=(Zm l i).level) (by omega)
        refine Xk U5 hki _ Hd ?_
        have step:∀ (h4:∀ j,j<i→X3 (Zm l i) (Zm l j) 4=false),ZhK l (i+1) (mput es (.int .i64 (Zm l i).level) (.int .i64 (XF (Zm l i))))∧∀ i',i'<i+1→∀ j,j<i'→X3 (Zm l i') (Zm l j) 4=false:=by
         intro h4
         refine ⟨⟨fun j hj=>?_,fun x v hv=>?_⟩,fun i' hi' j hj=>?_⟩
         ·rw [YD]
          rcases Nat.lt_succ_iff_lt_or_eq.mp hj with hj|rfl
          ·split
           ·rename_i e
            simp only [Value.int.injEq,true_and] at e
            have:=h4 j hj
            simp only [X3,e,decide_true,Bool.true_and,show ((4:Int)=3)=False by decide,if_false,decide_eq_false_iff_not,ne_eq,Classical.not_not] at this
            rw [this]
           ·exact hp.2.1.1 j hj
          ·rw [if_pos rfl]
         ·rw [YD] at hv
          split at hv
          ·rename_i e
           exact ⟨i,by omega,e.symm⟩
          ·obtain ⟨j,hj,e⟩:=hp.2.1.2 x v hv
           exact ⟨j,by omega,e⟩
         ·rcases Nat.lt_succ_iff_lt_or_eq.mp hi' with hi'|rfl
          ·exact hp.2.2 i' hi' j hj
          ·exact h4 j hj
        cases hm:mget es (.int .i64 (Zm l i).level) with
        |none=>
         simp [go_sem]
         have h4:∀ j,j<i→X3 (Zm l i) (Zm l j) 4=false:=by
          intro j hj
          simp only [X3,show ((4:Int)=3)=False by decide,if_false,Bool.and_eq_false_iff,decide_eq_false_iff_not]
          refine .inl fun e=>?_
          have:=hp.2.1.1 j hj
          rw [←e,hm] at this
          cases this
         refine Zq [5] (.q 0 <| .q 1 <| .q 2 <| .q 3 <| .or 4 (.or 5 (.done) (.nil)) (.nil)) (by kernel_rfl) ?_
         simp [go_sem]
         refine Zu (ZbT (Zm l i)) ?_ ?_
         ·simp [go_sem,POp.cells]
         ·simp [go_sem]
          refine Xj U5 hki ?_
          simp [go_sem]
          obtain ⟨s1,s2⟩:=step h4
          exact ⟨i+1,_,⟨by omega,s1,s2⟩,by omega,rfl,⟨cl,Zn (by omega)⟩,cl⟩
        |some v=>
         obtain ⟨j,hj,e⟩:=hp.2.1.2 _ v hm
         simp only [Value.int.injEq,true_and] at e
         have hv:v=.int .i64 (XF (Zm l j)):=by
          have:=hp.2.1.1 j hj
          rw [←e,hm] at this
          exact Option.some.inj this
         subst hv
         simp [go_sem]
         refine Zc (ZbT (Zm l i)) ?_ ?_
         ·simp [go_sem,POp.cells]
         ·simp [go_sem]
          refine ⟨fun hne=>?_,fun heq=>?_⟩
          ·have hc4:Y0 l 4=true:=by
            refine (XQ l _).2 ⟨i,h,j,hj,?_⟩
            simp only [X3,show ((4:Int)=3)=False by decide,if_false,Bool.and_eq_true,decide_eq_true_eq]
            exact ⟨e,fun e2=>hne e2.symm⟩
           simp only [Yv,hok,hc3,hc4,if_neg hmax]
           rfl
          ·have h4:∀ j,j<i→X3 (Zm l i) (Zm l j) 4=false:=by
            intro j' hj'
            simp only [X3,show ((4:Int)=3)=False by decide,if_false,Bool.and_eq_false_iff,decide_eq_false_iff_not]
            by_cases e2:(Zm l i).level=(Zm l j').level
            ·refine .inr fun h5=>h5 ?_
             have:=hp.2.1.1 j' hj'
             rw [←e2,hm] at this
             simp only [Option.some.injEq,Value.int.injEq,true_and] at this
             rw [←heq,this]
            ·exact .inl e2
           refine Zq [5] (.q 0 <| .q 1 <| .q 2 <| .q 3 <| .or 4 (.or 5 (.done) (.nil)) (.nil)) (by kernel_rfl) ?_
           simp [go_sem]
           refine Zu (ZbT (Zm l i)) ?_ ?_
           ·simp [go_sem,POp.cells]
           ·simp [go_sem]
            refine Xj U5 hki ?_
            simp [go_sem]
            obtain ⟨s1,s2⟩:=step h4
            exact ⟨i+1,_,⟨by omega,s1,s2⟩,by omega,rfl,⟨cl,Zn (by omega)⟩,cl⟩
       ·have hc4:Y0 l 4=false:=by
         rw [Bool.eq_false_iff]
         intro e
         obtain ⟨i',h4,j',h5,h6⟩:=(XQ l _).1 e
         rw [hp.2.2 i' (by omega) j' h5] at h6
         cases h6
        simp only [Yv,hok,hc3,hc4,if_neg hmax]
        rfl
end Go.Proofs.YtjdmmhcogmepaaaGreatDoor.V
namespace Go.Proofs.YtjdmmhcogmepaaaGreatDoor.V
open Go.RowKit
def ZlZ (a b:AV):Prop:=∀ (w:World) (ok:Nat→Prop) (hd:Nat→Value) (m:Nat) (v:Value),Rep w ok hd m a v→Rep w ok hd m b v
theorem Zln {sz n:Nat} {f g:Nat→List AV} (h:∀ i,i<n→f i=g i):ZlZ (.sl sz n f) (.sl sz n g):=by
 intro w ok hd m v hr
 cases hr with
 |sl _ _ _ A c u hc hm hsz hl ha hr=>exact .sl sz n g A c u hc hm hsz (fun i hi=>by rw [←h i hi];exact hl i hi) ha fun i j a hi hj=>hr i j a hi (by rw [h i hi];exact hj)
def Zha:List AV→List AV→Prop
 |[],[]=>True
 |a::r,b::r'=>ZlZ a b∧Zha r r'
 | _,_=>False
theorem Zb8:∀ {l l':List AV},Zha l l'→l.length=l'.length∧∀ (j:Nat) a b,l[j]?=some a→l'[j]?=some b→ZlZ a b
 |[],[],_=>⟨rfl,fun j a b h=>by simp at h⟩
 |a::r,b::r',h=>by
  obtain ⟨h1,h2⟩:=Zb8 h.2
  refine ⟨by simp [h1],fun j x y hx hy=>?_⟩
  cases j with
  |zero=>
   simp only [List.getElem?_cons_zero,Option.some.injEq] at hx hy
   subst hx;subst hy;exact h.1
  |succ j=>exact h2 j x y (by simpa using hx) (by simpa using hy)
 |[],_::_,h=>h.elim
 | _::_,[],h=>h.elim
theorem VFun.congr {P:Program} {f:FuncId} {args args':List AV} {R:AV→List Ob→Prop} (h:VFun P f args' R) (ha:Zha args args'):VFun P f args R:=by
 obtain ⟨h1,h2⟩:=Zb8 ha
 refine ⟨h.1,fun w vs hl hv=>h.2 w vs (by omega) fun j b u hb hu=>?_⟩
 have hj:j<args.length:=by have:=(List.getElem?_eq_some_iff.1 hb).1;omega
 exact h2 j _ b (List.getElem?_eq_getElem hj) hb _ _ _ _ _ (hv j _ u (List.getElem?_eq_getElem hj) hu)
theorem KS {g:Nat→Nat}:∀ {l:List AV},l.all X1=true→l.map (VN g)=l
 |[],_=>rfl
 |a::r,h=>by
  simp only [List.all_cons,Bool.and_eq_true] at h
  simp only [List.map_cons,KS h.2]
  cases a<;>simp [X1] at h
  rfl
theorem ZcX:∀ {l:List AV},l.all X1=true→l.all W3=true
 |[],_=>rfl
 |a::r,h=>by
  simp only [List.all_cons,Bool.and_eq_true] at h ⊢
  refine ⟨?_,ZcX h.2⟩
  cases a<;>simp [X1] at h
  rfl
theorem ZC {idx:Nat→Nat} {ks:List Nat} {ty sz n:Nat} {f f':Nat→List AV} (h:∀ i,i<n→f i=f' i) (hl:∀ i,i<n→(f' i).all X1=true):Vw idx ks ⟨ty,sz,n,f'⟩ (some (some ⟨ty,sz,n,f⟩)):=by
 refine ⟨rfl,rfl,rfl,fun i hi=>⟨?_,UF (ZcX (hl i hi)),fun c hc q hq=>?_⟩⟩
 ·simp only
  rw [h i hi];exact KS (hl i hi)
 ·simp only at hc
  rw [h i hi] at hc
  have:=List.all_eq_true.1 (hl i hi) c hc
  cases c<;>simp [X1] at this
  simp [VP] at hq
@[go_sem] theorem opCells_ren {g:Nat→Nat} {l:List POp} {i:Nat}:(Zg l i).map (VN g)=Zg l i:=KS rfl
theorem Zk {f:Nat→Nat} {m:Nat}:∀ {l:List AV},l.all X1=true→Yf f m l l
 |[],_=>trivial
 |a::r,h=>by
  simp only [List.all_cons,Bool.and_eq_true] at h
  exact ⟨.closed _ (.of_lit h.1),Zk h.2⟩
def Zj (l:List PTok) (i:Nat):PTok:=l.getD i default
theorem Zo (l:List PTok) (i:Nat):Zr l i=[.lit (.int .i64 (Zj l i).kind),.lit (.string (Zj l i).gap),.lit (.string (Zj l i).text)]:=rfl
def X7 (c:Int):Bool:=decide (48≤c)&&decide (c≤57)
def Uq (c:Int):Bool:=decide ((97≤c∧c≤122)∨(65≤c∧c≤90)∨c=95)
def YH (c:Int):Bool:=decide (c=32∨c=9∨c=10)
theorem Q1 (c:Int):VFun Tryz.prog 151 [.lit (.int .u8 c)] (fun av obs=>obs=[]∧av=.lit (.bool (X7 c))):=by
 refine Zi Tryz.func151 (by kernel_rfl) rfl (by simp [Tryz.ntmps151]) ?_;simp only [Tryz.ntmps151,Tryz.results151];simp [go_sem]
 by_cases h1:48≤c<;>by_cases h2:c≤57<;>simp [X7,h1,h2]<;>omega
theorem Jn (c:Int):VFun Tryz.prog 123 [.lit (.int .u8 c)] (fun av obs=>obs=[]∧av=.lit (.bool (X7 c))):=by
 refine Zi Tryz.func123 (by kernel_rfl) rfl (by simp [Tryz.ntmps123]) ?_;simp only [Tryz.ntmps123,Tryz.results123];simp [go_sem]
 by_cases h1:48≤c<;>by_cases h2:c≤57<;>simp [X7,h1,h2]<;>omega
theorem Kt (c:Int):VFun Tryz.prog 150 [.lit (.int .u8 c)] (fun av obs=>obs=[]∧av=.lit (.bool (Uq c))):=by
 refine Zi Tryz.func150 (by kernel_rfl) rfl (by simp [Tryz.ntmps150]) ?_;simp only [Tryz.ntmps150,Tryz.results150];simp [go_sem]
 simp only [Uq,WV,decide_eq_decide,decide_eq_true_eq]
 omega
theorem Kv (c:Int):VFun Tryz.prog 124 [.lit (.int .u8 c)] (fun av obs=>obs=[]∧av=.lit (.bool (Uq c))):=by
 refine Zi Tryz.func124 (by kernel_rfl) rfl (by simp [Tryz.ntmps124]) ?_;simp only [Tryz.ntmps124,Tryz.results124];simp [go_sem]
 simp only [Uq,WV,decide_eq_decide,decide_eq_true_eq]
 omega
theorem ZiH (c:Int):VFun Tryz.prog 106 [.lit (.int .u8 c)] (fun av obs=>obs=[]∧av=.lit (.bool (YH c))):=by
 refine Zi Tryz.func106 (by kernel_rfl) rfl (by simp [Tryz.ntmps106]) ?_;simp only [Tryz.ntmps106,Tryz.results106];simp [go_sem]
 simp only [YH,WV,decide_eq_decide,decide_eq_true_eq]
 omega
def VE (z:ByteArray):Bool:=((List.range z.size).all fun i=>X7 (Zh z i))&&decide (0<z.size)
def X9 (z:ByteArray) (i:Nat):Bool:=Uq (Zh z i)||(decide (i≠0)&&X7 (Zh z i))
def Vx (z:ByteArray):Bool:=((List.range z.size).all fun i=>X9 z i)&&decide (0<z.size)
theorem X5 {p:Nat→Bool} {n i:Nat} (h:i<n) (e:p i=false):(List.range n).all p=false:=by
 simp only [List.all_eq_false,List.mem_range]
 exact ⟨i,h,by rw [e];simp⟩
theorem VL {p:Nat→Bool} {n:Nat} (h:∀ i,i<n→p i=true):(List.range n).all p=true:=by
 simp only [List.all_eq_true,List.mem_range]
 exact h
theorem HS (z:ByteArray) (hz:z.size≤9223372036854775807):VFun Tryz.prog 133 [.lit (.string z)] (fun av obs=>obs=[]∧av=.lit (.bool (VE z))):=by
 refine Zi Tryz.func133 (by kernel_rfl) rfl (by simp [Tryz.ntmps133]) ?_;simp only [Tryz.ntmps133,Tryz.results133];simp [go_sem]
 refine Yn (fun i:Nat=>i≤z.size∧∀ j,j<i→X7 (Zh z j)=true) (fun i=>z.size-i) (fun i=>.of [(0,.lit (.string z)),(3,.lit (.int .i64 i))] []) ⟨0,⟨by omega,by simp⟩,?_⟩ (fun i hi=>?_)
 ·simp [go_sem]
 ·simp [go_sem]
  refine ⟨fun h=>⟨h,Zc (Q1 (Zh z i)) ?_ ?_⟩,fun h=>?_⟩
  ·simp [go_sem]
  ·simp [go_sem]
   refine ⟨fun e=>?_,fun e=>⟨i+1,⟨by omega,fun j hj=>?_⟩,by omega,Zn (by omega)⟩⟩
   ·simp only [VE,X5 (p:=fun i=>X7 (Zh z i)) h e,Bool.false_and]
   ·rcases Nat.lt_succ_iff_lt_or_eq.mp hj with hj|rfl
    ·exact hi.2 j hj
    ·exact e
  ·simp only [VE,VL (p:=fun i=>X7 (Zh z i)) (n:=z.size) fun j hj=>hi.2 j (by omega),Bool.true_and]
theorem ZbZ (z:ByteArray) (hz:z.size≤9223372036854775807):VFun Tryz.prog 134 [.lit (.string z)] (fun av obs=>obs=[]∧av=.lit (.bool (Vx z))):=by
 refine Zi Tryz.func134 (by kernel_rfl) rfl (by simp [Tryz.ntmps134]) ?_;simp only [Tryz.ntmps134,Tryz.results134];simp [go_sem]
 refine Yn (fun i:Nat=>i≤z.size∧∀ j,j<i→X9 z j=true) (fun i=>z.size-i) (fun i=>.of [(0,.lit (.string z)),(3,.lit (.int .i64 i))] []) ⟨0,⟨by omega,by simp⟩,?_⟩ (fun i hi=>?_)
 ·simp [go_sem]
 ·simp [go_sem]
  refine ⟨fun h=>⟨h,Zc (Kt (Zh z i)) ?_ ?_⟩,fun h=>?_⟩
  ·simp [go_sem]
  ·have step:X9 z i=true→∃ j:Nat,(j≤z.size∧∀ q,q<j→X9 z q=true)∧z.size-j<z.size-i∧IntKind.i64.wrap ((i:Int)+1)=j:=fun e=>⟨i+1,⟨by omega,fun j hj=>by
    rcases Nat.lt_succ_iff_lt_or_eq.mp hj with hj|rfl
    ·exact hi.2 j hj
    ·exact e⟩,by omega,Zn (by omega)⟩
   have bad:X9 z i=false→Vx z=false:=fun e=>by simp only [Vx,X5 (p:=fun i=>X9 z i) h e,Bool.false_and]
   simp [go_sem]
   refine ⟨fun e1=>⟨fun h0=>⟨h,Zc (Q1 (Zh z i)) ?_ ?_⟩,fun h0=>bad (by subst h0;simp [X9,e1])⟩,fun e1=>step (by simp [X9,e1])⟩
   ·simp [go_sem]
   ·simp [go_sem]
    exact ⟨fun e2=>bad (by simp [X9,e1,e2]),fun e2=>step (by simp [X9,e1,e2,h0])⟩
  ·simp only [Vx,VL (p:=fun i=>X9 z i) (n:=z.size) fun j hj=>hi.2 j (by omega),Bool.true_and]
def ZQ (l:List POp) (z:ByteArray) (kd:Int):Bool:=(List.range l.length).any fun i=>decide ((Zm l i).text=z)&&decide ((Zm l i).kind=kd)
theorem Qc (l:List POp) (hl:l.length≤9223372036854775807) (z:ByteArray) (kd:Int):VFun Tryz.prog 82 [.agg [.sl 4 l.length (Zg l)],.lit (.string z),.lit (.int .i64 kd)] (fun av obs=>obs=[]∧∃ r:Int,av=.lit (.int .i64 r)∧(0≤r↔ZQ l z kd=true)):=by
 have cl:∀ (i:Nat) (c:AV),i<l.length→c∈Zg l i→Closed c:=fun i c _ h=>ZK l i c h
 refine Zi Tryz.func82 (by kernel_rfl) rfl (by simp [Tryz.ntmps82]) ?_;simp only [Tryz.ntmps82,Tryz.results82];simp [go_sem]
 refine Yn (fun i:Nat=>i≤l.length∧∀ j,j<i→¬((Zm l j).text=z∧(Zm l j).kind=kd)) (fun i=>l.length-i) (fun i=>.of [(1,.lit (.string z)),(2,.lit (.int .i64 kd)),(3,.ptr 0 1 0 0),(7,.lit (.int .i64 i))] [some ⟨30,1,1,fun _=>[.sl 4 l.length (Zg l)]⟩]) ⟨0,⟨by omega,by simp⟩,?_⟩ (fun i hi=>?_)
 ·simp [go_sem]
  exact cl
 ·simp [go_sem,ZU,X4]
  have step:¬((Zm l i).text=z∧(Zm l i).kind=kd)→∀ j,j<i+1→¬((Zm l j).text=z∧(Zm l j).kind=kd):=fun e j hj=>by
   rcases Nat.lt_succ_iff_lt_or_eq.mp hj with hj|rfl
   ·exact hi.2 j hj
   ·exact e
  refine ⟨by omega,fun h=>?_,fun h=>?_⟩
  ·have cl2:∀ (i:Nat) (c:AV),i<l.length→c=AV.lit (Value.string (Zm l i).text)∨c=AV.lit (Value.int IntKind.i64 (Zm l i).kind)∨c=AV.lit (Value.int IntKind.i64 (Zm l i).level)∨c=AV.lit (Value.int IntKind.i64 (Zm l i).side)→Closed c:=by
    rintro i c _ (rfl|rfl|rfl|rfl)<;>exact .lit _
   refine ⟨h,fun e1=>⟨h,fun e2=>?_,fun e2=>⟨i+1,⟨by omega,fun j hj e3 e4=>step (fun e5=>e2 e5.2) j hj ⟨e3,e4⟩⟩,by omega,Zn (by omega),cl2⟩⟩,fun e1=>⟨i+1,⟨by omega,fun j hj e3 e4=>step (fun e5=>e1 e5.1) j hj ⟨e3,e4⟩⟩,by omega,Zn (by omega),cl2⟩⟩
   simp only [ZQ,List.any_eq_true,List.mem_range]
   exact ⟨i,h,by simp [e1,e2]⟩
  ·simp only [ZQ,List.any_eq_false,List.mem_range]
   exact fun j hj=>by
    have:=hi.2 j (by omega)
    simp only [Bool.and_eq_true,decide_eq_true_eq]
    exact this
def QT (l:List POp) (z:ByteArray):Bool:=ZQ l z 1||ZQ l z 2||ZQ l z 3
theorem Zkn (l:List POp) (hl:l.length≤9223372036854775807) (z:ByteArray):VFun Tryz.prog 135 [.agg [.sl 4 l.length (Zg l)],.lit (.string z)] (fun av obs=>obs=[]∧av=.lit (.bool (QT l z))):=by
 have cl:∀ (i:Nat) (c:AV),i<l.length→c∈Zg l i→Closed c:=fun i c _ h=>ZK l i c h
 have dec:∀ (r:Int) (b:Bool),(0≤r↔b=true)→decide (0≤r)=b:=fun r b h=>by cases b<;>simp_all
 refine Zi Tryz.func135 (by kernel_rfl) rfl (by simp [Tryz.ntmps135]) ?_;simp only [Tryz.ntmps135,Tryz.results135];simp [go_sem]
 refine ZR (Qc l hl z 1) ?_ ?_
 ·simp [go_sem]
  exact Ze (by omega) cl
 ·rintro av obs ⟨rfl,r,rfl,hr⟩
  simp [go_sem]
  refine ⟨fun e1=>ZR (Qc l hl z 2) ?_ ?_,fun e1=>by simp [QT,hr.1 e1]⟩
  ·simp [go_sem]
   exact Ze (by omega) cl
  ·have n1:ZQ l z 1=false:=by rw [Bool.eq_false_iff];exact fun e=>by have:=hr.2 e;omega
   rintro av obs ⟨rfl,r2,rfl,hr2⟩
   simp [go_sem]
   refine ⟨fun e2=>ZR (Qc l hl z 3) ?_ ?_,fun e2=>by simp [QT,hr2.1 e2]⟩
   ·simp [go_sem]
    exact Ze (by omega) cl
   ·have n2:ZQ l z 2=false:=by rw [Bool.eq_false_iff];exact fun e=>by have:=hr2.2 e;omega
    rintro av obs ⟨rfl,r3,rfl,hr3⟩
    simp [go_sem,QT,n1,n2,dec r3 _ hr3]
def Yd (l:List POp) (z:ByteArray):Int:=if VE z then 1 else if Vx z then 2 else if z=⟨#[40]⟩ then 4 else if z=⟨#[41]⟩ then 5 else if QT l z then 3 else 6
theorem Zfy (l:List POp) (hl:l.length≤9223372036854775807) (z:ByteArray) (hz:z.size≤9223372036854775807):VFun Tryz.prog 108 [.agg [.sl 4 l.length (Zg l)],.lit (.string z)] (fun av obs=>obs=[]∧av=.lit (.int .i64 (Yd l z))):=by
 have cl:∀ (i:Nat) (c:AV),i<l.length→c∈Zg l i→Closed c:=fun i c _ h=>ZK l i c h
 refine Zi Tryz.func108 (by kernel_rfl) rfl (by simp [Tryz.ntmps108]) ?_;simp only [Tryz.ntmps108,Tryz.results108];simp [go_sem]
 refine Zc (HS z hz) ?_ ?_
 ·simp [go_sem]
 ·simp [go_sem]
  refine ⟨fun e1=>by simp [Yd,e1],fun e1=>Zc (ZbZ z hz) ?_ ?_⟩
  ·simp [go_sem]
  ·simp [go_sem]
   have b1:z.toList=[40]↔z=⟨#[40]⟩:=by have:=X4 z ⟨#[40]⟩;simpa using this
   have b2:z.toList=[41]↔z=⟨#[41]⟩:=by have:=X4 z ⟨#[41]⟩;simpa using this
   refine ⟨fun e2=>by simp [Yd,e1,e2],fun e2=>⟨fun e3=>by rw [b1] at e3;simp only [Yd,e1,e2,if_pos e3];rfl,fun e3=>⟨fun e4=>by rw [b1] at e3;rw [b2] at e4;simp only [Yd,e1,e2,if_neg e3,if_pos e4];rfl,fun e4=>Zc (Zkn l hl z) ?_ ?_⟩⟩⟩
   ·simp [go_sem]
    exact Ze (by omega) cl
   ·rw [b1] at e3
    rw [b2] at e4
    simp [go_sem]
    simp only [Yd,e1,e2,if_neg e3,if_neg e4]
    refine ⟨fun e5=>?_,fun e5=>?_⟩<;>rw [e5]<;>rfl
def ZZ (c:Int):Bool:=Uq c||X7 c
def run (p:Int→Bool) (z:ByteArray) (j:Nat):Nat:=if h:j<z.size then if p (Zh z j) then 1+run p z (j+1) else 0 else 0
termination_by z.size-j
theorem Vd {p:Int→Bool} {z:ByteArray} {j:Nat} (h:z.size≤j):run p z j=0:=by rw [run,dif_neg (by omega)]
theorem Wv {p:Int→Bool} {z:ByteArray} {j:Nat} (h:j<z.size) (e:p (Zh z j)=true):run p z j=1+run p z (j+1):=by
 conv=>lhs;rw [run]
 rw [dif_pos h,if_pos e]
theorem V0 {p:Int→Bool} {z:ByteArray} {j:Nat} (h:j<z.size) (e:p (Zh z j)=false):run p z j=0:=by rw [run,dif_pos h,if_neg (by rw [e];simp)]
theorem Za6 (p:Int→Bool) (z:ByteArray) (j:Nat) (h:j≤z.size):j+run p z j≤z.size:=by
 rcases Nat.lt_or_ge j z.size with h1|h1
 ·cases e:p (Zh z j)
  ·rw [V0 h1 e];omega
  ·have:=Za6 p z (j+1) (by omega)
   rw [Wv h1 e];omega
 ·rw [Vd h1];omega
termination_by z.size-j
def YC (z:ByteArray) (i:Nat):Nat:=if XT (Zh z i) then (if z.size-i<16 then z.size-i else 16) else if ZZ (Zh z i) then 1+run ZZ z (i+1) else 1
theorem ZiG (z:ByteArray) (hz:z.size≤1048576) (i:Nat) (hi:i<z.size):VFun Tryz.prog 132 [.lit (.string z),.lit (.int .i64 i)] (fun av obs=>obs=[]∧av=.lit (.int .i64 (YC z i))):=by
 refine Zi Tryz.func132 (by kernel_rfl) rfl (by simp [Tryz.ntmps132]) ?_;simp only [Tryz.ntmps132,Tryz.results132];simp [go_sem]
 refine ⟨hi,Zc (Ku (Zh z i)) ?_ ?_⟩
 ·simp [go_sem]
 ·simp [go_sem]
  rw [wrap_i64 (by omega)]
  refine ⟨fun e0=>⟨fun h=>?_,fun h=>?_⟩,fun e0=>?_⟩
  ·simp only [YC,e0,if_true]
   rw [if_pos (by omega)];omega
  ·simp only [YC,e0,if_true]
   rw [if_neg (by omega)];rfl
  ·refine Yn (fun n:Nat=>1≤n∧i+n≤z.size∧YC z i=if ZZ (Zh z i) then n+run ZZ z (i+n) else n) (fun n=>z.size-n) (fun n=>.of [(0,.lit (.string z)),(1,.lit (.int .i64 i)),(5,.lit (.int .i64 n))] []) ⟨1,⟨by omega,by omega,?_⟩,?_⟩ (fun n hn=>?_)
   ·simp only [YC,e0]
    simp
   ·simp [go_sem]
   ·obtain ⟨h1,h2,h3⟩:=hn
    simp [go_sem]
    rw [wrap_i64 (n:=(i:Int)+n) (by omega)]
    have ex:z.size≤i+n→(n:Int)=YC z i:=fun h=>by
     rw [h3,Vd h];simp
    refine ⟨fun h=>⟨hi,Zc (Kt (Zh z i)) ?_ ?_⟩,fun h=>ex (by omega)⟩
    ·simp [go_sem]
    ·have hlt:((i:Int)+n<z.size)=True:=by simp;omega
     cases eL:Uq (Zh z i) with
     |true=>
      have al:ZZ (Zh z i)=true:=by simp [ZZ,eL]
      rw [al,if_pos rfl] at h3
      have stop:ZZ (Zh z (i+n))=false→(n:Int)=YC z i:=fun e=>by rw [h3,V0 (by omega) e];simp
      have go_:ZZ (Zh z (i+n))=true→1≤n+1∧i+(n+1)≤z.size∧YC z i=if ZZ (Zh z i) then n+1+run ZZ z (i+(n+1)) else n+1:=fun e=>⟨by omega,by omega,by rw [al,if_pos rfl,h3,Wv (by omega) e,show i+(n+1)=i+n+1 by omega];omega⟩
      simp [go_sem]
      simp only [wrap_i64 (n:=(i:Int)+n) (by omega),show ((i:Int)+n).toNat=i+n by omega]
      refine ⟨by omega,by omega,Zc (Kt (Zh z (i+n))) ?_ ?_⟩
      ·simp [go_sem]
      ·have done_:ZZ (Zh z (i+n))=true→∃ j:Nat,(1≤j∧i+j≤z.size∧YC z i=if ZZ (Zh z i)=true then j+run ZZ z (i+j) else j)∧z.size-j<z.size-n∧IntKind.i64.wrap ((n:Int)+1)=j:=fun e=>⟨n+1,go_ e,by omega,Zn (by omega)⟩
       cases fL:Uq (Zh z (i+n)) with
       |true=>
        simp [go_sem]
        exact done_ (by simp [ZZ,fL])
       |false=>
        simp [go_sem]
        simp only [wrap_i64 (n:=(i:Int)+n) (by omega),show ((i:Int)+n).toNat=i+n by omega]
        refine ⟨by omega,by omega,Zc (Q1 (Zh z (i+n))) ?_ ?_⟩
        ·simp [go_sem]
        ·simp [go_sem]
         exact ⟨fun e=>done_ (by simp [ZZ,e]),fun e=>stop (by simp [ZZ,fL,e])⟩
     |false=>
      simp [go_sem]
      refine ⟨hi,Zc (Q1 (Zh z i)) ?_ ?_⟩
      ·simp [go_sem]
      ·cases eD:X7 (Zh z i) with
       |true=>
        have al:ZZ (Zh z i)=true:=by simp [ZZ,eL,eD]
        rw [al,if_pos rfl] at h3
        have stop:ZZ (Zh z (i+n))=false→(n:Int)=YC z i:=fun e=>by rw [h3,V0 (by omega) e];simp
        have go_:ZZ (Zh z (i+n))=true→1≤n+1∧i+(n+1)≤z.size∧YC z i=if ZZ (Zh z i) then n+1+run ZZ z (i+(n+1)) else n+1:=fun e=>⟨by omega,by omega,by rw [al,if_pos rfl,h3,Wv (by omega) e,show i+(n+1)=i+n+1 by omega];omega⟩
        simp [go_sem]
        simp only [wrap_i64 (n:=(i:Int)+n) (by omega),show ((i:Int)+n).toNat=i+n by omega]
        refine ⟨by omega,by omega,Zc (Kt (Zh z (i+n))) ?_ ?_⟩
        ·simp [go_sem]
        ·have done_:ZZ (Zh z (i+n))=true→∃ j:Nat,(1≤j∧i+j≤z.size∧YC z i=if ZZ (Zh z i)=true then j+run ZZ z (i+j) else j)∧z.size-j<z.size-n∧IntKind.i64.wrap ((n:Int)+1)=j:=fun e=>⟨n+1,go_ e,by omega,Zn (by omega)⟩
         cases fL:Uq (Zh z (i+n)) with
         |true=>
          simp [go_sem]
          exact done_ (by simp [ZZ,fL])
         |false=>
          simp [go_sem]
          simp only [wrap_i64 (n:=(i:Int)+n) (by omega),show ((i:Int)+n).toNat=i+n by omega]
          refine ⟨by omega,by omega,Zc (Q1 (Zh z (i+n))) ?_ ?_⟩
          ·simp [go_sem]
          ·simp [go_sem]
           exact ⟨fun e=>done_ (by simp [ZZ,e]),fun e=>stop (by simp [ZZ,fL,e])⟩
       |false=>
        simp [go_sem]
        have al:ZZ (Zh z i)=false:=by simp [ZZ,eL,eD]
        rw [al] at h3
        rw [h3];simp
def Wa (l:List POp) (z:ByteArray) (i:Nat):Nat→Nat
 |0=>1
 |n+1=>if n=0 then 1 else if Yd l (z.extract i (i+(n+1)))≠6 then n+1 else Wa l z i n
def ZV (l:List POp) (z:ByteArray) (i:Nat):Nat:=Wa l z i (YC z i)
theorem UC (z:ByteArray) (i:Nat) (hi:i<z.size):1≤YC z i∧i+YC z i≤z.size:=by
 unfold YC
 split
 ·split<;>omega
 ·split
  ·have:=Za6 ZZ z (i+1) (by omega)
   omega
  ·omega
theorem Zfx (l:List POp) (hl:l.length≤9223372036854775807) (z:ByteArray) (hz:z.size≤1048576) (i:Nat) (hi:i<z.size):VFun Tryz.prog 107 [.agg [.sl 4 l.length (Zg l)],.lit (.string z),.lit (.int .i64 i)] (fun av obs=>obs=[]∧av=.lit (.int .i64 (ZV l z i))):=by
 have cl:∀ (i:Nat) (c:AV),i<l.length→c∈Zg l i→Closed c:=fun i c _ h=>ZK l i c h
 have hr:=UC z i hi
 refine Zi Tryz.func107 (by kernel_rfl) rfl (by simp [Tryz.ntmps107]) ?_;simp only [Tryz.ntmps107,Tryz.results107];simp [go_sem]
 refine Zc (ZiG z hz i hi) ?_ ?_
 ·simp [go_sem]
 ·simp [go_sem]
  refine Yn (fun n:Nat=>1≤n∧i+n≤z.size∧ZV l z i=Wa l z i n) (fun n=>n) (fun n=>.of [(1,.lit (.string z)),(2,.lit (.int .i64 i)),(3,.ptr 0 1 0 0),(7,.lit (.int .i64 n))] [some ⟨30,1,1,fun _=>[.sl 4 l.length (Zg l)]⟩]) ⟨YC z i,⟨by omega,by omega,rfl⟩,?_⟩ (fun n hn=>?_)
  ·simp [go_sem]
   exact cl
  ·simp [go_sem]
   refine ⟨fun h=>?_,fun h=>?_⟩
   ·refine Zq [] (.q 0 <| .q 1 <| .q 2 <| .q 3 <| .q 4 <| .q 5 <| .q 6 <| .or 7 (.q 8 <| .done) (.nil)) (by kernel_rfl) ?_
    simp [go_sem]
    simp only [wrap_i64 (n:=(i:Int)+n) (by omega),show ((i:Int)+n).toNat=i+n by omega]
    refine ⟨by omega,by omega,Zu (Zfy l hl (z.extract i (i+n)) (by rw [ByteArray.size_extract];omega)) ?_ ?_⟩
    ·simp [go_sem]
     exact Ze (by omega) cl
    ·obtain ⟨h1,h2,h3⟩:=hn
     obtain ⟨m,rfl⟩:∃ m,n=m+1:=⟨n-1,by omega⟩
     simp [go_sem]
     refine ⟨fun e=>?_,fun e=>?_⟩
     ·rw [h3,Wa,if_neg (by omega),if_pos (by simpa using e)]
      omega
     ·rw [h3,Wa,if_neg (by omega),if_neg (by simpa using e)]
      exact ⟨m,⟨by omega,by omega,rfl⟩,by omega,wrap_i64 (by omega),cl⟩
   ·have e:n=1:=by omega
    rw [hn.2.2,e];rfl
def ZlI (l:List POp) (n:Nat) (o:POp):Bool:=(List.range n).any fun i=>Znr (Zm l i) o
def uniq (l:List POp):Nat→List POp
 |0=>[]
 |i+1=>if ZlI l i (Zm l i) then uniq l i else uniq l i++[Zm l i]
theorem ZjJ (a b:List POp) (i:Nat):Zm (a++b) i=if i<a.length then Zm a i else Zm b (i-a.length):=by
 unfold Zm
 by_cases h:i<a.length
 ·rw [if_pos h,List.getD_eq_getElem?_getD,List.getD_eq_getElem?_getD,List.getElem?_append_left h]
 ·rw [if_neg h,List.getD_eq_getElem?_getD,List.getD_eq_getElem?_getD,List.getElem?_append_right (by omega)]
theorem ZeT (a b:List POp) (i:Nat):Zg (a++b) i=Z2 a.length (Zg a) (Zg b) i:=by
 unfold Z2
 simp only [ZU,ZjJ]
 split<;>rfl
theorem GW (l:List POp) (o:POp) (i:Nat) (h:i<l.length+1):Z2 l.length (Zg l) (fun _=>o.cells) i=Zg (l++[o]) i:=by
 rw [ZeT]
 unfold Z2
 split
 ·rfl
 ·have:i-l.length=0:=by omega
  rw [this];rfl
@[go_sem] theorem opOne (l:List POp) (i:Nat):(Zg l i).all XW=true:=rfl
open Go.Maps (Keyed)
def i64 (n:Int):Prop:=-9223372036854775808≤n∧n≤9223372036854775807
def opV (o:POp):Value:=.agg #[.string o.text,.int .i64 o.kind,.int .i64 o.level,.int .i64 o.side]
theorem ZjI (o:POp):Value.agg #[.string o.text,.int .i64 o.kind,.int .i64 o.level,.int .i64 o.side]=opV o:=rfl
end Go.Proofs.YtjdmmhcogmepaaaGreatDoor.V
namespace Go.Proofs.YtjdmmhcogmepaaaGreatDoor.V
open Go.RowKit
theorem Ze3 (l:List POp) (z:ByteArray) (i:Nat):∀ n,1≤Wa l z i n
 |0=>by simp [Wa]
 |n+1=>by
  unfold Wa
  split
  ·omega
  ·split
   ·omega
   ·exact Ze3 l z i n
theorem Ze2 (l:List POp) (z:ByteArray) (i:Nat):∀ n,Wa l z i n≤n∨Wa l z i n=1
 |0=>by simp [Wa]
 |n+1=>by
  unfold Wa
  split
  ·omega
  ·split
   ·omega
   ·rcases Ze2 l z i n with h|h<;>omega
theorem Vk (l:List POp) (z:ByteArray) (i:Nat):1≤ZV l z i:=Ze3 _ _ _ _
theorem V3 (l:List POp) (z:ByteArray) (i:Nat) (hi:i<z.size):i+ZV l z i≤z.size:=by
 have:=UC z i hi
 unfold ZV
 rcases Ze2 l z i (YC z i) with h|h<;>omega
def YB (l:List POp) (z:ByteArray) (f:Nat):List PTok:=
 if h:f+run YH z f<z.size then
  ⟨Yd l (z.extract (f+run YH z f) (f+run YH z f+ZV l z (f+run YH z f))),z.extract f (f+run YH z f),z.extract (f+run YH z f) (f+run YH z f+ZV l z (f+run YH z f))⟩::
   YB l z (f+run YH z f+ZV l z (f+run YH z f))
 else [⟨7,z.extract f (f+run YH z f),⟨#[]⟩⟩]
termination_by z.size-f
decreasing_by
 have:=Vk l z (f+run YH z f)
 omega
theorem WK {l:List POp} {z:ByteArray} {f i:Nat} (hi:i=f+run YH z f) (h:¬i<z.size):YB l z f=[⟨7,z.extract f i,⟨#[]⟩⟩]:=by
 subst hi;rw [YB,dif_neg h]
theorem Vl {l:List POp} {z:ByteArray} {f i:Nat} (hi:i=f+run YH z f) (h:i<z.size):YB l z f=⟨Yd l (z.extract i (i+ZV l z i)),z.extract f i,z.extract i (i+ZV l z i)⟩::YB l z (i+ZV l z i):=by
 subst hi;rw [YB,dif_pos h]
def X0 (l:List POp) (z:ByteArray):Bool:=decide (Yv l=0)&&decide (z.size≤20000)
def X6 (l:List POp) (z:ByteArray):List PTok:=if X0 l z then YB l z 0 else []
theorem H5 (a b:List PTok) (i:Nat):Zj (a++b) i=if i<a.length then Zj a i else Zj b (i-a.length):=by
 unfold Zj
 by_cases h:i<a.length
 ·rw [if_pos h,List.getD_eq_getElem?_getD,List.getD_eq_getElem?_getD,List.getElem?_append_left h]
 ·rw [if_neg h,List.getD_eq_getElem?_getD,List.getD_eq_getElem?_getD,List.getElem?_append_right (by omega)]
theorem Zdn (l:List PTok) (o:PTok) (i:Nat) (h:i<l.length+1):Z2 l.length (Zr l) (fun _=>o.cells) i=Zr (l++[o]) i:=by
 unfold Z2
 simp only [Zo,H5]
 split
 ·rfl
 ·have:i-l.length=0:=by omega
  rw [this];rfl
theorem Hp (toks:List PTok) (k:Int) (g x:ByteArray) (i:Nat) (hi:i<toks.length+1):Z2 toks.length (Zr toks) (fun i=>[[AV.lit (.int .i64 k),AV.lit (.string g),AV.lit (.string x)]][i]?.getD []) i=Zr (toks++[⟨k,g,x⟩]) i:=by
 rw [←Zdn toks ⟨k,g,x⟩ i hi]
 unfold Z2
 split
 ·rfl
 ·have:i-toks.length=0:=by omega
  rw [this];rfl
@[go_sem] theorem tokOne (l:List PTok) (i:Nat):(Zr l i).all XW=true:=rfl
theorem ZiB (l:List POp) (hl:l.length≤9223372036854775807) (hw:YT l) (z:ByteArray) (hz:z.size≤1048576):VFun Tryz.prog 67 [.agg [.sl 4 l.length (Zg l)],.lit (.string z)] (fun av obs=>av=.tup [.own 0,.lit (.bool (X0 l z))]∧obs=[⟨88,3,(X6 l z).length,Zr (X6 l z)⟩]):=by
 have cl:∀ (i:Nat) (c:AV),i<l.length→c∈Zg l i→Closed c:=fun i c _ h=>ZK l i c h
 refine Zi Tryz.func67 (by kernel_rfl) rfl (by simp [Tryz.ntmps67]) ?_;simp only [Tryz.ntmps67,Tryz.results67];simp [go_sem]
 refine Zc (Va l hl hw) ?_ ?_
 ·simp [go_sem]
  exact Ze (by omega) cl
 ·simp [go_sem]
  have bad:X0 l z=false→WZ [⟨88,3,0,fun _=>[]⟩] [⟨88,3,(X6 l z).length,Zr (X6 l z)⟩]∧X0 l z=false:=fun h=>by
   refine ⟨?_,h⟩
   have e:X6 l z=[]:=by simp [X6,h]
   rw [e]
   exact obsSame_one.mpr ⟨⟨88,3,0,Zr []⟩,⟨rfl,rfl,rfl,fun j hj=>by simp at hj⟩,rfl⟩
  refine ⟨fun h0=>⟨fun h1=>bad (by simp [X0];omega),fun h1=>?_⟩,fun h0=>bad (by simp [X0,h0])⟩
  have hok:X0 l z=true:=by simp [X0,h0];omega
  have hz2:z.size≤20000:=by omega
  refine Y9 (fun p:List PTok×Nat=>p.2≤z.size∧p.1.length≤p.2∧YB l z 0=p.1++YB l z p.2) (fun p=>z.size-p.2) (fun p=>.of [(1,.lit (.string z)),(2,.ptr 0 1 0 0),(6,.own 1),(7,.lit (.int .i64 p.2))] [some ⟨30,1,1,fun _=>[.sl 4 l.length (Zg l)]⟩,some ⟨88,3,p.1.length,Zr p.1⟩]) ⟨([],0),⟨by omega,by simp,by simp⟩,?_⟩ (fun p hp=>?_)
  ·refine Zx [0,1] (by simp) (by simp) (by simp) (by simp) trivial ?_ ?_
   ·simp [go_sem]
   ·simp [go_sem]
    exact cl
  ·obtain ⟨toks,f⟩:=p
   obtain ⟨hp1,hp2,hp3⟩:=hp
   simp only at hp1 hp2 hp3
   simp [go_sem]
   refine Yn (fun j:Nat=>f≤j∧j≤z.size∧f+run YH z f=j+run YH z j) (fun j=>z.size-j) (fun j=>.of [(1,.lit (.string z)),(2,.ptr 0 1 0 0),(6,.own 1),(7,.lit (.int .i64 j)),(8,.lit (.int .i64 f))] [some ⟨30,1,1,fun _=>[.sl 4 l.length (Zg l)]⟩,some ⟨88,3,toks.length,Zr toks⟩]) ⟨f,⟨by omega,by omega,by omega⟩,?_⟩ (fun j hj=>?_)
   ·simp [go_sem]
    exact ⟨cl,fun i _ c h=>.closed _ (Zs _ i c h)⟩
   ·obtain ⟨hj1,hj2,hj3⟩:=hj
    simp [go_sem]
    refine ⟨fun h=>⟨h,Zc (ZiH (Zh z j)) ?_ ?_⟩,fun h=>?_⟩
    ·simp [go_sem]
    ·simp [go_sem]
     refine ⟨fun e=>?_,fun e=>?_⟩
     ·exact ⟨j+1,⟨by omega,by omega,by rw [hj3,Wv h e];omega⟩,by omega,Zn (by omega),cl,fun i _ c h=>.closed _ (Zs _ i c h)⟩
     ·have hj4:j=f+run YH z f:=by rw [hj3,V0 h e];rfl
      have hlo:=Vk l z j
      have hle:=V3 l z j h
      refine ⟨fun e2=>absurd e2 (by omega),fun e2=>Zc (Zfx l hl z hz j h) ?_ ?_⟩
      ·simp [go_sem]
       exact Ze (by omega) cl
      ·simp [go_sem]
       refine Zq [21] (.q 0 <| .q 1 <| .q 2 <| .q 3 <| .q 4 <| .q 5 <| .q 6 <| .q 7 <| .q 9 <| .q 10 <| .q 11 <| .q 12 <| .q 13 <| .q 14 <| .q 15 <| .q 16 <| .q 17 <| .q 18 <| .or 8 (.q 19 <| .or 20 (.or 21 (.q 22 <| .done) (.nil)) (.nil)) (.nil)) (by kernel_rfl) ?_
       simp [go_sem]
       simp only [wrap_i64 (n:=(j:Int)+ZV l z j) (by omega),show ((j:Int)+ZV l z j).toNat=j+ZV l z j by omega]
       refine ⟨by omega,by omega,by omega,by omega,by omega,by omega,Zu (Zfy l hl (z.extract j (j+ZV l z j)) (by rw [ByteArray.size_extract];omega)) ?_ ?_⟩
       ·simp [go_sem]
        exact Ze (by omega) cl
       ·simp [go_sem]
        have hn:YB l z f=⟨Yd l (z.extract j (j+ZV l z j)),z.extract f j,z.extract j (j+ZV l z j)⟩::YB l z (j+ZV l z j):=Vl hj4 h
        refine ⟨by omega,by omega,toks++[⟨Yd l (z.extract j (j+ZV l z j)),z.extract f j,z.extract j (j+ZV l z j)⟩],j+ZV l z j,⟨by omega,by simp;omega,by rw [hp3,hn];simp⟩,by omega,?_⟩
        refine Zx [0,3] (by simp) (by simp) (by simp) (by simp) trivial ?_ ?_
        ·simp [go_sem]
         rw [wrap_i64 (by omega)]
        ·simp [go_sem]
         exact ⟨cl,.inl fun i hi=>⟨Hp _ _ _ _ _ hi,fun c h=>Zs _ i c h⟩⟩
    ·have hj5:j=z.size:=by omega
     subst hj5
     have hj4:z.size=f+run YH z f:=by rw [hj3,Vd (by omega)];rfl
     refine ⟨fun e2=>⟨hp1,by omega,by omega,by omega,?_,hok⟩,fun e2=>absurd rfl e2⟩
     have e3:X6 l z=toks++[⟨7,z.extract f z.size,⟨#[]⟩⟩]:=by
      simp only [X6,hok,if_true,hp3]
      rw [WK hj4 (by omega)]
     rw [e3]
     refine obsSame_one.mpr ⟨⟨88,3,toks.length+1,Zr (toks++[⟨7,z.extract f z.size,⟨#[]⟩⟩])⟩,⟨rfl,rfl,rfl,fun i hi=>?_⟩,by simp⟩
     exact ⟨Hp _ _ _ _ _ hi,rfl⟩
def XD (l:List POp) (z:ByteArray):Bool:=(List.range l.length).any fun j=>decide ((Zm l j).text=z)
def Wz (l:List POp) (z:ByteArray):Nat→Int×Nat
 |0=>(6,1)
 |k+1=>if XD l (z.extract 0 (k+1)) then (3,k+1) else Wz l z k
def U7 (l:List POp) (z:ByteArray):Int×Nat:=
 if X7 (Zh z 0) then (1,1+run X7 z 1) else if Uq (Zh z 0) then (2,1+run ZZ z 1) else if Zh z 0=40 then (4,1) else if Zh z 0=41 then (5,1) else Wz l z (if z.size<16 then z.size else 16)
theorem XC {z:ByteArray} {i e j:Nat} (he:e≤z.size) (hj:i+j<e):Zh (z.extract i e) j=Zh z (i+j):=by
 unfold Zh
 have h1:j<(z.extract i e).size:=by rw [ByteArray.size_extract];omega
 rw [dif_pos h1,dif_pos (show i+j<z.size by omega)]
 rw [ByteArray.getElem_extract]
theorem V6 (z:ByteArray) (i k:Nat) (h:i+k≤z.size):(z.extract i z.size).extract 0 k=z.extract i (i+k):=by
 rw [ByteArray.extract_extract]
 congr 1
 omega
theorem WG {z:ByteArray} {i n:Nat} (h:i+n≤z.size):(z.extract i (i+n)).size=n:=by rw [ByteArray.size_extract];omega
theorem KJ (p:Int→Bool) (z:ByteArray) (i:Nat) (j:Nat):run p (z.extract i z.size) j=run p z (i+j):=by
 by_cases h:i+j<z.size
 ·have h1:j<(z.extract i z.size).size:=by rw [ByteArray.size_extract];omega
  have e:=XC (z:=z) (i:=i) (e:=z.size) (j:=j) (by omega) h
  cases hp:p (Zh z (i+j))
  ·rw [V0 h1 (by rw [e];exact hp),V0 h hp]
  ·rw [Wv h1 (by rw [e];exact hp),Wv h hp,KJ p z i (j+1)];rfl
 ·rw [Vd (by rw [ByteArray.size_extract];omega),Vd (by omega)]
termination_by z.size-(i+j)
theorem Zat (p:Int→Bool) (z:ByteArray) (j:Nat) (k:Nat) (h:k<run p z j):p (Zh z (j+k))=true:=by
 by_cases h1:j<z.size
 ·cases hp:p (Zh z j)
  ·rw [V0 h1 hp] at h;omega
  ·cases k with
   |zero=>exact hp
   |succ k=>
    rw [Wv h1 hp] at h
    have:=Zat p z (j+1) k (by omega)
    rw [show j+(k+1)=j+1+k by omega];exact this
 ·rw [Vd (by omega)] at h;omega
termination_by z.size-j
theorem ZeJ (p:Int→Bool) (z:ByteArray) (j:Nat) (h:j+run p z j<z.size):p (Zh z (j+run p z j))=false:=by
 have h1:j<z.size:=by omega
 cases hp:p (Zh z j)
 ·rw [V0 h1 hp];exact hp
 ·rw [Wv h1 hp] at h ⊢
  have:=ZeJ p z (j+1) (by omega)
  rw [show j+(1+run p z (j+1))=j+1+run p z (j+1) by omega];exact this
termination_by z.size-j
theorem ZeL {p q:Int→Bool} (hpq:∀ c,p c=true→q c=true) (z:ByteArray) (j:Nat):run p z j≤run q z j:=by
 by_cases h1:j<z.size
 ·cases hp:p (Zh z j)
  ·rw [V0 h1 hp];omega
  ·rw [Wv h1 hp,Wv h1 (hpq _ hp)]
   have:=ZeL hpq z (j+1)
   omega
 ·rw [Vd (by omega)];omega
termination_by z.size-j
theorem Zgr:(List.range 256).all (fun n=>!XT n||!(X7 n||Uq n||(n:Int)==40||(n:Int)==41))=true:=by kernel_rfl
theorem Zfl:(List.range 256).all (fun n=>!X7 n||!(Uq n||(n:Int)==40||(n:Int)==41))=true:=by kernel_rfl
theorem ZdN:(List.range 256).all (fun n=>!Uq n||!((n:Int)==40||(n:Int)==41))=true:=by kernel_rfl
theorem Zbb {f:Int→Bool} (h:(List.range 256).all (fun n=>f n)=true) {c:Int} (hc:0≤c∧c<256):f c=true:=by
 obtain ⟨n,rfl⟩:∃ n:Nat,c=n:=⟨c.toNat,by omega⟩
 exact List.all_eq_true.1 h n (List.mem_range.2 (by omega))
theorem Zay {c:Int} (hc:0≤c∧c<256) (h:X7 c=true∨Uq c=true∨c=40∨c=41):XT c=false:=by
 have:=Zbb (f:=fun n=>!XT n||!(X7 n||Uq n||n==40||n==41)) Zgr hc
 simp at this
 rcases h with h|h|rfl|rfl<;>simp_all
theorem Zk6 {c:Int} (hc:0≤c∧c<256) (h:X7 c=true):Uq c=false∧c≠40∧c≠41:=by
 have:=Zbb (f:=fun n=>!X7 n||!(Uq n||n==40||n==41)) Zfl hc
 simp [h] at this
 exact ⟨this.1.1,this.1.2,this.2⟩
theorem Zk5 {c:Int} (hc:0≤c∧c<256) (h:Uq c=true):c≠40∧c≠41:=by
 have:=Zbb (f:=fun n=>!Uq n||!(n==40||n==41)) ZdN hc
 simp [h] at this
 exact this
theorem Zhy {s:ByteArray} (h0:0<s.size) (h:X7 (Zh s 0)=false):VE s=false:=by
 unfold VE;rw [X5 h0 h];rfl
theorem Zhz {s:ByteArray} (h0:0<s.size) (h:Uq (Zh s 0)=false):Vx s=false:=by
 unfold Vx;rw [X5 h0 (by simp [X9,h])];rfl
theorem HV {s:ByteArray} {b:UInt8} (h:Zh s 0≠b.toNat):s≠⟨#[b]⟩:=by
 rintro rfl
 exact h rfl
theorem ZfH {s:ByteArray} {b:UInt8} (h1:s.size=1) (h:Zh s 0=b.toNat):s=⟨#[b]⟩:=by
 obtain ⟨⟨l⟩⟩:=s
 match l,h1 with
 |[x],_=>
  have h2:((x.toNat:Nat):Int)=b.toNat:=h
  have h3:x=b:=UInt8.toNat_inj.1 (by omega)
  rw [h3]
theorem ZcR {l:List POp} (hok:Wr l=true) (s:ByteArray):QT l s=XD l s:=by
 have hop:∀ j,j<l.length→Yx (Zm l j)=true:=by simpa [Wr] using hok
 rw [Bool.eq_iff_iff]
 simp only [QT,ZQ,XD,Bool.or_eq_true,List.any_eq_true,List.mem_range,Bool.and_eq_true,decide_eq_true_eq]
 constructor
 ·rintro ((⟨j,h1,h2,_⟩|⟨j,h1,h2,_⟩)|⟨j,h1,h2,_⟩)<;>exact ⟨j,h1,h2⟩
 ·rintro ⟨j,h1,h2⟩
  have hk:(Zm l j).kind=1∨(Zm l j).kind=2∨(Zm l j).kind=3:=by
   have:=hop j h1
   simp [Yx] at this
   omega
  rcases hk with h|h|h
  ·exact .inl (.inl ⟨j,h1,h2,h⟩)
  ·exact .inl (.inr ⟨j,h1,h2,h⟩)
  ·exact .inr ⟨j,h1,h2,h⟩
theorem JM {l:List POp} (hok:Wr l=true) {s:ByteArray} (h0:0<s.size) (h:XT (Zh s 0)=false):XD l s=false:=by
 have hop:∀ j,j<l.length→Yx (Zm l j)=true:=by simpa [Wr] using hok
 simp only [XD,List.any_eq_false,List.mem_range,decide_eq_true_eq]
 rintro j hj rfl
 have:=hop j hj
 simp only [Yx,Kg,Za2,Bool.and_eq_true,List.all_eq_true,List.mem_range] at this
 have:=this.1.1.1 0 h0
 rw [h] at this
 cases this
theorem Zdo {l:List POp} (hok:Wr l=true) {s:ByteArray} (h0:s.size=0):XD l s=false:=by
 have hop:∀ j,j<l.length→Yx (Zm l j)=true:=by simpa [Wr] using hok
 simp only [XD,List.any_eq_false,List.mem_range,decide_eq_true_eq]
 rintro j hj rfl
 have:=hop j hj
 simp only [Yx,Kg,Bool.and_eq_true,decide_eq_true_eq] at this
 omega
theorem Zbo {l:List POp} {z:ByteArray} {i m:Nat} (h1:1≤m) (hm:m=1∨Yd l (z.extract i (i+m))≠6):∀ N,m≤N→(∀ n,m<n→n≤N→Yd l (z.extract i (i+n))=6)→Wa l z i N=m
 |0,h,_=>by omega
 |N+1,h,h2=>by
  unfold Wa
  by_cases e:m=N+1
  ·subst e
   split
   ·omega
   ·rename_i hN
    rw [if_pos (hm.resolve_left (by omega))]
  ·rw [if_neg (by omega),if_neg (by rw [h2 (N+1) (by omega) (by omega)];simp)]
   exact Zbo h1 hm N (by omega) fun n a b=>h2 n a (by omega)
theorem Hy {l:List POp} {s:ByteArray}:∀ K,(∀ k,k≤K→XD l (s.extract 0 k)=false)→Wz l s K=(6,1)
 |0,_=>rfl
 |K+1,h=>by
  unfold Wz
  rw [if_neg (by rw [h (K+1) (by omega)];simp)]
  exact Hy K fun k hk=>h k (by omega)
theorem Hz {l:List POp} {z:ByteArray} {i:Nat} (hk:∀ n,1≤n→i+n≤z.size→Yd l (z.extract i (i+n))=if XD l (z.extract i (i+n)) then 3 else 6):∀ N,i+(N+1)≤z.size→Wz l (z.extract i z.size) (N+1)=(Yd l (z.extract i (i+Wa l z i (N+1))),Wa l z i (N+1))
 |0,h=>by
  have e:Wa l z i (0+1)=1:=by simp [Wa]
  rw [e,hk 1 (by omega) (by omega)]
  simp only [Wz,V6 z i (0+1) (by omega)]
  cases XD l (z.extract i (i+(0+1)))<;>rfl
 |N+1,h=>by
  have ih:=Hz hk N (by omega)
  have h1:=hk (N+1+1) (by omega) (by omega)
  unfold Wz
  rw [V6 z i (N+1+1) (by omega)]
  cases ht:XD l (z.extract i (i+(N+1+1)))
  ·rw [ht] at h1
   have e:Wa l z i (N+1+1)=Wa l z i (N+1):=by
    conv=>lhs;unfold Wa
    rw [if_neg (by omega),if_neg (by rw [h1];simp)]
   rw [e,←ih];rfl
  ·rw [ht] at h1
   have e:Wa l z i (N+1+1)=N+1+1:=by
    conv=>lhs;unfold Wa
    rw [if_neg (by omega),if_pos (by rw [h1];decide)]
   rw [e,h1];rfl
theorem Zj6 (l:List POp) (hok:Wr l=true) (z:ByteArray) (i:Nat) (hi:i<z.size):U7 l (z.extract i z.size)=(Yd l (z.extract i (i+ZV l z i)),ZV l z i):=by
 have hr:=HX z i
 have e0:Zh (z.extract i z.size) 0=Zh z i:=XC (by omega) (by omega)
 have b0:∀ n,1≤n→i+n≤z.size→Zh (z.extract i (i+n)) 0=Zh z i:=fun n h1 h2=>XC (by omega) (by omega)
 have hs:(z.extract i z.size).size=z.size-i:=by rw [ByteArray.size_extract];omega
 unfold U7
 rw [e0,KJ,KJ,hs]
 cases hd:X7 (Zh z i) with
 |true=>
  obtain ⟨a1,a2,a3⟩:=Zk6 hr hd
  have a4:=Zay hr (.inl hd)
  have hN:YC z i=1+run ZZ z (i+1):=by simp [YC,a4,ZZ,hd]
  have hle:=ZeL (p:=X7) (q:=ZZ) (fun c h=>by simp [ZZ,h]) z (i+1)
  have hrl:=UC z i hi
  have kd:∀ n,1≤n→i+n≤z.size→Yd l (z.extract i (i+n))=if VE (z.extract i (i+n)) then 1 else 6:=by
   intro n h1 h2
   have hsz:=WG h2
   have q1:Vx (z.extract i (i+n))=false:=Zhz (by omega) (by rw [b0 n h1 h2];exact a1)
   have q2:z.extract i (i+n)≠⟨#[40]⟩:=HV (by rw [b0 n h1 h2];exact a2)
   have q3:z.extract i (i+n)≠⟨#[41]⟩:=HV (by rw [b0 n h1 h2];exact a3)
   have q4:QT l (z.extract i (i+n))=false:=by rw [ZcR hok];exact JM hok (by omega) (by rw [b0 n h1 h2];exact a4)
   simp only [Yd,q1,q4,if_neg q2,if_neg q3]
   rfl
  have hlong:ZV l z i=1+run X7 z (i+1):=by
   unfold ZV
   have hnum:Yd l (z.extract i (i+(1+run X7 z (i+1))))=1:=by
    rw [kd _ (by omega) (by omega),if_pos]
    have hsz:=WG (z:=z) (i:=i) (n:=1+run X7 z (i+1)) (by omega)
    simp only [VE,Bool.and_eq_true,decide_eq_true_eq]
    refine ⟨VL fun j hj=>?_,by omega⟩
    rw [hsz] at hj
    rw [XC (by omega) (by omega)]
    cases j with
    |zero=>exact hd
    |succ j=>
     have:=Zat X7 z (i+1) j (by omega)
     rw [show i+(j+1)=i+1+j by omega];exact this
   refine Zbo (by omega) (.inr (by rw [hnum];decide)) _ (by omega) fun n h1 h2=>?_
   rw [kd n (by omega) (by omega),if_neg]
   have hst:=ZeJ X7 z (i+1) (by omega)
   have hsz:=WG (z:=z) (i:=i) (n:=n) (by omega)
   unfold VE
   rw [X5 (i:=1+run X7 z (i+1)) (by omega) (by rw [XC (by omega) (by omega),show i+(1+run X7 z (i+1))=i+1+run X7 z (i+1) by omega];exact hst)]
   simp
  rw [if_pos rfl,hlong]
  refine Prod.ext ?_ rfl
  rw [kd _ (by omega) (by omega),if_pos]
  have hsz:=WG (z:=z) (i:=i) (n:=1+run X7 z (i+1)) (by omega)
  simp only [VE,Bool.and_eq_true,decide_eq_true_eq]
  refine ⟨VL fun j hj=>?_,by omega⟩
  rw [hsz] at hj
  rw [XC (by omega) (by omega)]
  cases j with
  |zero=>exact hd
  |succ j=>
   have:=Zat X7 z (i+1) j (by omega)
   rw [show i+(j+1)=i+1+j by omega];exact this
 |false=>
  rw [if_neg (by simp)]
  cases hl:Uq (Zh z i) with
  |true=>
   obtain ⟨a2,a3⟩:=Zk5 hr hl
   have a4:=Zay hr (.inr (.inl hl))
   have hN:YC z i=1+run ZZ z (i+1):=by simp [YC,a4,ZZ,hl]
   have hrl:=UC z i hi
   have hk:Yd l (z.extract i (i+(1+run ZZ z (i+1))))=2:=by
    have hsz:=WG (z:=z) (i:=i) (n:=1+run ZZ z (i+1)) (by omega)
    have q1:VE (z.extract i (i+(1+run ZZ z (i+1))))=false:=Zhy (by omega) (by rw [b0 _ (by omega) (by omega)];exact hd)
    have q2:Vx (z.extract i (i+(1+run ZZ z (i+1))))=true:=by
     simp only [Vx,Bool.and_eq_true,decide_eq_true_eq]
     refine ⟨VL fun j hj=>?_,by omega⟩
     rw [hsz] at hj
     unfold X9
     rw [XC (by omega) (by omega)]
     cases j with
     |zero=>simp [hl]
     |succ j=>
      have:=Zat ZZ z (i+1) j (by omega)
      rw [show i+(j+1)=i+1+j by omega]
      simpa [ZZ] using this
    simp only [Yd,q1,q2];rfl
   have hlong:ZV l z i=1+run ZZ z (i+1):=by
    unfold ZV
    rw [hN]
    exact Zbo (by omega) (.inr (by rw [hk];decide)) _ (by omega) fun n h1 h2=>by omega
   rw [if_pos rfl,hlong,hk]
  |false=>
   rw [if_neg (by simp)]
   have kd:∀ n,1≤n→i+n≤z.size→Yd l (z.extract i (i+n))=if z.extract i (i+n)=⟨#[40]⟩ then 4 else if z.extract i (i+n)=⟨#[41]⟩ then 5 else if XD l (z.extract i (i+n)) then 3 else 6:=by
    intro n h1 h2
    have hsz:=WG h2
    have q1:VE (z.extract i (i+n))=false:=Zhy (by omega) (by rw [b0 n h1 h2];exact hd)
    have q2:Vx (z.extract i (i+n))=false:=Zhz (by omega) (by rw [b0 n h1 h2];exact hl)
    simp only [Yd,q1,q2,ZcR hok]
    rfl
   have reach1:XT (Zh z i)=false→YC z i=1:=fun h=>by simp [YC,h,ZZ,hd,hl]
   have long1:XT (Zh z i)=false→ZV l z i=1:=fun h=>by rw [ZV,reach1 h];simp [Wa]
   by_cases h40:Zh z i=40
   ·rw [if_pos h40,long1 (Zay hr (.inr (.inr (.inl h40)))),kd 1 (by omega) (by omega),if_pos (ZfH (WG (by omega)) (by rw [b0 1 (by omega) (by omega)];exact h40))]
   ·rw [if_neg h40]
    by_cases h41:Zh z i=41
    ·rw [if_pos h41,long1 (Zay hr (.inr (.inr (.inr h41)))),kd 1 (by omega) (by omega),if_neg (HV (by rw [b0 1 (by omega) (by omega)];exact h40)),if_pos (ZfH (WG (by omega)) (by rw [b0 1 (by omega) (by omega)];exact h41))]
    ·rw [if_neg h41]
     have kd':∀ n,1≤n→i+n≤z.size→Yd l (z.extract i (i+n))=if XD l (z.extract i (i+n)) then 3 else 6:=by
      intro n h1 h2
      rw [kd n h1 h2,if_neg (HV (by rw [b0 n h1 h2];exact h40)),if_neg (HV (by rw [b0 n h1 h2];exact h41))]
     cases hsg:XT (Zh z i) with
     |true=>
      have hN:YC z i=if z.size-i<16 then z.size-i else 16:=by simp [YC,hsg]
      have hrl:=UC z i hi
      unfold ZV
      rw [←hN]
      obtain ⟨N,hN2⟩:∃ N,YC z i=N+1:=⟨YC z i-1,by omega⟩
      rw [hN2]
      exact Hz kd' N (by omega)
     |false=>
      rw [long1 hsg,kd' 1 (by omega) (by omega),JM hok (by rw [WG (by omega)];omega) (by rw [b0 1 (by omega) (by omega)];exact hsg)]
      refine Hy _ fun k hk=>?_
      have hk2:k≤z.size-i:=by split at hk<;>omega
      rw [V6 z i k (by omega)]
      cases k with
      |zero=>exact Zdo hok (by rw [WG (by omega)])
      |succ k=>exact JM hok (by rw [WG (by omega)];omega) (by rw [b0 _ (by omega) (by omega)];exact hsg)
open Go.Maps (Keyed)
def H1 (l:List POp) (i:Nat) (es:List (Value×Value)):Prop:=(∀ j,j<i→(mget es (WH (Zm l j))).isSome=true)∧∀ x v,mget es x=some v→∃ j,j<i∧x=WH (Zm l j)∧v=opV (Zm l j)
def Hb (l:List POp) (i:Nat) (es:List (Value×Value)):Prop:=(∀ j,j<i→(mget es (.string (Zm l j).text)).isSome=true)∧∀ x v,mget es x=some v→(∃ j,j<i∧x=.string (Zm l j).text)∧∃ n,v=.int .i64 n
theorem ZiN {l:List POp} {i:Nat} {es:List (Value×Value)} (h:H1 l i es):H1 l (i+1) (mput es (WH (Zm l i)) (opV (Zm l i))):=by
 refine ⟨fun j hj=>?_,fun x v hv=>?_⟩
 ·rw [YD]
  split
  ·rfl
  ·rename_i hne
   rcases Nat.lt_succ_iff_lt_or_eq.mp hj with hj|rfl
   ·exact h.1 j hj
   ·exact absurd rfl hne
 ·rw [YD] at hv
  split at hv
  ·rename_i e
   cases hv
   exact ⟨i,by omega,e.symm,rfl⟩
  ·obtain ⟨j,hj,e⟩:=h.2 x v hv
   exact ⟨j,by omega,e⟩
theorem ZeB {l:List POp} {i:Nat} {es:List (Value×Value)} (h:Hb l i es) (n:Int):Hb l (i+1) (mput es (.string (Zm l i).text) (.int .i64 n)):=by
 refine ⟨fun j hj=>?_,fun x v hv=>?_⟩
 ·rw [YD]
  split
  ·rfl
  ·rename_i hne
   rcases Nat.lt_succ_iff_lt_or_eq.mp hj with hj|rfl
   ·exact h.1 j hj
   ·exact absurd rfl hne
 ·rw [YD] at hv
  split at hv
  ·rename_i e
   cases hv
   exact ⟨⟨i,by omega,e.symm⟩,n,rfl⟩
  ·obtain ⟨⟨j,hj,e⟩,m⟩:=h.2 x v hv
   exact ⟨⟨j,by omega,e⟩,m⟩
theorem Jo (l:List POp) (hl:l.length≤9223372036854775807) (hw:YT l):VProc Tryz.prog 43 [.agg [.sl 4 l.length (Zg l)]] [] [] (fun av mem maps=>∃ b1 b2 e1 e2,av=.agg [.lit (.map (some b1)),.lit (.map (some b2))]∧mem=[]∧maps=[(b2,⟨9,e2⟩),(b1,⟨151,e1⟩)]∧b1≠b2∧H1 l l.length e1∧Hb l l.length e2):=by
 have cl:∀ (i:Nat) (c:AV),i<l.length→c∈Zg l i→Closed c:=fun i c _ h=>ZK l i c h
 refine Zl Tryz.func43 (by kernel_rfl) rfl (by simp [Tryz.ntmps43]) ?_;simp only [Tryz.ntmps43,Tryz.results43];simp [go_sem]
 refine fun b1 b2 hb=>⟨by omega,?_⟩
 have hb':¬b2=b1:=fun e=>hb e.symm
 refine Yn (fun p:Nat×List (Value×Value)×List (Value×Value)=>p.1≤l.length∧H1 l p.1 p.2.1∧Hb l p.1 p.2.2) (fun p=>l.length-p.1)
  (fun p=>⟨[(2,.ptr 1 2 0 0),(3,.ptr 2 2 0 0),(10,.sl 4 l.length (Zg l)),(11,.lit (.int .i64 l.length)),(12,.lit (.int .i64 p.1))],
   [none,some ⟨70,2,1,fun _=>[.lit (.map none),.lit (.map none)]⟩,some ⟨70,2,1,fun _=>[.lit (.map (some b1)),.lit (.map (some b2))]⟩],[(b2,⟨9,p.2.2⟩),(b1,⟨151,p.2.1⟩)],0⟩) ⟨(0,[],[]),⟨by omega,⟨by simp,by simp [mget]⟩,by simp,by simp [mget]⟩,?_⟩ (fun p hp=>?_)
 ·simp [go_sem]
  exact ⟨fun e=>hb e.symm,cl⟩
 ·obtain ⟨i,e1,e2⟩:=p
  simp only at hp
  simp [go_sem,ZU]
  refine ⟨fun h=>⟨h,Zq [5] (.q 0 <| .q 1 <| .q 2 <| .q 4 <| .or 3 (.or 5 (.done) (.nil)) (.nil)) (by kernel_rfl) ?_⟩,fun h=>?_⟩
  ·simp [go_sem]
   refine JJ (Gw (Zm l i)) ?_ ?_ ?_
   ·simp [go_sem,POp.cells]
   ·simp [go_sem]
   ·simp [go_sem,hb,hb']
    refine Xj U4 (KV (hw i h)) ?_
    simp [go_sem,hb,hb']
    simp only [KM,ZjI]
    refine Xk Y7 (XL (hw i h)) _ Hd ?_
    have fin:∀ n:Int,∃ j es1 es2,(j≤l.length∧H1 l j es1∧Hb l j es2)∧l.length-j<l.length-i∧(mput e2 (.string (Zm l i).text) (.int .i64 n)=es2∧mput e1 (WH (Zm l i)) (opV (Zm l i))=es1)∧((∀ (i:Nat) (c:AV),i<l.length→c∈Zg l i→Closed c)∧IntKind.i64.wrap ((i:Int)+1)=j):=fun n=>
     ⟨i+1,_,_,⟨by omega,ZiN hp.2.1,ZeB hp.2.2 n⟩,by omega,⟨rfl,rfl⟩,cl,Zn (by omega)⟩
    cases hm:mget e2 (.string (Zm l i).text) with
    |none=>
     simp [go_sem,hb,hb']
     refine Xj Y7 (XL (hw i h)) ?_
     simp [go_sem,hb,hb']
     exact fin _
    |some v=>
     obtain ⟨_,n,rfl⟩:=hp.2.2.2 _ _ hm
     simp [go_sem,hb,hb']
     refine Xj Y7 (XL (hw i h)) ?_
     simp [go_sem,hb,hb']
     exact fin _
  ·have hi:i=l.length:=by omega
   subst hi
   refine ⟨rfl,[],[],by simp,by simp,by simp [go_sem],by simp [go_sem],by simp [go_sem],?_⟩
   simp [go_sem]
   exact ⟨b1,b2,⟨rfl,rfl⟩,e1,e2,⟨⟨rfl,rfl⟩,rfl,rfl⟩,hb,hp.2⟩
theorem Zgn {l:List POp} {es:List (Value×Value)} (h:Hb l l.length es) (z:ByteArray):(mget es (.string z)).isSome=XD l z:=by
 cases e:XD l z with
 |true=>
  simp only [XD,List.any_eq_true,List.mem_range,decide_eq_true_eq] at e
  obtain ⟨j,hj,rfl⟩:=e
  exact h.1 j hj
 |false=>
  rw [Bool.eq_false_iff]
  intro h1
  obtain ⟨v,hv⟩:=Option.isSome_iff_exists.1 h1
  obtain ⟨⟨j,hj,e2⟩,_⟩:=h.2 _ v hv
  simp only [XD,List.any_eq_false,List.mem_range,decide_eq_true_eq] at e
  simp only [Value.string.injEq] at e2
  exact e j hj e2.symm
theorem Zli (l:List POp) (b1 b2:Nat) (es e1:List (Value×Value)) (h:Hb l l.length es) (hb:¬b1=b2) (z:ByteArray) (hz:0<z.size∧z.size≤1048576):VProc Tryz.prog 93 [.agg [.lit (.map (some b1)),.lit (.map (some b2))],.lit (.string z)] [] [(b2,⟨9,es⟩)] (fun av mem maps=>av=.tup [.lit (.int .i64 (U7 l z).1),.lit (.int .i64 (U7 l z).2)]∧mem=[]∧maps=[(b2,⟨9,es⟩)]):=by
 refine Zl Tryz.func93 (by kernel_rfl) rfl (by simp [Tryz.ntmps93]) ?_;simp only [Tryz.ntmps93,Tryz.results93];simp [go_sem]
 have fin:∀ (t:List (Nat×AV)) (m:List (Option Ob)) (k:Int) (n:Nat),U7 l z=(k,n)→VO [(b2,⟨9,es⟩)] (fun av mem maps=>av=.tup [.lit (.int .i64 (U7 l z).1),.lit (.int .i64 (U7 l z).2)]∧mem=[]∧maps=[(b2,⟨9,es⟩)]) ⟨t,m,[(b2,⟨9,es⟩)],0⟩ (.tup [.lit (.int .i64 k),.lit (.int .i64 n)]):=by
  intro t m k n h3
  refine ⟨rfl,[],[],by simp,by simp,by simp [go_sem],by simp [go_sem],by simp [go_sem],?_⟩
  simp [go_sem,h3]
 refine ⟨hz.1,Zc (Jn (Zh z 0)) ?_ ?_⟩
 ·simp [go_sem]
 ·simp [go_sem]
  refine ⟨fun e1=>?_,fun e1=>Zc (Kv (Zh z 0)) ?_ ?_⟩
  ·refine Yn (fun n:Nat=>1≤n∧n≤z.size∧1+run X7 z 1=n+run X7 z n) (fun n=>z.size-n) (fun n=>⟨[(1,.lit (.string z)),(6,.lit (.int .i64 n))],[],[(b2,⟨9,es⟩)],0⟩) ⟨1,⟨by omega,by omega,rfl⟩,?_⟩ (fun n hn=>?_)
   ·simp [go_sem]
   ·simp [go_sem]
    refine ⟨fun h1=>⟨h1,Zc (Jn (Zh z n)) ?_ ?_⟩,fun h1=>?_⟩
    ·simp [go_sem]
    ·simp [go_sem]
     refine ⟨fun e=>⟨n+1,⟨by omega,by omega,?_⟩,by omega,Zn (by omega)⟩,fun e=>fin _ _ _ _ ?_⟩
     ·rw [hn.2.2,Wv h1 e];omega
     ·simp only [U7,e1,if_true,hn.2.2,V0 h1 e];rfl
    ·refine fin _ _ _ _ ?_
     simp only [U7,e1,if_true,hn.2.2,Vd (show z.size≤n by omega)];rfl
  ·simp [go_sem]
  ·simp [go_sem]
   refine ⟨fun e2=>?_,fun e2=>⟨fun e3=>fin _ _ _ 1 ?_,fun e3=>⟨fun e4=>fin _ _ _ 1 ?_,fun e4=>?_⟩⟩⟩
   ·refine Yn (fun n:Nat=>1≤n∧n≤z.size∧1+run ZZ z 1=n+run ZZ z n) (fun n=>z.size-n) (fun n=>⟨[(1,.lit (.string z)),(6,.lit (.int .i64 n))],[],[(b2,⟨9,es⟩)],0⟩) ⟨1,⟨by omega,by omega,rfl⟩,?_⟩ (fun n hn=>?_)
    ·simp [go_sem]
    ·simp [go_sem]
     have done_:n<z.size→ZZ (Zh z n)=true→∃ m:Nat,(1≤m∧m≤z.size∧1+run ZZ z 1=m+run ZZ z m)∧z.size-m<z.size-n∧IntKind.i64.wrap ((n:Int)+1)=m:=fun h1 e=>⟨n+1,⟨by omega,by omega,by rw [hn.2.2,Wv h1 e];omega⟩,by omega,Zn (by omega)⟩
     refine ⟨fun h1=>⟨h1,Zc (Kv (Zh z n)) ?_ ?_⟩,fun h1=>?_⟩
     ·simp [go_sem]
     ·cases eL:Uq (Zh z n) with
      |true=>
       simp [go_sem]
       exact done_ h1 (by simp [ZZ,eL])
      |false=>
       simp [go_sem]
       refine ⟨h1,Zc (Jn (Zh z n)) ?_ ?_⟩
       ·simp [go_sem]
       ·simp [go_sem]
        refine ⟨fun e=>done_ h1 (by simp [ZZ,e]),fun e=>fin _ _ _ _ ?_⟩
        simp only [U7,e1,e2,if_true,hn.2.2,V0 h1 (show ZZ (Zh z n)=false by simp [ZZ,eL,e])];rfl
     ·refine fin _ _ _ _ ?_
      simp only [U7,e1,e2,if_true,hn.2.2,Vd (show z.size≤n by omega)];rfl
   ·simp only [U7,e1,e2,e3];rfl
   ·simp only [U7,e1,e2,e3,e4];rfl
   ·have hf:∀ k:Nat,Wz l z (if z.size<16 then z.size else 16)=Wz l z k→U7 l z=Wz l z k:=fun k hk=>by
     simp only [U7,e1,e2,if_neg e3,if_neg e4,hk];rfl
    refine Yn (fun k:Nat=>k≤z.size∧Wz l z (if z.size<16 then z.size else 16)=Wz l z k) (fun k=>k) (fun k=>⟨[(1,.lit (.string z)),(2,.ptr 0 2 0 0),(8,.lit (.int .i64 k))],[some ⟨70,2,1,fun _=>[.lit (.map (some b1)),.lit (.map (some b2))]⟩],[(b2,⟨9,es⟩)],0⟩) ⟨_,⟨?_,rfl⟩,?_⟩ (fun k hk=>?_)
    ·split<;>omega
    ·simp [go_sem]
     split<;>split<;>omega
    ·simp [go_sem]
     refine ⟨fun h1=>Zq [] (.q 0 <| .q 1 <| .q 2 <| .q 3 <| .q 4 <| .q 5 <| .q 6 <| .q 7 <| .q 8 <| .q 9 <| .q 10 <| .done) (by kernel_rfl) ?_,fun h1=>?_⟩
     ·simp [go_sem]
      refine ⟨hk.1,?_⟩
      refine Xk Y7 (XL (by rw [ByteArray.size_extract];simp only [maxLen];omega)) _ Hd ?_
      simp [go_sem,Zgn h]
      obtain ⟨m,rfl⟩:∃ m,k=m+1:=⟨k-1,by omega⟩
      cases ht:XD l (z.extract 0 (m+1)) with
      |true=>
       simp [go_sem]
       refine fin _ _ 3 (m+1) ?_
       rw [hf _ hk.2]
       simp only [Wz,ht,if_true]
      |false=>
       simp [go_sem]
       refine ⟨m,⟨by omega,?_⟩,by omega,wrap_i64 (by omega)⟩
       rw [hk.2]
       simp only [Wz,ht]
       rfl
     ·subst h1
      refine fin _ _ 6 1 ?_
      rw [hf _ hk.2];rfl
end Go.Proofs.YtjdmmhcogmepaaaGreatDoor.V
namespace Go.Proofs.YtjdmmhcogmepaaaGreatDoor.V
open Go.RowKit
def YO (l:List Int) (i:Nat):Int:=l.getD i 0
def ZA (l:List Int) (i:Nat):List AV:=[.lit (.int .i64 (YO l i))]
theorem Z7 (l:List Int) (i:Nat):ZA l i=[.lit (.int .i64 (YO l i))]:=rfl
theorem Yp (l:List Int) (i:Nat) (c:AV) (h:c∈ZA l i):Closed c:=by
 simp [ZA] at h
 subst h
 exact .lit _
def Ye (l:List POp) (t:List PTok):Nat→Bool
 |0=>false
 |i+1=>decide ((Zj t i).kind=1)||decide ((Zj t i).kind=2)||decide ((Zj t i).kind=5)||(decide ((Zj t i).kind=3)&&Ye l t i&&ZQ l (Zj t i).text 3)
def ZJ (t:List PTok):Nat→Int
 |0=>0
 |i+1=>ZJ t i+(if (Zj t i).kind=4 then 1 else 0)-(if (Zj t i).kind=5 then 1 else 0)
theorem K8 (t:List PTok):∀ i:Nat,-(i:Int)≤ZJ t i∧ZJ t i≤i
 |0=>by simp [ZJ]
 |i+1=>by
  have:=K8 t i
  simp only [ZJ]
  split<;>split<;>omega
def ZI (l:List POp) (t:List PTok) (i:Nat) (b:Bool):Int:=
 if b=false then
  if (Zj t i).kind=1∨(Zj t i).kind=2∨(Zj t i).kind=4 then 0
  else if (Zj t i).kind=3∧ZQ l (Zj t i).text 1=true then 1 else -1
 else if (Zj t i).kind=3∧ZQ l (Zj t i).text 2=true then 2
 else if (Zj t i).kind=3∧ZQ l (Zj t i).text 3=true then 3
 else if (Zj t i).kind=5∧0<ZJ t i then 0
 else if (Zj t i).kind=7∧ZJ t i=0∧i+1=t.length then 0 else -1
def YA (l:List POp) (t:List PTok) (n:Nat):List Int:=(List.range n).map fun i=>ZI l t i (Ye l t i)
def Wp (f:Nat→Bool) (i:Nat):List AV:=[.lit (.bool (f i))]
theorem WY (f:Nat→Bool) (i:Nat):Wp f i=[.lit (.bool (f i))]:=rfl
theorem XU (f:Nat→Bool) (i:Nat) (c:AV) (h:c∈Wp f i):Closed c:=by
 simp [Wp] at h
 subst h
 exact .lit _
@[go_sem] theorem boolOne (f:Nat→Bool) (i:Nat):(Wp f i).all XW=true:=rfl
theorem Zfw (t:List PTok) (ht:t.length≤9223372036854775807) (n:Nat) (hn:n≤t.length) (hn2:n≤1048576):VFun Tryz.prog 136 [.sl 3 t.length (Zr t),.lit (.int .i64 n)] (fun av obs=>obs=[]∧av=.lit (.int .i64 (ZJ t n))):=by
 have cl:∀ (i:Nat) (c:AV),i<t.length→c∈Zr t i→Closed c:=fun i c _ h=>Zs t i c h
 refine Zi Tryz.func136 (by kernel_rfl) rfl (by simp [Tryz.ntmps136]) ?_;simp only [Tryz.ntmps136,Tryz.results136];simp [go_sem]
 refine Yn (fun i:Nat=>i≤n) (fun i=>n-i) (fun i=>.of [(0,.sl 3 t.length (Zr t)),(1,.lit (.int .i64 n)),(5,.lit (.int .i64 (ZJ t i))),(6,.lit (.int .i64 i))] []) ⟨0,by omega,?_⟩ (fun i hi=>?_)
 ·simp [go_sem,ZJ]
  exact cl
 ·have ho:=K8 t i
  have cl2:∀ (i:Nat) (c:AV),i<t.length→c=AV.lit (Value.int IntKind.i64 (Zj t i).kind)∨c=AV.lit (Value.string (Zj t i).gap)∨c=AV.lit (Value.string (Zj t i).text)→Closed c:=by
   rintro i c _ (rfl|rfl|rfl)<;>exact .lit _
  simp [go_sem,Zo]
  refine ⟨fun h=>⟨by omega,fun e4=>⟨by omega,fun e5=>by omega,fun e5=>⟨i+1,by omega,by omega,cl2,?_,Zn (by omega)⟩⟩,fun e4=>⟨by omega,fun e5=>⟨i+1,by omega,by omega,cl2,?_,Zn (by omega)⟩,fun e5=>⟨i+1,by omega,by omega,cl2,?_,Zn (by omega)⟩⟩⟩,fun h=>?_⟩
  ·rw [wrap_i64 (by omega)];simp only [ZJ,if_pos e4,if_neg e5];omega
  ·rw [wrap_i64 (by omega)];simp only [ZJ,if_neg e4,if_pos e5];omega
  ·simp only [ZJ,if_neg e4,if_neg e5];omega
  ·have:i=n:=by omega
   rw [this]
theorem Zg1 (l:List POp) (hl:l.length≤9223372036854775807) (t:List PTok) (ht:t.length≤1048576):VFun Tryz.prog 110 [.agg [.sl 4 l.length (Zg l)],.sl 3 t.length (Zr t)] (fun av obs=>av=.own 0∧obs=[⟨4,1,t.length+1,Wp (Ye l t)⟩]):=by
 have cl:∀ (i:Nat) (c:AV),i<l.length→c∈Zg l i→Closed c:=fun i c _ h=>ZK l i c h
 have clt:∀ (i:Nat) (c:AV),i<t.length→c∈Zr t i→Closed c:=fun i c _ h=>Zs t i c h
 refine Zi Tryz.func110 (by kernel_rfl) rfl (by simp [Tryz.ntmps110]) ?_;simp only [Tryz.ntmps110,Tryz.results110];simp [go_sem]
 refine Y9 (fun i:Nat=>i≤t.length) (fun i=>t.length-i) (fun i=>.of [(1,.sl 3 t.length (Zr t)),(2,.ptr 0 1 0 0),(5,.own 1),(6,.lit (.int .i64 i))] [some ⟨30,1,1,fun _=>[.sl 4 l.length (Zg l)]⟩,some ⟨4,1,i+1,Wp (Ye l t)⟩]) ⟨0,by omega,?_⟩ (fun i hi=>?_)
 ·refine Zx [0,1] (by simp) (by simp) (by simp) (by simp) trivial ?_ ?_
  ·simp [go_sem]
   exact clt
  ·simp [go_sem]
   exact ⟨cl,.inl ⟨rfl,XU _ _⟩⟩
 ·have cl2:∀ (i:Nat) (c:AV),i<t.length→c=AV.lit (Value.int IntKind.i64 (Zj t i).kind)∨c=AV.lit (Value.string (Zj t i).gap)∨c=AV.lit (Value.string (Zj t i).text)→Closed c:=by
   rintro i c _ (rfl|rfl|rfl)<;>exact .lit _
  have hst:∀ v,Ye l t (i+1)=v→∀ j,j<i+1+1→Z2 (i+1) (Wp (Ye l t)) (fun q=>[[AV.lit (.bool v)]][q]?.getD []) j=Wp (Ye l t) j:=fun v hv j hj=>by
   unfold Z2
   split
   ·rfl
   ·have e:j=i+1:=by omega
    subst e
    simp [Wp,hv]
  by_cases h:i<t.length
  ·by_cases k1:(Zj t i).kind=1
   ·have hv:Ye l t (i+1)=true:=by simp [Ye,k1]
    simp [go_sem,Zo,h,k1]
    refine ⟨by omega,Zq [] (.q 0 <| .q 1 <| .q 2 <| .q 3 <| .q 4 <| .q 5 <| .q 6 <| .q 7 <| .q 8 <| .q 9 <| .q 10 <| .q 11 <| .q 12 <| .q 13 <| .q 14 <| .or 15 (.q 16 <| .q 17 <| .done) (.nil)) (by kernel_rfl) ?_⟩
    simp [go_sem,k1]
    refine ⟨by omega,by omega,i+1,by omega,by omega,?_⟩
    refine Zx [0,3] (by simp) (by simp) (by simp) (by simp) trivial ?_ ?_
    ·simp [go_sem]
     exact ⟨clt,Zn (by omega)⟩
    ·simp [go_sem]
     exact ⟨cl,.inl fun j hj=>⟨hst true hv j hj,XU _ _⟩⟩
   ·by_cases k2:(Zj t i).kind=2
    ·have hv:Ye l t (i+1)=true:=by simp [Ye,k2]
     simp [go_sem,Zo,h,k2]
     refine ⟨by omega,Zq [] (.q 0 <| .q 1 <| .q 2 <| .q 3 <| .q 4 <| .q 5 <| .q 6 <| .q 7 <| .q 8 <| .q 9 <| .q 10 <| .q 11 <| .q 12 <| .q 13 <| .q 14 <| .or 15 (.q 16 <| .q 17 <| .done) (.nil)) (by kernel_rfl) ?_⟩
     simp [go_sem,k2]
     refine ⟨by omega,by omega,i+1,by omega,by omega,?_⟩
     refine Zx [0,3] (by simp) (by simp) (by simp) (by simp) trivial ?_ ?_
     ·simp [go_sem]
      exact ⟨clt,Zn (by omega)⟩
     ·simp [go_sem]
      exact ⟨cl,.inl fun j hj=>⟨hst true hv j hj,XU _ _⟩⟩
    ·by_cases k5:(Zj t i).kind=5
     ·have hv:Ye l t (i+1)=true:=by simp [Ye,k5]
      simp [go_sem,Zo,h,k5]
      refine ⟨by omega,Zq [] (.q 0 <| .q 1 <| .q 2 <| .q 3 <| .q 4 <| .q 5 <| .q 6 <| .q 7 <| .q 8 <| .q 9 <| .q 10 <| .q 11 <| .q 12 <| .q 13 <| .q 14 <| .or 15 (.q 16 <| .q 17 <| .done) (.nil)) (by kernel_rfl) ?_⟩
      simp [go_sem,k5]
      refine ⟨by omega,by omega,i+1,by omega,by omega,?_⟩
      refine Zx [0,3] (by simp) (by simp) (by simp) (by simp) trivial ?_ ?_
      ·simp [go_sem]
       exact ⟨clt,Zn (by omega)⟩
      ·simp [go_sem]
       exact ⟨cl,.inl fun j hj=>⟨hst true hv j hj,XU _ _⟩⟩
     ·by_cases k3:(Zj t i).kind=3
      ·cases hb:Ye l t i with
       |false=>
        have hv:Ye l t (i+1)=false:=by simp [Ye,k3,hb]
        simp [go_sem,Zo,h,k3,WY,hb]
        refine ⟨by omega,Zq [] (.q 0 <| .q 1 <| .q 2 <| .q 3 <| .q 4 <| .q 5 <| .q 6 <| .q 7 <| .q 8 <| .q 9 <| .q 10 <| .q 11 <| .q 12 <| .q 13 <| .q 14 <| .or 15 (.q 16 <| .q 17 <| .done) (.nil)) (by kernel_rfl) ?_⟩
        simp [go_sem,k3,WY,hb]
        refine ⟨by omega,by omega,by omega,i+1,by omega,by omega,?_⟩
        refine Zx [0,3] (by simp) (by simp) (by simp) (by simp) trivial ?_ ?_
        ·simp [go_sem]
         exact ⟨clt,Zn (by omega)⟩
        ·simp [go_sem]
         exact ⟨cl,.inl fun j hj=>⟨hst false hv j hj,XU _ _⟩⟩
       |true=>
        simp [go_sem,Zo,h,k3,WY,hb]
        refine ⟨by omega,Zq [] (.q 0 <| .q 1 <| .q 2 <| .q 3 <| .q 4 <| .q 5 <| .q 6 <| .q 7 <| .q 8 <| .q 9 <| .q 10 <| .q 11 <| .q 12 <| .q 13 <| .q 14 <| .or 15 (.q 16 <| .q 17 <| .done) (.nil)) (by kernel_rfl) ?_⟩
        simp [go_sem,Zo,k3,WY,hb]
        refine ⟨by omega,h,Xv (Qc l hl (Zj t i).text 3) ?_ ?_⟩
        ·simp [go_sem]
         exact Ze (by omega) cl
        ·rintro av obs ⟨rfl,r,rfl,hr⟩
         simp [go_sem]
         refine ⟨fun e1=>?_,fun e1=>?_⟩
         ·have ho:ZQ l (Zj t i).text 3=true:=hr.1 e1
          have hv:Ye l t (i+1)=true:=by simp [Ye,k3,hb,ho]
          refine ⟨by omega,by omega,i+1,by omega,by omega,?_⟩
          refine Zx [0,3] (by simp) (by simp) (by simp) (by simp) trivial ?_ ?_
          ·simp [go_sem]
           exact ⟨clt,Zn (by omega)⟩
          ·simp [go_sem]
           exact ⟨cl,.inl fun j hj=>⟨hst true hv j hj,XU _ _⟩⟩
         ·have ho:ZQ l (Zj t i).text 3=false:=by
           rw [Bool.eq_false_iff]
           exact fun e2=>absurd (hr.2 e2) (by omega)
          have hv:Ye l t (i+1)=false:=by simp [Ye,k3,hb,ho]
          refine ⟨by omega,by omega,i+1,by omega,by omega,?_⟩
          refine Zx [0,3] (by simp) (by simp) (by simp) (by simp) trivial ?_ ?_
          ·simp [go_sem]
           exact ⟨clt,Zn (by omega)⟩
          ·simp [go_sem]
           exact ⟨cl,.inl fun j hj=>⟨hst false hv j hj,XU _ _⟩⟩
      ·have hv:Ye l t (i+1)=false:=by simp [Ye,k1,k2,k3,k5]
       have q1:((Zj t i).kind==1)=false:=by simpa using k1
       have q2:((Zj t i).kind==2)=false:=by simpa using k2
       have q3:((Zj t i).kind==3)=false:=by simpa using k3
       have q5:((Zj t i).kind==5)=false:=by simpa using k5
       simp [go_sem,Zo,h,q1,q2,q3,q5]
       refine ⟨by omega,Zq [] (.q 0 <| .q 1 <| .q 2 <| .q 3 <| .q 4 <| .q 5 <| .q 6 <| .q 7 <| .q 8 <| .q 9 <| .q 10 <| .q 11 <| .q 12 <| .q 13 <| .q 14 <| .or 15 (.q 16 <| .q 17 <| .done) (.nil)) (by kernel_rfl) ?_⟩
       simp [go_sem,q1,q2,q3,q5]
       refine ⟨by omega,by omega,i+1,by omega,by omega,?_⟩
       refine Zx [0,3] (by simp) (by simp) (by simp) (by simp) trivial ?_ ?_
       ·simp [go_sem]
        exact ⟨clt,Zn (by omega)⟩
       ·simp [go_sem]
        exact ⟨cl,.inl fun j hj=>⟨hst false hv j hj,XU _ _⟩⟩
  ·have e:i=t.length:=by omega
   simp [go_sem,h]
   refine ⟨by omega,?_⟩
   rw [e]
   exact obsSame_one.mpr ⟨_,⟨rfl,rfl,rfl,fun j hj=>⟨rfl,rfl⟩⟩,rfl⟩
theorem Zkm (l:List POp) (hl:l.length≤9223372036854775807) (t:List PTok) (ht:t.length≤1048576) (i:Nat) (hi:i<t.length) (b:Bool):VFun Tryz.prog 111 [.agg [.sl 4 l.length (Zg l)],.sl 3 t.length (Zr t),.lit (.int .i64 i),.lit (.bool b)] (fun av obs=>obs=[]∧av=.lit (.int .i64 (ZI l t i b))):=by
 have cl:∀ (i:Nat) (c:AV),i<l.length→c∈Zg l i→Closed c:=fun i c _ h=>ZK l i c h
 have clt:∀ (i:Nat) (c:AV),i<t.length→c∈Zr t i→Closed c:=fun i c _ h=>Zs t i c h
 have hopen:=K8 t i
 refine Zi Tryz.func111 (by kernel_rfl) rfl (by simp [Tryz.ntmps111]) ?_;simp only [Tryz.ntmps111,Tryz.results111];simp [go_sem]
 cases b with
 |false=>
  simp [go_sem,Zo,hi]
  by_cases k1:(Zj t i).kind=1
  ·simp [go_sem,k1,ZI]
  ·by_cases k2:(Zj t i).kind=2
   ·simp [go_sem,k1,k2,ZI]
   ·by_cases k4:(Zj t i).kind=4
    ·simp [go_sem,k1,k2,k4,ZI]
    ·simp [go_sem,k1,k2,k4]
     refine Zq [] (.q 0 <| .q 1 <| .q 2 <| .q 3 <| .q 4 <| .q 5 <| .q 6 <| .q 7 <| .q 8 <| .or 9 (.q 10 <| .q 11 <| .done) (.nil)) (by kernel_rfl) ?_
     by_cases k3:(Zj t i).kind=3
     ·simp [go_sem,Zo,k3]
      refine ⟨hi,Xv (Qc l hl (Zj t i).text 1) ?_ ?_⟩
      ·simp [go_sem]
       exact Ze (by omega) cl
      ·rintro av obs ⟨rfl,r,rfl,hr⟩
       simp [go_sem]
       refine ⟨fun e1=>?_,fun e1=>?_⟩
       ·have ho:ZQ l (Zj t i).text 1=true:=hr.1 e1
        simp [ZI,k3,ho]
       ·have ho:ZQ l (Zj t i).text 1=false:=by
         rw [Bool.eq_false_iff]
         exact fun e2=>absurd (hr.2 e2) (by omega)
        simp [ZI,k3,ho]
     ·have q3:((Zj t i).kind==3)=false:=by simpa using k3
      simp [go_sem,q3]
      simp [ZI,k1,k2,k3,k4]
 |true=>
  simp [go_sem,Zo,hi]
  refine Zq [] (.q 0 <| .q 1 <| .q 2 <| .q 3 <| .q 4 <| .q 5 <| .q 6 <| .q 7 <| .q 8 <| .or 9 (.q 10 <| .q 11 <| .done) (.nil)) (by kernel_rfl) ?_
  by_cases k3:(Zj t i).kind=3
  ·simp [go_sem,Zo,k3]
   refine ⟨hi,Xv (Qc l hl (Zj t i).text 2) ?_ ?_⟩
   ·simp [go_sem]
    exact Ze (by omega) cl
   ·rintro av obs ⟨rfl,r,rfl,hr⟩
    simp [go_sem]
    refine ⟨fun e1=>?_,fun e1=>?_⟩
    ·have ho:ZQ l (Zj t i).text 2=true:=hr.1 e1
     simp [ZI,k3,ho]
    ·have ho:ZQ l (Zj t i).text 2=false:=by
      rw [Bool.eq_false_iff]
      exact fun e2=>absurd (hr.2 e2) (by omega)
     refine Zq [] (.q 0 <| .q 1 <| .q 2 <| .q 3 <| .q 4 <| .q 5 <| .q 6 <| .q 7 <| .q 8 <| .or 9 (.q 10 <| .q 11 <| .done) (.nil)) (by kernel_rfl) ?_
     simp [go_sem,Zo,k3]
     refine ⟨hi,Xv (Qc l hl (Zj t i).text 3) ?_ ?_⟩
     ·simp [go_sem]
      exact Ze (by omega) cl
     ·rintro av obs ⟨rfl,r2,rfl,hr2⟩
      simp [go_sem]
      refine ⟨fun e2=>?_,fun e2=>?_⟩
      ·have ho2:ZQ l (Zj t i).text 3=true:=hr2.1 e2
       simp [ZI,k3,ho,ho2]
      ·have ho2:ZQ l (Zj t i).text 3=false:=by
        rw [Bool.eq_false_iff]
        exact fun e3=>absurd (hr2.2 e3) (by omega)
       simp [ZI,k3,ho,ho2]
  ·have q3:((Zj t i).kind==3)=false:=by simpa using k3
   simp [go_sem,q3]
   refine Zq [] (.q 0 <| .q 1 <| .q 2 <| .q 3 <| .q 4 <| .q 5 <| .q 6 <| .q 7 <| .q 8 <| .or 9 (.q 10 <| .q 11 <| .done) (.nil)) (by kernel_rfl) ?_
   simp [go_sem,q3]
   by_cases k5:(Zj t i).kind=5
   ·simp [go_sem,k5]
    refine Zc (Zfw t (by omega) i (by omega) (by omega)) ?_ ?_
    ·simp [go_sem]
     exact Ze (by omega) clt
    ·simp [go_sem]
     refine ⟨fun e=>by simp [ZI,k5,e],fun e=>?_⟩
     have:¬0<ZJ t i:=by omega
     simp [ZI,k5,this]
   ·have q5:((Zj t i).kind==5)=false:=by simpa using k5
    simp [go_sem,q5]
    by_cases k7:(Zj t i).kind=7
    ·simp [go_sem,k7]
     refine Zc (Zfw t (by omega) i (by omega) (by omega)) ?_ ?_
     ·simp [go_sem]
      exact Ze (by omega) clt
     ·simp [go_sem]
      rw [wrap_i64 (by omega)]
      refine ⟨fun e=>⟨by omega,fun e2=>?_,fun e2=>?_⟩,fun e=>by simp [ZI,k7,e]⟩
      ·have:i+1=t.length:=by omega
       simp [ZI,k7,e,this]
      ·have:¬i+1=t.length:=by omega
       simp [ZI,k7,e,this]
    ·have q7:((Zj t i).kind==7)=false:=by simpa using k7
     simp [go_sem,q7]
     simp [ZI,k3,k5,k7]
def U9 (l:List POp) (t:List PTok):Option Nat:=(List.range t.length).find? fun i=>decide (ZI l t i (Ye l t i)<0)
def VG (t:List PTok):Bool:=decide (t.length≠0)&&decide ((Zj t (t.length-1)).kind=7)
def Z8 (l:List POp) (t:List PTok):List Int×Int:=
 if Yv l≠0 then ([],0) else match U9 l t with
  |some i=>([],i)
  |none=>if VG t then (YA l t t.length,-1) else ([],t.length)
theorem JD {l:List POp} {t:List PTok} {i:Nat} (hi:i<t.length) (h:∀ j,j<i→0≤ZI l t j (Ye l t j)) (hb:ZI l t i (Ye l t i)<0):U9 l t=some i:=by
 unfold U9
 rw [List.find?_range_eq_some]
 refine ⟨by simpa using hb,by simpa using hi,fun j hj=>?_⟩
 simpa using h j hj
theorem Ub {l:List POp} {t:List PTok} (h:∀ j,j<t.length→0≤ZI l t j (Ye l t j)):U9 l t=none:=by
 unfold U9
 rw [List.find?_eq_none]
 intro j hj
 have:=h j (by simpa using hj)
 simp only [decide_eq_true_eq]
 omega
theorem Hr (l:List POp) (t:List PTok) (n:Nat):YA l t (n+1)=YA l t n++[ZI l t n (Ye l t n)]:=by simp [YA,List.range_succ]
theorem Qk (l:List POp) (t:List PTok) (n:Nat):(YA l t n).length=n:=by simp [YA]
theorem Zdz (l:List POp) (t:List PTok) (i:Nat) (b:Bool) : -1≤ZI l t i b∧ZI l t i b≤3:=by
 unfold ZI
 split
 ·split
  ·omega
  ·split<;>omega
 ·split
  ·omega
  ·split
   ·omega
   ·split
    ·omega
    ·split<;>omega
theorem Zby (a:List Int) (x:Int) (i:Nat) (hi:i<a.length+1):Z2 a.length (ZA a) (fun q=>[[AV.lit (.int .i64 x)]][q]?.getD []) i=ZA (a++[x]) i:=by
 unfold Z2
 split
 ·rename_i h
  simp [ZA,YO,List.getD_eq_getElem?_getD,List.getElem?_append_left h]
 ·have e:i=a.length:=by omega
  subst e
  simp [ZA,YO,List.getD_eq_getElem?_getD]
@[go_sem] theorem intOne (a:List Int) (i:Nat):(ZA a i).all XW=true:=rfl
theorem Zfq (l:List POp) (hl:l.length≤9223372036854775807) (hw:YT l) (t:List PTok) (ht:t.length≤1048576):VFun Tryz.prog 69 [.agg [.sl 4 l.length (Zg l)],.sl 3 t.length (Zr t)] (fun av obs=>av=.tup [.own 0,.lit (.int .i64 (Z8 l t).2)]∧obs=[⟨3,1,(Z8 l t).1.length,ZA (Z8 l t).1⟩]):=by
 have cl:∀ (i:Nat) (c:AV),i<l.length→c∈Zg l i→Closed c:=fun i c _ h=>ZK l i c h
 have clt:∀ (i:Nat) (c:AV),i<t.length→c∈Zr t i→Closed c:=fun i c _ h=>Zs t i c h
 refine Zi Tryz.func69 (by kernel_rfl) rfl (by simp [Tryz.ntmps69]) ?_;simp only [Tryz.ntmps69,Tryz.results69];simp [go_sem]
 refine Zc (Va l hl hw) ?_ ?_
 ·simp [go_sem]
  exact Ze (by omega) cl
 ·simp [go_sem]
  have none_:∀ (x:Int) (f:Nat→List AV),Z8 l t=([],x)→WZ [⟨3,1,0,f⟩] [⟨3,1,(Z8 l t).1.length,ZA (Z8 l t).1⟩]∧x=(Z8 l t).2:=fun x f h=>by
   rw [h]
   exact ⟨obsSame_one.mpr ⟨⟨3,1,0,ZA []⟩,⟨rfl,rfl,rfl,fun j hj=>by simp at hj⟩,rfl⟩,rfl⟩
  refine ⟨fun h0=>none_ 0 _ (by simp [Z8,h0]),fun h0=>?_⟩
  refine ZR (Zg1 l hl t ht) ?_ ?_
  ·simp [go_sem]
   exact ⟨Ze (by omega) cl,Ze (by omega) clt⟩
  ·rintro av obs ⟨rfl,rfl⟩
   simp [go_sem]
   refine Y9 (fun i:Nat=>i≤t.length∧∀ j,j<i→0≤ZI l t j (Ye l t j)) (fun i=>t.length-i) (fun i=>.of [(1,.sl 3 t.length (Zr t)),(2,.ptr 0 1 0 0),(6,.own 1),(7,.own 2),(8,.lit (.int .i64 i))] [some ⟨30,1,1,fun _=>[.sl 4 l.length (Zg l)]⟩,some ⟨3,1,(YA l t i).length,ZA (YA l t i)⟩,some ⟨4,1,t.length+1,Wp (Ye l t)⟩]) ⟨0,⟨by omega,by simp⟩,?_⟩ (fun i hi=>?_)
   ·refine Zx [0,1,2] (by simp) (by simp) (by simp) (by simp) trivial ?_ ?_
    ·simp [go_sem]
     exact clt
    ·simp [go_sem,YA]
     exact ⟨cl,.inl fun j _=>XU _ _⟩
   ·have hr:=Zdz l t i (Ye l t i)
    have hlen:=Qk l t i
    have hsucc:=Hr l t i
    simp [go_sem,Zo]
    refine ⟨by omega,fun h=>Zq [] (.q 0 <| .q 1 <| .q 2 <| .q 3 <| .q 4 <| .q 5 <| .q 6 <| .or 7 (.q 8 <| .done) (.nil)) (by kernel_rfl) ?_,fun h=>?_⟩
    ·simp [go_sem,WY]
     refine ⟨by omega,by omega,Zu (Zkm l hl t ht i h (Ye l t i)) ?_ ?_⟩
     ·simp [go_sem]
      exact ⟨Ze (by omega) cl,Ze (by omega) clt⟩
     ·simp [go_sem,WY]
      refine ⟨fun e=>none_ i _ ?_,fun e=>?_⟩
      ·have:=JD h hi.2 e
       simp [Z8,h0,this]
      ·rw [hlen]
       refine ⟨by omega,by omega,i+1,⟨by omega,fun j hj=>?_⟩,by omega,?_⟩
       ·rcases Nat.lt_succ_iff_lt_or_eq.mp hj with hj|rfl
        ·exact hi.2 j hj
        ·exact e
       ·refine Zx [0,4,2] (by simp) (by simp) (by simp) (by simp) trivial ?_ ?_
        ·simp [go_sem]
         exact ⟨clt,Zn (by omega)⟩
        ·simp [go_sem,hsucc,hlen]
         refine ⟨cl,.inl fun j hj=>⟨?_,Yp _ _⟩,.inl fun j _=>XU _ _⟩
         have:=Zby (YA l t i) (ZI l t i (Ye l t i)) j (by rw [hlen];exact hj)
         rw [hlen] at this
         exact this
    ·have e:i=t.length:=by omega
     subst e
     have hn:=Ub (l:=l) (t:=t) fun j hj=>hi.2 j hj
     refine ⟨by omega,fun h1=>?_,fun h1=>?_⟩
     ·have hpos:0<t.length:=List.length_pos_iff.2 h1
      have e2:(IntKind.i64.wrap ((t.length:Int)-1))=((t.length-1:Nat):Int):=by rw [wrap_i64 (by omega)];omega
      rw [e2]
      simp only [Int.toNat_natCast]
      refine ⟨by omega,by omega,by omega,fun e=>⟨by omega,none_ _ _ ?_⟩,fun e=>?_⟩
      ·simp [Z8,h0,hn,VG,e]
      ·have hz:Z8 l t=(YA l t t.length,-1):=by simp [Z8,h0,hn,VG,e];omega
       rw [hz]
       exact ⟨obsSame_one.mpr ⟨_,⟨rfl,rfl,rfl,fun j hj=>⟨rfl,rfl⟩⟩,rfl⟩,rfl⟩
     ·refine ⟨by omega,none_ _ _ ?_⟩
      rw [h1] at hn
      simp [Z8,h0,hn,VG,h1]
open Go.Maps (Keyed)
def noOp:POp:=⟨⟨#[]⟩,0,0,0⟩
theorem Zhb:UJ Tryz.prog 133 (opV noOp):=fun w=>Tryz.zeroValue133 w
def WB (l:List POp):Prop:=∀ i j,i<l.length→j<l.length→(Zm l i).text=(Zm l j).text→((Zm l i).kind==1)=((Zm l j).kind==1)→Zm l i=Zm l j
theorem WF {l:List POp} (h:Yv l=0):WB l:=by
 have hc:Y0 l 3=false:=by
  unfold Yv at h
  cases hh:Y0 l 3
  ·rfl
  ·rw [hh] at h
   split at h
   ·cases h
   ·split at h
    ·cases h
    ·simp at h
 intro i j hi hj e1 e2
 have no:∀ i j,i<l.length→j<i→X3 (Zm l i) (Zm l j) 3=true→False:=fun i j hi hj hcl=>by
  have:=(XQ l 3).2 ⟨i,hi,j,hj,hcl⟩
  rw [hc] at this
  cases this
 rcases Nat.lt_trichotomy i j with hlt|rfl|hlt
 ·exact (no j i hj hlt (by simp [X3,e1,e2])).elim
 ·rfl
 ·exact (no i j hi hlt (by simp [X3,e1,e2])).elim
theorem ZfI {l:List POp} {es:List (Value×Value)} (h:H1 l l.length es) (z:ByteArray) (pre:Bool) :
  (mget es (.agg #[.string z,.bool pre])=none∧∀ j,j<l.length→¬((Zm l j).text=z∧((Zm l j).kind==1)=pre))∨
  ∃ j,j<l.length∧mget es (.agg #[.string z,.bool pre])=some (opV (Zm l j))∧(Zm l j).text=z∧((Zm l j).kind==1)=pre:=by
 cases hm:mget es (.agg #[.string z,.bool pre]) with
 |none=>
  refine .inl ⟨rfl,fun j hj e=>?_⟩
  have:=h.1 j hj
  rw [WH,e.1,e.2,hm] at this
  cases this
 |some v=>
  obtain ⟨j,hj,e1,e2⟩:=h.2 _ _ hm
  simp only [WH,Value.agg.injEq,Array.mk.injEq,List.cons.injEq,Value.string.injEq,Value.bool.injEq,and_true] at e1
  exact .inr ⟨j,hj,by rw [e2],e1.1.symm,e1.2.symm⟩
theorem YU (l:List POp) (z:ByteArray) (k:Int):ZQ l z k=true↔∃ j,j<l.length∧(Zm l j).text=z∧(Zm l j).kind=k:=by
 simp [ZQ]
theorem ZgV (l:List POp) (hu:WB l) (b1 b2:Nat) (es:List (Value×Value)) (h:H1 l l.length es) (z:ByteArray) (hz:z.size≤maxLen) (k:Int):VProc Tryz.prog 91 [.agg [.lit (.map (some b1)),.lit (.map (some b2))],.lit (.string z),.lit (.int .i64 k)] [] [(b1,⟨151,es⟩)] (fun av mem maps=>(∃ o:POp,av=.tup [.agg o.cells,.lit (.bool (ZQ l z k))]∧(ZQ l z k=true→∃ j,j<l.length∧o=Zm l j∧o.text=z∧o.kind=k))∧mem=[]∧maps=[(b1,⟨151,es⟩)]):=by
 have fin:∀ (t:List (Nat×AV)) (m:List (Option Ob)) (o:POp),(ZQ l z k=true→∃ j,j<l.length∧o=Zm l j∧o.text=z∧o.kind=k)→VO [(b1,⟨151,es⟩)] (fun av mem maps=>(∃ o:POp,av=.tup [.agg o.cells,.lit (.bool (ZQ l z k))]∧(ZQ l z k=true→∃ j,j<l.length∧o=Zm l j∧o.text=z∧o.kind=k))∧mem=[]∧maps=[(b1,⟨151,es⟩)]) ⟨t,m,[(b1,⟨151,es⟩)],0⟩ (.tup [.agg o.cells,.lit (.bool (ZQ l z k))]):=by
  intro t m o ho
  refine ⟨rfl,[],[],by simp,by simp,by simp [go_sem,POp.cells],by simp [go_sem],by simp [go_sem],?_⟩
  simp only [POp.cells]
  exact ⟨⟨o,rfl,ho⟩,by simp [go_sem],by simp⟩
 refine Zl Tryz.func91 (by kernel_rfl) rfl (by simp [Tryz.ntmps91]) ?_;simp only [Tryz.ntmps91,Tryz.results91];simp [go_sem]
 refine Xk U4 (KV hz) _ Zhb ?_
 rcases ZfI h z (k==1) with ⟨h1,h3⟩|⟨j,hj,h1,h3,h4⟩
 ·rw [h1]
  have hno:ZQ l z k=false:=by
   rw [Bool.eq_false_iff]
   intro e
   obtain ⟨j,hj,e1,e2⟩:=(YU l z k).1 e
   exact h3 j hj ⟨e1,by rw [e2]⟩
  simp [go_sem,opV,noOp]
  refine ZX (⟨[(6,.ptr 0 4 0 0),(7,.lit (.bool false))],[some ⟨133,4,1,fun _=>noOp.cells⟩],[(b1,⟨151,es⟩)],0⟩) [8] (.q 0 <| .q 1 <| .q 2 <| .or 3 (.or 4 (.or 5 (.or 6 (.or 7 (.or 8 (.q 9 <| .done) (.nil)) (.or 8 (.q 7 <| .q 9 <| .done) (.nil))) (.or 8 (.q 6 <| .q 7 <| .q 9 <| .done) (.nil))) (.or 8 (.q 5 <| .q 6 <| .q 7 <| .q 9 <| .done) (.nil))) (.or 5 (.or 4 (.or 6 (.or 7 (.or 8 (.q 9 <| .done) (.nil)) (.or 8 (.q 7 <| .q 9 <| .done) (.nil))) (.or 8 (.q 6 <| .q 7 <| .q 9 <| .done) (.nil))) (.or 8 (.q 4 <| .q 6 <| .q 7 <| .q 9 <| .done) (.nil))) (.or 8 (.q 4 <| .q 5 <| .q 6 <| .q 7 <| .q 9 <| .done) (.nil)))) (.or 5 (.or 3 (.or 4 (.or 6 (.or 7 (.or 8 (.q 9 <| .done) (.nil)) (.or 8 (.q 7 <| .q 9 <| .done) (.nil))) (.or 8 (.q 6 <| .q 7 <| .q 9 <| .done) (.nil))) (.or 8 (.q 4 <| .q 6 <| .q 7 <| .q 9 <| .done) (.nil))) (.or 8 (.q 3 <| .q 4 <| .q 6 <| .q 7 <| .q 9 <| .done) (.nil))) (.or 8 (.q 3 <| .q 4 <| .q 5 <| .q 6 <| .q 7 <| .q 9 <| .done) (.nil)))) (by kernel_rfl) ?_ ?_
  ·simp [go_sem]
   repeat' apply And.intro
   all_goals
    refine Zx [1] (by simp) (by simp) (by simp) (by simp) (by simp [go_sem]) ?_ ?_
    ·simp [go_sem]
    ·simp [go_sem,noOp,POp.cells]
  ·have:=fin [(6,.ptr 0 4 0 0),(7,.lit (.bool false))] [some ⟨133,4,1,fun _=>noOp.cells⟩] noOp (fun e=>by rw [hno] at e;cases e)
   rw [hno] at this ⊢
   simp only [POp.cells,noOp] at this
   simp [go_sem,noOp,POp.cells] at this ⊢
   exact this
 ·rw [h1]
  have hyes:ZQ l z k=((Zm l j).kind==k):=by
   rw [Bool.eq_iff_iff,YU]
   simp only [beq_iff_eq]
   constructor
   ·rintro ⟨j',hj',e1,e2⟩
    have:=hu j' j hj' hj (by rw [e1,h3]) (by rw [e2,h4])
    rw [←this];exact e2
   ·exact fun e=>⟨j,hj,h3,e⟩
  have hfin:=fin [(6,.ptr 0 4 0 0),(7,.lit (.bool ((Zm l j).kind==k)))] [some ⟨133,4,1,fun _=>(Zm l j).cells⟩] (Zm l j) (fun e=>⟨j,hj,rfl,h3,by rw [hyes] at e;simpa using e⟩)
  rw [hyes] at hfin ⊢
  simp [go_sem,opV]
  refine ZX (⟨[(6,.ptr 0 4 0 0),(7,.lit (.bool ((Zm l j).kind==k)))],[some ⟨133,4,1,fun _=>(Zm l j).cells⟩],[(b1,⟨151,es⟩)],0⟩) [8] (.q 0 <| .q 1 <| .q 2 <| .or 3 (.or 4 (.or 5 (.or 6 (.or 7 (.or 8 (.q 9 <| .done) (.nil)) (.or 8 (.q 7 <| .q 9 <| .done) (.nil))) (.or 8 (.q 6 <| .q 7 <| .q 9 <| .done) (.nil))) (.or 8 (.q 5 <| .q 6 <| .q 7 <| .q 9 <| .done) (.nil))) (.or 5 (.or 4 (.or 6 (.or 7 (.or 8 (.q 9 <| .done) (.nil)) (.or 8 (.q 7 <| .q 9 <| .done) (.nil))) (.or 8 (.q 6 <| .q 7 <| .q 9 <| .done) (.nil))) (.or 8 (.q 4 <| .q 6 <| .q 7 <| .q 9 <| .done) (.nil))) (.or 8 (.q 4 <| .q 5 <| .q 6 <| .q 7 <| .q 9 <| .done) (.nil)))) (.or 5 (.or 3 (.or 4 (.or 6 (.or 7 (.or 8 (.q 9 <| .done) (.nil)) (.or 8 (.q 7 <| .q 9 <| .done) (.nil))) (.or 8 (.q 6 <| .q 7 <| .q 9 <| .done) (.nil))) (.or 8 (.q 4 <| .q 6 <| .q 7 <| .q 9 <| .done) (.nil))) (.or 8 (.q 3 <| .q 4 <| .q 6 <| .q 7 <| .q 9 <| .done) (.nil))) (.or 8 (.q 3 <| .q 4 <| .q 5 <| .q 6 <| .q 7 <| .q 9 <| .done) (.nil)))) (by kernel_rfl) ?_ ?_
  ·simp [go_sem]
   repeat' apply And.intro
   all_goals
    refine Zx [1] (by simp) (by simp) (by simp) (by simp) (by simp [go_sem]) ?_ ?_
    ·simp [go_sem]
    ·simp [go_sem,POp.cells]
  ·simp only [POp.cells] at hfin
   simp [go_sem,POp.cells] at hfin ⊢
   exact hfin
end Go.Proofs.YtjdmmhcogmepaaaGreatDoor.V
namespace Go.Proofs.YtjdmmhcogmepaaaGreatDoor.V
open Go.RowKit
theorem ZcB {l:List POp} (h:Yv l=0):Wr l=true:=by
 unfold Yv at h
 split at h
 ·cases h
 ·split at h
  ·cases h
  ·simp_all
theorem ZmN (l:List POp) (hl:l.length≤9223372036854775807) (hw:YT l) (z:ByteArray) (hz:z.size≤1048576):VFun Tryz.prog 49 [.agg [.sl 4 l.length (Zg l)],.lit (.string z)] (fun av obs=>(X0 l z=false∧av=.tup [.lit (.slice none 0 0),.lit (.bool false)]∧obs=[])∨(X0 l z=true∧av=.tup [.own 0,.lit (.bool true)]∧obs=[⟨88,3,(X6 l z).length,Zr (X6 l z)⟩])):=by
 have cl:∀ (i:Nat) (c:AV),i<l.length→c∈Zg l i→Closed c:=fun i c _ h=>ZK l i c h
 refine Zi Tryz.func49 (by kernel_rfl) rfl (by simp [Tryz.ntmps49]) ?_;simp only [Tryz.ntmps49,Tryz.results49];simp [go_sem]
 refine Zc (Q2 l hl hw) ?_ ?_
 ·simp [go_sem]
  exact Ze (by omega) cl
 ·simp [go_sem]
  refine ⟨fun h0=>⟨fun h1=>by simp [X0];omega,fun h1=>?_⟩,fun h0=>by simp [X0,h0]⟩
  have hok:X0 l z=true:=by simp [X0,h0];omega
  have hops:=ZcB h0
  have hz2:z.size≤20000:=by omega
  refine Zd [] (Jo l hl hw) (by simp) ?_ ?_ ?_ ?_
  ·simp [go_sem]
   exact cl
  ·simp [go_sem]
  ·simp [go_sem]
  ·rintro av mem maps ⟨b1,b2,e1,e2,rfl,rfl,rfl,hb,hat,htx⟩
   have hb':¬b2=b1:=fun e=>hb e.symm
   simp [go_sem]
   refine Y9 (fun p:List PTok×Nat=>p.2≤z.size∧p.1.length≤p.2∧YB l z 0=p.1++YB l z p.2) (fun p=>z.size-p.2) (fun p=>⟨[(1,.lit (.string z)),(6,.ptr 0 2 0 0),(7,.own 1),(8,.lit (.int .i64 p.2))],[some ⟨70,2,1,fun _=>[.lit (.map (some b1)),.lit (.map (some b2))]⟩,some ⟨88,3,p.1.length,Zr p.1⟩],[(b2,⟨9,e2⟩),(b1,⟨151,e1⟩)],0⟩) ⟨([],0),⟨by omega,by simp,by simp⟩,?_⟩ (fun p hp=>?_)
   ·refine Zx [1,2] (by simp) (by simp) (by simp) (by simp) (by simp [go_sem,hb']) ?_ ?_
    ·simp [go_sem]
    ·simp [go_sem]
   ·obtain ⟨toks,f⟩:=p
    obtain ⟨hp1,hp2,hp3⟩:=hp
    simp only at hp1 hp2 hp3
    simp [go_sem]
    refine Yn (fun j:Nat=>f≤j∧j≤z.size∧f+run YH z f=j+run YH z j) (fun j=>z.size-j) (fun j=>⟨[(1,.lit (.string z)),(6,.ptr 0 2 0 0),(7,.own 1),(8,.lit (.int .i64 f)),(9,.lit (.int .i64 j))],[some ⟨70,2,1,fun _=>[.lit (.map (some b1)),.lit (.map (some b2))]⟩,some ⟨88,3,toks.length,Zr toks⟩],[(b2,⟨9,e2⟩),(b1,⟨151,e1⟩)],0⟩) ⟨f,⟨by omega,by omega,by omega⟩,?_⟩ (fun j hj=>?_)
    ·simp [go_sem]
     exact ⟨hb',fun i _ c h=>.closed _ (Zs _ i c h)⟩
    ·obtain ⟨hj1,hj2,hj3⟩:=hj
     have tl:∀ (i:Nat),i<toks.length→∀ (c:AV),c∈Zr toks i→Bd 2 c:=fun i _ c h=>.closed _ (Zs _ i c h)
     by_cases hlt:j<z.size
     ·have again:YH (Zh z j)=true→∃ j_1:Nat,(f≤j_1∧j_1≤z.size∧f+run YH z f=j_1+run YH z j_1)∧z.size-j_1<z.size-j∧¬b2=b1∧IntKind.i64.wrap ((j:Int)+1)=j_1∧∀ (i:Nat),i<toks.length→∀ (c:AV),c∈Zr toks i→Bd 2 c:=fun e=>
       ⟨j+1,⟨by omega,by omega,by rw [hj3,Wv hlt e];omega⟩,by omega,hb',Zn (by omega),tl⟩
      cases hbl:YH (Zh z j) with
      |true=>
       have hc:Zh z j=32∨Zh z j=9∨Zh z j=10:=by
        simpa [YH,or_assoc] using hbl
       rcases hc with e|e|e
       ·simp [go_sem,hlt,e]
        exact again hbl
       ·simp [go_sem,hlt,e]
        exact again hbl
       ·simp [go_sem,hlt,e]
        exact again hbl
      |false=>
       have hc:(Zh z j==32)=false∧(Zh z j==9)=false∧(Zh z j==10)=false:=by
        simp only [YH,decide_eq_false_iff_not,not_or] at hbl
        simp [hbl]
       have hj4:j=f+run YH z f:=by rw [hj3,V0 hlt hbl];rfl
       simp [go_sem,hlt,hc]
       refine Zq [4] (.q 0 <| .q 1 <| .q 2 <| .q 3 <| .or 4 (.q 5 <| .q 6 <| .q 7 <| .q 8 <| .q 9 <| .done) (.nil)) (by kernel_rfl) ?_
       simp [go_sem,hlt,hc]
       have hfr:=Zj6 l hops z j hlt
       have hle:=V3 l z j hlt
       have hge:=Vk l z j
       refine ⟨by omega,Zd [] (Zli l b1 b2 e2 e1 htx hb (z.extract j z.size) (by rw [ByteArray.size_extract];omega)) (by simp) ?_ ?_ ?_ ?_⟩
       ·simp [go_sem]
       ·simp [go_sem]
       ·simp [go_sem]
       ·rintro av mem maps ⟨rfl,rfl,rfl⟩
        rw [hfr]
        simp [go_sem]
        refine Zq [14] (.q 0 <| .q 1 <| .q 2 <| .q 3 <| .q 4 <| .q 5 <| .q 6 <| .q 7 <| .q 8 <| .q 9 <| .q 10 <| .q 11 <| .q 12 <| .or 13 (.or 14 (.q 15 <| .done) (.nil)) (.nil)) (by kernel_rfl) ?_
        simp [go_sem]
        simp only [wrap_i64 (n:=(j:Int)+ZV l z j) (by omega),show ((j:Int)+ZV l z j).toNat=j+ZV l z j by omega]
        have hn:YB l z f=⟨Yd l (z.extract j (j+ZV l z j)),z.extract f j,z.extract j (j+ZV l z j)⟩::YB l z (j+ZV l z j):=Vl hj4 hlt
        refine ⟨by omega,by omega,by omega,by omega,by omega,by omega,toks++[⟨Yd l (z.extract j (j+ZV l z j)),z.extract f j,z.extract j (j+ZV l z j)⟩],j+ZV l z j,⟨by omega,by simp;omega,by rw [hp3,hn];simp⟩,by omega,?_⟩
        refine Zx [0,3] (by simp) (by simp) (by simp) (by simp) (by simp [go_sem,hb']) ?_ ?_
        ·simp [go_sem]
        ·simp [go_sem]
         exact .inl fun i hi=>⟨Hp _ _ _ _ _ hi,fun c h=>Zs _ i c h⟩
     ·have hj5:j=z.size:=by omega
      subst hj5
      have hj4:z.size=f+run YH z f:=by rw [hj3,Vd (by omega)];rfl
      simp [go_sem]
      refine ⟨hp1,by omega,by omega,?_,hok⟩
      have e3:X6 l z=toks++[⟨7,z.extract f z.size,⟨#[]⟩⟩]:=by
       simp only [X6,hok,if_true,hp3]
       rw [WK hj4 (by omega)]
      rw [e3]
      exact obsSame_one.mpr ⟨⟨88,3,toks.length+1,Zr (toks++[⟨7,z.extract f z.size,⟨#[]⟩⟩])⟩,⟨rfl,rfl,rfl,fun i hi=>⟨Hp _ _ _ _ _ hi,rfl⟩⟩,by simp⟩
theorem VFun.adopt {P:Program} {f:FuncId} {args:List AV} {R R':AV→List Ob→Prop} (h:VFun P f args R) (ty sz:Nat) (hsz:0<sz) (g:Nat→List AV)
  (hr:∀ av obs,R av obs→R' av obs∨∃ x,av=.tup [.lit (.slice none 0 0),.lit x]∧obs=[]∧R' (.tup [.own 0,.lit x]) [⟨ty,sz,0,g⟩]):VFun P f args R':=by
 refine ⟨h.1,fun w vs hl hv=>(h.2 w vs hl hv).mono fun e w' ⟨v,e1,gr,hd,av,obs,r,fl,hlit,hm,hrep⟩=>?_⟩
 rcases hr av obs r with r'|⟨x,rfl,rfl,r'⟩
 ·exact ⟨v,e1,gr,hd,av,obs,r',fl,hlit,hm,hrep⟩
 ·refine ⟨v,e1,gr,fun _=>.slice none 0 0,_,_,r',rfl,fun ob ho i hi=>?_,⟨fun k ob hk b hb=>?_,fun k ob hk=>?_,fun k hk=>⟨none,0,0,rfl⟩,fun k k' o o' hk hk' hne=>.inl rfl⟩,?_⟩
  ·simp only [List.mem_singleton] at ho
   subst ho
   simp at hi
  ·simp [Value.ownBlock] at hb
  ·cases k with
   |zero=>
    simp only [List.map_cons,List.map_nil,List.getElem?_cons_zero,Option.some.injEq] at hk
    subst hk
    exact ⟨hsz,[],⟨by simp,.inl ⟨rfl,rfl⟩⟩,fun i hi=>by simp at hi⟩
   |succ k=>simp at hk
  ·cases hrep with
   |tup _ us hl2 hr2=>
    match us,hl2 with
    |[u1,u2],_=>
     have q1:=hr2 0 _ u1 rfl rfl
     have q2:=hr2 1 _ u2 rfl rfl
     cases q1
     cases q2
     refine .tup _ [.slice none 0 0,x] rfl fun j a u ha hu=>?_
     match j with
     |0=>
      simp only [List.getElem?_cons_zero,Option.some.injEq] at ha hu
      subst ha;subst hu
      exact .own (hd:=fun _=>.slice none 0 0) 0 (by simp)
     |1=>
      simp only [List.getElem?_cons_succ,List.getElem?_cons_zero,Option.some.injEq] at ha hu
      subst ha;subst hu
      exact .lit _
     |j+2=>simp at ha
theorem KT (l:List POp) (z:ByteArray) (f:Nat) (h:f≤z.size):(YB l z f).length+f≤z.size+1:=by
 by_cases hi:f+run YH z f<z.size
 ·rw [Vl rfl hi]
  have h1:=Vk l z (f+run YH z f)
  have h2:=V3 l z (f+run YH z f) hi
  have:=KT l z (f+run YH z f+ZV l z (f+run YH z f)) h2
  simp only [List.length_cons]
  omega
 ·rw [WK rfl hi]
  simp
  omega
termination_by z.size-f
set_option maxRecDepth 10000 in
theorem Zll (l:List POp) (hl:l.length≤9223372036854775807) (hw:YT l) (t:List PTok) (ht:t.length≤1048576) (hz:∀ i,i<t.length→(Zj t i).text.size≤maxLen):VFun Tryz.prog 50 [.agg [.sl 4 l.length (Zg l)],.sl 3 t.length (Zr t)] (fun av obs=>(∃ x,Z8 l t=([],x)∧av=.tup [.lit (.slice none 0 0),.lit (.int .i64 x)]∧obs=[])∨(av=.tup [.own 0,.lit (.int .i64 (Z8 l t).2)]∧obs=[⟨3,1,(Z8 l t).1.length,ZA (Z8 l t).1⟩])):=by
 have cl:∀ (i:Nat) (c:AV),i<l.length→c∈Zg l i→Closed c:=fun i c _ h=>ZK l i c h
 have clt:∀ (i:Nat) (c:AV),i<t.length→c∈Zr t i→Closed c:=fun i c _ h=>Zs t i c h
 refine Zi Tryz.func50 (by kernel_rfl) rfl (by simp [Tryz.ntmps50]) ?_;simp only [Tryz.ntmps50,Tryz.results50];simp [go_sem]
 refine Zc (Q2 l hl hw) ?_ ?_
 ·simp [go_sem]
  exact Ze (by omega) cl
 ·simp [go_sem]
  refine ⟨fun h0=>by simp [Z8,h0],fun h0=>?_⟩
  have hu:=WF h0
  have nil_:∀ x,Z8 l t=([],x)→Z8 l t=([],x)∨False:=fun x h=>.inl h
  refine Zd [] (Jo l hl hw) (by simp) ?_ ?_ ?_ ?_
  ·simp [go_sem]
   exact cl
  ·simp [go_sem]
  ·simp [go_sem]
  ·rintro av mem maps ⟨b1,b2,e1,e2,rfl,rfl,rfl,hb,hat,htx⟩
   have hb':¬b2=b1:=fun e=>hb e.symm
   simp [go_sem]
   refine ⟨by omega,by omega,by omega,by omega,?_⟩
   refine Y9 (fun i:Nat=>i≤t.length∧(∀ j,j<i→0≤ZI l t j (Ye l t j))∧(∀ j,j<i→(Zj t j).kind≠7)∧0≤ZJ t i) (fun i=>t.length-i) (fun i=>⟨[(1,.sl 3 t.length (Zr t)),(6,.ptr 0 2 0 0),(7,.own 1),(8,.lit (.bool !(Ye l t i))),(9,.lit (.int .i64 (ZJ t i))),(27,.sl 3 t.length (Zr t)),(28,.lit (.int .i64 t.length)),(29,.lit (.int .i64 i))],[some ⟨70,2,1,fun _=>[.lit (.map (some b1)),.lit (.map (some b2))]⟩,some ⟨3,1,(YA l t i).length,ZA (YA l t i)⟩],[(b2,⟨9,e2⟩),(b1,⟨151,e1⟩)],0⟩) ⟨0,⟨by omega,by simp,by simp,by simp [ZJ]⟩,?_⟩ (fun i hi=>?_)
   ·refine Zx [1,2] (by simp) (by simp) (by simp) (by simp) (by simp [go_sem,hb']) ?_ ?_
    ·simp [go_sem,Ye,ZJ]
     exact clt
    ·simp [go_sem,YA]
   ·obtain ⟨h1,h2,h3,h4⟩:=hi
    have hop:=K8 t i
    have hlen:=Qk l t i
    have hsucc:=Hr l t i
    by_cases h:i<t.length
    ·have bad:ZI l t i (Ye l t i)<0→Z8 l t=([],(i:Int)):=fun e=>by
      have:=JD h h2 e
      simp [Z8,h0,this]
     have next:0≤ZI l t i (Ye l t i)→(Zj t i).kind≠7→0≤ZJ t (i+1)→i+1≤t.length∧(∀ j,j<i+1→0≤ZI l t j (Ye l t j))∧(∀ j,j<i+1→(Zj t j).kind≠7)∧0≤ZJ t (i+1):=fun a1 a2 a3=>by
      refine ⟨by omega,fun j hj=>?_,fun j hj=>?_,a3⟩
      ·rcases Nat.lt_succ_iff_lt_or_eq.mp hj with hj|rfl
       ·exact h2 j hj
       ·exact a1
      ·rcases Nat.lt_succ_iff_lt_or_eq.mp hj with hj|rfl
       ·exact h3 j hj
       ·exact a2
     have app:∀ (r:Int),ZI l t i (Ye l t i)=r→∀ j,j<i+1→Z2 i (ZA (YA l t i)) (fun q=>[[AV.lit (.int .i64 r)]][q]?.getD []) j=ZA (YA l t i++[ZI l t i (Ye l t i)]) j:=fun r e j hj=>by
      have:=Zby (YA l t i) (ZI l t i (Ye l t i)) j (by rw [hlen];exact hj)
      rw [hlen,e] at this
      rw [e];exact this
     cases hst:Ye l t i with
     |false=>
      rw [hst] at bad app
      by_cases k1:(Zj t i).kind=1
      ·have hst':Ye l t (i+1)=true:=by simp [Ye,hst,k1]
       have ho':ZJ t (i+1)=ZJ t i:=by simp [ZJ,k1]
       simp [go_sem,Zo,h,hst,k1,hlen]
       refine ⟨by omega,by omega,i+1,next (by rw [hst];simp [ZI,k1]) (by omega) (by rw [ho'];omega),by omega,?_⟩
       refine Zx [0,4] (by simp) (by simp) (by simp) (by simp) (by simp [go_sem,hb',hb]) ?_ ?_
       ·simp [go_sem,hst',ho']
        exact ⟨clt,Zn (by omega)⟩
       ·simp [go_sem,hsucc,hlen,hst]
        exact .inl fun j hj=>⟨app 0 (by simp [ZI,k1]) j hj,Yp _ _⟩
      ·by_cases k2:(Zj t i).kind=2
       ·have hst':Ye l t (i+1)=true:=by simp [Ye,hst,k2]
        have ho':ZJ t (i+1)=ZJ t i:=by simp [ZJ,k2]
        simp [go_sem,Zo,h,hst,k2,hlen]
        refine ⟨by omega,by omega,i+1,next (by rw [hst];simp [ZI,k2]) (by omega) (by rw [ho'];omega),by omega,?_⟩
        refine Zx [0,4] (by simp) (by simp) (by simp) (by simp) (by simp [go_sem,hb',hb]) ?_ ?_
        ·simp [go_sem,hst',ho']
         exact ⟨clt,Zn (by omega)⟩
        ·simp [go_sem,hsucc,hlen,hst]
         exact .inl fun j hj=>⟨app 0 (by simp [ZI,k2]) j hj,Yp _ _⟩
       ·by_cases k4:(Zj t i).kind=4
        ·have hst':Ye l t (i+1)=false:=by simp [Ye,hst,k4]
         have ho':ZJ t (i+1)=ZJ t i+1:=by simp [ZJ,k4]
         simp [go_sem,Zo,h,hst,k4,hlen]
         refine ⟨by omega,by omega,i+1,next (by rw [hst];simp [ZI,k4]) (by omega) (by rw [ho'];omega),by omega,?_⟩
         refine Zx [0,4] (by simp) (by simp) (by simp) (by simp) (by simp [go_sem,hb',hb]) ?_ ?_
         ·simp [go_sem,hst',ho']
          exact ⟨clt,wrap_i64 (by omega),clt,Zn (by omega)⟩
         ·simp [go_sem,hsucc,hlen,hst]
          exact .inl fun j hj=>⟨app 0 (by simp [ZI,k4]) j hj,Yp _ _⟩
        ·by_cases k3:(Zj t i).kind=3
         ·simp [go_sem,Zo,h,hst,k3,hlen]
          refine Zd [] (ZgV l hu b1 b2 e1 hat (Zj t i).text (hz i h) 1) (by simp) ?_ ?_ ?_ ?_
          ·simp [go_sem]
          ·simp [go_sem]
          ·simp [go_sem,hb']
          ·rintro av mem maps ⟨⟨o1,rfl,ho1⟩,rfl,rfl⟩
           cases hp:ZQ l (Zj t i).text 1 with
           |false=>
            simp [go_sem,hp,POp.cells]
            exact bad (by simp [ZI,k3,hp])
           |true=>
            have hst':Ye l t (i+1)=false:=by simp [Ye,hst,k3]
            have ho':ZJ t (i+1)=ZJ t i:=by simp [ZJ,k3]
            simp [go_sem,hp,hlen,POp.cells]
            refine ⟨by omega,by omega,i+1,next (by rw [hst];simp [ZI,k3,hp]) (by omega) (by rw [ho'];omega),by omega,?_⟩
            refine Zx [0,5] (by simp) (by simp) (by simp) (by simp) (by simp [go_sem,hb',hb]) ?_ ?_
            ·simp [go_sem,hst',ho']
             exact ⟨clt,Zn (by omega)⟩
            ·simp [go_sem,hsucc,hlen,hst]
             exact .inl fun j hj=>⟨app 1 (by simp [ZI,k3,hp]) j hj,Yp _ _⟩
         ·have q1:((Zj t i).kind==1)=false:=by simpa using k1
          have q2:((Zj t i).kind==2)=false:=by simpa using k2
          have q3:((Zj t i).kind==3)=false:=by simpa using k3
          have q4:((Zj t i).kind==4)=false:=by simpa using k4
          simp [go_sem,Zo,h,hst,q1,q2,q3,q4,hlen]
          exact bad (by simp [ZI,k1,k2,k3,k4])
     |true=>
      rw [hst] at bad app
      by_cases k3:(Zj t i).kind=3
      ·simp [go_sem,Zo,h,hst,k3,hlen]
       refine Zd [] (ZgV l hu b1 b2 e1 hat (Zj t i).text (hz i h) 2) (by simp) ?_ ?_ ?_ ?_
       ·simp [go_sem]
       ·simp [go_sem]
       ·simp [go_sem,hb']
       ·rintro av mem maps ⟨⟨o2,rfl,ho2⟩,rfl,rfl⟩
        cases hp:ZQ l (Zj t i).text 2 with
        |true=>
         have hno:ZQ l (Zj t i).text 3=false:=by
          rw [Bool.eq_false_iff]
          intro e
          obtain ⟨j,hj,e3,e4⟩:=(YU _ _ _).1 e
          obtain ⟨j',hj',e5,e6⟩:=(YU _ _ _).1 hp
          have:=hu j j' hj hj' (by rw [e3,e5]) (by rw [e4,e6];rfl)
          rw [this,e6] at e4
          cases e4
         have hst':Ye l t (i+1)=false:=by simp [Ye,hst,k3,hno]
         have ho':ZJ t (i+1)=ZJ t i:=by simp [ZJ,k3]
         simp [go_sem,hp,hlen,POp.cells]
         refine ⟨by omega,by omega,i+1,next (by rw [hst];simp [ZI,k3,hp]) (by omega) (by rw [ho'];omega),by omega,?_⟩
         refine Zx [0,5] (by simp) (by simp) (by simp) (by simp) (by simp [go_sem,hb',hb]) ?_ ?_
         ·simp [go_sem,hst',ho']
          exact ⟨clt,Zn (by omega)⟩
         ·simp [go_sem,hsucc,hlen,hst]
          exact .inl fun j hj=>⟨app 2 (by simp [ZI,k3,hp]) j hj,Yp _ _⟩
        |false=>
         simp [go_sem,hp,POp.cells]
         refine Zd [] (ZgV l hu b1 b2 e1 hat (Zj t i).text (hz i h) 3) (by simp) ?_ ?_ ?_ ?_
         ·simp [go_sem]
         ·simp [go_sem]
         ·simp [go_sem,hb']
         ·rintro av mem maps ⟨⟨o3,rfl,ho3⟩,rfl,rfl⟩
          cases hq:ZQ l (Zj t i).text 3 with
          |true=>
           have hst':Ye l t (i+1)=true:=by simp [Ye,hst,k3,hq]
           have ho':ZJ t (i+1)=ZJ t i:=by simp [ZJ,k3]
           simp [go_sem,hq,hlen,POp.cells]
           refine ⟨by omega,by omega,i+1,next (by rw [hst];simp [ZI,k3,hp,hq]) (by omega) (by rw [ho'];omega),by omega,?_⟩
           refine Zx [0,6] (by simp) (by simp) (by simp) (by simp) (by simp [go_sem,hb',hb]) ?_ ?_
           ·simp [go_sem,hst',ho']
            exact ⟨clt,Zn (by omega)⟩
           ·simp [go_sem,hsucc,hlen,hst]
            exact .inl fun j hj=>⟨app 3 (by simp [ZI,k3,hp,hq]) j hj,Yp _ _⟩
          |false=>
           simp [go_sem,hq,POp.cells]
           exact bad (by simp [ZI,k3,hp,hq])
      ·have q3:((Zj t i).kind==3)=false:=by simpa using k3
       by_cases k5:(Zj t i).kind=5
       ·by_cases hpos:0<ZJ t i
        ·have hst':Ye l t (i+1)=true:=by simp [Ye,k5]
         have ho':ZJ t (i+1)=ZJ t i-1:=by simp [ZJ,k5]
         simp [go_sem,Zo,h,hst,k5,hpos,hlen]
         refine ⟨by omega,by omega,i+1,next (by rw [hst];simp [ZI,k5,hpos]) (by omega) (by rw [ho'];omega),by omega,?_⟩
         refine Zx [0,4] (by simp) (by simp) (by simp) (by simp) (by simp [go_sem,hb',hb]) ?_ ?_
         ·simp [go_sem,hst',ho']
          exact ⟨clt,wrap_i64 (by omega),clt,Zn (by omega)⟩
         ·simp [go_sem,hsucc,hlen,hst]
          exact .inl fun j hj=>⟨app 0 (by simp [ZI,k5,hpos]) j hj,Yp _ _⟩
        ·have e0:ZJ t i=0:=by omega
         simp [go_sem,Zo,h,hst,k5,e0,hlen]
         exact bad (by simp [ZI,k5,e0])
       ·have q5:((Zj t i).kind==5)=false:=by simpa using k5
        by_cases k7:(Zj t i).kind=7
        ·by_cases e0:ZJ t i=0
         ·by_cases elast:i+1=t.length
          ·have ew:IntKind.i64.wrap ((t.length:Int)-1)=i:=by rw [wrap_i64 (by omega)];omega
           simp [go_sem,Zo,h,hst,k7,e0,hlen,ew]
           have hr0:ZI l t i true=0:=by simp [ZI,k7,e0,elast]
           have hn:=Ub (l:=l) (t:=t) fun j hj=>by
            rcases Nat.lt_succ_iff_lt_or_eq.mp (show j<i+1 by omega) with hj|rfl
            ·exact h2 j hj
            ·rw [hst,hr0];omega
           have hlast:t.length-1=i:=by omega
           have hzz:Z8 l t=(YA l t (i+1),-1):=by
            have hne:VG t=true:=by
             simp only [VG,hlast,k7,Bool.and_eq_true,decide_eq_true_eq]
             exact ⟨by omega,trivial⟩
            simp [Z8,h0,hn,hne,elast]
           rw [hzz]
           refine ⟨by omega,by omega,by omega,?_,rfl⟩
           refine obsSame_one.mpr ⟨⟨3,1,i+1,ZA (YA l t (i+1))⟩,⟨rfl,rfl,rfl,fun j hj=>⟨?_,rfl⟩⟩,by rw [Qk]⟩
           have:=app 0 hr0 j hj
           rw [hsucc,hst]
           exact this
          ·have ew:((i:Int)==IntKind.i64.wrap ((t.length:Int)-1))=false:=by rw [wrap_i64 (by omega)];simp;omega
           simp [go_sem,Zo,h,hst,k7,e0,hlen,ew]
           exact ⟨by omega,bad (by simp [ZI,k7,e0,elast])⟩
         ·have q0:(ZJ t i==0)=false:=by simpa using e0
          simp [go_sem,Zo,h,hst,k7,q0,hlen]
          exact bad (by simp [ZI,k7,e0])
        ·have q7:((Zj t i).kind==7)=false:=by simpa using k7
         simp [go_sem,Zo,h,hst,q3,q5,q7,hlen]
         exact bad (by simp [ZI,k3,k5,k7])
    ·have e:i=t.length:=by omega
     simp [go_sem,h]
     refine ⟨by omega,?_⟩
     have hn:=Ub (l:=l) (t:=t) fun j hj=>h2 j (by omega)
     have hne:VG t=false:=by
      rw [Bool.eq_false_iff]
      intro e2
      simp only [VG,Bool.and_eq_true,decide_eq_true_eq] at e2
      exact h3 (t.length-1) (by omega) e2.2
     simp [Z8,h0,hn,hne]
structure Rd where
 n:Nat
 f:Nat→Nat
 p:Nat
def Rd.ok (r:Rd):Prop:=r.n≤1200∧r.p≤r.n∧∀ i,r.f i<256
def Yc (f:Nat→Nat) (i:Nat):List AV:=[.lit (.int .u8 (f i))]
theorem Zgy (f:Nat→Nat) (i:Nat):Yc f i=[.lit (.int .u8 (f i))]:=rfl
theorem YF (f:Nat→Nat) (i:Nat) (c:AV) (h:c∈Yc f i):Closed c:=by
 simp [Yc] at h
 subst h
 exact .lit _
def ZB (r:Rd):Option Ob:=some ⟨138,2,1,fun _=>[.sl 1 r.n (Yc r.f),.lit (.int .i64 r.p)]⟩
def Rd.v (r:Rd):Nat:=if r.p<r.n then r.f r.p else 0
def Rd.nx (r:Rd):Rd:=if r.p<r.n then { r with p:=r.p+1 } else r
def Rd.okw (r:Rd):Prop:=r.n≤1200∧r.p≤2400∧∀ i,r.f i<256
theorem Rd.ok.w {r:Rd} (h:r.ok):r.okw:=⟨h.1,by have:=h.1;have:=h.2.1;omega,h.2.2⟩
theorem Rd.nx_okw {r:Rd} (h:r.okw):r.nx.okw:=by
 unfold Rd.nx
 split
 ·exact ⟨h.1,by have:=h.1;simp only;omega,h.2.2⟩
 ·exact h
theorem Rd.v_ltw {r:Rd} (h:r.okw):r.v<256:=by
 unfold Rd.v
 split
 ·exact h.2.2 _
 ·omega
theorem Rd.nx_ok {r:Rd} (h:r.ok):r.nx.ok:=by
 unfold Rd.nx
 split
 ·exact ⟨h.1,by simp only;omega,h.2.2⟩
 ·exact h
theorem Rd.v_lt {r:Rd} (h:r.ok):r.v<256:=by
 unfold Rd.v
 split
 ·exact h.2.2 _
 ·omega
theorem Ww {idx:Nat→Nat} {ks:List Nat} {ty n p:Nat} {f:Nat→Nat}:Vw idx ks ⟨ty,2,1,fun _=>[.sl 1 n (Yc f),.lit (.int .i64 p)]⟩ (some (some ⟨ty,2,1,fun _=>[.sl 1 n (Yc f),.lit (.int .i64 p)]⟩)):=
 ⟨rfl,rfl,rfl,fun i hi=>⟨rfl,fun c hc=>by
  simp at hc
  rcases hc with rfl|rfl
  ·exact .inr ⟨⟨_,_,_,rfl⟩,.sl _ _ _ fun i c _ h=>YF f i c h⟩
  ·exact .inl rfl,fun c hc q hq=>by
  simp at hc
  rcases hc with rfl|rfl<;>simp [VP] at hq⟩⟩
theorem Jm (r:Rd) (h:r.okw):VProc Tryz.prog 53 [.ptr 0 2 0 0] [ZB r] [] (fun av mem maps=>av=.lit (.int .i64 r.v)∧mem=[ZB r.nx]∧maps=[]):=by
 obtain ⟨n,f,p⟩:=r
 obtain ⟨h1,h2,h3⟩:=h
 simp only at h1 h2 h3
 simp only [ZB,Rd.v,Rd.nx]
 by_cases hp:p<n
 ·simp only [if_pos hp]
  have e1:=h3 p
  have ew:IntKind.i64.wrap (f p:Int)=f p:=wrap_i64 (by omega)
  refine Zl Tryz.func53 (by kernel_rfl) rfl (by simp [Tryz.ntmps53]) ?_;simp only [Tryz.ntmps53,Tryz.results53];simp [go_sem]
  refine Zq [] (.q 0 <| .q 1 <| .q 2 <| .q 3 <| .q 4 <| .q 5 <| .q 6 <| .q 7 <| .q 8 <| .q 9 <| .done) (by kernel_rfl) ?_
  simp [go_sem,hp]
  refine ⟨by omega,?_⟩
  refine Zq [] (.q 0 <| .q 1 <| .q 2 <| .q 3 <| .q 4 <| .q 5 <| .q 6 <| .q 7 <| .q 8 <| .q 9 <| .q 10 <| .q 11 <| .done) (by kernel_rfl) ?_
  have ep:IntKind.i64.wrap ((p:Int)+1)=((p+1:Nat):Int):=Zn (by omega)
  simp [go_sem,hp,Zgy,ew,ep]
  refine ⟨rfl,[],[ZB ⟨n,f,p+1⟩],by simp,by simp,by simp [go_sem],?_,by simp [go_sem],?_⟩
  ·simp [go_sem,ZB]
   exact Ww (p:=p+1)
  ·simp [go_sem,ZB]
 ·simp only [if_neg hp]
  refine Zl Tryz.func53 (by kernel_rfl) rfl (by simp [Tryz.ntmps53]) ?_;simp only [Tryz.ntmps53,Tryz.results53];simp [go_sem]
  refine Zq [] (.q 0 <| .q 1 <| .q 2 <| .q 3 <| .q 4 <| .q 5 <| .q 6 <| .q 7 <| .q 8 <| .q 9 <| .done) (by kernel_rfl) ?_
  simp [go_sem,hp]
  refine ⟨by omega,rfl,[],[ZB ⟨n,f,p⟩],by simp,by simp,by simp [go_sem],?_,by simp [go_sem],?_⟩
  ·simp [go_sem,ZB]
   exact Ww
  ·simp [go_sem,ZB]
theorem W7 (r:Rd) (h:r.ok):VProc Tryz.prog 53 [.ptr 0 2 0 0] [ZB r] [] (fun av mem maps=>av=.lit (.int .i64 r.v)∧mem=[ZB r.nx]∧maps=[]):=Jm r h.w
theorem ZgW (r:Rd) (h:r.ok):VProc Tryz.prog 139 [.ptr 0 2 0 0] [ZB r] [] (fun av mem maps=>av=.lit (.int .i64 (r.n-r.p:Nat))∧mem=[ZB r]∧maps=[]):=by
 obtain ⟨n,f,p⟩:=r
 obtain ⟨h1,h2,h3⟩:=h
 simp only at h1 h2 h3
 simp only [ZB]
 have ew:IntKind.i64.wrap ((n:Int)-p)=((n-p:Nat):Int):=by rw [wrap_i64 (by omega)];omega
 refine Zl Tryz.func139 (by kernel_rfl) rfl (by simp [Tryz.ntmps139]) ?_;simp only [Tryz.ntmps139,Tryz.results139];simp [go_sem]
 refine Zq [] (.q 0 <| .q 1 <| .q 2 <| .q 3 <| .q 4 <| .q 5 <| .q 6 <| .q 7 <| .q 8 <| .q 9 <| .q 10 <| .done) (by kernel_rfl) ?_
 simp [go_sem,ew]
 refine ⟨by omega,rfl,[],[ZB ⟨n,f,p⟩],by simp,by simp,by simp [go_sem],?_,by simp [go_sem],?_⟩
 ·simp [go_sem,ZB]
  exact Ww
 ·simp [go_sem,ZB]
def WA (N:Nat) (f:Nat→Nat):Rd:=⟨if N≤1200 then N else 1200,f,0⟩
theorem Zhu (N:Nat) (f:Nat→Nat) (h:∀ i,f i<256):(WA N f).ok:=by
 refine ⟨?_,Nat.zero_le _,h⟩
 simp only [WA]
 split<;>omega
theorem Zko (N:Nat) (f:Nat→Nat) (hN:N≤9223372036854775807):VProc Tryz.prog 38 [.sl 1 N (Yc f)] [] [] (fun av mem maps=>av=.ptr 0 2 0 0∧mem=[ZB (WA N f)]∧maps=[]):=by
 by_cases hc:N≤1200
 ·have e:WA N f=⟨N,f,0⟩:=by simp [WA,hc]
  rw [e]
  simp only [ZB]
  refine Zl Tryz.func38 (by kernel_rfl) rfl (by simp [Tryz.ntmps38]) ?_;simp only [Tryz.ntmps38,Tryz.results38];simp [go_sem]
  refine ⟨by omega,fun h=>by omega,fun _=>?_⟩
  refine ⟨rfl,[0],[ZB ⟨N,f,0⟩],by simp,by simp,by simp [go_sem],?_,by simp [go_sem],?_⟩
  ·simp [go_sem,ZB]
   exact Ww (p:=0)
  ·simp [go_sem,ZB]
 ·have e:WA N f=⟨1200,f,0⟩:=by simp [WA,hc]
  rw [e]
  simp only [ZB]
  refine Zl Tryz.func38 (by kernel_rfl) rfl (by simp [Tryz.ntmps38]) ?_;simp only [Tryz.ntmps38,Tryz.results38];simp [go_sem]
  refine ⟨by omega,fun h=>⟨by omega,?_⟩,fun h=>by omega⟩
  refine ⟨rfl,[0],[ZB ⟨1200,f,0⟩],by simp,by simp,by simp [go_sem],?_,by simp [go_sem],?_⟩
  ·simp [go_sem,ZB]
   exact Ww (p:=0)
  ·simp [go_sem,ZB]
def l1T (k:Nat):ByteArray:=match k%12 with
 |0=>⟨#[43]⟩|1=>⟨#[45]⟩|2=>⟨#[43,43]⟩|3=>⟨#[42]⟩|4=>⟨#[33]⟩|5=>⟨#[61,61]⟩|6=>⟨#[43,43,43]⟩|7=>⟨#[33,61]⟩|8=>⟨#[45,45]⟩|9=>⟨#[94]⟩|10=>⟨#[61,62]⟩ | _=>⟨#[63,58]⟩
theorem Z6 (k m:Nat):(k:Int).tmod m=((k%m:Nat):Int):=by rw [Int.tmod_eq_emod_of_nonneg (by omega)];omega
theorem Zbu (k:Nat):(l1T k).size≤3:=by
 unfold l1T
 split<;>decide
theorem Zb0 (k:Nat):VFun Tryz.prog 128 [.lit (.int .i64 k)] (fun av obs=>obs=[]∧av=.lit (.string (l1T k))):=by
 have e:=Z6 k 12
 have hlt:k%12<12:=Nat.mod_lt _ (by decide)
 unfold l1T
 generalize hm:k%12=q at *
 rw [show ((12:Nat):Int)=12 from rfl] at e
 refine Zi Tryz.func128 (by kernel_rfl) rfl (by simp [Tryz.ntmps128]) ?_;simp only [Tryz.ntmps128,Tryz.results128];simp [go_sem]
 rw [e]
 rcases (by omega:q=0∨q=1∨q=2∨q=3∨q=4∨q=5∨q=6∨q=7∨q=8∨q=9∨q=10∨q=11) with h|h|h|h|h|h|h|h|h|h|h|h<;>subst h<;>simp
def ZgS (k:Nat):Int×Int:=if k%8<2 then (1,0) else if k%8=2 then (3,0) else (2,1+(k/8%3:Nat))
def Jl (k v:Nat):POp:=⟨l1T v,(ZgS k).1,1+(v/12%6:Nat),(ZgS k).2⟩
def Jk (k v:Nat) (tidy:Bool):POp:=if tidy then { Jl k v with level:=3*(v/12%4:Nat)+XF (Jl k v) } else Jl k v
def ZaA (k v:Nat) (tidy:Bool):POp:=if 250≤k then { Jk k v tidy with level:=997+XF (Jk k v tidy) } else Jk k v tidy
def V7 (r:Rd) (tidy:Bool):POp:=ZaA r.v r.nx.v tidy
set_option maxRecDepth 100000 in
theorem Zab (r:Rd) (hr:r.okw) (tidy:Bool):VProc Tryz.prog 103 [.ptr 0 2 0 0,.lit (.bool tidy)] [ZB r] [] (fun av mem maps=>av=.agg (V7 r tidy).cells∧mem=[ZB r.nx.nx]∧maps=[]):=by
 have cr:∀ (r:Rd) (i:Nat) (c:AV),i<r.n→c∈Yc r.f i→Closed c:=fun r i c _ h=>YF r.f i c h
 have c1:=Jm r hr
 have c2:=Jm r.nx (Rd.nx_okw hr)
 have hk:=Rd.v_ltw hr
 have hv:=Rd.v_ltw (Rd.nx_okw hr)
 unfold V7
 generalize hK:r.v=k at *
 generalize hV:r.nx.v=v at *
 simp only [ZB,POp.cells] at c1 c2 ⊢
 have c3:=Zb0 v
 have e1:(k:Int).tmod 8=((k%8:Nat):Int):=Z6 k 8
 have e2:(IntKind.i64.wrap ((k:Int)/8)).tmod 3=((k/8%3:Nat):Int):=by rw [wrap_i64 (by omega),show (k:Int)/8=((k/8:Nat):Int) by omega];exact Z6 _ 3
 have e3:(IntKind.i64.wrap ((v:Int)/12)).tmod 6=((v/12%6:Nat):Int):=by rw [wrap_i64 (by omega),show (v:Int)/12=((v/12:Nat):Int) by omega];exact Z6 _ 6
 have e4:(IntKind.i64.wrap ((v:Int)/12)).tmod 4=((v/12%4:Nat):Int):=by rw [wrap_i64 (by omega),show (v:Int)/12=((v/12:Nat):Int) by omega];exact Z6 _ 4
 have ha:k%8<8:=Nat.mod_lt _ (by decide)
 have hb:k/8%3<3:=Nat.mod_lt _ (by decide)
 have hc:v/12%6<6:=Nat.mod_lt _ (by decide)
 have hd:v/12%4<4:=Nat.mod_lt _ (by decide)
 simp only [ZaA,Jk,Jl,ZgS]
 generalize k%8=a at *
 generalize k/8%3=b at *
 generalize v/12%6=c at *
 generalize v/12%4=d at *
 generalize l1T v=z at *
 have w1:IntKind.i64.wrap (1+(b:Int))=1+b:=wrap_i64 (by omega)
 have w2:IntKind.i64.wrap (1+(c:Int))=1+c:=wrap_i64 (by omega)
 have w3:IntKind.i64.wrap (3*(d:Int))=3*d:=wrap_i64 (by omega)
 have s0:=HT
 simp only [POp.cells] at s0
 refine Zl Tryz.func103 (by kernel_rfl) rfl (by simp [Tryz.ntmps103]) ?_;simp only [Tryz.ntmps103,Tryz.results103];simp [go_sem]
 refine Zd [0] c1 (by simp) ?_ ?_ trivial ?_
 ·simp [go_sem]
 ·simp [go_sem]
  exact cr r
 ·rintro av mem maps ⟨rfl,rfl,rfl⟩
  simp [go_sem]
  refine Zd [0] c2 (by simp) ?_ ?_ trivial ?_
  ·simp [go_sem]
  ·simp [go_sem]
   exact cr r.nx
  ·rintro av mem maps ⟨rfl,rfl,rfl⟩
   simp [go_sem]
   refine Zc c3 ?_ ?_
   ·simp [go_sem]
   ·have fin:∀ (ts:List (Nat×AV)) (x1 x2:Option Ob) (o:POp),VO [] (fun av mem maps=>av=.agg [.lit (.string o.text),.lit (.int .i64 o.kind),.lit (.int .i64 o.level),.lit (.int .i64 o.side)]∧mem=[some ⟨138,2,1,fun _=>[.sl 1 r.nx.nx.n (Yc r.nx.nx.f),.lit (.int .i64 r.nx.nx.p)]⟩]∧maps=[]) ⟨ts,[some ⟨138,2,1,fun _=>[.sl 1 r.nx.nx.n (Yc r.nx.nx.f),.lit (.int .i64 r.nx.nx.p)]⟩,x1,x2],[],1⟩ (.agg [.lit (.string o.text),.lit (.int .i64 o.kind),.lit (.int .i64 o.level),.lit (.int .i64 o.side)]):=by
     intro ts x1 x2 o
     refine ⟨rfl,[],[ZB r.nx.nx],by simp,by simp,by simp [go_sem],?_,by simp [go_sem],?_⟩
     ·simp [go_sem,ZB]
      exact Ww
     ·simp [go_sem,ZB]
    have hks:(a<2∧(if a<2 then ((1:Int),(0:Int)) else if a=2 then (3,0) else (2,1+(b:Int)))=(1,0))∨(¬a<2∧a=2∧(if a<2 then ((1:Int),(0:Int)) else if a=2 then (3,0) else (2,1+(b:Int)))=(3,0))∨(¬a<2∧¬a=2∧(if a<2 then ((1:Int),(0:Int)) else if a=2 then (3,0) else (2,1+(b:Int)))=(2,1+(b:Int))):=by
     by_cases h1:a<2
     ·exact .inl ⟨h1,if_pos h1⟩
     ·by_cases h2:a=2
      ·exact .inr (.inl ⟨h1,h2,by rw [if_neg h1,if_pos h2]⟩)
      ·exact .inr (.inr ⟨h1,h2,by rw [if_neg h1,if_neg h2]⟩)
    rcases hks with ⟨h1,hk2⟩|⟨h1,h2,hk2⟩|⟨h1,h2,hk2⟩
    ·rw [hk2]
     have h1':(a:Int)<2:=by omega
     have sN:∀ lv:Int,XF ⟨z,1,lv,0⟩=2:=fun _=>by simp [XF]
     have w4:IntKind.i64.wrap (3*(d:Int)+2)=3*d+2:=wrap_i64 (by omega)
     have w5:IntKind.i64.wrap (997+2)=997+2:=wrap_i64 (by omega)
     by_cases h5:250≤k
     ·have h5':(250:Int)≤k:=by omega
      cases tidy with
      |true=>
       simp [go_sem,e1,e2,e3,e4,w1,w2,w3,h1,h1',h5,h5',sN]
       refine Zc (s0 ⟨z,1,1+c,0⟩) ?_ ?_
       ·simp [go_sem]
       ·simp [go_sem,sN,w4,h5']
        refine Zc (s0 ⟨z,1,3*d+2,0⟩) ?_ ?_
        ·simp [go_sem]
        ·simp [go_sem,sN,w5]
         exact fin _ _ _ ⟨z,1,997+2,0⟩
      |false=>
       simp [go_sem,e1,e2,e3,e4,w1,w2,w3,h1,h1',h5,h5',sN]
       refine Zc (s0 ⟨z,1,1+c,0⟩) ?_ ?_
       ·simp [go_sem]
       ·simp [go_sem,sN,w5]
        exact fin _ _ _ ⟨z,1,997+2,0⟩
     ·have h5':¬(250:Int)≤k:=by omega
      cases tidy with
      |true=>
       simp [go_sem,e1,e2,e3,e4,w1,w2,w3,h1,h1',h5,h5',sN]
       refine Zc (s0 ⟨z,1,1+c,0⟩) ?_ ?_
       ·simp [go_sem]
       ·simp [go_sem,sN,w4,h5']
        exact fin _ _ _ ⟨z,1,3*d+2,0⟩
      |false=>
       simp [go_sem,e1,e2,e3,e4,w1,w2,w3,h1,h1',h5,h5',sN]
       exact fin _ _ _ ⟨z,1,1+c,0⟩
    ·rw [hk2]
     have h1':¬(a:Int)<2:=by omega
     have h2':(a:Int)=2:=by omega
     have sN:∀ lv:Int,XF ⟨z,3,lv,0⟩=1:=fun _=>by simp [XF]
     have w4:IntKind.i64.wrap (3*(d:Int)+1)=3*d+1:=wrap_i64 (by omega)
     have w5:IntKind.i64.wrap (997+1)=997+1:=wrap_i64 (by omega)
     by_cases h5:250≤k
     ·have h5':(250:Int)≤k:=by omega
      cases tidy with
      |true=>
       simp [go_sem,e1,e2,e3,e4,w1,w2,w3,h1,h1',h2,h2',h5,h5',sN]
       refine Zc (s0 ⟨z,3,1+c,0⟩) ?_ ?_
       ·simp [go_sem]
       ·simp [go_sem,sN,w4,h5']
        refine Zc (s0 ⟨z,3,3*d+1,0⟩) ?_ ?_
        ·simp [go_sem]
        ·simp [go_sem,sN,w5]
         exact fin _ _ _ ⟨z,3,997+1,0⟩
      |false=>
       simp [go_sem,e1,e2,e3,e4,w1,w2,w3,h1,h1',h2,h2',h5,h5',sN]
       refine Zc (s0 ⟨z,3,1+c,0⟩) ?_ ?_
       ·simp [go_sem]
       ·simp [go_sem,sN,w5]
        exact fin _ _ _ ⟨z,3,997+1,0⟩
     ·have h5':¬(250:Int)≤k:=by omega
      cases tidy with
      |true=>
       simp [go_sem,e1,e2,e3,e4,w1,w2,w3,h1,h1',h2,h2',h5,h5',sN]
       refine Zc (s0 ⟨z,3,1+c,0⟩) ?_ ?_
       ·simp [go_sem]
       ·simp [go_sem,sN,w4,h5']
        exact fin _ _ _ ⟨z,3,3*d+1,0⟩
      |false=>
       simp [go_sem,e1,e2,e3,e4,w1,w2,w3,h1,h1',h2,h2',h5,h5',sN]
       exact fin _ _ _ ⟨z,3,1+c,0⟩
    ·rw [hk2]
     have h1':¬(a:Int)<2:=by omega
     have h2':¬(a:Int)=2:=by omega
     have sN:∀ lv:Int,XF ⟨z,2,lv,(1+b)⟩=(1+b):=fun _=>by simp [XF]
     have w4:IntKind.i64.wrap (3*(d:Int)+(1+b))=3*d+(1+b):=wrap_i64 (by omega)
     have w5:IntKind.i64.wrap (997+(1+b))=997+(1+b):=wrap_i64 (by omega)
     by_cases h5:250≤k
     ·have h5':(250:Int)≤k:=by omega
      cases tidy with
      |true=>
       simp [go_sem,e1,e2,e3,e4,w1,w2,w3,h1,h1',h2,h2',h5,h5',sN]
       refine Zc (s0 ⟨z,2,1+c,(1+b)⟩) ?_ ?_
       ·simp [go_sem]
       ·simp [go_sem,sN,w4,h5']
        refine Zc (s0 ⟨z,2,3*d+(1+b),(1+b)⟩) ?_ ?_
        ·simp [go_sem]
        ·simp [go_sem,sN,w5]
         exact fin _ _ _ ⟨z,2,997+(1+b),(1+b)⟩
      |false=>
       simp [go_sem,e1,e2,e3,e4,w1,w2,w3,h1,h1',h2,h2',h5,h5',sN]
       refine Zc (s0 ⟨z,2,1+c,(1+b)⟩) ?_ ?_
       ·simp [go_sem]
       ·simp [go_sem,sN,w5]
        exact fin _ _ _ ⟨z,2,997+(1+b),(1+b)⟩
     ·have h5':¬(250:Int)≤k:=by omega
      cases tidy with
      |true=>
       simp [go_sem,e1,e2,e3,e4,w1,w2,w3,h1,h1',h2,h2',h5,h5',sN]
       refine Zc (s0 ⟨z,2,1+c,(1+b)⟩) ?_ ?_
       ·simp [go_sem]
       ·simp [go_sem,sN,w4,h5']
        exact fin _ _ _ ⟨z,2,3*d+(1+b),(1+b)⟩
      |false=>
       simp [go_sem,e1,e2,e3,e4,w1,w2,w3,h1,h1',h2,h2',h5,h5',sN]
       exact fin _ _ _ ⟨z,2,1+c,(1+b)⟩
theorem Zg2 (r:Rd) (hr:r.ok) (tidy:Bool):VProc Tryz.prog 103 [.ptr 0 2 0 0,.lit (.bool tidy)] [ZB r] [] (fun av mem maps=>av=.agg (V7 r tidy).cells∧mem=[ZB r.nx.nx]∧maps=[]):=Zab r hr.w tidy
theorem Zc1 (r:Rd) (tidy:Bool):(V7 r tidy).wf:=by
 have h:=Zbu r.nx.v
 have e:(V7 r tidy).text=l1T r.nx.v:=by
  simp only [V7,ZaA,Jk,Jl]
  split<;>split<;>rfl
 unfold POp.wf
 rw [e]
 simp only [maxLen]
 omega
def Kc (p:List POp×Rd):List POp×Rd:=(if Yv (p.1++[V7 p.2 true])=0 then p.1++[V7 p.2 true] else p.1,p.2.nx.nx)
def XI:Nat→List POp×Rd→List POp×Rd
 |0,p=>p
 |i+1,p=>Kc (XI i p)
theorem JO (p:Rd):∀ i,(XI i ([],p)).1.length≤i
 |0=>Nat.le_refl _
 |i+1=>by
  have:=JO p i
  simp only [XI,Kc]
  split<;>simp<;>omega
theorem H9 {p:Rd} (h:p.ok):∀ i,(XI i ([],p)).2.ok
 |0=>h
 |i+1=>Rd.nx_ok (Rd.nx_ok (H9 h i))
theorem H8 (p:Rd):∀ i,∀ o,o∈(XI i ([],p)).1→o.wf
 |0=>fun o h=>by simp [XI] at h
 |i+1=>fun o h=>by
  simp only [XI,Kc] at h
  split at h
  ·rcases List.mem_append.1 h with h|h
   ·exact H8 p i o h
   ·simp only [List.mem_singleton] at h
    rw [h];exact Zc1 _ _
  ·exact H8 p i o h
def Y4 (r:Rd):List POp×Rd:=XI (3+r.v%8) ([],r.nx)
set_option maxRecDepth 100000 in
theorem Zcp (r:Rd) (hr:r.ok):VProc Tryz.prog 63 [.ptr 0 2 0 0] [ZB r] [] (fun av mem maps=>av=.agg [.own 1]∧mem=[ZB (Y4 r).2,some ⟨133,4,(Y4 r).1.length,Zg (Y4 r).1⟩]∧maps=[]):=by
 have cr:∀ (r:Rd) (i:Nat) (c:AV),i<r.n→c∈Yc r.f i→Closed c:=fun r i c _ h=>YF r.f i c h
 have c1:=W7 r hr
 have hk:=Rd.v_lt hr
 have hn:=Rd.nx_ok hr
 unfold Y4
 generalize hK:r.v=k at *
 have e1:(k:Int).tmod 8=((k%8:Nat):Int):=Z6 k 8
 have ha:k%8<8:=Nat.mod_lt _ (by decide)
 generalize k%8=a at *
 have w1:IntKind.i64.wrap (3+(a:Int))=((3+a:Nat):Int):=by rw [wrap_i64 (by omega)];omega
 simp only [ZB] at c1 ⊢
 refine Zl Tryz.func63 (by kernel_rfl) rfl (by simp [Tryz.ntmps63]) ?_;simp only [Tryz.ntmps63,Tryz.results63];simp [go_sem]
 refine Zd [0] c1 (by simp) ?_ ?_ trivial ?_
 ·simp [go_sem]
 ·simp [go_sem]
  exact cr r
 ·rintro av mem maps ⟨rfl,rfl,rfl⟩
  simp [go_sem,e1]
  refine Y9 (fun i:Nat=>i≤3+a) (fun i=>3+a-i) (fun i=>⟨[(0,.ptr 0 2 0 0),(2,.ptr 1 1 0 0),(3,.lit (.int .i64 (3+a:Nat))),(4,.ptr 2 1 0 0),(5,.lit (.int .i64 i))],[ZB (XI i ([],r.nx)).2,some ⟨30,1,1,fun _=>[.lit (.slice none 0 0)]⟩,some ⟨30,1,1,fun _=>[.own 3]⟩,some ⟨133,4,(XI i ([],r.nx)).1.length,Zg (XI i ([],r.nx)).1⟩],[],1⟩) ⟨0,by omega,?_⟩ (fun i hi=>?_)
  ·refine Zx [0,1,3,2] (by simp) (by simp) (by simp) (by decide) (by simp [go_sem]) ?_ ?_
   ·simp [go_sem,w1]
   ·simp [go_sem,ZB,XI]
    exact fun i c h1 h2=>YF _ _ _ h2
  ·have hq:=H9 hn i
   have hlen:=JO r.nx i
   have hwf:=H8 r.nx i
   have hst:XI (i+1) ([],r.nx)=Kc (XI i ([],r.nx)):=rfl
   have hfin:i=3+a→XI i ([],r.nx)=XI (3+a) ([],r.nx):=fun e=>by rw [e]
   generalize hT:XI i ([],r.nx)=TQ at *
   obtain ⟨T,q⟩:=TQ
   simp only at hq hlen hwf
   have c2:=Zg2 q hq true
   have howf:=Zc1 q true
   simp only [Kc] at hst
   generalize hO:V7 q true=o at *
   have hw2:YT (T++[o]):=by
    intro j hj
    have hm:Zm (T++[o]) j∈T++[o]:=by
     unfold Zm
     rw [List.getD_eq_getElem?_getD,List.getElem?_eq_getElem hj]
     exact List.getElem_mem hj
    rcases List.mem_append.1 hm with h|h
    ·exact hwf _ h
    ·simp only [List.mem_singleton] at h
     rw [h];exact howf
   have c3:=Va (T++[o]) (by simp;omega) hw2
   simp only [ZB,POp.cells] at c2 ⊢
   simp [go_sem]
   refine ⟨fun hlt=>⟨by omega,by omega,?_⟩,fun hge=>?_⟩
   ·refine Zd [0] c2 (by simp) ?_ ?_ trivial ?_
    ·simp [go_sem]
    ·simp [go_sem]
     exact cr q
    ·rintro av mem maps ⟨rfl,rfl,rfl⟩
     have eqrow:∀ (g h:Nat→List AV),h 0=o.cells→∀ j,j<T.length+1→Z2 T.length (Z2 0 g (Zg T)) h j=Zg (T++[o]) j:=fun g h hh j hj=>by
      rw [←GW T o j hj]
      unfold Z2
      by_cases hl:j<T.length
      ·simp [hl]
      ·have e0:j-T.length=0:=by omega
       rw [if_neg hl,if_neg hl,e0,hh]
     simp [go_sem]
     refine ⟨by omega,by omega,Zc c3 ?_ ?_⟩
     ·simp [go_sem]
      exact ⟨by omega,_,rfl,fun j hj=>⟨eqrow (fun _=>[]) (fun i=>[o.cells][i]?.getD []) rfl j (by simpa using hj),fun c hc=>ZK _ _ _ hc⟩⟩
     ·by_cases h0:Yv (T++[o])=0
      ·rw [if_pos h0] at hst
       simp [go_sem,h0]
       refine ⟨i+1,by omega,by omega,?_⟩
       refine Zx [0,1,2,7] (by simp) (by simp) (by simp) (by decide) (by simp [go_sem]) ?_ ?_
       ·simp [go_sem]
        exact Zn (by omega)
       ·simp [go_sem,hst]
        exact ⟨fun j c h1 h2=>YF _ _ _ h2,.inr fun j hj=>by
         show Yf _ _ (Z2 T.length (Z2 0 (fun _=>[]) (Zg T)) (fun i=>[o.cells][i]?.getD []) j) _
         rw [eqrow (fun _=>[]) (fun i=>[o.cells][i]?.getD []) rfl j hj]
         exact Zk (XV _ j)⟩
      ·rw [if_neg h0] at hst
       simp [go_sem,h0]
       refine ⟨i+1,by omega,by omega,?_⟩
       refine Zx [0,1,2,3] (by simp) (by simp) (by simp) (by decide) (by simp [go_sem]) ?_ ?_
       ·simp [go_sem]
        exact Zn (by omega)
       ·simp [go_sem,hst]
        exact ⟨fun j c h1 h2=>YF _ _ _ h2,.inr fun j hj=>Zk (XV _ j)⟩
   ·have ei:i=3+a:=by omega
    have hR:=hfin ei
    rw [←hR]
    refine ⟨rfl,[3],[ZB q,some ⟨133,4,T.length,Zg T⟩],by simp,by simp,by simp [go_sem],?_,by simp [go_sem],?_⟩
    ·simp [go_sem,ZB]
     exact ⟨Ww,ZC (fun _ _=>rfl) (fun j _=>XV _ j)⟩
    ·simp [go_sem,ZB]
def Zal (k:Nat):ByteArray:=match k%5 with
 |0=>⟨#[32]⟩|1=>⟨#[]⟩|2=>⟨#[10,9]⟩|3=>⟨#[32,32]⟩ | _=>⟨#[]⟩
theorem Zfz (r:Rd) (hr:r.okw):VProc Tryz.prog 113 [.ptr 0 2 0 0] [ZB r] [] (fun av mem maps=>av=.lit (.string (Zal r.v))∧mem=[ZB r.nx]∧maps=[]):=by
 have cr:∀ (r:Rd) (i:Nat) (c:AV),i<r.n→c∈Yc r.f i→Closed c:=fun r i c _ h=>YF r.f i c h
 have c1:=Jm r hr
 generalize hK:r.v=k at *
 unfold Zal
 have e:=Z6 k 5
 rw [show ((5:Nat):Int)=5 from rfl] at e
 have hlt:k%5<5:=Nat.mod_lt _ (by decide)
 generalize k%5=q at *
 simp only [ZB] at c1 ⊢
 have fin:∀ (ts:List (Nat×AV)) (z:ByteArray),VO [] (fun av mem maps=>av=.lit (.string z)∧mem=[some ⟨138,2,1,fun _=>[.sl 1 r.nx.n (Yc r.nx.f),.lit (.int .i64 r.nx.p)]⟩]∧maps=[]) ⟨ts,[some ⟨138,2,1,fun _=>[.sl 1 r.nx.n (Yc r.nx.f),.lit (.int .i64 r.nx.p)]⟩],[],1⟩ (.lit (.string z)):=by
  intro ts z
  refine ⟨rfl,[],[ZB r.nx],by simp,by simp,by simp [go_sem],?_,by simp [go_sem],?_⟩
  ·simp [go_sem,ZB]
   exact Ww
  ·simp [go_sem,ZB]
 refine Zl Tryz.func113 (by kernel_rfl) rfl (by simp [Tryz.ntmps113]) ?_;simp only [Tryz.ntmps113,Tryz.results113];simp [go_sem]
 refine Zd [0] c1 (by simp) ?_ ?_ trivial ?_
 ·simp [go_sem]
 ·simp [go_sem]
  exact cr r
 ·rintro av mem maps ⟨rfl,rfl,rfl⟩
  rcases (by omega:q=0∨q=1∨q=2∨q=3∨q=4) with h|h|h|h|h<;>subst h<;>simp [go_sem,e]<;>exact fin _ _
end Go.Proofs.YtjdmmhcogmepaaaGreatDoor.V
namespace Go.Proofs.YtjdmmhcogmepaaaGreatDoor.Ops
structure Lv where
 lev:Int
 srt:Int
def Lv.h1 (a:Lv):Int:=if a.srt=1 then a.lev else a.lev+1
def Lv.h2 (a:Lv):Int:=if a.srt=2 then a.lev else a.lev+1
inductive Tr (α β:Type) where
 |leaf (b:β)
 |grp (t:Tr α β)
 |pre (o:α) (t:Tr α β)
 |post (o:α) (t:Tr α β)
 |inf (o:α) (l r:Tr α β)
inductive Tk (α β:Type) where
 |leaf (b:β)
 |pre (o:α)
 |inf (o:α)
 |post (o:α)
 |opn
 |cls
variable {α β:Type} (v:α→Lv)
def Tr.level:Tr α β→Int
 | .leaf _=>1001
 | .grp _=>1001
 | .pre o _=>(v o).lev
 | .post o _=>(v o).lev
 | .inf o _ _=>(v o).lev
def Tr.yield:Tr α β→List (Tk α β)
 | .leaf b=>[.leaf b]
 | .grp t=>.opn::(t.yield++[.cls])
 | .pre o t=>.pre o::t.yield
 | .post o t=>t.yield++[.post o]
 | .inf o l r=>l.yield++.inf o::r.yield
def Tr.Adm:Tr α β→Prop
 | .leaf _=>True
 | .grp t=>t.Adm
 | .pre o t=>(v o).h2≤t.level v∧t.Adm
 | .post o t=>(v o).h1≤t.level v∧t.Adm
 | .inf o l r=>(v o).h1≤l.level v∧(v o).h2≤r.level v∧l.Adm∧r.Adm
def Tr.All (p:α→Prop):Tr α β→Prop
 | .leaf _=>True
 | .grp t=>t.All p
 | .pre o t=>p o∧(v o).srt=2∧t.All p
 | .post o t=>p o∧(v o).srt=1∧t.All p
 | .inf o l r=>p o∧l.All p∧r.All p
structure Good (p:α→Prop):Prop where
 low:∀ a,p a→1≤(v a).lev
 high:∀ a,p a→(v a).lev≤1000
 one:∀ a b,p a→p b→(v a).lev=(v b).lev→(v a).srt=(v b).srt
abbrev Res (α β:Type):=Option (Option (Tr α β×List (Tk α β)))
def firstF (ope:Int→List (Tk α β)→Res α β) (ts:List (Tk α β)):Res α β:=
 match ts with
 | .leaf b::r=>some (some (.leaf b,r))
 | .opn::r=>
  match ope 0 r with
  |none=>none
  |some none=>some none
  |some (some (t,rest))=>
   match rest with
   | .cls::r'=>some (some (.grp t,r'))
   | _=>some none
 | .pre o::r=>
  match ope (v o).h2 r with
  |none=>none
  |some none=>some none
  |some (some (t,rest))=>some (some (.pre o t,rest))
 | _=>some none
def loopF (ope:Int→List (Tk α β)→Res α β) (lp:Int→Tr α β→List (Tk α β)→Res α β) (m:Int) (l:Tr α β) (ts:List (Tk α β)):Res α β:=
 match ts with
 | .inf o::r=>
  if (v o).lev<m then some (some (l,ts))
  else if l.level v<(v o).h1 then some (some (l,ts))
  else
   match ope (v o).h2 r with
   |none=>none
   |some none=>some none
   |some (some (t,rest))=>lp m (.inf o l t) rest
 | .post o::r=>
  if (v o).lev<m then some (some (l,ts))
  else if l.level v<(v o).h1 then some (some (l,ts))
  else lp m (.post o l) r
 | _=>some (some (l,ts))
mutual
def operand:Nat→Int→List (Tk α β)→Res α β
 |0,_,_=>none
 |n+1,m,ts=>
  match first n ts with
  |none=>none
  |some none=>some none
  |some (some (l,rest))=>if l.level v<m then some none else loop n m l rest
def first:Nat→List (Tk α β)→Res α β
 |0,_=>none
 |n+1,ts=>firstF v (operand n) ts
def loop:Nat→Int→Tr α β→List (Tk α β)→Res α β
 |0,_,_,_=>none
 |n+1,m,l,ts=>loopF v (operand n) (loop n) m l ts
end
theorem Zbg (n:Nat) :
  (∀ m (ts:List (Tk α β)) r,operand v n m ts=some r→operand v (n+1) m ts=some r)∧
  (∀ (ts:List (Tk α β)) r,first v n ts=some r→first v (n+1) ts=some r)∧
  (∀ m (l:Tr α β) ts r,loop v n m l ts=some r→loop v (n+1) m l ts=some r):=by
 induction n with
 |zero=>exact ⟨fun _ _ _ h=>by simp [operand] at h,fun _ _ h=>by simp [first] at h,fun _ _ _ _ h=>by simp [loop] at h⟩
 |succ n ih=>
  obtain ⟨iho,ihf,ihl⟩:=ih
  refine ⟨fun m ts r h=>?_,fun ts r h=>?_,fun m l ts r h=>?_⟩
  ·rw [operand] at h ⊢
   cases hf:first v n ts with
   |none=>rw [hf] at h;simp at h
   |some x=>
    rw [ihf _ _ hf];rw [hf] at h
    cases x with
    |none=>exact h
    |some y=>
     obtain ⟨l,rest⟩:=y
     simp only at h ⊢
     split
     ·rename_i hl;rw [if_pos hl] at h;exact h
     ·rename_i hl;rw [if_neg hl] at h;exact ihl _ _ _ _ h
  ·rw [first] at h ⊢;unfold firstF at h ⊢
   split at h
   ·exact h
   ·rename_i r0
    cases ho:operand v n 0 r0 with
    |none=>rw [ho] at h;simp at h
    |some x=>rw [iho _ _ _ ho];rw [ho] at h;exact h
   ·rename_i o r0
    cases ho:operand v n (v o).h2 r0 with
    |none=>rw [ho] at h;simp at h
    |some x=>rw [iho _ _ _ ho];rw [ho] at h;exact h
   ·exact h
  ·rw [loop] at h ⊢;unfold loopF at h ⊢
   split at h
   ·rename_i o r0
    split
    ·rename_i hc;rw [if_pos hc] at h;exact h
    ·rename_i hc;rw [if_neg hc] at h
     split
     ·rename_i hd;rw [if_pos hd] at h;exact h
     ·rename_i hd;rw [if_neg hd] at h
      cases ho:operand v n (v o).h2 r0 with
      |none=>rw [ho] at h;simp at h
      |some x=>
       rw [iho _ _ _ ho];rw [ho] at h
       cases x with
       |none=>exact h
       |some y=>exact ihl _ _ _ _ h
   ·rename_i o r0
    split
    ·rename_i hc;rw [if_pos hc] at h;exact h
    ·rename_i hc;rw [if_neg hc] at h
     split
     ·rename_i hd;rw [if_pos hd] at h;exact h
     ·rename_i hd;rw [if_neg hd] at h;exact ihl _ _ _ _ h
   ·exact h
theorem operand_le {n n':Nat} (h:n≤n') {m} {ts:List (Tk α β)} {r} (e:operand v n m ts=some r):operand v n' m ts=some r:=by
 induction h with
 |refl=>exact e
 |step _ ih=>exact (Zbg v _).1 _ _ _ ih
theorem first_le {n n':Nat} (h:n≤n') {ts:List (Tk α β)} {r} (e:first v n ts=some r):first v n' ts=some r:=by
 induction h with
 |refl=>exact e
 |step _ ih=>exact (Zbg v _).2.1 _ _ ih
theorem Zax {n n':Nat} (h:n≤n') {m} {l:Tr α β} {ts:List (Tk α β)} {r} (e:loop v n m l ts=some r):loop v n' m l ts=some r:=by
 induction h with
 |refl=>exact e
 |step _ ih=>exact (Zbg v _).2.2 _ _ _ _ ih
theorem sound_all (n:Nat) :
  (∀ m (ts:List (Tk α β)) t rest,operand v n m ts=some (some (t,rest))→ts=t.yield++rest∧t.Adm v∧m≤t.level v)∧
  (∀ (ts:List (Tk α β)) t rest,first v n ts=some (some (t,rest))→ts=t.yield++rest∧t.Adm v)∧
  (∀ m (l:Tr α β) ts t rest,loop v n m l ts=some (some (t,rest))→l.Adm v→m≤l.level v→l.yield++ts=t.yield++rest∧t.Adm v∧m≤t.level v):=by
 induction n with
 |zero=>exact ⟨fun _ _ _ _ h=>by simp [operand] at h,fun _ _ _ h=>by simp [first] at h,fun _ _ _ _ _ h=>by simp [loop] at h⟩
 |succ n ih=>
  obtain ⟨iho,ihf,ihl⟩:=ih
  refine ⟨fun m ts t rest h=>?_,fun ts t rest h=>?_,fun m l ts t rest h ha hm=>?_⟩
  ·rw [operand] at h
   cases hf:first v n ts with
   |none=>rw [hf] at h;simp at h
   |some x=>
    rw [hf] at h
    cases x with
    |none=>simp at h
    |some y=>
     obtain ⟨l,r0⟩:=y
     simp only at h
     split at h
     ·simp at h
     ·rename_i hl
      obtain ⟨h1,h2⟩:=ihf _ _ _ hf
      obtain ⟨h3,h4,h5⟩:=ihl _ _ _ _ _ h h2 (by omega)
      exact ⟨by rw [h1,h3],h4,h5⟩
  ·rw [first] at h;unfold firstF at h
   split at h
   ·simp only [Option.some.injEq,Prod.mk.injEq] at h
    obtain ⟨rfl,rfl⟩:=h
    exact ⟨rfl,trivial⟩
   ·rename_i r0
    cases ho:operand v n 0 r0 with
    |none=>rw [ho] at h;simp at h
    |some x=>
     rw [ho] at h
     cases x with
     |none=>simp at h
     |some y=>
      obtain ⟨t0,r1⟩:=y
      simp only at h
      split at h
      ·simp only [Option.some.injEq,Prod.mk.injEq] at h
       obtain ⟨rfl,rfl⟩:=h
       obtain ⟨h1,h2,_⟩:=iho _ _ _ _ ho
       refine ⟨?_,h2⟩
       rw [h1];simp [Tr.yield]
      ·simp at h
   ·rename_i o r0
    cases ho:operand v n (v o).h2 r0 with
    |none=>rw [ho] at h;simp at h
    |some x=>
     rw [ho] at h
     cases x with
     |none=>simp at h
     |some y=>
      obtain ⟨t0,r1⟩:=y
      simp only [Option.some.injEq,Prod.mk.injEq] at h
      obtain ⟨rfl,rfl⟩:=h
      obtain ⟨h1,h2,h3⟩:=iho _ _ _ _ ho
      refine ⟨?_,h3,h2⟩
      rw [h1];simp [Tr.yield]
   ·simp at h
  ·rw [loop] at h;unfold loopF at h
   split at h
   ·rename_i o r0
    split at h
    ·simp only [Option.some.injEq,Prod.mk.injEq] at h
     obtain ⟨rfl,rfl⟩:=h
     exact ⟨rfl,ha,hm⟩
    ·rename_i hc
     split at h
     ·simp only [Option.some.injEq,Prod.mk.injEq] at h
      obtain ⟨rfl,rfl⟩:=h
      exact ⟨rfl,ha,hm⟩
     ·rename_i hd
      cases ho:operand v n (v o).h2 r0 with
      |none=>rw [ho] at h;simp at h
      |some x=>
       rw [ho] at h
       cases x with
       |none=>simp at h
       |some y=>
        obtain ⟨t0,r1⟩:=y
        obtain ⟨h1,h2,h3⟩:=iho _ _ _ _ ho
        obtain ⟨h4,h5,h6⟩:=ihl _ _ _ _ _ h ⟨by omega,h3,ha,h2⟩ (by simp only [Tr.level];omega)
        refine ⟨?_,h5,h6⟩
        rw [←h4,h1];simp [Tr.yield]
   ·rename_i o r0
    split at h
    ·simp only [Option.some.injEq,Prod.mk.injEq] at h
     obtain ⟨rfl,rfl⟩:=h
     exact ⟨rfl,ha,hm⟩
    ·rename_i hc
     split at h
     ·simp only [Option.some.injEq,Prod.mk.injEq] at h
      obtain ⟨rfl,rfl⟩:=h
      exact ⟨rfl,ha,hm⟩
     ·rename_i hd
      obtain ⟨h4,h5,h6⟩:=ihl _ _ _ _ _ h ⟨by omega,ha⟩ (by simp only [Tr.level];omega)
      refine ⟨?_,h5,h6⟩
      rw [←h4];simp [Tr.yield]
   ·simp only [Option.some.injEq,Prod.mk.injEq] at h
    obtain ⟨rfl,rfl⟩:=h
    exact ⟨rfl,ha,hm⟩
def Stop (m:Int):List (Tk α β)→Prop
 | .inf o::_=>(v o).lev<m
 | .post o::_=>(v o).lev<m
 | _=>True
def Edge:Tr α β→List (Tk α β)→Prop
 | .pre o t,r=>Stop v (v o).h2 r∧Edge t r
 | .inf o _ t,r=>Stop v (v o).h2 r∧Edge t r
 | _,_=>True
theorem Edge.of_low {t:Tr α β} {r:List (Tk α β)} {m:Int} (ha:t.Adm v) (hm:m≤t.level v) (hs:Stop v m r):Edge v t r:=by
 induction t generalizing m with
 |leaf b=>trivial
 |grp t=>trivial
 |post o t=>trivial
 |pre o t ih=>
  have h2:(v o).lev≤(v o).h2:=by unfold Lv.h2;split<;>omega
  simp only [Tr.level] at hm
  have hs':Stop v (v o).h2 r:=by
   unfold Stop at hs ⊢
   split<;>simp_all<;>omega
  exact ⟨hs',ih ha.2 ha.1 hs'⟩
 |inf o l t _ ih=>
  have h2:(v o).lev≤(v o).h2:=by unfold Lv.h2;split<;>omega
  simp only [Tr.level] at hm
  have hs':Stop v (v o).h2 r:=by
   unfold Stop at hs ⊢
   split<;>simp_all<;>omega
  exact ⟨hs',ih ha.2.2.2 ha.2.1 hs'⟩
theorem Edge.of_op {p:α→Prop} (hg:Good v p) {t:Tr α β} {x:α} {tk:Tk α β} {r:List (Tk α β)} (hp:t.All v p) (hx:p x) (htk:tk=.inf x∨tk=.post x)
  (ha:t.Adm v) (hm:(v x).h1≤t.level v):Edge v t (tk::r):=by
 have stop:∀ m,(v x).lev<m→Stop v m (tk::r):=by
  intro m h
  rcases htk with rfl|rfl<;>exact h
 have e1:(v x).lev≤(v x).h1:=by unfold Lv.h1;split<;>omega
 have key:∀ o,p o→(v x).h1≤(v o).lev→(v x).lev<(v o).h2:=by
  intro o ho h
  by_cases he:(v x).lev=(v o).lev
  ·have hs:=hg.one x o hx ho he
   unfold Lv.h1 at h
   unfold Lv.h2
   split at h
   ·rename_i h1
    rw [if_neg (by omega)];omega
   ·omega
  ·have:(v o).lev≤(v o).h2:=by unfold Lv.h2;split<;>omega
   omega
 cases t with
 |leaf b=>trivial
 |grp t=>trivial
 |post o t=>trivial
 |pre o t=>
  have hs:Stop v (v o).h2 (tk::r):=stop _ (key o hp.1 hm)
  exact ⟨hs,Edge.of_low v ha.2 ha.1 hs⟩
 |inf o l t=>
  have hs:Stop v (v o).h2 (tk::r):=stop _ (key o hp.1 hm)
  exact ⟨hs,Edge.of_low v ha.2.2.2 ha.2.1 hs⟩
theorem Jc {m:Int} {l:Tr α β} {r:List (Tk α β)} (hs:Stop v m r):loop v 1 m l r=some (some (l,r)):=by
 rw [loop];unfold loopF
 split
 ·exact if_pos hs
 ·exact if_pos hs
 ·rfl
theorem Zkd {p:α→Prop} (hg:Good v p) (t:Tr α β):∀ (m:Int) (rest:List (Tk α β)) (n:Nat) (res:Option (Tr α β×List (Tk α β))),t.All v p→t.Adm v→m≤t.level v→Edge v t rest→
  loop v n m t rest=some res→∃ n',operand v n' m (t.yield++rest)=some res:=by
 induction t with
 |leaf b=>
  intro m rest n res _ _ hm _ h
  refine ⟨n+2,?_⟩
  rw [operand]
  have e:first v (n+1) (Tr.yield (.leaf b)++rest)=some (some (.leaf b,rest)):=by rw [first];unfold firstF;rfl
  rw [e];simp only
  rw [if_neg (by omega)]
  exact Zax v (by omega) h
 |grp t ih=>
  intro m rest n res hp ha hm _ h
  obtain ⟨n',h'⟩:=ih 0 (.cls::rest) 1 _ hp ha (by
   cases t<;>simp only [Tr.level]<;>first|omega|(have:=hg.low _ hp.1;omega)) (Edge.of_low v (m:=t.level v) ha (by omega) trivial) (Jc v trivial)
  refine ⟨n+n'+3,?_⟩
  rw [operand]
  have e:first v (n+n'+2) (Tr.yield (.grp t)++rest)=some (some (.grp t,rest)):=by
   rw [first];unfold firstF
   simp only [Tr.yield,List.cons_append,List.append_assoc,List.nil_append]
   rw [operand_le v (by omega) h']
  rw [e];simp only
  rw [if_neg (by omega)]
  exact Zax v (by omega) h
 |pre o t ih=>
  intro m rest n res hp ha hm he h
  obtain ⟨n',h'⟩:=ih (v o).h2 rest 1 _ hp.2.2 ha.2 ha.1 he.2 (Jc v he.1)
  refine ⟨n+n'+3,?_⟩
  rw [operand]
  have e:first v (n+n'+2) (Tr.yield (.pre o t)++rest)=some (some (.pre o t,rest)):=by
   rw [first];unfold firstF
   simp only [Tr.yield,List.cons_append]
   rw [operand_le v (by omega) h']
  rw [e];simp only
  rw [if_neg (by omega)]
  exact Zax v (by omega) h
 |post o t ih=>
  intro m rest n res hp ha hm he h
  simp only [Tr.level] at hm
  have e1:(v o).lev≤(v o).h1:=by unfold Lv.h1;split<;>omega
  have ha1:=ha.1
  have hl:loop v (n+1) m t (.post o::rest)=some res:=by
   rw [loop];unfold loopF;simp only
   rw [if_neg (by omega),if_neg (by omega)]
   exact h
  obtain ⟨n',h'⟩:=ih m (.post o::rest) (n+1) res hp.2.2 ha.2 (by omega) (Edge.of_op v hg hp.2.2 hp.1 (.inr rfl) ha.2 ha.1) hl
  exact ⟨n',by simpa [Tr.yield] using h'⟩
 |inf o l r ihl ihr=>
  intro m rest n res hp ha hm he h
  simp only [Tr.level] at hm
  have e1:(v o).lev≤(v o).h1:=by unfold Lv.h1;split<;>omega
  have ha1:=ha.1
  obtain ⟨n2,h2⟩:=ihr (v o).h2 rest 1 _ hp.2.2 ha.2.2.2 ha.2.1 he.2 (Jc v he.1)
  have hl:loop v (n+n2+1) m l (.inf o::(r.yield++rest))=some res:=by
   rw [loop];unfold loopF;simp only
   rw [if_neg (by omega),if_neg (by omega),operand_le v (by omega) h2]
   exact Zax v (by omega) h
  obtain ⟨n',h'⟩:=ihl m (.inf o::(r.yield++rest)) (n+n2+1) res hp.2.1 ha.2.2.1 (by omega) (Edge.of_op v hg hp.2.1 hp.1 (.inl rfl) ha.2.2.1 ha.1) hl
  exact ⟨n',by simpa [Tr.yield] using h'⟩
theorem Zin {p:α→Prop} (hg:Good v p) {t:Tr α β} (hp:t.All v p):1≤t.level v:=by
 cases t<;>simp only [Tr.level]<;>first|omega|exact hg.low _ hp.1
theorem fuel_all (n:Nat) :
  (∀ m (ts:List (Tk α β)),2*ts.length+2≤n→∃ r,operand v n m ts=some r)∧
  (∀ (ts:List (Tk α β)),2*ts.length+1≤n→∃ r,first v n ts=some r∧∀ t rest,r=some (t,rest)→rest.length<ts.length)∧
  (∀ m (l:Tr α β) ts,2*ts.length+1≤n→∃ r,loop v n m l ts=some r):=by
 have shorter:∀ k m (ts:List (Tk α β)) t rest,operand v k m ts=some (some (t,rest))→rest.length<ts.length:=by
  intro k m ts t rest h
  have:=((sound_all v k).1 _ _ _ _ h).1
  have ht:0<(t.yield).length:=by cases t<;>simp [Tr.yield]<;>omega
  rw [this,List.length_append];omega
 induction n with
 |zero=>exact ⟨fun _ _ h=>by omega,fun _ h=>by omega,fun _ _ _ h=>by omega⟩
 |succ n ih=>
  obtain ⟨iho,ihf,ihl⟩:=ih
  refine ⟨fun m ts h=>?_,fun ts h=>?_,fun m l ts h=>?_⟩
  ·obtain ⟨r,hr,hlt⟩:=ihf ts (by omega)
   rw [operand,hr]
   cases r with
   |none=>exact ⟨_,rfl⟩
   |some y=>
    obtain ⟨l,rest⟩:=y
    have:=hlt _ _ rfl
    simp only
    split
    ·exact ⟨_,rfl⟩
    ·exact ihl _ _ _ (by omega)
  ·rw [first];unfold firstF
   split
   ·exact ⟨_,rfl,fun t rest h=>by
     simp only [Option.some.injEq,Prod.mk.injEq] at h
     obtain ⟨_,rfl⟩:=h
     simp⟩
   ·rename_i r0
    simp only [List.length_cons] at h
    obtain ⟨x,hx⟩:=iho 0 r0 (by omega)
    rw [hx]
    cases x with
    |none=>exact ⟨_,rfl,fun _ _ h=>by simp at h⟩
    |some y=>
     obtain ⟨t0,r1⟩:=y
     have:=shorter _ _ _ _ _ hx
     simp only
     split
     ·exact ⟨_,rfl,fun t rest h=>by
       simp only [Option.some.injEq,Prod.mk.injEq] at h
       obtain ⟨_,rfl⟩:=h
       simp only [List.length_cons] at this ⊢
       omega⟩
     ·exact ⟨_,rfl,fun _ _ h=>by simp at h⟩
   ·rename_i o r0
    simp only [List.length_cons] at h
    obtain ⟨x,hx⟩:=iho (v o).h2 r0 (by omega)
    rw [hx]
    cases x with
    |none=>exact ⟨_,rfl,fun _ _ h=>by simp at h⟩
    |some y=>
     obtain ⟨t0,r1⟩:=y
     have:=shorter _ _ _ _ _ hx
     exact ⟨_,rfl,fun t rest h=>by
      simp only [Option.some.injEq,Prod.mk.injEq] at h
      obtain ⟨_,rfl⟩:=h
      simp only [List.length_cons]
      omega⟩
   ·exact ⟨_,rfl,fun _ _ h=>by simp at h⟩
  ·rw [loop];unfold loopF
   split
   ·rename_i o r0
    simp only [List.length_cons] at h
    split
    ·exact ⟨_,rfl⟩
    ·split
     ·exact ⟨_,rfl⟩
     ·obtain ⟨x,hx⟩:=iho (v o).h2 r0 (by omega)
      rw [hx]
      cases x with
      |none=>exact ⟨_,rfl⟩
      |some y=>
       obtain ⟨t0,r1⟩:=y
       have:=shorter _ _ _ _ _ hx
       exact ihl _ _ _ (by omega)
   ·rename_i o r0
    simp only [List.length_cons] at h
    split
    ·exact ⟨_,rfl⟩
    ·split
     ·exact ⟨_,rfl⟩
     ·exact ihl _ _ _ (by omega)
   ·exact ⟨_,rfl⟩
theorem Zl0 {p:α→Prop} (hg:Good v p) (t:Tr α β) (hp:t.All v p) (ts:List (Tk α β)) :
  operand v (2*ts.length+2) 0 ts=some (some (t,[]))↔t.Adm v∧t.yield=ts:=by
 constructor
 ·intro h
  obtain ⟨h1,h2,_⟩:=(sound_all v _).1 _ _ _ _ h
  exact ⟨h2,by rw [h1];simp⟩
 ·rintro ⟨ha,rfl⟩
  have:=Zin v hg hp
  obtain ⟨n',h'⟩:=Zkd v hg t 0 [] 1 _ hp ha (by omega) (Edge.of_low v (m:=t.level v) ha (by omega) trivial) (Jc v trivial)
  rw [List.append_nil] at h'
  obtain ⟨r,hr⟩:=(fuel_all v (2*t.yield.length+2)).1 0 t.yield (by omega)
  rw [hr]
  have h1:=operand_le v (Nat.le_max_left n' (2*t.yield.length+2)) h'
  have h2:=operand_le v (Nat.le_max_right n' (2*t.yield.length+2)) hr
  rw [h1] at h2
  exact h2.symm
end Go.Proofs.YtjdmmhcogmepaaaGreatDoor.Ops
namespace Go.Proofs.YtjdmmhcogmepaaaGreatDoor.V
open Go.RowKit
structure PNode where
 text:ByteArray
 kind:Int
 a:Int
 b:Int
def PNode.cells (o:PNode):List AV:=[.lit (.int .i64 o.kind),.lit (.string o.text),.lit (.int .i64 o.a),.lit (.int .i64 o.b)]
def PNode.wf (o:PNode):Prop:=o.text.size≤maxLen
instance:Inhabited PNode:=⟨⟨⟨#[]⟩,0,0,0⟩⟩
def Zf (l:List PNode) (i:Nat):List AV:=(l.getD i default).cells
theorem ZG (l:List PNode) (i:Nat) (c:AV) (h:c∈Zf l i):Closed c:=by
 simp [Zf,PNode.cells] at h
 rcases h with rfl|rfl|rfl|rfl<;>exact .lit _
theorem Z5 (l:List PNode) (i:Nat):(Zf l i).all X1=true:=rfl
def HB (a b:PNode):Bool:=a.text==b.text&&a.kind==b.kind&&a.a==b.a&&a.b==b.b
def Za (l:List PNode) (i:Nat):PNode:=l.getD i default
theorem Zz (l:List PNode) (i:Nat):Zf l i=[.lit (.int .i64 (Za l i).kind),.lit (.string (Za l i).text),.lit (.int .i64 (Za l i).a),.lit (.int .i64 (Za l i).b)]:=rfl
def JY (a b:List PNode):Bool:=decide (a.length=b.length)&&(List.range a.length).all fun i=>HB (Za a i) (Za b i)
theorem ZdB {a b:List PNode} {i:Nat} (h:i<a.length) (e:HB (Za a i) (Za b i)=false):JY a b=false:=by
 simp only [JY,Bool.and_eq_false_iff,List.all_eq_false,List.mem_range]
 exact .inr ⟨i,h,by rw [e];simp⟩
theorem GY {a b:List PNode} (hl:a.length=b.length) (h:∀ i,i<a.length→HB (Za a i) (Za b i)=true):JY a b=true:=by
 simp only [JY,Bool.and_eq_true,decide_eq_true_eq,List.all_eq_true,List.mem_range]
 exact ⟨hl,h⟩
theorem ZgD (a:PNode):HB a a=true:=by simp [HB,Zkv]
theorem ZeV (a:List PNode):JY a a=true:=GY rfl fun i _=>ZgD _
@[go_sem] theorem nodCells_ren {g:Nat→Nat} {l:List PNode} {i:Nat}:(Zf l i).map (VN g)=Zf l i:=KS rfl
theorem Zgc {P:Program} {f:FuncId} {vs:List Value} {v:Value} (hf:Zei P f) (h:∀ w,Calls P f vs.toArray w fun e w'=>e=.returned v∧Below w.heap.size w w'):VFun P f (vs.map .lit) (fun av obs=>obs=[]∧av=.lit v):=by
 refine ⟨hf,fun w us hl hu=>?_⟩
 have e:us=vs:=by
  have hl':vs.length=us.length:=by simpa using hl
  apply List.ext_getElem hl'.symm
  intro j h1 h2
  have:=hu j (.lit vs[j]) us[j] (by simp [h2]) (List.getElem?_eq_getElem h1)
  generalize us[j]=x at this
  generalize vs[j]=y at this
  cases this
  rfl
 subst e
 refine (h w).mono fun e w' ⟨he,hw⟩=>?_
 subst he
 exact ⟨v,rfl,⟨hw.os,hw.tape,hw.output,hw.size,fun k hk _=>hw.block k hk⟩,fun _=>undef,.lit v,[],⟨rfl,rfl⟩,rfl,fun ob h=>by simp at h,⟨fun k ob h=>by simp at h,fun k ob h=>by simp at h,fun k h=>by simp at h,fun k k' ob ob' h=>by simp at h⟩,.lit v⟩
def digitBytes:ByteArray:={ data:=#[48,49,50,51,52,53,54,55,56,57] }
theorem ZbQ (b:UInt8):digitBytes.data.toList.contains b=X7 b.toNat:=by
 revert b
 have h:(List.range 256).all (fun n=>digitBytes.data.toList.contains n.toUInt8==X7 n)=true:=by kernel_rfl
 intro b
 have:=List.all_eq_true.mp h b.toNat (List.mem_range.mpr b.toNat_lt)
 simpa using this
theorem Zcl {α:Type} {p:α→Bool} {l:List α}:l.dropWhile p=[]↔∀ x,x∈l→p x=true:=by
 induction l with
 |nil=>simp
 |cons a l ih=>
  rw [List.dropWhile_cons]
  split
  ·rename_i h;simp [ih,h]
  ·rename_i h;simp [h]
theorem Zjh {l cs:List UInt8}:Lib.trimS l cs=[]↔∀ x,x∈l→cs.contains x=true:=by
 unfold Lib.trimS Lib.trimLeftS
 rw [Zcl]
 unfold Lib.trimRightS
 constructor
 ·intro h x hx
  have hd:l=(l.reverse.dropWhile (cs.contains ·)).reverse++(l.reverse.takeWhile (cs.contains ·)).reverse:=by
   rw [←List.reverse_append,List.takeWhile_append_dropWhile,List.reverse_reverse]
  rw [hd,List.mem_append] at hx
  rcases hx with hx|hx
  ·exact h x hx
  ·rw [List.mem_reverse] at hx
   exact List.all_eq_true.mp (List.all_takeWhile (p:=(cs.contains ·)) (l:=l.reverse)) x hx
 ·intro h x hx
  rw [List.mem_reverse] at hx
  exact h x (List.mem_reverse.mp ((List.dropWhile_sublist _).subset hx))
def Zdm (z:ByteArray):ByteArray:=⟨(Lib.trimS z.data.toList digitBytes.data.toList).toArray⟩
theorem Zgj (z:ByteArray) (h:0<z.size):decide (Zdm z=⟨#[]⟩)=VE z:=by
 have e:Zdm z=⟨#[]⟩↔∀ i,i<z.size→X7 (Zh z i)=true:=by
  unfold Zdm
  rw [ByteArray.mk.injEq,Array.mk.injEq,Zjh]
  simp only [ZbQ]
  constructor
  ·intro h i hi
   have:=h (z.data.toList[i]'hi) (List.getElem_mem _)
   unfold Zh
   rw [dif_pos hi]
   exact this
  ·intro h x hx
   obtain ⟨i,hi,rfl⟩:=List.getElem_of_mem hx
   have:=h i hi
   unfold Zh at this
   rw [dif_pos (show i<z.size from hi)] at this
   exact this
 rw [Bool.eq_iff_iff,decide_eq_true_eq,e]
 simp only [VE,h,decide_true,Bool.and_true,List.all_eq_true,List.mem_range]
theorem ZlS (z:ByteArray) (hz:z.size≤9223372036854775807):VFun Tryz.prog 121 [.lit (.string z),.lit (.string digitBytes)] (fun av obs=>obs=[]∧av=.lit (.string (Zdm z))):=
 Zgc (vs:=[.string z,.string digitBytes]) ⟨_,Tryz.func121,rfl,rfl⟩ (fun w=>Any.strings_Trim_laid Tryz.lays160 (by kernel_rfl) z digitBytes w hz (by decide) (ascii_of_all (by decide)))
theorem ba_nil {z:ByteArray}:z.toList=[]↔z.size=0:=by
 rw [ByteArray.toList_eq]
 constructor
 ·intro h
  show z.data.size=0
  rw [←Array.length_toList,h];rfl
 ·intro h
  apply List.eq_nil_of_length_eq_zero
  rw [Array.length_toList];exact h
theorem Zb6 {z:ByteArray}:z.toList.isEmpty=decide (z=⟨#[]⟩):=by
 rw [Bool.eq_iff_iff,List.isEmpty_iff,decide_eq_true_iff,ba_nil]
 constructor
 ·intro h
  exact ByteArray.ext (Array.eq_empty_of_size_eq_zero h)
 ·intro h
  rw [h];rfl
theorem Zkg (z:ByteArray) (hz:z.size≤9223372036854775807):VFun Tryz.prog 122 [.lit (.string z)] (fun av obs=>obs=[]∧av=.lit (.bool (Vx z))):=by
 refine Zi Tryz.func122 (by kernel_rfl) rfl (by simp [Tryz.ntmps122]) ?_;simp only [Tryz.ntmps122,Tryz.results122];simp [go_sem]
 have emp:z.toList=[]→Vx z=false:=fun h=>by simp [Vx,ba_nil.mp h]
 refine ⟨fun h0=>⟨by have:=mt ba_nil.mpr h0;omega,Zc (Kv (Zh z 0)) ?_ ?_⟩,emp⟩
 ·simp [go_sem]
 ·have hp:0<z.size:=by have:=mt ba_nil.mpr h0;omega
  simp [go_sem]
  refine ⟨fun e=>by simp only [Vx,X5 (p:=fun i=>X9 z i) hp (by simp [X9,e]),Bool.false_and],fun e=>?_⟩
  refine Yn (fun i:Nat=>i≤z.size∧∀ j,j<i→X9 z j=true) (fun i=>z.size-i) (fun i=>.of [(0,.lit (.string z)),(13,.lit (.int .i64 z.size)),(14,.lit (.int .i64 i))] []) ⟨0,⟨by omega,by simp⟩,?_⟩ (fun i hi=>?_)
  ·simp [go_sem]
  ·simp [go_sem]
   have bad:i<z.size→X9 z i=false→Vx z=false:=fun h e=>by simp only [Vx,X5 (p:=fun i=>X9 z i) h e,Bool.false_and]
   have step:i<z.size→X9 z i=true→∃ j:Nat,(j≤z.size∧∀ q,q<j→X9 z q=true)∧z.size-j<z.size-i∧IntKind.i64.wrap ((i:Int)+1)=j:=fun hl e=>⟨i+1,⟨by omega,fun j hj=>by
    rcases Nat.lt_succ_iff_lt_or_eq.mp hj with hj|rfl
    ·exact hi.2 j hj
    ·exact e⟩,by omega,Zn (by omega)⟩
   refine ⟨fun h=>⟨h,Zc (Kv (Zh z i)) ?_ ?_⟩,fun h=>by simp only [Vx,VL (p:=fun i=>X9 z i) (n:=z.size) fun j hj=>hi.2 j (by omega),Bool.true_and,hp,decide_true]⟩
   ·simp [go_sem]
   ·simp [go_sem]
    refine ⟨fun e1=>⟨h,Zc (Jn (Zh z i)) ?_ ?_⟩,fun e1=>step h (by simp [X9,e1])⟩
    ·simp [go_sem]
    ·have h0:i≠0:=fun hz=>by subst hz;rw [e] at e1;cases e1
     simp [go_sem]
     exact ⟨fun e2=>bad h (by simp [X9,e1,e2]),fun e2=>step h (by simp [X9,e1,e2,h0])⟩
def Zv (k:Int):Int:=if k=4 then 2 else if k=3∨k=5∨k=6 then 1 else 0
theorem Yh (k:Int):VFun Tryz.prog 58 [.lit (.int .i64 k)] (fun av obs=>obs=[]∧av=.lit (.int .i64 (Zv k))):=by
 refine Zi Tryz.func58 (by kernel_rfl) rfl (by simp [Tryz.ntmps58]) ?_;simp only [Tryz.ntmps58,Tryz.results58];simp [go_sem]
 by_cases h1:k=4
 ·simp [Zv,h1]
 ·by_cases h2:k=3<;>by_cases h3:k=5<;>by_cases h4:k=6<;>simp [Zv,h1,h2,h3,h4]
theorem ZlU (o:PNode) (h:1≤o.kind∧o.kind≤6):VFun Tryz.prog 62 [.agg o.cells] (fun av obs=>obs=[]∧av=.lit (.int .i64 (Zv o.kind))):=by
 obtain ⟨z,k,x,y⟩:=o
 simp only [PNode.cells] at h ⊢
 refine Zi Tryz.func62 (by kernel_rfl) rfl (by simp [Tryz.ntmps62]) ?_;simp only [Tryz.ntmps62,Tryz.results62];simp [go_sem]
 have hk:k=1∨k=2∨k=3∨k=4∨k=5∨k=6:=by omega
 rcases hk with rfl|rfl|rfl|rfl|rfl|rfl<;>simp [Zv]
def YL (o:PNode):Bool:=decide (o.text.size≤20000)&&(if o.kind=1 then VE o.text else if o.kind=2 then Vx o.text else if o.kind=6 then decide (o.text=⟨#[]⟩) else decide (3≤o.kind∧o.kind≤5)&&Kg o.text)
theorem ZgX (o:PNode) (ho:o.wf):VFun Tryz.prog 119 [.agg o.cells] (fun av obs=>obs=[]∧av=.lit (.bool (YL o))):=by
 obtain ⟨z,k,x,y⟩:=o
 simp only [PNode.cells,PNode.wf,maxLen] at ho ⊢
 refine Zi Tryz.func119 (by kernel_rfl) rfl (by simp [Tryz.ntmps119]) ?_;simp only [Tryz.ntmps119,Tryz.results119];simp [go_sem]
 refine ⟨fun h=>by simp [YL];omega,fun h=>⟨fun h1=>?_,fun h1=>⟨fun h2=>?_,fun h2=>?_⟩⟩⟩
 ·refine Zc (HS z (by omega)) ?_ ?_
  ·simp [go_sem]
  ·simp [go_sem,YL,h1]
   omega
 ·refine Zc (ZbZ z (by omega)) ?_ ?_
  ·simp [go_sem]
  ·simp [go_sem,YL,h2]
   omega
 ·have hs:z.size≤20000:=by omega
  refine ⟨fun h3=>by simp [YL,h1,h2,h3,hs,Zb6],fun h3=>⟨fun h4=>⟨fun h5=>Zc (Zc5 z (by simp only [maxLen];omega)) ?_ ?_,fun h5=>?_⟩,fun h4=>?_⟩⟩
  ·simp [go_sem]
  ·simp [go_sem,YL,h1,h2,h3,h4,h5,hs]
  ·simp [go_sem,YL,h1,h2,h3,hs]
   intros;omega
  ·simp [go_sem,YL,h1,h2,h3,hs]
   intros;omega
theorem Zke (o:PNode) (ho:o.wf):VFun Tryz.prog 89 [.agg o.cells] (fun av obs=>obs=[]∧av=.lit (.bool (YL o))):=by
 obtain ⟨z,k,x,y⟩:=o
 simp only [PNode.cells,PNode.wf,maxLen] at ho ⊢
 refine Zi Tryz.func89 (by kernel_rfl) rfl (by simp [Tryz.ntmps89]) ?_;simp only [Tryz.ntmps89,Tryz.results89];simp [go_sem]
 refine ⟨fun h=>by simp [YL];omega,fun h=>⟨fun h1=>⟨fun h0=>?_,fun h0=>?_⟩,fun h1=>⟨fun h2=>?_,fun h2=>?_⟩⟩⟩
 ·refine Zc (ZlS z (by omega)) ?_ ?_
  ·simp [go_sem,digitBytes]
  ·simp [go_sem,YL,h1,Zb6]
   rw [Zgj z (by have:=mt ba_nil.mpr h0;omega)]
   simp [show z.size≤20000 by omega]
 ·simp [YL,h1,VE,ba_nil.mp h0]
 ·refine Zc (Zkg z (by omega)) ?_ ?_
  ·simp [go_sem]
  ·simp [go_sem,YL,h2]
   omega
 ·have hs:z.size≤20000:=by omega
  have sg:=Zc3 z (by simp only [maxLen];omega)
  by_cases h3:k=3∨k=4∨k=5
  ·rcases h3 with rfl|rfl|rfl
   all_goals
    simp
    refine Zc sg ?_ ?_
    ·simp [go_sem]
    ·simp [go_sem,YL,hs]
  ·have h4:¬k=3:=by omega
   have h5:¬k=4:=by omega
   have h6:¬k=5:=by omega
   simp [h4,h5,h6]
   refine ⟨fun h7=>by simp [YL,h7,hs,Zb6],fun h7=>?_⟩
   simp [YL,h1,h2,h7,hs]
   intros;omega
def HN (l:List PNode) (n:Nat):{f:Int // f≤n}:=
 if Zv (Za l n).kind=0 then (if (Za l n).a≠0∨(Za l n).b≠0 then ⟨-1,by omega⟩ else ⟨n,by omega⟩)
 else if h0:n=0 then ⟨-1,by omega⟩
 else if Zv (Za l n).kind=1 then (if (Za l n).a≠(n:Int)-1∨(Za l n).b≠0 then ⟨-1,by omega⟩ else match HN l (n-1) with|⟨f,hf⟩=>⟨f,by omega⟩)
 else if (Za l n).b≠(n:Int)-1 then ⟨-1,by omega⟩
 else match HN l (n-1) with
  |⟨f,hf⟩=>if h:f<1∨(Za l n).a≠f-1 then ⟨-1,by omega⟩ else match HN l (f-1).toNat with|⟨g,hg⟩=>⟨g,by omega⟩
termination_by n
decreasing_by all_goals omega
def ZL (l:List PNode) (i:Int):Int:=if i<0 then -1 else (HN l i.toNat).1
theorem KU (k:Int):Zv k=0∨Zv k=1∨Zv k=2:=by
 unfold Zv;split<;>(try split)<;>simp
theorem Yt (l:List PNode) {i:Int} (h:i<0):ZL l i=-1:=if_pos h
theorem XR (l:List PNode) {i:Int} (h:0≤i):ZL l i≤i:=by
 unfold ZL
 rw [if_neg (by omega)]
 have:=(HN l i.toNat).2
 omega
theorem ZcV (l:List PNode) (n:Nat):ZL l n=(HN l n).1:=by
 unfold ZL
 rw [if_neg (by omega),Int.toNat_natCast]
theorem YP (l:List PNode) (n:Nat):ZL l n=if Zv (Za l n).kind=0 then (if (Za l n).a≠0∨(Za l n).b≠0 then -1 else (n:Int))
  else if Zv (Za l n).kind=1 then (if (Za l n).a≠(n:Int)-1∨(Za l n).b≠0 then -1 else ZL l ((n:Int)-1))
  else if (Za l n).b≠(n:Int)-1 then -1
  else if ZL l ((n:Int)-1)<1∨(Za l n).a≠ZL l ((n:Int)-1)-1 then -1 else ZL l (ZL l ((n:Int)-1)-1):=by
 rw [ZcV,HN]
 by_cases h0:Zv (Za l n).kind=0
 ·simp only [h0,if_true]
  split<;>rfl
 ·simp only [h0,if_false]
  by_cases hn:n=0
  ·subst hn
   have e:ZL l (((0:Nat):Int)-1)=-1:=Yt l (by omega)
   simp only [e,dite_true]
   split
   ·split<;>rfl
   ·split
    ·rfl
    ·rw [if_pos (.inl (by omega))]
  ·have e:((n:Nat):Int)-1=(n-1:Nat):=by omega
   have e2:ZL l ((n-1:Nat):Int)=(HN l (n-1)).1:=ZcV l (n-1)
   simp only [hn,dite_false]
   split
   ·split
    ·rfl
    ·rw [e,e2]
   ·split
    ·rfl
    ·simp only [e,e2]
     generalize HN l (n-1)=y
     obtain ⟨f,hf⟩:=y
     simp only
     split
     ·rfl
     ·rename_i h
      unfold ZL
      rw [if_neg (by omega)]
theorem Zj7 (l:List PNode) (i:Int) : -1≤ZL l i:=by
 have key:∀ (g:Nat) (i:Int),i<g→-1≤ZL l i:=by
  intro g
  induction g with
  |zero=>intro i h;rw [Yt l (by omega)];decide
  |succ g ih=>
   intro i h
   by_cases hi:i<0
   ·rw [Yt l hi];decide
   ·obtain ⟨n,rfl⟩:=Int.eq_ofNat_of_zero_le (show 0≤i by omega)
    rw [YP]
    split
    ·split<;>omega
    ·split
     ·split
      ·decide
      ·exact ih _ (by omega)
     ·split
      ·decide
      ·split
       ·decide
       ·rename_i h3
        by_cases hn:n=0
        ·subst hn
         rw [Yt l (i:=((0:Nat):Int)-1) (by omega)] at h3
         omega
        ·have:=XR l (i:=(n:Int)-1) (by omega)
         exact ih _ (by omega)
 exact key (i.toNat+1) i (by omega)
theorem Ji (l:List PNode):∀ (n:Nat) (j:Nat),0≤ZL l n→ZL l n≤j→j≤n→0≤ZL l j:=by
 intro n
 induction n using Nat.strongRecOn with
 |ind n ih=>
  intro j h0 hj hn
  by_cases hjn:j=n
  ·subst hjn;exact h0
  ·rw [YP] at h0 hj
   split at h0
   ·rename_i hk
    split at h0
    ·omega
    ·rename_i h1
     simp only [hk,if_true,if_neg h1] at hj
     omega
   ·rename_i hk
    have hn1:((n:Int)-1)=((n-1:Nat):Int):=by omega
    split at h0
    ·rename_i hk1
     split at h0
     ·omega
     ·rename_i h1
      simp only [hk1,if_true,if_neg h1,if_neg (show ¬(1:Int)=0 by decide)] at hj
      rw [hn1] at h0 hj
      exact ih (n-1) (by omega) j h0 hj (by omega)
    ·rename_i hk1
     split at h0
     ·omega
     ·rename_i h1
      split at h0
      ·omega
      ·rename_i h2
       simp only [if_neg hk,if_neg hk1,if_neg h1,if_neg h2] at hj
       rw [hn1] at h0 hj h2
       have hle:=XR l (i:=((n-1:Nat):Int)) (by omega)
       by_cases hs:ZL l ((n-1:Nat):Int)≤j
       ·exact ih (n-1) (by omega) j (by omega) hs (by omega)
       ·have e:ZL l ((n-1:Nat):Int)-1=((ZL l ((n-1:Nat):Int)-1).toNat:Int):=by omega
        rw [e] at h0 hj
        exact ih _ (by omega) j h0 hj (by omega)
def Xd (l:List PNode):Bool:=decide (1≤l.length∧l.length≤20000)&&decide (ZL l ((l.length:Int)-1)=0)&&(List.range l.length).all fun i=>YL (Za l i)
theorem Qi {o:PNode} (h:¬(1≤o.kind∧o.kind≤6)):YL o=false:=by
 have h1:¬o.kind=1:=by omega
 have h2:¬o.kind=2:=by omega
 have h3:¬o.kind=6:=by omega
 simp only [YL,h1,h2,h3,if_false]
 have h4:decide (3≤o.kind∧o.kind≤5)=false:=decide_eq_false (by omega)
 rw [h4];simp
theorem JE (l:List PNode) (hl:l.length≤9223372036854775807) (i:Int) (h1 : -1≤i) (h2:i<l.length)
  (ih:∀ j:Int,-1≤j→j<i→VFun Tryz.prog 118 [.sl 4 l.length (Zf l),.lit (.int .i64 j)] (fun av obs=>obs=[]∧av=.lit (.int .i64 (ZL l j)))) :
  VFun Tryz.prog 118 [.sl 4 l.length (Zf l),.lit (.int .i64 i)] (fun av obs=>obs=[]∧av=.lit (.int .i64 (ZL l i))):=by
 have cl:∀ (i:Nat) (c:AV),i<l.length→c∈Zf l i→Closed c:=fun i c _ h=>ZG l i c h
 refine Zi Tryz.func118 (by kernel_rfl) rfl (by simp [Tryz.ntmps118]) ?_;simp only [Tryz.ntmps118,Tryz.results118];simp [go_sem]
 refine ⟨fun h=>(Yt l h).symm,fun h=>?_⟩
 obtain ⟨n,rfl⟩:=Int.eq_ofNat_of_zero_le h
 have eq:=YP l n
 have le1:ZL l ((n:Int)-1)≤n:=by
  by_cases hn:n=0
  ·subst hn;rw [Yt l (by omega)];decide
  ·have:=XR l (i:=(n:Int)-1) (by omega)
   omega
 have le0:1≤ZL l ((n:Int)-1)→ZL l ((n:Int)-1)≤(n:Int)-1:=fun h=>by
  by_cases hn:n=0
  ·subst hn;rw [Yt l (by omega)] at h;omega
  ·exact XR l (by omega)
 have ge1 : -1≤ZL l ((n:Int)-1):=Zj7 l _
 have e1:IntKind.i64.wrap ((n:Int)-1)=(n:Int)-1:=wrap_i64 (by omega)
 simp [go_sem,Zz]
 refine ⟨by omega,Zc (Yh (Za l n).kind) ?_ ?_⟩
 ·simp [go_sem]
 ·simp [go_sem]
  refine ⟨fun k0=>?_,fun k0=>Zc (Yh (Za l n).kind) ?_ ?_⟩
  ·simp only [k0,if_true] at eq
   rw [eq]
   clear eq
   by_cases ha:(Za l n).a=0<;>by_cases hb:(Za l n).b=0<;>simp [ha,hb]
  ·simp [go_sem]
  ·simp only [k0,if_false] at eq
   simp [go_sem,e1]
   refine ⟨fun k1=>?_,fun k1=>?_⟩
   ·have k10:¬(1:Int)=0:=by decide
    simp only [k1,if_true,k10,if_false] at eq
    refine ⟨fun ha=>⟨fun hb=>by rw [eq,if_pos (.inr hb)],fun hb=>Zc (ih ((n:Int)-1) (by omega) (by omega)) ?_ ?_⟩,fun ha=>by rw [eq,if_pos (.inl ha)]⟩
    ·simp [go_sem]
     exact Ze (by omega) cl
    ·simp [go_sem]
     rw [eq,if_neg (by rintro (h|h)<;>omega)]
   ·simp only [k1,if_false] at eq
    refine ⟨fun hb=>by rw [eq,if_pos hb],fun hb=>Zc (ih ((n:Int)-1) (by omega) (by omega)) ?_ ?_⟩
    ·simp [go_sem]
     exact Ze (by omega) cl
    ·have e2:IntKind.i64.wrap (ZL l ((n:Int)-1)-1)=ZL l ((n:Int)-1)-1:=wrap_i64 (by omega)
     rw [if_neg (by omega)] at eq
     by_cases hf:ZL l ((n:Int)-1)<1
     ·rw [if_pos (.inl hf)] at eq
      simp [go_sem,hf,eq]
     ·simp [go_sem,hf,e2]
      refine ⟨fun ha=>by rw [eq,if_pos (.inr ha)],fun ha=>Zc (ih (ZL l ((n:Int)-1)-1) (by omega) (by omega)) ?_ ?_⟩
      ·simp [go_sem]
       exact Ze (by omega) cl
      ·simp [go_sem]
       rw [eq,if_neg (by rintro (h|h)<;>omega)]
theorem Zkl (l:List PNode) (hl:l.length≤9223372036854775807):∀ (g:Nat) (i:Int),i<g→-1≤i→i<l.length→VFun Tryz.prog 118 [.sl 4 l.length (Zf l),.lit (.int .i64 i)] (fun av obs=>obs=[]∧av=.lit (.int .i64 (ZL l i))):=by
 intro g
 induction g with
 |zero=>exact fun i h1 h2 h3=>JE l hl i h2 h3 fun j h4 h5=>absurd h5 (by omega)
 |succ g ih=>exact fun i h1 h2 h3=>JE l hl i h2 h3 fun j h4 h5=>ih j (by omega) h4 (by omega)
theorem Zaa (l:List PNode) (hl:l.length≤9223372036854775807) (hw:∀ i,i<l.length→(Za l i).wf):VFun Tryz.prog 80 [.agg [.sl 4 l.length (Zf l)]] (fun av obs=>obs=[]∧av=.lit (.bool (Xd l))):=by
 have cl:∀ (i:Nat) (c:AV),i<l.length→c∈Zf l i→Closed c:=fun i c _ h=>ZG l i c h
 refine Zi Tryz.func80 (by kernel_rfl) rfl (by simp [Tryz.ntmps80]) ?_;simp only [Tryz.ntmps80,Tryz.results80];simp [go_sem]
 have hw1:1≤l.length→IntKind.i64.wrap ((l.length:Int)-1)=(l.length:Int)-1:=fun h=>wrap_i64 (by omega)
 refine ⟨by omega,fun h1=>⟨by omega,fun h2=>⟨by omega,?_⟩,fun h2=>?_⟩,fun h1=>?_⟩
 ·rw [hw1 (by omega)]
  refine Zc (Zkl l hl l.length ((l.length:Int)-1) (by omega) (by omega) (by omega)) ?_ ?_
  ·simp [go_sem]
   exact Ze (by omega) cl
  ·simp [go_sem]
   refine ⟨fun hf=>by simp [Xd,hf],fun hf=>?_⟩
   refine Yn (fun i:Nat=>i≤l.length∧∀ j,j<i→YL (Za l j)=true) (fun i=>l.length-i) (fun i=>.of [(3,.sl 4 l.length (Zf l)),(4,.lit (.int .i64 i))] []) ⟨0,⟨by omega,by simp⟩,?_⟩ (fun i hi=>?_)
   ·simp [go_sem]
    exact cl
   ·simp [go_sem,Zz]
    refine ⟨by omega,fun h=>⟨h,Zc (ZgX (Za l i) (hw i h)) ?_ ?_⟩,fun h=>?_⟩
    ·simp [go_sem,PNode.cells]
    ·simp [go_sem]
     refine ⟨fun e=>?_,fun e=>⟨i+1,⟨by omega,fun j hj=>?_⟩,by omega,cl,Zn (by omega)⟩⟩
     ·simp only [Xd,X5 (p:=fun i=>YL (Za l i)) h e,Bool.and_false]
     ·rcases Nat.lt_succ_iff_lt_or_eq.mp hj with hj|rfl
      ·exact hi.2 j hj
      ·exact e
    ·simp only [Xd,VL (p:=fun i=>YL (Za l i)) (n:=l.length) fun j hj=>hi.2 j (by omega),hf,decide_true,Bool.and_true,decide_eq_true_eq]
     omega
 ·have:¬(1≤l.length∧l.length≤20000):=by omega
  simp [Xd,this]
 ·have:¬(1≤l.length∧l.length≤20000):=by omega
  simp [Xd,this]
def stN (l:List PNode) (i j:Nat):Int:=if j<i then ZL l j else 0
def Gb (l:List PNode) (i j:Nat):List AV:=[.lit (.int .i64 (stN l i j))]
theorem Ga (l:List PNode) (i j:Nat):Gb l i j=[.lit (.int .i64 (stN l i j))]:=rfl
set_option maxRecDepth 100000 in
theorem ZiJ (l:List PNode) (hl:l.length≤9223372036854775807) (hw:∀ i,i<l.length→(Za l i).wf):VFun Tryz.prog 44 [.agg [.sl 4 l.length (Zf l)]] (fun av obs=>obs=[]∧av=.lit (.bool (Xd l))):=by
 have cl:∀ (i:Nat) (c:AV),i<l.length→c∈Zf l i→Closed c:=fun i c _ h=>ZG l i c h
 have bad:∀ i:Nat,i<l.length→ZL l i<0→Xd l=false:=fun i hi hf=>by
  simp only [Xd,Bool.and_eq_false_iff,decide_eq_false_iff_not]
  refine .inl (.inr fun e=>?_)
  have e1:(l.length:Int)-1=((l.length-1:Nat):Int):=by omega
  rw [e1] at e
  have:=Ji l (l.length-1) i (by omega) (by omega) (by omega)
  omega
 have badT:∀ i:Nat,i<l.length→YL (Za l i)=false→Xd l=false:=fun i hi e=>by
  simp only [Xd,X5 (p:=fun i=>YL (Za l i)) hi e,Bool.and_false]
 have badL:¬(1≤l.length∧l.length≤20000)→Xd l=false:=fun h=>by simp [Xd,h]
 refine Zi Tryz.func44 (by kernel_rfl) rfl (by simp [Tryz.ntmps44]) ?_;simp only [Tryz.ntmps44,Tryz.results44];simp [go_sem]
 refine ⟨by omega,fun h1=>⟨by omega,fun h2=>badL (by omega),fun h2=>⟨by omega,by omega,by omega,by omega,?_⟩⟩,fun h1=>badL (by omega)⟩
 refine Yn (fun i:Nat=>i≤l.length∧∀ j,j<i→YL (Za l j)=true∧0≤ZL l j) (fun i=>l.length-i)
  (fun i=>.of [(3,.own 1),(21,.sl 4 l.length (Zf l)),(22,.lit (.int .i64 l.length)),(23,.lit (.int .i64 i))] [some ⟨37,1,1,fun _=>[.sl 4 l.length (Zf l)]⟩,some ⟨3,1,l.length,Gb l i⟩]) ⟨0,⟨by omega,by simp⟩,?_⟩ (fun i hi=>?_)
 ·simp [go_sem,Gb,stN]
  exact cl
 ·simp [go_sem,Zz]
  refine ⟨fun h=>⟨h,fun k1=>⟨fun k6=>Zc (Zke (Za l i) (hw i h)) ?_ ?_,fun k6=>badT i h (Qi (by omega))⟩,fun k1=>badT i h (Qi (by omega))⟩,fun h=>?_⟩
  ·simp [go_sem,PNode.cells]
  ·simp [go_sem]
   refine ⟨fun e=>badT i h e,fun e=>Zc (ZlU (Za l i) (by omega)) ?_ ?_⟩
   ·simp [go_sem,PNode.cells]
   ·have hin:∀ j:Nat,j<i→stN l i j=ZL l j:=fun j hj=>if_pos hj
    have hi1:1≤i→stN l i (i-1)=ZL l ((i:Int)-1):=fun h1=>by rw [hin _ (by omega)];congr 1;omega
    have e1:IntKind.i64.wrap ((i:Int)-1)=(i:Int)-1:=wrap_i64 (by omega)
    have n1:((i:Int)-1).toNat=i-1:=by omega
    have eq:=YP l i
    have step:∀ v:Int,v=ZL l i→0≤v→∃ j,(j≤l.length∧∀ (j_1:Nat),j_1<j→YL (Za l j_1)=true∧0≤ZL l j_1)∧l.length-j<l.length-i∧
      ((∀ (i:Nat) (c:AV),i<l.length→c∈Zf l i→Closed c)∧IntKind.i64.wrap ((i:Int)+1)=j)∧(∀ (i:Nat) (c:AV),i<l.length→c∈Zf l i→Closed c)∧
      ∀ (i_1:Nat),i_1<l.length→ZaR l.length (Gb l i) i 0 [AV.lit (Value.int IntKind.i64 v)] i_1=[AV.lit (Value.int IntKind.i64 (stN l j i_1))]:=by
     rintro v rfl hv
     refine ⟨i+1,⟨by omega,fun j hj=>?_⟩,by omega,⟨cl,Zn (by omega)⟩,cl,fun j hj=>?_⟩
     ·rcases Nat.lt_succ_iff_lt_or_eq.mp hj with hj|rfl
      ·exact hi.2 j hj
      ·exact ⟨e,hv⟩
     ·rw [Uv h hj]
      by_cases hji:j=i
      ·subst hji
       simp [Gb,Wt,stN]
      ·rw [if_neg hji]
       simp only [Gb,stN]
       by_cases h2:j<i
       ·rw [if_pos h2,if_pos (by omega)]
       ·rw [if_neg h2,if_neg (by omega)]
    simp [go_sem,e1,n1,Ga]
    refine ⟨fun k0=>?_,fun k0=>⟨fun k1=>?_,fun k1=>⟨fun k2=>?_,fun k2=>?_⟩⟩⟩
    ·simp only [k0,if_true] at eq
     have no:¬((Za l i).a=0∧(Za l i).b=0)→Xd l=false:=fun hn=>bad i h (by rw [eq,if_pos (by omega)];omega)
     refine ⟨fun ha=>⟨fun hb=>no (by omega),fun hb=>⟨h,?_⟩⟩,fun ha=>no (by omega)⟩
     rw [if_neg (by omega)] at eq
     exact step _ eq.symm (by omega)
    ·simp only [if_neg k0,if_pos k1] at eq
     have no:¬(1≤(i:Int)∧(Za l i).a=(i:Int)-1∧(Za l i).b=0)→Xd l=false:=fun hn=>bad i h (by
      rw [eq]
      split
      ·omega
      ·rw [Yt l (by omega)];omega)
     refine ⟨fun g1=>⟨fun ha=>⟨fun hb=>no (by omega),fun hb=>?_⟩,fun ha=>no (by omega)⟩,fun g1=>no (by omega)⟩
     rw [if_neg (by omega)] at eq
     have hp:=(hi.2 (i-1) (by omega)).2
     have e3:((i-1:Nat):Int)=(i:Int)-1:=by omega
     rw [e3] at hp
     simp only [hi1 (by omega)]
     exact ⟨g1,by omega,by omega,h,step _ eq.symm hp⟩
    ·simp only [if_neg k0,if_neg k1] at eq
     refine Zq [] (.q 0 <| .q 1 <| .q 2 <| .q 3 <| .q 4 <| .q 5 <| .q 6 <| .q 7 <| .q 8 <| .q 9 <| .q 10 <| .q 11 <| .q 12 <| .q 13 <| .q 14 <| .q 15 <| .q 16 <| .q 17 <| .q 18 <| .q 19 <| .q 20 <| .q 21 <| .q 22 <| .q 23 <| .q 24 <| .done) (by kernel_rfl) ?_
     simp [go_sem,e1,n1,Ga]
     have lt2:(i:Int)<2→ZL l ((i:Int)-1)<1:=fun h2=>by
      by_cases h3:i=0
      ·subst h3;rw [Yt l (by omega)];omega
      ·have:=XR l (i:=(i:Int)-1) (by omega)
       omega
     have no:¬(2≤(i:Int)∧(Za l i).b=(i:Int)-1∧(Za l i).a=ZL l ((i:Int)-1)-1∧0≤(Za l i).a)→Xd l=false:=fun hn=>bad i h (by
      rw [eq]
      split
      ·omega
      ·split
       ·omega
       ·rename_i h1 h2
        have:¬(i:Int)<2:=fun h3=>h2 (.inl (lt2 h3))
        omega)
     refine ⟨fun g2=>⟨fun hb=>⟨by omega,by omega,by omega,?_⟩,fun hb=>no (by omega)⟩,fun g2=>no (by omega)⟩
     have hp:=(hi.2 (i-1) (by omega)).2
     have e3:((i-1:Nat):Int)=(i:Int)-1:=by omega
     rw [e3] at hp
     have hle:=XR l (i:=(i:Int)-1) (by omega)
     simp only [hi1 (by omega),wrap_i64 (n:=ZL l ((i:Int)-1)-1) (by omega)]
     refine ⟨fun ha=>⟨fun h0=>no (by omega),fun h0=>⟨h0,by omega,by omega,h,step _ ?_ ?_⟩⟩,fun ha=>no (by omega)⟩
     ·rw [eq,if_neg (by omega),if_neg (by omega),hin _ (by omega),Int.toNat_of_nonneg h0,ha]
     ·rw [hin _ (by omega)]
      exact (hi.2 _ (by omega)).2
    ·have:=KU (Za l i).kind
     omega
  ·have hl1:i=l.length:=by omega
   subst hl1
   have e1:IntKind.i64.wrap ((l.length:Int)-1)=(l.length:Int)-1:=wrap_i64 (by omega)
   have n1:((l.length:Int)-1).toNat=l.length-1:=by omega
   simp [go_sem,Ga,e1,n1]
   refine ⟨by omega,h1,by omega,by omega,?_⟩
   have e3:((l.length-1:Nat):Int)=(l.length:Int)-1:=by omega
   have e4:stN l l.length (l.length-1)=ZL l ((l.length:Int)-1):=by unfold stN;rw [if_pos (by omega),e3]
   have hr:1≤l.length∧l.length≤20000:=by omega
   simp only [Xd,VL (p:=fun i=>YL (Za l i)) (n:=l.length) fun j hj=>(hi.2 j (by omega)).1,e4,hr,and_self,decide_true,Bool.true_and,Bool.and_true,WV]
open Go.Proofs.YtjdmmhcogmepaaaGreatDoor.Ops (Tr)
abbrev ET:=Tr POp (Int×ByteArray)
def ET.nil:ET:=.leaf (0,⟨#[]⟩)
def lay:ET→List PNode→List PNode
 | .leaf b,out=>out++[⟨b.2,b.1,0,0⟩]
 | .grp e,out=>lay e out++[⟨⟨#[]⟩,6,(lay e out).length-1,0⟩]
 | .pre o e,out=>lay e out++[⟨o.text,o.kind+2,(lay e out).length-1,0⟩]
 | .post o e,out=>lay e out++[⟨o.text,o.kind+2,(lay e out).length-1,0⟩]
 | .inf o x y,out=>lay y (lay x out)++[⟨o.text,o.kind+2,(lay x out).length-1,(lay y (lay x out)).length-1⟩]
def Zb (t:List PNode):Option Ob:=some ⟨77,4,t.length,Zf t⟩
theorem Yk (t:List PNode) (o:PNode) (j:Nat) (h:j<t.length+1):Z2 t.length (Zf t) (fun i=>[o.cells][i]?.getD []) j=Zf (t++[o]) j:=by
 unfold Z2 Zf
 by_cases hj:j<t.length
 ·rw [if_pos hj,List.getD_eq_getElem?_getD,List.getD_eq_getElem?_getD,List.getElem?_append_left hj]
 ·have:j=t.length:=by omega
  subst this
  rw [if_neg (by omega),List.getD_eq_getElem?_getD,List.getElem?_append_right (by omega)]
  simp
theorem Yo {idx:Nat→Nat} {ks:List Nat} {ty:Nat} {l T:List PNode} {o:PNode} {f:Nat→List AV} (h:T=l++[o]) (hf:∀ j,j<l.length+1→f j=Zf (l++[o]) j):Vw idx ks ⟨ty,4,T.length,Zf T⟩ (some (some ⟨ty,4,l.length+1,f⟩)):=by
 subst h
 rw [show (l++[o]).length=l.length+1 by simp]
 exact ZC hf (fun j _=>Z5 _ j)
theorem Xy {idx:Nat→Nat} {ks:List Nat} {ty:Nat} {l T:List PNode} {f:Nat→List AV} (h:T=l) (hf:∀ j,j<l.length→f j=Zf l j):Vw idx ks ⟨ty,4,T.length,Zf T⟩ (some (some ⟨ty,4,l.length,f⟩)):=by
 subst h
 exact ZC hf (fun j _=>Z5 _ j)
theorem Zbd {T:List PNode} {o:PNode} {f:Nat→List AV} {n:Nat} (hn:n=T.length) (hf:∀ j,j<n→f j=Zf T j) (j:Nat) (h:j<n+1):Z2 n f (fun q=>[o.cells][q]?.getD []) j=Zf (T++[o]) j:=by
 rw [←Yk T o j (by omega)]
 subst hn
 unfold Z2
 by_cases hj:j<T.length
 ·rw [if_pos hj,if_pos hj,hf j hj]
 ·rw [if_neg hj,if_neg hj]
theorem JU {idx:Nat→Nat} {ks:List Nat} {ty:Nat} {T R:List PNode} {o:PNode} {f:Nat→List AV} {n:Nat} (hn:n=T.length) (h:R=T++[o]) (hf:∀ j,j<n+1→f j=Zf (T++[o]) j):Vw idx ks ⟨ty,4,R.length,Zf R⟩ (some (some ⟨ty,4,n+1,f⟩)):=by
 subst hn
 exact Yo h hf
end Go.Proofs.YtjdmmhcogmepaaaGreatDoor.V
namespace Go.Proofs.YtjdmmhcogmepaaaGreatDoor.V
open Go.RowKit
def JB (k:Nat):PNode:=if k%2=0 then ⟨(⟨#[97,98,99,100,95,57]⟩:ByteArray).extract (k/2%4) (k/2%4+1+k/8%3),2,0,0⟩ else ⟨(⟨#[48,49,55,50]⟩:ByteArray).extract (k/2%4) 4,1,0,0⟩
theorem Gu {k a:Nat} (h:k<1000000):IntKind.i64.wrap ((k:Int)/(a:Int))=((k/a:Nat):Int):=by
 have h1:k/a≤k:=Nat.div_le_self k a
 have h2:(k:Int)/(a:Int)=((k/a:Nat):Int):=by simp
 rw [h2]
 generalize k/a=q at *
 exact wrap_i64 (by omega)
theorem Qm (k a m:Nat) (h:k<1000000):(IntKind.i64.wrap ((k:Int)/(a:Int))).tmod (m:Int)=((k/a%m:Nat):Int):=by
 rw [Gu h];exact Z6 _ _
theorem Zfv (r:Rd) (hr:r.ok) (out:List PNode) (ho:out.length≤1000000):VProc Tryz.prog 140 [.ptr 0 2 0 0,.own 1] [ZB r,Zb out] [] (fun av mem maps=>av=.own 2∧mem=[ZB r.nx,none,Zb (out++[JB r.v])]∧maps=[]):=by
 have cr:∀ (r:Rd) (i:Nat) (c:AV),i<r.n→c∈Yc r.f i→Closed c:=fun r i c _ h=>YF r.f i c h
 have c1:=W7 r hr
 have hk:=Rd.v_lt hr
 generalize hK:r.v=k at *
 have e2:(k:Int).tmod 2=((k%2:Nat):Int):=Z6 k 2
 have m4:(IntKind.i64.wrap ((k:Int)/2)).tmod 4=((k/2%4:Nat):Int):=Qm k 2 4 (by omega)
 have m3:(IntKind.i64.wrap ((k:Int)/8)).tmod 3=((k/8%3:Nat):Int):=Qm k 8 3 (by omega)
 have b4:k/2%4<4:=Nat.mod_lt _ (by decide)
 have b3:k/8%3<3:=Nat.mod_lt _ (by decide)
 have b2:k%2<2:=Nat.mod_lt _ (by decide)
 unfold JB
 generalize k/2%4=x at *
 generalize k/8%3=y at *
 generalize k%2=u at *
 have w1:IntKind.i64.wrap ((x:Int)+1)=((x+1:Nat):Int):=Zn (by omega)
 have w2:IntKind.i64.wrap ((x:Int)+1+(y:Int))=((x+1+y:Nat):Int):=by rw [wrap_i64 (by omega)];omega
 have eN:((x:Int)+1+(y:Int)).toNat=x+1+y:=by omega
 simp only [ZB,Zb] at c1 ⊢
 refine Zl Tryz.func140 (by kernel_rfl) rfl (by simp [Tryz.ntmps140]) ?_;simp only [Tryz.ntmps140,Tryz.results140];simp [go_sem]
 refine Zd [0] c1 (by simp) ?_ ?_ trivial ?_
 ·simp [go_sem]
 ·simp [go_sem]
  exact cr r
 ·rintro av mem maps ⟨rfl,rfl,rfl⟩
  by_cases h2:u=0
  ·subst h2
   simp [go_sem,e2,m4,m3,w1,w2,eN]
   refine ⟨by omega,by omega,by omega,by omega,rfl,[3],[ZB r.nx,none,Zb (out++[⟨(⟨#[97,98,99,100,95,57]⟩:ByteArray).extract x (x+1+y),2,0,0⟩])],by simp,by simp,by simp [go_sem],?_,by simp [go_sem],?_⟩
   ·simp [go_sem,ZB,Zb]
    refine ⟨Ww,?_⟩
    exact ZC (fun j hj=>Yk out ⟨(⟨#[97,98,99,100,95,57]⟩:ByteArray).extract x (x+1+y),2,0,0⟩ j hj) (fun j _=>Z5 _ j)
   ·simp [go_sem,ZB,Zb]
  ·have h2':¬(u:Int)=0:=by omega
   simp only [if_neg h2]
   simp [go_sem,e2,h2,h2',m4,m3,w1,w2,eN]
   refine ⟨by omega,by omega,by omega,rfl,[3],[ZB r.nx,none,Zb (out++[⟨(⟨#[48,49,55,50]⟩:ByteArray).extract x 4,1,0,0⟩])],by simp,by simp,by simp [go_sem],?_,by simp [go_sem],?_⟩
   ·simp [go_sem,ZB,Zb]
    refine ⟨Ww,?_⟩
    exact ZC (fun j hj=>Yk out ⟨(⟨#[48,49,55,50]⟩:ByteArray).extract x 4,1,0,0⟩ j hj) (fun j _=>Z5 _ j)
   ·simp [go_sem,ZB,Zb]
def tab (l:List POp):Option Ob:=some ⟨133,4,l.length,Zg l⟩
def WD (l:List POp) (k b:Nat):ByteArray:=
 if k%8<4∧0<l.length then (Zm l (k/8%l.length)).text
 else if k%8=4 then ⟨#[40]⟩ else if k%8=5 then ⟨#[41]⟩
 else if k%8=6 then (⟨#[97,49,95,98]⟩:ByteArray).extract 0 (1+k/8%4)
 else if 240≤k then l1T k else if 224≤k then ⟨#[b.toUInt8]⟩
 else (⟨#[49,48,50,55]⟩:ByteArray).extract (k/8%4) 4
theorem Zgi {b:Nat} (hb:b<256):[AV.lit (.int .u8 (IntKind.u8.wrap (b:Int)))]=Zt ⟨#[UInt8.ofNat b]⟩ 0:=by
 have e:IntKind.u8.wrap (b:Int)=b:=by
  have h8:IntKind.u8.bits=8:=rfl
  simp only [IntKind.wrap,h8]
  simp [IntKind.signed]
  omega
 have h2:Zh ⟨#[UInt8.ofNat b]⟩ 0=((UInt8.ofNat b).toNat:Int):=rfl
 rw [e]
 unfold Zt
 rw [h2]
 simp
 omega
def Y8 (l:List POp) (k:Nat):Bool:=!(decide (k%8<4∧0<l.length))&&decide (k%8≠4∧k%8≠5∧k%8≠6)&&decide (224≤k∧k<240)
set_option maxRecDepth 100000 in
theorem Zd9 (l:List POp) (hl:l.length≤1000) (r:Rd) (hr:r.ok):VProc Tryz.prog 105 [.ptr 0 2 0 0,.agg [.own 1]] [ZB r,tab l] [] (fun av mem maps=>av=.lit (.string (WD l r.v r.nx.v))∧mem=[ZB (if Y8 l r.v then r.nx.nx else r.nx),tab l]∧maps=[]):=by
 have cr:∀ (r:Rd) (i:Nat) (c:AV),i<r.n→c∈Yc r.f i→Closed c:=fun r i c _ h=>YF r.f i c h
 have c1:=W7 r hr
 have hk:=Rd.v_lt hr
 generalize hK:r.v=k at *
 have e8:=Z6 k 8
 rw [show ((8:Nat):Int)=8 from rfl] at e8
 simp only [ZB,tab] at c1 ⊢
 refine Zl Tryz.func105 (by kernel_rfl) rfl (by simp [Tryz.ntmps105]) ?_;simp only [Tryz.ntmps105,Tryz.results105];simp [go_sem]
 refine Zd [0] c1 (by simp) ?_ ?_ trivial ?_
 ·simp [go_sem]
 ·simp [go_sem]
  exact cr r
 ·rintro av mem maps ⟨rfl,rfl,rfl⟩
  have fin:∀ (ts:List (Nat×AV)) (z:ByteArray) (rr:Rd) (x:Option Ob),VO [] (fun av mem maps=>av=.lit (.string z)∧mem=[some ⟨138,2,1,fun _=>[.sl 1 rr.n (Yc rr.f),.lit (.int .i64 rr.p)]⟩,some ⟨133,4,l.length,Zg l⟩]∧maps=[]) ⟨ts,[some ⟨138,2,1,fun _=>[.sl 1 rr.n (Yc rr.f),.lit (.int .i64 rr.p)]⟩,some ⟨133,4,l.length,Zg l⟩,x],[],2⟩ (.lit (.string z)):=by
   intro ts z rr x
   refine ⟨rfl,[],[ZB rr,tab l],by simp,by simp,by simp [go_sem],?_,by simp [go_sem],?_⟩
   ·simp [go_sem,ZB,tab]
    exact ⟨Ww,ZC (fun _ _=>rfl) (fun j _=>XV _ j)⟩
   ·simp [go_sem,ZB,tab]
  have fin2:∀ (ts:List (Nat×AV)) (z:ByteArray) (rr:Rd) (x x':Option Ob),VO [] (fun av mem maps=>av=.lit (.string z)∧mem=[some ⟨138,2,1,fun _=>[.sl 1 rr.n (Yc rr.f),.lit (.int .i64 rr.p)]⟩,some ⟨133,4,l.length,Zg l⟩]∧maps=[]) ⟨ts,[some ⟨138,2,1,fun _=>[.sl 1 rr.n (Yc rr.f),.lit (.int .i64 rr.p)]⟩,some ⟨133,4,l.length,Zg l⟩,x,x'],[],2⟩ (.lit (.string z)):=by
   intro ts z rr x x'
   refine ⟨rfl,[],[ZB rr,tab l],by simp,by simp,by simp [go_sem],?_,by simp [go_sem],?_⟩
   ·simp [go_sem,ZB,tab]
    exact ⟨Ww,ZC (fun _ _=>rfl) (fun j _=>XV _ j)⟩
   ·simp [go_sem,ZB,tab]
  have ek:(k:Int).tmod 8=((k%8:Nat):Int):=e8
  have hlt8:k%8<8:=Nat.mod_lt _ (by decide)
  have e84:(IntKind.i64.wrap ((k:Int)/8)).tmod 4=((k/8%4:Nat):Int):=by rw [wrap_i64 (by omega),show (k:Int)/8=((k/8:Nat):Int) by omega];exact Z6 _ 4
  by_cases hA:k%8<4∧0<l.length
  ·have h1':(k:Int).tmod 8<4:=by rw [e8];omega
   have hw:WD l k r.nx.v=(Zm l (k/8%l.length)).text:=by simp only [WD,if_pos hA]
   have ht:Y8 l k=false:=by simp [Y8,hA]
   have ex:(IntKind.i64.wrap ((k:Int)/8)).tmod l.length=((k/8%l.length:Nat):Int):=by rw [wrap_i64 (by omega),show (k:Int)/8=((k/8:Nat):Int) by omega];exact Z6 _ _
   have hx:=Nat.mod_lt (k/8) hA.2
   rw [hw,ht]
   have hne:l≠[]:=by intro e;rw [e] at hA;simp at hA
   generalize k/8%l.length=x at *
   have hxi:((x:Int)).toNat=x:=rfl
   simp [go_sem,h1',hA.2]
   refine ⟨by omega,?_⟩
   refine Zq [] (.q 0 <| .q 1 <| .q 2 <| .q 3 <| .q 4 <| .q 5 <| .q 6 <| .q 7 <| .q 8 <| .q 9 <| .q 10 <| .q 11 <| .done) (by kernel_rfl) ?_
   simp [go_sem,hne,ex,ZU]
   refine ⟨by omega,hx,?_⟩
   exact fin _ _ _ _
  ·have hA':¬((k:Int).tmod 8<4∧0<l.length):=by rw [e8];omega
   have hgo:∀ (z:ByteArray) (rr:Rd),WD l k r.nx.v=z→(if Y8 l k=true then r.nx.nx else r.nx)=rr→True:=fun _ _ _ _=>trivial
   by_cases hB:k%8=4
   ·have hw:WD l k r.nx.v=⟨#[40]⟩:=by simp only [WD,if_neg hA,if_pos hB]
    have ht:Y8 l k=false:=by simp [Y8,hB]
    have h1':¬(k:Int).tmod 8<4:=by rw [e8];omega
    have h2':(k:Int).tmod 8=4:=by rw [e8];omega
    rw [hw,ht]
    simp [go_sem,h2']
    exact fin _ _ _ _
   ·by_cases hC:k%8=5
    ·have hw:WD l k r.nx.v=⟨#[41]⟩:=by simp only [WD,if_neg hA,if_neg hB,if_pos hC]
     have ht:Y8 l k=false:=by simp [Y8,hC]
     have h2':(k:Int).tmod 8=5:=by rw [e8];omega
     rw [hw,ht]
     simp [go_sem,h2']
     exact fin _ _ _ _
    ·by_cases hD:k%8=6
     ·have hw:WD l k r.nx.v=(⟨#[97,49,95,98]⟩:ByteArray).extract 0 (1+k/8%4):=by simp only [WD,if_neg hA,if_neg hB,if_neg hC,if_pos hD]
      have ht:Y8 l k=false:=by simp [Y8,hD]
      have h2':(k:Int).tmod 8=6:=by rw [e8];omega
      rw [hw,ht]
      have hy:k/8%4<4:=Nat.mod_lt _ (by decide)
      generalize k/8%4=y at *
      have w1:IntKind.i64.wrap (1+(y:Int))=((1+y:Nat):Int):=by rw [wrap_i64 (by omega)];omega
      have w2:((1:Int)+(y:Int)).toNat=1+y:=by omega
      simp [go_sem,h2',e84,w1,w2]
      refine ⟨by omega,by omega,?_⟩
      exact fin _ _ _ _
     ·have h4':¬(k:Int).tmod 8=4:=by rw [e8];omega
      have h5':¬(k:Int).tmod 8=5:=by rw [e8];omega
      have h6':¬(k:Int).tmod 8=6:=by rw [e8];omega
      have hsp:(¬(k:Int).tmod 8<4)∨((k:Int).tmod 8<4∧¬0<l.length):=by rw [e8];omega
      by_cases h240:240≤k
      ·have h240':(240:Int)≤k:=by omega
       have hw:WD l k r.nx.v=l1T k:=by simp only [WD,if_neg hA,if_neg hB,if_neg hC,if_neg hD,if_pos h240]
       have ht:Y8 l k=false:=by simp [Y8];omega
       rw [hw,ht]
       rcases hsp with hs|⟨hs,hs2⟩
       ·simp [go_sem,hs,h4',h5',h6',h240']
        refine Zc (Zb0 k) ?_ ?_
        ·simp [go_sem]
        ·simp [go_sem]
         exact fin _ _ _ _
       ·simp [go_sem,hs,hs2,h4',h5',h6',h240']
        refine ⟨by omega,Zc (Zb0 k) ?_ ?_⟩
        ·simp [go_sem]
        ·simp [go_sem]
         exact fin _ _ _ _
      ·have h240':¬(240:Int)≤k:=by omega
       by_cases h224:224≤k
       ·have h224':(224:Int)≤k:=by omega
        have hw:WD l k r.nx.v=⟨#[r.nx.v.toUInt8]⟩:=by simp only [WD,if_neg hA,if_neg hB,if_neg hC,if_neg hD,if_neg h240,if_pos h224]
        have ht:Y8 l k=true:=by
         simp only [Y8,hA,decide_false,Bool.not_false,Bool.true_and]
         simp [hB,hC,hD,h224]
         omega
        have c2:=W7 r.nx (Rd.nx_ok hr)
        have hb:=Rd.v_lt (Rd.nx_ok hr)
        rw [hw,ht]
        simp only [ZB] at c2
        generalize r.nx.v=b at *
        rcases hsp with hs|⟨hs,hs2⟩
        ·simp [go_sem,hs,h4',h5',h6',h240',h224']
         refine Zd [0] c2 (by simp) ?_ ?_ trivial ?_
         ·simp [go_sem]
         ·simp [go_sem]
          exact cr r.nx
         ·rintro av mem maps ⟨rfl,rfl,rfl⟩
          simp [go_sem]
          refine ⟨⟨#[UInt8.ofNat b]⟩,rfl,?_,fin2 _ _ _ _ _⟩
          exact Zgi hb
        ·simp [go_sem,hs,hs2,h4',h5',h6',h240',h224']
         refine ⟨by omega,?_⟩
         refine Zd [0] c2 (by simp) ?_ ?_ trivial ?_
         ·simp [go_sem]
         ·simp [go_sem]
          exact cr r.nx
         ·rintro av mem maps ⟨rfl,rfl,rfl⟩
          simp [go_sem]
          refine ⟨⟨#[UInt8.ofNat b]⟩,rfl,?_,fin2 _ _ _ _ _⟩
          exact Zgi hb
       ·have h224':¬(224:Int)≤k:=by omega
        have hw:WD l k r.nx.v=(⟨#[49,48,50,55]⟩:ByteArray).extract (k/8%4) 4:=by simp only [WD,if_neg hA,if_neg hB,if_neg hC,if_neg hD,if_neg h240,if_neg h224]
        have ht:Y8 l k=false:=by simp [Y8];omega
        rw [hw,ht]
        have hy:k/8%4<4:=Nat.mod_lt _ (by decide)
        generalize k/8%4=y at *
        rcases hsp with hs|⟨hs,hs2⟩
        ·simp [go_sem,hs,h4',h5',h6',h240',h224',e84]
         exact ⟨by omega,fin _ _ _ _⟩
        ·simp [go_sem,hs,hs2,h4',h5',h6',h240',h224',e84]
         exact ⟨by omega,by omega,fin _ _ _ _⟩
def ZlP (n:Nat):PNode:=⟨⟨#[]⟩,6,(n:Int)-1,0⟩
def opN (o:POp) (a b:Int):PNode:=⟨o.text,o.kind+2,a,b⟩
def Wu (l:List POp) (g:Bool):Nat→Rd→List PNode→List PNode×Rd
 |0,r,out=>(out++[JB r.nx.v],r.nx.nx)
 |d+1,r,out=>
  if r.nx.n≤r.nx.p∨r.v%8=0∨l.length=0 then (out++[JB r.nx.v],r.nx.nx)
  else if g=true∧r.v%8=1 then ((Wu l g d r.nx out).1++[ZlP (Wu l g d r.nx out).1.length],(Wu l g d r.nx out).2)
  else if (Zm l (r.v/8%l.length)).kind=2 then
   ((Wu l g d (Wu l g d r.nx out).2 (Wu l g d r.nx out).1).1++[opN (Zm l (r.v/8%l.length)) (((Wu l g d r.nx out).1.length:Int)-1) (((Wu l g d (Wu l g d r.nx out).2 (Wu l g d r.nx out).1).1.length:Int)-1)],(Wu l g d (Wu l g d r.nx out).2 (Wu l g d r.nx out).1).2)
  else ((Wu l g d r.nx out).1++[opN (Zm l (r.v/8%l.length)) (((Wu l g d r.nx out).1.length:Int)-1) 0],(Wu l g d r.nx out).2)
theorem HM (l:List POp) (g:Bool):∀ (d:Nat) (r:Rd) (out:List PNode),out.length<(Wu l g d r out).1.length∧(Wu l g d r out).1.length+1≤out.length+2^(d+1)
 |0,r,out=>by simp [Wu]
 |d+1,r,out=>by
  have h1:=HM l g d r.nx out
  have h2:=HM l g d (Wu l g d r.nx out).2 (Wu l g d r.nx out).1
  have e:2^(d+1+1)=2*2^(d+1):=by rw [Nat.pow_succ];omega
  have p:=Nat.one_le_two_pow (n:=d)
  have e0:2^(d+1)=2*2^d:=by rw [Nat.pow_succ];omega
  rw [Wu]
  split
  ·simp;omega
  ·split
   ·simp;omega
   ·split
    ·simp;omega
    ·simp;omega
theorem ZbF {l:List POp} {g:Bool}:∀ (d:Nat) (r:Rd) (out:List PNode),r.ok→(Wu l g d r out).2.ok
 |0,r,out,h=>Rd.nx_ok (Rd.nx_ok h)
 |d+1,r,out,h=>by
  have h1:=ZbF (l:=l) (g:=g) d r.nx out (Rd.nx_ok h)
  have h2:=ZbF (l:=l) (g:=g) d (Wu l g d r.nx out).2 (Wu l g d r.nx out).1 h1
  rw [Wu]
  split
  ·exact Rd.nx_ok (Rd.nx_ok h)
  ·split
   ·exact h1
   ·split
    ·exact h2
    ·exact h1
def H0 (l:List POp):Prop:=∀ i,i<l.length→0≤(Zm l i).kind∧(Zm l i).kind≤100
set_option maxRecDepth 100000 in
theorem Zlh (l:List POp) (hl:l.length≤1000) (hk:H0 l) (g:Bool):∀ (d:Nat) (r:Rd) (out:List PNode),d≤10→r.ok→out.length+2^(d+1)≤1000000→VProc Tryz.prog 115 [.ptr 0 2 0 0,.agg [.own 1],.lit (.int .i64 d),.lit (.bool g),.own 2] [ZB r,tab l,Zb out] [] (fun av mem maps=>av=.own 3∧mem=[ZB (Wu l g d r out).2,tab l,none,Zb (Wu l g d r out).1]∧maps=[]):=by
 have cr:∀ (r:Rd) (i:Nat) (c:AV),i<r.n→c∈Yc r.f i→Closed c:=fun r i c _ h=>YF r.f i c h
 intro d
 induction d with
 |zero=>
  intro r out hd hr ho
  have c1:=W7 r hr
  have c2:=Zfv r.nx (Rd.nx_ok hr) out (by omega)
  simp only [ZB,tab,Zb,Wu] at c1 c2 ⊢
  refine Zl Tryz.func115 (by kernel_rfl) rfl (by simp [Tryz.ntmps115]) ?_;simp only [Tryz.ntmps115,Tryz.results115];simp [go_sem]
  refine Zd [0] c1 (by simp) ?_ ?_ trivial ?_
  ·simp [go_sem]
  ·simp [go_sem]
   exact cr r
  ·rintro av mem maps ⟨rfl,rfl,rfl⟩
   simp [go_sem]
   refine Zd [0,2] c2 (by simp) ?_ ?_ trivial ?_
   ·simp [go_sem]
   ·simp [go_sem]
    exact ⟨cr r.nx,fun i _=>Zk (Z5 _ i)⟩
   ·rintro av mem maps ⟨rfl,rfl,rfl⟩
    simp [go_sem]
    refine ⟨rfl,[4],[ZB r.nx.nx,tab l,none,Zb (out++[JB r.nx.v])],by simp,by simp,by simp [go_sem],?_,by simp [go_sem],?_⟩
    ·simp [go_sem,ZB,tab,Zb]
     exact ⟨Ww,ZC (fun _ _=>rfl) (fun j _=>XV _ j),ZC (fun _ _=>rfl) (fun j _=>Z5 _ j)⟩
    ·simp [go_sem,ZB,tab,Zb]
 |succ d ih=>
  intro r out hd hr ho
  have hn:=Rd.nx_ok hr
  have c1:=W7 r hr
  have p2:=Nat.one_le_two_pow (n:=d+1+1)
  have c2:=Zfv r.nx hn out (by omega)
  have c3:=ZgW r.nx hn
  have hv:=Rd.v_lt hr
  have e8:=Z6 r.v 8
  rw [show ((8:Nat):Int)=8 from rfl] at e8
  have b8:r.v%8<8:=Nat.mod_lt _ (by decide)
  have hd0:¬((d:Int)+1=0):=by omega
  obtain ⟨Q,hQ⟩:∃ Q,Wu l g (d+1) r out=Q:=⟨_,rfl⟩
  rw [hQ]
  rw [Wu] at hQ
  simp only [ZB,tab,Zb] at c1 c2 c3 ⊢
  refine Zl Tryz.func115 (by kernel_rfl) rfl (by simp [Tryz.ntmps115]) ?_;simp only [Tryz.ntmps115,Tryz.results115];simp [go_sem]
  refine Zd [0] c1 (by simp) ?_ ?_ trivial ?_
  ·simp [go_sem]
  ·simp [go_sem]
   exact cr r
  ·rintro av mem maps ⟨rfl,rfl,rfl⟩
   simp [go_sem,hd0]
   refine Zd [0] c3 (by simp) ?_ ?_ trivial ?_
   ·simp [go_sem]
   ·simp [go_sem]
    exact cr r.nx
   ·rintro av mem maps ⟨rfl,rfl,rfl⟩
    by_cases hc1:r.nx.n≤r.nx.p
    ·have e1:r.nx.n-r.nx.p=0:=by omega
     rw [if_pos (.inl hc1)] at hQ
     subst hQ
     simp [go_sem,e1]
     refine Zd [0,2] c2 (by simp) ?_ ?_ trivial ?_
     ·simp [go_sem]
     ·simp [go_sem]
      exact ⟨cr r.nx,fun i _=>Zk (Z5 _ i)⟩
     ·rintro av mem maps ⟨rfl,rfl,rfl⟩
      simp [go_sem]
      refine ⟨rfl,[4],[ZB r.nx.nx,tab l,none,Zb (out++[JB r.nx.v])],by simp,by simp,by simp [go_sem],?_,by simp [go_sem],?_⟩
      ·simp [go_sem,ZB,tab,Zb]
       exact ⟨Ww,ZC (fun _ _=>rfl) (fun j _=>XV _ j),ZC (fun _ _=>rfl) (fun j _=>Z5 _ j)⟩
      ·simp [go_sem,ZB,tab,Zb]
    ·have e1:¬(r.nx.n-r.nx.p=0):=by omega
     by_cases hc2:r.v%8=0
     ·have h2':(r.v:Int).tmod 8=0:=by rw [e8,hc2];rfl
      rw [if_pos (.inr (.inl hc2))] at hQ
      subst hQ
      simp [go_sem,e1,h2']
      refine Zd [0,2] c2 (by simp) ?_ ?_ trivial ?_
      ·simp [go_sem]
      ·simp [go_sem]
       exact ⟨cr r.nx,fun i _=>Zk (Z5 _ i)⟩
      ·rintro av mem maps ⟨rfl,rfl,rfl⟩
       simp [go_sem]
       refine ⟨rfl,[4],[ZB r.nx.nx,tab l,none,Zb (out++[JB r.nx.v])],by simp,by simp,by simp [go_sem],?_,by simp [go_sem],?_⟩
       ·simp [go_sem,ZB,tab,Zb]
        exact ⟨Ww,ZC (fun _ _=>rfl) (fun j _=>XV _ j),ZC (fun _ _=>rfl) (fun j _=>Z5 _ j)⟩
       ·simp [go_sem,ZB,tab,Zb]
     ·have h2':¬(r.v:Int).tmod 8=0:=by rw [e8];omega
      by_cases hc3:l.length=0
      ·rw [if_pos (.inr (.inr hc3))] at hQ
       subst hQ
       have hc3':l=[]:=List.eq_nil_of_length_eq_zero hc3
       simp [go_sem,e1,h2']
       refine ⟨by omega,fun _=>?_,fun h=>absurd hc3' h⟩
       refine Zd [0,2] c2 (by simp) ?_ ?_ trivial ?_
       ·simp [go_sem]
       ·simp [go_sem]
        exact ⟨cr r.nx,fun i _=>Zk (Z5 _ i)⟩
       ·rintro av mem maps ⟨rfl,rfl,rfl⟩
        simp [go_sem]
        refine ⟨rfl,[4],[ZB r.nx.nx,tab l,none,Zb (out++[JB r.nx.v])],by simp,by simp,by simp [go_sem],?_,by simp [go_sem],?_⟩
        ·simp [go_sem,ZB,tab,Zb]
         exact ⟨Ww,ZC (fun _ _=>rfl) (fun j _=>XV _ j),ZC (fun _ _=>rfl) (fun j _=>Z5 _ j)⟩
        ·simp [go_sem,ZB,tab,Zb]
      ·rw [if_neg (by rintro (h|h|h)<;>omega)] at hQ
       have hc3':¬l=[]:=fun e=>hc3 (by rw [e];rfl)
       have hp:=HM l g d r.nx out
       have hgo:=ZbF (l:=l) (g:=g) d r.nx out hn
       have e0:2^(d+1+1)=2*2^(d+1):=by rw [Nat.pow_succ];omega
       have ih1:=ih r.nx out (by omega) hn (by omega)
       have ed:IntKind.i64.wrap (d:Int)=d:=wrap_i64 (by omega)
       have cont1:r.v%8=1→(r.v:Int).tmod 8=1:=fun h=>by rw [e8,h];rfl
       have cont2:r.v%8≠1→¬(r.v:Int).tmod 8=1:=fun h=>by rw [e8];omega
       generalize Wu l g d r.nx out=q at *
       have wq:IntKind.i64.wrap ((q.1.length:Int)-1)=(q.1.length:Int)-1:=wrap_i64 (by omega)
       simp only [ZB,tab,Zb] at ih1
       by_cases hc4:g=true∧r.v%8=1
       ·rw [if_pos hc4] at hQ
        subst hQ
        obtain ⟨hg,h1⟩:=hc4
        have h1':=cont1 h1
        simp [go_sem,e1,hc3',hg,h1',ed]
        rw [hg] at ih1
        refine ⟨by omega,?_⟩
        refine Zd [0,1,2] ih1 (by simp) ?_ ?_ trivial ?_
        ·simp [go_sem]
        ·simp [go_sem]
         exact ⟨cr r.nx,fun i _=>Zk (XV _ i),fun i _=>Zk (Z5 _ i)⟩
        ·rintro av mem maps ⟨rfl,rfl,rfl⟩
         simp [go_sem,wq]
         refine ⟨by omega,by omega,by omega,?_⟩
         refine ⟨rfl,[6],[ZB q.2,tab l,none,Zb (q.1++[ZlP q.1.length])],by simp,by simp,by simp [go_sem],?_,by simp [go_sem],?_⟩
         ·simp [go_sem,ZB,tab,Zb]
          exact ⟨Ww,ZC (fun _ _=>rfl) (fun j _=>XV _ j),ZC (fun j hj=>Yk q.1 (ZlP q.1.length) j hj) (fun j _=>Z5 _ j)⟩
         ·simp [go_sem,ZB,tab,Zb]
       ·rw [if_neg hc4] at hQ
        have ex:(IntKind.i64.wrap ((r.v:Int)/8)).tmod l.length=((r.v/8%l.length:Nat):Int):=Qm r.v 8 l.length (by omega)
        have hx:r.v/8%l.length<l.length:=Nat.mod_lt _ (by omega)
        have hkx:=hk _ hx
        generalize r.v/8%l.length=x at *
        have wk:IntKind.i64.wrap ((Zm l x).kind+2)=(Zm l x).kind+2:=wrap_i64 (by omega)
        have hgc:g=false∨(g=true∧¬(r.v:Int).tmod 8=1):=by
         cases g with
         |false=>exact .inl rfl
         |true=>exact .inr ⟨rfl,cont2 fun h=>hc4 ⟨rfl,h⟩⟩
        rcases hgc with hg|⟨hg,h1'⟩
        case' inl=>simp [go_sem,e1,h2',hc3',hg]
        case' inr=>simp [go_sem,e1,h2',hc3',hg,h1']
        all_goals
         rw [hg] at ih1
         refine ⟨by omega,Zq [11] (.q 0 <| .q 1 <| .q 2 <| .q 3 <| .q 4 <| .q 5 <| .q 6 <| .q 7 <| .q 8 <| .q 9 <| .or 10 (.or 11 (.done) (.nil)) (.nil)) (by kernel_rfl) ?_⟩
         simp [go_sem,hc3',ex,ZU,wk,ed]
         refine ⟨by omega,hx,?_⟩
         refine Zd [0,1,2] ih1 (by simp) ?_ ?_ trivial ?_
         ·simp [go_sem]
         ·simp [go_sem]
          exact ⟨cr r.nx,fun i _=>Zk (XV _ i),fun i _=>Zk (Z5 _ i)⟩
         ·rintro av mem maps ⟨rfl,rfl,rfl⟩
          by_cases h2:(Zm l x).kind=2
          ·rw [if_pos h2] at hQ
           have ih2:=ih q.2 q.1 (by omega) hgo (by omega)
           have hp2:=HM l g d q.2 q.1
           rw [hg] at ih2 hQ hp2
           generalize Wu l _ d q.2 q.1=q2 at *
           have wq2:IntKind.i64.wrap ((q2.1.length:Int)-1)=(q2.1.length:Int)-1:=wrap_i64 (by omega)
           subst hQ
           simp only [ZB,tab,Zb] at ih2
           simp [go_sem,wq,h2,ed]
           refine ⟨by omega,?_⟩
           refine Zd [0,1,6] ih2 (by simp) ?_ ?_ trivial ?_
           ·simp [go_sem]
           ·simp [go_sem]
            exact ⟨cr q.2,fun i _=>Zk (XV _ i),fun i _=>Zk (Z5 _ i)⟩
           ·rintro av mem maps ⟨rfl,rfl,rfl⟩
            have hoN:opN (Zm l x) ((q.1.length:Int)-1) ((q2.1.length:Int)-1)=⟨(Zm l x).text,4,(q.1.length:Int)-1,(q2.1.length:Int)-1⟩:=by simp [opN,h2]
            simp [go_sem,wq2]
            refine ⟨by omega,by omega,by omega,?_⟩
            refine ⟨rfl,[9],[ZB q2.2,tab l,none,Zb (q2.1++[opN (Zm l x) ((q.1.length:Int)-1) ((q2.1.length:Int)-1)])],by simp,by simp,by simp [go_sem],?_,by simp [go_sem],?_⟩
            ·simp [go_sem,ZB,tab,Zb]
             exact ⟨Ww,ZC (fun _ _=>rfl) (fun j _=>XV _ j),ZC (fun j hj=>by rw [hoN];exact Yk q2.1 ⟨(Zm l x).text,4,(q.1.length:Int)-1,(q2.1.length:Int)-1⟩ j hj) (fun j _=>Z5 _ j)⟩
            ·simp [go_sem,ZB,tab,Zb]
          ·rw [if_neg h2] at hQ
           subst hQ
           simp [go_sem,wq,h2]
           refine ⟨by omega,by omega,by omega,?_⟩
           refine ⟨rfl,[8],[ZB q.2,tab l,none,Zb (q.1++[opN (Zm l x) ((q.1.length:Int)-1) 0])],by simp,by simp,by simp [go_sem],?_,by simp [go_sem],?_⟩
           ·simp [go_sem,ZB,tab,Zb]
            exact ⟨Ww,ZC (fun _ _=>rfl) (fun j _=>XV _ j),ZC (fun j hj=>Yk q.1 (opN (Zm l x) ((q.1.length:Int)-1) 0) j hj) (fun j _=>Z5 _ j)⟩
           ·simp [go_sem,ZB,tab,Zb]
def Xa (l:List POp) (g:Bool) (r:Rd):List PNode×Rd:=Wu l g (2+r.v%5) r.nx []
theorem ZcF {d:Nat} (h:d≤6):2^(d+1)≤128:=by
 have:=Nat.pow_le_pow_right (n:=2) (by omega) (show d+1≤7 by omega)
 omega
theorem Ks (l:List POp) (g:Bool) (r:Rd):0<(Xa l g r).1.length∧(Xa l g r).1.length≤128:=by
 have:=HM l g (2+r.v%5) r.nx []
 have h:r.v%5<5:=Nat.mod_lt _ (by decide)
 have:=ZcF (d:=2+r.v%5) (by omega)
 simp only [List.length_nil,Nat.zero_add] at *
 unfold Xa
 omega
set_option maxRecDepth 100000 in
theorem Zd7 (l:List POp) (hl:l.length≤1000) (hk:H0 l) (g:Bool) (r:Rd) (hr:r.ok):VProc Tryz.prog 75 [.ptr 0 2 0 0,.agg [.own 1],.lit (.bool g)] [ZB r,tab l] [] (fun av mem maps=>av=.agg [.own 2]∧mem=[ZB (Xa l g r).2,tab l,Zb (Xa l g r).1]∧maps=[]):=by
 have cr:∀ (r:Rd) (i:Nat) (c:AV),i<r.n→c∈Yc r.f i→Closed c:=fun r i c _ h=>YF r.f i c h
 have hn:=Rd.nx_ok hr
 have c1:=W7 r hr
 have e5:=Z6 r.v 5
 rw [show ((5:Nat):Int)=5 from rfl] at e5
 have b5:r.v%5<5:=Nat.mod_lt _ (by decide)
 have hp:=ZcF (d:=2+r.v%5) (by omega)
 have hlen:=Ks l g r
 unfold Xa at hlen ⊢
 generalize r.v%5=u at *
 have w:IntKind.i64.wrap (2+(u:Int))=((2+u:Nat):Int):=by rw [wrap_i64 (by omega)];omega
 have c2:=Zlh l hl hk g (2+u) r.nx [] (by omega) hn (by simp;omega)
 generalize Wu l g (2+u) r.nx []=q at *
 simp only [ZB,tab,Zb,List.length_nil] at c1 c2 ⊢
 refine Zl Tryz.func75 (by kernel_rfl) rfl (by simp [Tryz.ntmps75]) ?_;simp only [Tryz.ntmps75,Tryz.results75];simp [go_sem]
 refine Zd [0] c1 (by simp) ?_ ?_ trivial ?_
 ·simp [go_sem]
 ·simp [go_sem]
  exact cr r
 ·rintro av mem maps ⟨rfl,rfl,rfl⟩
  simp [go_sem,e5,w]
  refine Zd [0,1,4] c2 (by simp) ?_ ?_ trivial ?_
  ·simp [go_sem]
  ·simp [go_sem]
   exact ⟨cr r.nx,fun i _=>Zk (XV _ i)⟩
  ·rintro av mem maps ⟨rfl,rfl,rfl⟩
   simp [go_sem]
   refine ⟨rfl,[5],[ZB q.2,tab l,Zb q.1],by simp,by simp,by simp [go_sem],?_,by simp [go_sem],?_⟩
   ·simp [go_sem,ZB,tab,Zb]
    exact ⟨Ww,ZC (fun _ _=>rfl) (fun j _=>XV _ j),ZC (fun _ _=>rfl) (fun j _=>Z5 _ j)⟩
   ·simp [go_sem,ZB,tab,Zb]
def ZdC:POp:=⟨⟨#[45]⟩,1,9,0⟩
theorem ZiF:VFun Tryz.prog 66 [] (fun av obs=>av=.agg [.own 0]∧obs=[⟨133,4,1,Zg [ZdC]⟩]):=by
 refine Zi Tryz.func66 (by kernel_rfl) rfl (by simp [Tryz.ntmps66]) ?_;simp only [Tryz.ntmps66,Tryz.results66];simp [go_sem]
 refine obsSame_one.mpr ⟨⟨133,4,1,Zg [ZdC]⟩,⟨rfl,rfl,rfl,fun j hj=>?_⟩,rfl⟩
 obtain rfl:j=0:=by simp only at hj;omega
 exact ⟨rfl,rfl⟩
def sgn (i:Nat):UInt8:=([43,45,42,47,60,62,61,33,38,124]:List UInt8).getD i 0
theorem Zgs:∀ j,j<10→Zh ⟨#[43,45,42,47,60,62,61,33,38,124]⟩ j=((sgn j).toNat:Int):=by
 intro j hj
 rcases (by omega:j=0∨j=1∨j=2∨j=3∨j=4∨j=5∨j=6∨j=7∨j=8∨j=9) with h|h|h|h|h|h|h|h|h|h<;>subst h<;>rfl
def Zku (v i:Nat):POp:=⟨⟨#[sgn (i%10),sgn (i/10%10),sgn (i/100)]⟩,2,1+(i/3:Nat),1+((i/3+v/2)%3:Nat)⟩
def Ur (v:Nat):Nat→List POp
 |0=>[]
 |i+1=>Ur v i++[Zku v i]
theorem Kx (v:Nat):∀ i,(Ur v i).length=i
 |0=>rfl
 |i+1=>by simp [Ur,Kx v i]
@[go_sem] theorem quiet_sb {x:Operand}:XJ Tryz.prog (.convert 34 9 x)=true:=by simp only [XJ,Tryz.underlying34,Tryz.underlying9]
def Ke (o:POp) (k:Nat) (r2:Rd):POp:=
 if k%8=0 then { o with text:=(⟨#[43,45,43,45,43,45,43,45,43,45,43,45,43,45,43,45,43]⟩:ByteArray).extract 0 (16+k/8%2) }
 else if k%8=1 then { o with text:=o.text++⟨#[UInt8.ofNat k]⟩ }
 else if k%8=2 then { o with text:=⟨#[]⟩ }
 else if k%8=3 then { o with level:=1001*(k/8%2:Nat) }
 else if k%8=4 then { o with kind:=(k/8%5:Nat) }
 else if k%8=5 then { o with side:=(k/8%5:Nat)-1 }
 else V7 r2 false
def Uh (l:List POp) (k:Nat):Bool:=decide (k%8=7∨l.length=0)
def Ug (l:List POp) (r:Rd):List POp:=if Uh l r.v then Ur r.nx.v (500+r.nx.v%2) else l.set (r.nx.v%l.length) (Ke (Zm l (r.nx.v%l.length)) r.v r.nx.nx)
def Zds (l:List POp) (r:Rd):Rd:=if Uh l r.v then r.nx.nx else if r.v%8=6 then r.nx.nx.nx.nx else r.nx.nx
set_option maxHeartbeats 4000000 in
set_option maxRecDepth 100000 in
theorem Zao (l:List POp) (hl:l.length≤1000) (hz:∀ i,i<l.length→(Zm l i).text.size≤100) (r:Rd) (hr:r.okw):VProc Tryz.prog 65 [.ptr 0 2 0 0,.agg [.own 1]] [ZB r,tab l] [] (fun av mem maps=>maps=[]∧((Uh l r.v=true∧av=.agg [.own 2]∧mem=[ZB (Zds l r),tab l,tab (Ug l r)])∨(Uh l r.v=false∧av=.agg [.own 1]∧mem=[ZB (Zds l r),tab (Ug l r)]))):=by
 have cr:∀ (r:Rd) (i:Nat) (c:AV),i<r.n→c∈Yc r.f i→Closed c:=fun r i c _ h=>YF r.f i c h
 have c1:=Jm r hr
 have c2:=Jm r.nx (Rd.nx_okw hr)
 have c3:=Zab r.nx.nx (Rd.nx_okw (Rd.nx_okw hr)) false
 have hk:=Rd.v_ltw hr
 have hv:=Rd.v_ltw (Rd.nx_okw hr)
 unfold Ug Zds
 generalize hK:r.v=k at *
 generalize hV:r.nx.v=v at *
 have e8:=Z6 k 8
 rw [show ((8:Nat):Int)=8 from rfl] at e8
 simp only [ZB,tab,POp.cells] at c1 c2 c3 ⊢
 refine Zl Tryz.func65 (by kernel_rfl) rfl (by simp [Tryz.ntmps65]) ?_;simp only [Tryz.ntmps65,Tryz.results65];simp [go_sem]
 refine Zd [0] c1 (by simp) ?_ ?_ trivial ?_
 ·simp [go_sem]
 ·simp [go_sem]
  exact cr r
 ·rintro av mem maps ⟨rfl,rfl,rfl⟩
  simp [go_sem]
  refine Zd [0] c2 (by simp) ?_ ?_ trivial ?_
  ·simp [go_sem]
  ·simp [go_sem]
   exact cr r.nx
  ·rintro av mem maps ⟨rfl,rfl,rfl⟩
   cases hB:Uh l k with
   |true=>
    have hB':=hB
    simp only [Uh,decide_eq_true_eq] at hB'
    have hsp:((k:Int).tmod 8=7)∨(¬(k:Int).tmod 8=7∧l=[]):=by
     rcases hB' with h|h
     ·exact .inl (by rw [e8];omega)
     ·by_cases h7:(k:Int).tmod 8=7
      ·exact .inl h7
      ·exact .inr ⟨h7,List.eq_nil_of_length_eq_zero h⟩
    have e2:(v:Int).tmod 2=((v%2:Nat):Int):=Z6 v 2
    have hv2:v%2<2:=Nat.mod_lt _ (by decide)
    generalize v%2=c at *
    have w1:IntKind.i64.wrap (500+(c:Int))=((500+c:Nat):Int):=by rw [wrap_i64 (by omega)];omega
    have hlen0:∀ h:l=[],((l.length:Int)==0)=true:=fun h=>by rw [h];rfl
    rcases hsp with h7|⟨h7,hnil⟩
    case' inl=>simp [go_sem,h7,e2,w1]
    case' inr=>
     have h0:=hlen0 hnil
     simp [go_sem,h7,h0,e2,w1]
     refine ⟨by omega,?_⟩
    all_goals
     refine Y9 (fun i:Nat=>i≤500+c) (fun i=>500+c-i) (fun i=>⟨[(4,.ptr 2 1 0 0),(6,.lit (.int .i64 v)),(7,.lit (.int .i64 (500+c:Nat))),(8,.ptr 3 1 0 0),(9,.lit (.int .i64 i))],[ZB r.nx.nx,tab l,some ⟨30,1,1,fun _=>[.lit (.slice none 0 0)]⟩,some ⟨30,1,1,fun _=>[.own 4]⟩,some ⟨133,4,i,Zg (Ur v i)⟩],[],2⟩) ⟨0,by omega,?_⟩ (fun i hi=>?_)
     ·refine Zx [0,1,3,5,4] (by simp) (by simp) (by simp) (by decide) (by simp [go_sem]) ?_ ?_
      ·simp [go_sem]
      ·simp [go_sem,ZB,tab]
       exact ⟨cr r.nx.nx,.inl fun i _ c hc=>ZK l i c hc⟩
     ·have i1:(i:Int).tmod 10=((i%10:Nat):Int):=Z6 i 10
      have i2:(IntKind.i64.wrap ((i:Int)/10)).tmod 10=((i/10%10:Nat):Int):=by rw [wrap_i64 (by omega),show (i:Int)/10=((i/10:Nat):Int) by omega];exact Z6 _ 10
      have i3:IntKind.i64.wrap ((i:Int)/100)=((i/100:Nat):Int):=by rw [wrap_i64 (by omega)];omega
      have i4:IntKind.i64.wrap ((i:Int)/3)=((i/3:Nat):Int):=by rw [wrap_i64 (by omega)];omega
      have i5:IntKind.i64.wrap ((v:Int)/2)=((v/2:Nat):Int):=by rw [wrap_i64 (by omega)];omega
      have i6:IntKind.i64.wrap (((i/3:Nat):Int)+((v/2:Nat):Int))=((i/3+v/2:Nat):Int):=by rw [wrap_i64 (by omega)];omega
      have i7:(((i/3+v/2:Nat):Int)).tmod 3=(((i/3+v/2)%3:Nat):Int):=Z6 _ 3
      have i8:IntKind.i64.wrap (1+((i/3:Nat):Int))=1+((i/3:Nat):Int):=wrap_i64 (by omega)
      have b7:(i/3+v/2)%3<3:=Nat.mod_lt _ (by decide)
      have i9:IntKind.i64.wrap (1+(((i/3+v/2)%3:Nat):Int))=1+(((i/3+v/2)%3:Nat):Int):=wrap_i64 (by omega)
      have b1:i%10<10:=Nat.mod_lt _ (by decide)
      have b2:i/10%10<10:=Nat.mod_lt _ (by decide)
      have hop:Ur v (i+1)=Ur v i++[Zku v i]:=rfl
      simp only [Zku] at hop
      generalize (i/3+v/2)%3=m7 at *
      generalize (i/3+v/2)=m6 at *
      generalize i/3=m3 at *
      have b3:i/100<10∨¬i<500+c:=by omega
      generalize i/100=m2 at *
      generalize i/10%10=m1 at *
      generalize i%10=m0 at *
      generalize v/2=m5 at *
      simp [go_sem,ZB,tab]
      refine ⟨fun hlt=>?_,fun hge=>?_⟩
      ·have b3':m2<10:=by omega
       refine Zq [] (.q 0 <| .q 1 <| .q 2 <| .q 3 <| .q 4 <| .q 5 <| .q 6 <| .q 7 <| .q 8 <| .q 9 <| .or 10 (.q 11 <| .q 12 <| .done) (.nil)) (by kernel_rfl) ?_
       simp [go_sem,i1,i2,i3,i4,i5,i6,i7,i8,i9]
       have q0:=Zgs m0 b1
       have q1:=Zgs m1 b2
       have q2:=Zgs m2 b3'
       refine ⟨by omega,by omega,by omega,⟨#[sgn m0,sgn m1,sgn m2]⟩,rfl,fun j hj=>?_,by omega,by omega,i+1,by omega,by omega,?_⟩
       ·rw [q0,q1,q2]
        rcases (by omega:j=0∨j=1∨j=2) with h|h|h<;>subst h<;>rfl
       ·refine Zx [0,1,2,3,7] (by simp) (by simp) (by simp) (by decide) (by simp [go_sem]) ?_ ?_
        ·simp [go_sem]
         exact Zn (by omega)
        ·have hlen:=Kx v i
         have eqrow:∀ (g:Nat→List AV),g 0=[.lit (.string ⟨#[sgn m0,sgn m1,sgn m2]⟩),.lit (.int .i64 2),.lit (.int .i64 (1+(m3:Nat))),.lit (.int .i64 (1+(m7:Nat)))]→∀ j,j<i+1→Z2 i (Zg (Ur v i)) g j=Zg (Ur v (i+1)) j:=fun g hg j hj=>by
          rw [hop,←GW _ _ j (by rw [hlen];exact hj),hlen]
          unfold Z2
          by_cases hl:j<i
          ·rw [if_pos hl,if_pos hl]
          ·have e0:j-i=0:=by omega
           rw [if_neg hl,if_neg hl,e0,hg]
           rfl
         simp [go_sem]
         refine ⟨cr r.nx.nx,.inl fun i _ c hc=>ZK l i c hc,.inr fun j hj=>?_⟩
         rw [eqrow _ rfl j hj]
         exact Zk (XV _ j)
      ·have ei:i=500+c:=by omega
       refine ⟨rfl,[4],[ZB r.nx.nx,tab l,tab (Ur v i)],by simp,by simp,by simp [go_sem],?_,by simp [go_sem],?_⟩
       ·simp [go_sem,ZB,tab,Kx]
        exact ⟨Ww,ZC (fun _ _=>rfl) (fun j _=>XV _ j),ZC (fun _ _=>rfl) (fun j _=>XV _ j)⟩
       ·simp [go_sem,ZB,tab,ei]
   |false=>
    have hB':=hB
    simp only [Uh,decide_eq_false_iff_not,not_or] at hB'
    have h7:¬(k:Int).tmod 8=7:=by rw [e8];omega
    have hne:l≠[]:=by intro e;rw [e] at hB';simp at hB'
    have ev:(v:Int).tmod l.length=((v%l.length:Nat):Int):=Z6 _ _
    have hx:=Nat.mod_lt v (show 0<l.length by omega)
    generalize v%l.length=x at *
    have hxi:((x:Int)).toNat=x:=rfl
    have e82:(IntKind.i64.wrap ((k:Int)/8)).tmod 2=((k/8%2:Nat):Int):=by rw [wrap_i64 (by omega),show (k:Int)/8=((k/8:Nat):Int) by omega];exact Z6 _ 2
    have e85:(IntKind.i64.wrap ((k:Int)/8)).tmod 5=((k/8%5:Nat):Int):=by rw [wrap_i64 (by omega),show (k:Int)/8=((k/8:Nat):Int) by omega];exact Z6 _ 5
    have b2:k/8%2<2:=Nat.mod_lt _ (by decide)
    have b5:k/8%5<5:=Nat.mod_lt _ (by decide)
    have hlt8:k%8<8:=Nat.mod_lt _ (by decide)
    have fin:∀ (ts:List (Nat×AV)) (o':POp) (rr:Rd) (xs:List (Option Ob)),Ke (Zm l x) k r.nx.nx=o'→(if k%8=6 then r.nx.nx.nx.nx else r.nx.nx)=rr→
      VO [] (fun av mem maps=>maps=[]∧av=AV.agg [AV.own 1]∧mem=[some ⟨138,2,1,fun _=>[.sl 1 (if k%8=6 then r.nx.nx.nx.nx else r.nx.nx).n (Yc (if k%8=6 then r.nx.nx.nx.nx else r.nx.nx).f),.lit (.int .i64 (if k%8=6 then r.nx.nx.nx.nx else r.nx.nx).p)]⟩,some ⟨133,4,l.length,Zg (l.set x (Ke (Zm l x) k r.nx.nx))⟩])
      ⟨ts,some ⟨138,2,1,fun _=>[.sl 1 rr.n (Yc rr.f),.lit (.int .i64 rr.p)]⟩::some ⟨133,4,l.length,ZaR l.length (Zg l) x 0 [.lit (.string o'.text),.lit (.int .i64 o'.kind),.lit (.int .i64 o'.level),.lit (.int .i64 o'.side)]⟩::xs,[],2⟩ (.agg [.own 1]):=by
     intro ts o' rr xs ho hrr
     rw [ho,hrr]
     refine ⟨rfl,[],[ZB rr,some ⟨133,4,l.length,Zg (l.set x o')⟩],by simp,by simp,by simp [go_sem],?_,by simp [go_sem],?_⟩
     ·simp [go_sem,ZB]
      refine ⟨Ww,ZC (fun j hj'=>?_) (fun j _=>XV _ j)⟩
      have eqr:ZaR l.length (Zg l) x 0 [.lit (.string o'.text),.lit (.int .i64 o'.kind),.lit (.int .i64 o'.level),.lit (.int .i64 o'.side)] j=Zg (l.set x o') j:=by
       rw [Uv hx hj']
       by_cases hjx:j=x
       ·subst hjx
        have e1:Zm (l.set j o') j=o':=by
         unfold Zm
         rw [List.getD_eq_getElem?_getD,List.getElem?_set_self hj']
         rfl
        rw [if_pos rfl,ZU,ZU,e1]
        rfl
       ·have e1:Zm (l.set x o') j=Zm l j:=by
         unfold Zm
         rw [List.getD_eq_getElem?_getD,List.getElem?_set_ne (fun e=>hjx e.symm),←List.getD_eq_getElem?_getD]
        rw [if_neg hjx,ZU,ZU,e1]
      exact eqr
     ·simp [go_sem,ZB]
    obtain ⟨so,hso⟩:∃ so,so=Ke (Zm l x) k r.nx.nx:=⟨_,rfl⟩
    rw [←hso] at fin ⊢
    simp only [Ke] at hso
    generalize k/8%2=y2 at *
    generalize k/8%5=y5 at *
    by_cases h0:k%8=0
    ·have h0':(k:Int).tmod 8=0:=by rw [e8];omega
     have w1:IntKind.i64.wrap (16+(y2:Int))=((16+y2:Nat):Int):=by rw [wrap_i64 (by omega)];omega
     have w2:((16:Int)+(y2:Int)).toNat=16+y2:=by omega
     simp [go_sem,h7,hne,ev,hxi,ZU,h0',e82,w1,w2]
     refine ⟨by omega,hx,by omega,by omega,hx,?_⟩
     exact fin _ _ _ _ (hso.trans (if_pos h0)) (if_neg (by omega))
    ·have h0':¬(k:Int).tmod 8=0:=by rw [e8];omega
     by_cases h1:k%8=1
     ·have h1':(k:Int).tmod 8=1:=by rw [e8];omega
      simp [go_sem,h7,hne,ev,hxi,ZU,h0',h1']
      have hzx:=hz x hx
      have hz1:(⟨#[UInt8.ofNat k]⟩:ByteArray).size=1:=rfl
      refine ⟨by omega,hx,⟨#[UInt8.ofNat k]⟩,rfl,Zgi hk,_,fun w=>if_neg (by omega),?_⟩
      simp [go_sem,hne,hxi,ZU]
      refine ⟨hx,?_⟩
      exact fin _ _ _ _ (hso.trans ((if_neg h0).trans <| if_pos h1)) (if_neg (by omega))
     ·have h1':¬(k:Int).tmod 8=1:=by rw [e8];omega
      by_cases h2:k%8=2
      ·have h2':(k:Int).tmod 8=2:=by rw [e8];omega
       simp [go_sem,h7,hne,ev,hxi,ZU,h0',h1',h2']
       refine ⟨by omega,hx,?_⟩
       exact fin _ _ _ _ (hso.trans ((if_neg h0).trans <| (if_neg h1).trans <| if_pos h2)) (if_neg (by omega))
      ·have h2':¬(k:Int).tmod 8=2:=by rw [e8];omega
       by_cases h3:k%8=3
       ·have h3':(k:Int).tmod 8=3:=by rw [e8];omega
        have w1:IntKind.i64.wrap (1001*(y2:Int))=1001*y2:=wrap_i64 (by omega)
        simp [go_sem,h7,hne,ev,hxi,ZU,h0',h1',h2',h3',e82,w1]
        refine ⟨by omega,hx,?_⟩
        exact fin _ _ _ _ (hso.trans ((if_neg h0).trans <| (if_neg h1).trans <| (if_neg h2).trans <| if_pos h3)) (if_neg (by omega))
       ·have h3':¬(k:Int).tmod 8=3:=by rw [e8];omega
        by_cases h4:k%8=4
        ·have h4':(k:Int).tmod 8=4:=by rw [e8];omega
         simp [go_sem,h7,hne,ev,hxi,ZU,h0',h1',h2',h3',h4',e85]
         refine ⟨by omega,hx,?_⟩
         exact fin _ _ _ _ (hso.trans ((if_neg h0).trans <| (if_neg h1).trans <| (if_neg h2).trans <| (if_neg h3).trans <| if_pos h4)) (if_neg (by omega))
        ·have h4':¬(k:Int).tmod 8=4:=by rw [e8];omega
         by_cases h5:k%8=5
         ·have h5':(k:Int).tmod 8=5:=by rw [e8];omega
          have w1:IntKind.i64.wrap ((y5:Int)-1)=y5-1:=wrap_i64 (by omega)
          simp [go_sem,h7,hne,ev,hxi,ZU,h0',h1',h2',h3',h4',h5',e85,w1]
          refine ⟨by omega,hx,?_⟩
          exact fin _ _ _ _ (hso.trans ((if_neg h0).trans <| (if_neg h1).trans <| (if_neg h2).trans <| (if_neg h3).trans <| (if_neg h4).trans <| if_pos h5)) (if_neg (by omega))
         ·have h5':¬(k:Int).tmod 8=5:=by rw [e8];omega
          have h6:k%8=6:=by omega
          simp [go_sem,h7,hne,ev,hxi,ZU,h0',h1',h2',h3',h4',h5']
          refine ⟨by omega,hx,?_⟩
          refine Zd [0] c3 (by simp) ?_ ?_ trivial ?_
          ·simp [go_sem]
          ·simp [go_sem]
           exact cr r.nx.nx
          ·rintro av mem maps ⟨rfl,rfl,rfl⟩
           simp [go_sem,hne,hxi]
           refine ⟨by omega,?_⟩
           exact fin _ _ _ _ (hso.trans ((if_neg h0).trans <| (if_neg h1).trans <| (if_neg h2).trans <| (if_neg h3).trans <| (if_neg h4).trans <| if_neg h5)) (if_pos h6)
end Go.Proofs.YtjdmmhcogmepaaaGreatDoor.V
