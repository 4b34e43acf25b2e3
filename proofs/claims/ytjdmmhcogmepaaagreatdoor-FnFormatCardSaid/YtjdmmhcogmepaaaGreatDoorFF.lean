import Derived.Test.YtjdmmhcogmepaaaGreatDoorFE
import Derived.Test.YtjdmmhcogmepaaaGreatDoorFD
import Derived.Test.YtjdmmhcogmepaaaGreatDoorFC
import Derived.Recover
import Derived.Test.YtjdmmhcogmepaaaGreatDoorFB
set_option linter.unusedVariables false
set_option linter.unusedSimpArgs false
set_option linter.constructorNameAsVariable false
namespace Go.Proofs.YtjdmmhcogmepaaaGreatDoor.V
open Go.RowKit
open Go.Proofs.YtjdmmhcogmepaaaGreatDoor.Ops (Tr Tk Lv Res Fit OF)
def Qv (t:List PTok):Option Nat:=(List.range t.length).find? fun i=>decide ((Zj t i).kind=6)
theorem Zb5 {t:List PTok} {i:Nat} (hi:i<t.length) (h:∀ j,j<i→(Zj t j).kind≠6) (hb:(Zj t i).kind=6):Qv t=some i:=by
 unfold Qv
 rw [List.find?_range_eq_some]
 refine ⟨by simpa using hb,by simpa using hi,fun j hj=>?_⟩
 simpa using h j hj
theorem J8 {t:List PTok} (h:∀ j,j<t.length→(Zj t j).kind≠6):Qv t=none:=by
 unfold Qv
 rw [List.find?_eq_none]
 intro j hj
 simpa using h j (by simpa using hj)
open Classical in
noncomputable def toksZ (l:List POp) (t:List PTok):List TkP:=if h:∃ ts:List TkP,Yi l t 0 ts∧Fit true 0 ts then Classical.choose h else []
theorem Zez {l:List POp} {t:List PTok} (h:∃ ts:List TkP,Yi l t 0 ts∧Fit true 0 ts):Yi l t 0 (toksZ l t)∧Fit true 0 (toksZ l t):=by
 unfold toksZ
 rw [dif_pos h]
 exact Classical.choose_spec h
noncomputable def partT (l:List POp) (t:List PTok):Option PT:=Ops.build lvO (toksZ l t).length (toksZ l t)
noncomputable def parK (l:List POp) (t:List PTok):List PNode×Int×Int:=match Qv t with
 |some i=>([],3,Zaj t i)
 |none=>if 0≤(Z8 l t).2 then ([],4,Zaj t (Z8 l t).2.toNat) else match partT l t with
  |none=>([],5,0)
  |some e=>if ZY e≤1000 then (lay e [],0,0) else ([],6,0)
noncomputable def parZ (l:List POp) (z:ByteArray):List PNode×Int×Int:=
 if Yv l≠0 then ([],1,0) else if ¬z.size≤20000 then ([],2,0) else parK l (X6 l z)
theorem KO {l:List POp} {t:List PTok} {i:Nat} (h:Qv t=some i):parK l t=([],3,Zaj t i):=by unfold parK;rw [h]
theorem UZ {l:List POp} {t:List PTok} (h:Qv t=none) (hr:0≤(Z8 l t).2):parK l t=([],4,Zaj t (Z8 l t).2.toNat):=by unfold parK;rw [h];simp only;rw [if_pos hr]
theorem UD {l:List POp} {t:List PTok} (h:Qv t=none) (hr:(Z8 l t).2=-1) (hp:partT l t=none):parK l t=([],5,0):=by unfold parK;rw [h];simp only;rw [if_neg (by omega),hp]
theorem QM {l:List POp} {t:List PTok} {e:PT} (h:Qv t=none) (hr:(Z8 l t).2=-1) (hp:partT l t=some e) (he:¬ZY e≤1000):parK l t=([],6,0):=by unfold parK;rw [h];simp only;rw [if_neg (by omega),hp];simp only;rw [if_neg he]
theorem K6 {l:List POp} {t:List PTok} {e:PT} (h:Qv t=none) (hr:(Z8 l t).2=-1) (hp:partT l t=some e) (he:ZY e≤1000):parK l t=(lay e [],0,0):=by unfold parK;rw [h];simp only;rw [if_neg (by omega),hp];simp only;rw [if_pos he]
theorem ZdL {l:List POp} {z:ByteArray} (f:Nat) (hf:f≤z.size):(YB l z f).length≠0∧(Zj (YB l z f) ((YB l z f).length-1)).kind=7:=by
 generalize hn:z.size-f=n
 induction n using Nat.strongRecOn generalizing f with
 |ind n ih=>
  have hr:=Za6 YH z f hf
  by_cases h:f+run YH z f<z.size
  ·have hg:=Vk l z (f+run YH z f)
   have hl:=V3 l z (f+run YH z f) h
   obtain ⟨h1,h2⟩:=ih (z.size-(f+run YH z f+ZV l z (f+run YH z f))) (by omega) (f+run YH z f+ZV l z (f+run YH z f)) hl rfl
   rw [Vl rfl h]
   refine ⟨by simp,?_⟩
   obtain ⟨q,hq⟩:∃ q,q=YB l z (f+run YH z f+ZV l z (f+run YH z f)):=⟨_,rfl⟩
   rw [←hq] at h1 h2 ⊢
   rw [←h2]
   simp only [Zj,List.getD_eq_getElem?_getD,List.length_cons,Nat.add_sub_cancel]
   rw [show q.length=(q.length-1)+1 by omega,List.getElem?_cons_succ]
   simp
  ·rw [WK rfl h]
   simp [Zj]
theorem QS {l:List POp} {z:ByteArray} (h:X0 l z=true):VG (X6 l z)=true:=by
 obtain ⟨h1,h2⟩:=ZdL (l:=l) (z:=z) 0 (by omega)
 rw [X6,if_pos h]
 simp only [VG,h1,h2,ne_eq,not_false_eq_true,decide_true,Bool.and_self]
theorem QL {l:List POp} {t:List PTok} (h0:Yv l=0) (he:VG t=true):((Z8 l t).2=-1∧(Z8 l t).1=YA l t t.length)∨(0≤(Z8 l t).2∧(Z8 l t).2<t.length):=by
 unfold Z8
 rw [if_neg (by omega)]
 split
 ·rename_i i hb
  unfold U9 at hb
  rw [List.find?_range_eq_some] at hb
  have:=hb.2.1
  simp only [List.mem_range] at this
  exact .inr ⟨by simp,by simp;omega⟩
 ·rw [if_pos he]
  exact .inl ⟨rfl,rfl⟩
structure Fits (l:List POp) (t:List PTok):Prop where
 len:(toksZ l t).length+1=t.length
 toks:Yi l t 0 (toksZ l t)
 fit:Fit true 0 (toksZ l t)
 seg:YW l t (YA l t t.length) 0 (toksZ l t)
 all:∀ e:PT,e.yield=toksZ l t→e.All lvO (InL l)
theorem Jj {l:List POp} {t:List PTok} (h0:Yv l=0) (hr:(Z8 l t).2=-1):Fits l t:=by
 have hu:=WF h0
 obtain ⟨h1,h2⟩:=Zez (ZkL hu hr)
 have hl:=Y6 h1
 have hs:=Za5 hu _ 0 0 h1 h2 rfl
 exact ⟨by omega,h1,h2,hs,fun e he=>by rw [←he] at hs;exact (KI e 0 hs).2.1⟩
theorem KN {l:List POp} {t:List PTok} {e:PT} (F:Fits l t) (h:partT l t=some e):e.Adm lvO∧e.yield=toksZ l t∧YQ e∧e.All lvO (InL l)∧Xe e:=by
 obtain ⟨h1,h2⟩:=Ops.build_sound lvO _ _ _ (OF.of_fit F.fit) h
 have hs:=F.seg
 rw [←h2] at hs
 exact ⟨h1,h2,KI e 0 hs⟩
theorem Hv (l:List POp) (z:ByteArray):(parZ l z).1.length≤300000:=by
 unfold parZ
 split
 ·simp
 ·rename_i h0
  have h0:Yv l=0:=Decidable.byContradiction h0
  split
  ·simp
  ·rename_i h1
   have h1:z.size≤20000:=Decidable.byContradiction h1
   have hok:X0 l z=true:=by simp [X0,h0,h1]
   obtain ⟨hq1,hq2⟩:=Kn (l:=l) (z:=z) (by omega)
   cases hb:Qv (X6 l z) with
   |some i=>rw [KO hb];simp
   |none=>
    rcases QL h0 (QS hok) with ⟨hr,_⟩|⟨hr,_⟩
    ·have F:=Jj h0 hr
     cases hp:partT l (X6 l z) with
     |none=>rw [UD hb hr hp];simp
     |some e=>
      obtain ⟨e1,e2,e3,e4,e5⟩:=KN F hp
      by_cases he:ZY e≤1000
      ·rw [K6 hb hr hp he]
       have:=Wn e []
       have:=F.len
       rw [e2] at *
       simp only [List.length_nil] at *
       omega
      ·rw [QM hb hr hp he];simp
    ·rw [UZ hb hr];simp
theorem ZlH {l:List POp} {t:List PTok} (h0:Yv l=0) (F:Fits l t):∃ r:Option (PT×List TkP),Ops.operand lvO (2*(toksZ l t).length+2) 0 (toksZ l t)=some r∧
  (match r with
  |none=>partT l t=none
  |some (e,rest)=>t.length-1-rest.length<t.length∧((partT l t=some e∧(Zj t (t.length-1-rest.length)).kind=7)∨(partT l t=none∧(Zj t (t.length-1-rest.length)).kind≠7))):=by
 have hof:=OF.of_fit F.fit
 have hbe:=Ops.build_eq_operand lvO (ZbE h0) (toksZ l t) hof F.all
 have hlen:=F.len
 obtain ⟨r,hr⟩:=(Ops.fuel_all lvO (2*(toksZ l t).length+2)).1 0 (toksZ l t) (by omega)
 refine ⟨r,hr,?_⟩
 have hno:(∀ e,r≠some (e,[]))→partT l t=none:=fun h=>by
  cases hp:partT l t with
  |none=>rfl
  |some e=>
   have:=(hbe e).1 hp
   rw [hr] at this
   exact absurd (Option.some.inj this) (h e)
 cases r with
 |none=>exact hno fun e=>by simp
 |some x=>
  obtain ⟨e,rest⟩:=x
  obtain ⟨h1,h2,_⟩:=(Ops.sound_all lvO _).1 _ _ _ _ hr
  have htk:=F.toks
  rw [h1] at htk
  have hl:=Y6 htk
  have hrest:=Vz htk
  refine ⟨by omega,?_⟩
  cases rest with
  |nil=>
   refine .inl ⟨(hbe e).2 hr,?_⟩
   exact hrest.2
  |cons tk r=>
   refine .inr ⟨hno fun e'=>by simp,?_⟩
   have:=hrest.1
   cases tk with
   |leaf b=>have h:=this.1;omega
   |opn=>have h : _=_:=this;omega
   |cls=>have h : _=_:=this;omega
   |pre o=>have h:=this.1;omega
   |inf o=>have h:=this.1;omega
   |post o=>have h:=this.1;omega
theorem ZjN {ty sz n:Nat} {f:Nat→List AV} (h:∀ i,(f i).all W3=true):ZkB [some ⟨ty,sz,n,f⟩]:=fun k ob hk i _=>by
 cases k with
 |zero=>
  simp only [List.getElem?_cons_zero,Option.some.injEq] at hk
  subst hk
  exact h i
 |succ k=>simp at hk
def paR (l:List POp) (z:ByteArray) (av:AV) (obs:List Ob):Prop:=(av=.tup [.agg [.own 0],.lit (.int .i64 (parZ l z).2.1),.lit (.int .i64 (parZ l z).2.2)]∧obs=[⟨77,4,(parZ l z).1.length,Zf (parZ l z).1⟩])∨∃ x y:Int,parZ l z=([],x,y)∧av=.tup [.agg [.lit (.slice none 0 0)],.lit (.int .i64 x),.lit (.int .i64 y)]∧obs=[]
theorem Wy {l:List POp} {z:ByteArray} {x y:Int} (h:parZ l z=([],x,y)):paR l z (.tup [.agg [.lit (.slice none 0 0)],.lit (.int .i64 x),.lit (.int .i64 y)]) []:=.inr ⟨x,y,h,rfl,rfl⟩
theorem Zhv {l:List POp} {z:ByteArray} {av:AV} {obs:List Ob} (h:paR l z av obs):(av=.tup [.agg [.own 0],.lit (.int .i64 (parZ l z).2.1),.lit (.int .i64 (parZ l z).2.2)]∧obs=[⟨77,4,(parZ l z).1.length,Zf (parZ l z).1⟩])∨∃ xs:List Value,av=.tup (.agg [.lit (.slice none 0 0)]::xs.map .lit)∧obs=[]∧
  (AV.tup (.agg [.own 0]::xs.map .lit)=.tup [.agg [.own 0],.lit (.int .i64 (parZ l z).2.1),.lit (.int .i64 (parZ l z).2.2)]∧[(⟨77,4,0,Zf []⟩:Ob)]=[⟨77,4,(parZ l z).1.length,Zf (parZ l z).1⟩]):=by
 rcases h with h|⟨x,y,h1,rfl,rfl⟩
 ·exact .inl h
 ·refine .inr ⟨[.int .i64 x,.int .i64 y],rfl,rfl,?_⟩
  rw [h1]
  exact ⟨rfl,rfl⟩
set_option maxRecDepth 100000 in
theorem Zd1 (l:List POp) (hl:l.length≤9223372036854775807) (hw:YT l) (z:ByteArray) (hz:z.size≤1048576):VFun Tryz.prog 31 [.agg [.sl 4 l.length (Zg l)],.lit (.string z)] (paR l z):=by
 have cl:∀ (i:Nat) (c:AV),i<l.length→c∈Zg l i→Closed c:=fun i c _ h=>ZK l i c h
 refine Zi Tryz.func31 (by kernel_rfl) rfl (by simp [Tryz.ntmps31]) ?_;simp only [Tryz.ntmps31,Tryz.results31];simp [go_sem]
 refine Zc (Va l hl hw) ?_ ?_
 ·simp [go_sem]
  exact Ze (by omega) cl
 ·simp [go_sem]
  refine ⟨fun h0=>Wy (by simp [parZ,h0]),fun h0=>?_⟩
  have hu:=WF h0
  refine ZR (ZiB l hl hw z hz) ?_ ?_
  ·simp [go_sem]
   exact Ze (by omega) cl
  ·rintro av obs ⟨rfl,rfl⟩
   simp [go_sem]
   refine ⟨fun h1=>Wy ?_,fun h1=>?_⟩
   ·have:¬z.size≤20000:=fun e=>by simp [X0,h0,e] at h1
    simp [parZ,h0,this]
   have hz2:z.size≤20000:=by simp [X0] at h1;exact h1.2
   have hends:=QS h1
   obtain ⟨hq1,hq2⟩:=Kn (l:=l) (z:=z) (by omega)
   obtain ⟨t,ht⟩:∃ t,t=X6 l z:=⟨_,rfl⟩
   have hpar:parZ l z=parK l t:=by rw [parZ,if_neg (by omega),if_neg (by omega),←ht]
   rw [←ht] at hends hq1 hq2 ⊢
   have clt:∀ (i:Nat) (c:AV),i<t.length→c∈Zr t i→Closed c:=fun i c _ h=>Zs t i c h
   have hto:t.length+Xp t≤1048576:=by omega
   refine Yn (fun i:Nat=>i≤t.length∧∀ j,j<i→(Zj t j).kind≠6) (fun i=>t.length-i) (fun i=>.of [(2,.ptr 0 1 0 0),(4,.ptr 1 1 0 0),(5,.lit (.int .i64 0)),(6,.lit (.int .i64 0)),(7,.own 2),(9,.lit (.int .i64 i))] [some ⟨30,1,1,fun _=>[.sl 4 l.length (Zg l)]⟩,some ⟨37,1,1,fun _=>[.lit (.slice none 0 0)]⟩,some ⟨88,3,t.length,Zr t⟩]) ⟨0,⟨by omega,by simp⟩,?_⟩ (fun i hi=>?_)
   ·simp [go_sem]
    exact ⟨cl,fun i hi c hc=>.closed _ (clt i c hi hc)⟩
   ·simp [go_sem,Zo]
    refine ⟨by omega,fun h=>⟨h,fun hk=>?_,fun hk=>?_⟩,fun h=>?_⟩
    ·have hb:=Zb5 h hi.2 hk
     refine Zc (ZbX t hto i h) ?_ ?_
     ·simp [go_sem]
      exact Ym (k:=2) rfl (by omega) clt
     ·simp [go_sem]
      exact Wy (by rw [hpar,KO hb])
    ·refine ⟨i+1,⟨by omega,fun j hj=>?_⟩,by omega,Zn (by omega),cl⟩
     rcases Nat.lt_succ_iff_lt_or_eq.mp hj with hj|rfl
     ·exact hi.2 j hj
     ·exact hk
    ·obtain rfl:i=t.length:=by omega
     have hnb:=J8 hi.2
     refine ZR (Zfq l hl hw t (by omega)) ?_ ?_
     ·simp [go_sem]
      exact ⟨Ze (by omega) cl,Ym (k:=2) rfl (by omega) clt⟩
     ·rintro av obs ⟨rfl,rfl⟩
      simp [go_sem]
      rcases QL h0 hends with ⟨hr,hR⟩|⟨hr,hlt⟩
      ·rw [hr,hR]
       simp [go_sem]
       have F:=Jj h0 hr
       have hpos:0<t.length:=by have:=F.len;omega
       have w1:IntKind.i64.wrap ((t.length:Int)-1)=((t.length-1:Nat):Int):=by rw [wrap_i64 (by omega)];omega
       have clr:∀ (i:Nat) (c:AV),i<(YA l t t.length).length→c∈ZA (YA l t t.length) i→Closed c:=fun i c _ h=>Yp _ i c h
       have cb:=Zlk l hl hu hw (XZ h0) t (by omega) (YA l t t.length) (Qk l t t.length) (toksZ l t).length (toksZ l t) 0 (t.length-1) [] (Nat.le_refl _) (OF.of_fit F.fit) (by have:=F.len;omega) (by omega) F.seg (by have:=F.len;simp;omega)
       rw [w1]
       refine ⟨by omega,Q9 [4] cb (by simp) ?_ ?_ trivial ?_⟩
       ·simp [go_sem]
        refine ⟨.inl ?_,.inr (.inl ⟨by simp,Ym (k:=2) rfl (by omega) clt,?_⟩),.inr (.inl ⟨by simp,Ym (k:=3) rfl (by omega) clr,?_⟩),.inl (.closed _ (.lit _)),.inl (.closed _ (.lit _)),.inl ?_⟩
        ·exact .closed _ (by simp only [ZbR,List.mem_singleton];rintro c rfl;simp only [Zc2];exact cl)
        ·exact fun i hi=>ZlE _ i
        ·exact fun i hi=>rfl
        ·exact .own 0 (by simp)
       ·simp [go_sem,Zb]
       ·cases hp:partT l t with
        |none=>
         have hk:=UD hnb hr hp
         rw [partT] at hp
         rw [hp]
         rintro av mem maps ⟨T,hT,⟨rfl,rfl,rfl⟩|⟨rfl,rfl,rfl⟩⟩
         ·refine ⟨HC fun i=>rfl,?_⟩
          simp [go_sem,Zb]
          exact Wy (by rw [hpar,hk])
         ·refine ⟨ZjN fun i=>rfl,?_⟩
          simp [go_sem,Zb]
          exact Wy (by rw [hpar,hk])
        |some e=>
         obtain ⟨e1,e2,e3,e4,e5⟩:=KN F hp
         have hp':=hp
         rw [partT] at hp
         rw [hp]
         rintro av mem maps ⟨rfl,rfl,rfl⟩
         refine ⟨HC fun i=>rfl,?_⟩
         simp [go_sem,Zb]
         have hly:=Wn e []
         have hgr:=Z9 e []
         have hF:=F.len
         rw [←e2] at hF
         simp only [List.length_nil,Nat.zero_add] at hly hgr
         have hH:=Je e [] [] e3 e5 ⟨rfl,fun i hi=>by simp at hi⟩
         have hlast:=QW e []
         rw [hH.1] at hlast
         have cle:∀ (i:Nat) (c:AV),i<(lay e []).length→c∈Zf (lay e []) i→Closed c:=fun i c _ h=>ZG _ i c h
         have ch:=ZgZ (lay e []) (his e []) (by omega) hH
         rw [hlast] at ch
         refine Zc ch ?_ ?_
         ·simp [go_sem]
          exact Ym (k:=5) rfl (by omega) cle
         ·simp [go_sem]
          refine ⟨fun h6=>Wy (by rw [hpar,QM hnb hr hp' (by omega)]),fun h6=>⟨_,obsSame_one.mpr ⟨⟨77,4,(lay e []).length,Zf (lay e [])⟩,⟨rfl,rfl,rfl,fun j hj=>⟨rfl,Z5 _ j⟩⟩,rfl⟩,.inl ?_⟩⟩
          rw [hpar,K6 hnb hr hp' h6]
          exact ⟨rfl,rfl⟩
      ·obtain ⟨q,hq⟩:∃ q:Nat,(Z8 l t).2=q:=⟨(Z8 l t).2.toNat,by omega⟩
       have hk:=UZ hnb hr
       rw [hq] at hr hlt hk ⊢
       simp only [Int.toNat_natCast] at hk
       simp [go_sem,hr]
       have hq':q<t.length:=by omega
       refine ⟨Zc (ZbX t hto q hq') ?_ ?_,fun h=>by omega⟩
       ·simp [go_sem]
        exact Ym (k:=2) rfl (by omega) clt
       ·simp [go_sem]
        exact Wy (by rw [hpar,hk])
theorem G7 (l:List POp) (hl:l.length≤9223372036854775807) (hw:YT l) (z:ByteArray) (hz:z.size≤1048576):VFun Tryz.prog 31 [.agg [.sl 4 l.length (Zg l)],.lit (.string z)] (fun av obs=>av=.tup [.agg [.own 0],.lit (.int .i64 (parZ l z).2.1),.lit (.int .i64 (parZ l z).2.2)]∧obs=[⟨77,4,(parZ l z).1.length,Zf (parZ l z).1⟩]):=
 (Zd1 l hl hw z hz).adoptA 77 4 (by omega) (Zf []) fun av obs h=>Zhv h
end Go.Proofs.YtjdmmhcogmepaaaGreatDoor.V
namespace Go.Proofs.YtjdmmhcogmepaaaGreatDoor.V
open Go.RowKit
open Go.Maps (Keyed)
open Go.Proofs.YtjdmmhcogmepaaaGreatDoor.Ops (Tr Tk Lv Res Fit)
theorem Zhc:UJ Tryz.prog 165 .nilFunc:=fun w=>Tryz.zeroValue165 w
theorem Zas {E:PEnv} {i:Nat} {tk:TkP} {r:List TkP} (h:Yi E.l E.t i (tk::r)):i<E.t.length∧E.at_ r=i+1∧E.at_ (tk::r)=i:=by
 have:=Y6 h
 simp only [List.length_cons] at this
 unfold PEnv.at_
 simp only [List.length_cons]
 omega
theorem Zlc (E:PEnv) (i:Nat) (hi:i<E.t.length) (rest:List TkP) (hr:E.at_ rest=i+1) (hk:(Zj E.t i).kind=1∨(Zj E.t i).kind=2):E.Ans 125 [.ptr 0 6 0 0] i (some (.leaf ((Zj E.t i).kind,(Zj E.t i).text),rest)):=by
 refine .mk ?_
 have cn:=Qq E.b1 E.b2 E.b3 E.b4 E.t E.len i hi
 rw [hr]
 simp only [PEnv.ob,pOb,PEnv.mps,Xc,PTok.cells] at cn ⊢
 refine Wc Tryz.func125 (by kernel_rfl) rfl (by simp [Tryz.ntmps125]) ?_;simp only [Tryz.ntmps125,Tryz.results125];simp [go_sem]
 refine Zd [0] cn (by simp) ?_ ?_ ?_ ?_
 ·simp [go_sem]
 ·simp [go_sem]
  exact fun i c _ h=>Zs E.t i c h
 ·simp [go_sem]
 ·rintro av mem maps ⟨rfl,rfl,rfl⟩
  simp only [pOb]
  simp [go_sem]
  rcases hk with hk|hk
  ·simp [hk,go_sem]
   exact E.fin_ [] (by simp only [Wx,hk]) rfl
  ·simp [hk,go_sem]
   exact E.fin_ [] (by simp only [Wx,hk]) rfl
theorem Zlb (E:PEnv) (i:Nat) (hi:i<E.t.length) (j:Nat) (hj:j<E.t.length) (e:PT) (r0 rest:List TkP) (h0:E.at_ r0=j) (hr:E.at_ rest=j+1) (hk:(Zj E.t i).kind=4) (hk2:(Zj E.t j).kind=5) (hl:ZY e<2^62) (ho:E.Ans 95 [.ptr 0 6 0 0,.lit (.int .i64 0)] (i+1) (some (e,r0))):E.Ans 125 [.ptr 0 6 0 0] i (some (.grp e,rest)):=by
 refine .mk ?_
 obtain ⟨T,u,hT,_,fh,hh,ch⟩:=UY e
 have ew:IntKind.i64.wrap (1+ZY e)=1+ZY e:=wrap_i64 (by have:=WW e;omega)
 have cn:=Qq E.b1 E.b2 E.b3 E.b4 E.t E.len i hi
 have cn2:=Qq E.b1 E.b2 E.b3 E.b4 E.t E.len j hj
 rw [hr]
 simp only [PEnv.ob,pOb,PEnv.mps,Xc,PTok.cells] at cn cn2 ⊢
 refine Wc Tryz.func125 (by kernel_rfl) rfl (by simp [Tryz.ntmps125]) ?_;simp only [Tryz.ntmps125,Tryz.results125];simp [go_sem]
 refine Zd [0] cn (by simp) ?_ ?_ ?_ ?_
 ·simp [go_sem]
 ·simp [go_sem]
  exact fun i c _ h=>Zs E.t i c h
 ·simp [go_sem]
 ·rintro av mem maps ⟨rfl,rfl,rfl⟩
  simp only [pOb]
  simp [hk,go_sem]
  refine YI [0] 48 ho (by simp) rfl (fun i _=>rnP E.lo i) ?_ ?_ ?_ ?_
  ·simp [go_sem]
  ·simp [go_sem,PEnv.ob,pOb]
   exact fun i c _ h=>Zs E.t i c h
  ·exact E.mpsLe []
  ·rintro av mem maps ⟨⟨rfl,rfl⟩,rfl⟩
   rw [h0]
   simp only [PEnv.ob,pOb,PEnv.mps,Xc]
   simp [go_sem]
   refine Zd [0] cn2 (by simp) ?_ ?_ ?_ ?_
   ·simp [go_sem]
   ·simp [go_sem]
    exact fun i c _ h=>Zs E.t i c h
   ·simp [go_sem]
   ·rintro av mem maps ⟨rfl,rfl,rfl⟩
    simp only [pOb]
    simp [hk2,go_sem]
    rw [hT]
    simp [go_sem,hh]
    refine Zc ch ?_ ?_
    ·simp [go_sem]
    ·simp [go_sem,ew]
     exact E.fin_ E.mps (by simp only [Wx,hT]) rfl
theorem ZdU (E:PEnv) (i:Nat) (hi:i<E.t.length) (hk:(Zj E.t i).kind=4) (ho:E.Ans 95 [.ptr 0 6 0 0,.lit (.int .i64 0)] (i+1) none):E.Ans 125 [.ptr 0 6 0 0] i none:=by
 have cn:=Qq E.b1 E.b2 E.b3 E.b4 E.t E.len i hi
 simp only [PEnv.Ans,PEnv.ob,pOb,PEnv.mps,Xc,PTok.cells] at cn ho ⊢
 refine X8 Tryz.func125 (by kernel_rfl) rfl (by simp [Tryz.ntmps125]) ?_;simp only [Tryz.ntmps125,UT,We,List.length_cons,List.length_nil,List.length_singleton]
 refine YM ?_
 simp [go_sem]
 refine YM ?_
 simp [go_sem]
 refine Zd [0] cn (by simp) ?_ ?_ ?_ ?_
 ·simp [go_sem]
 ·simp [go_sem]
  exact fun i c _ h=>Zs E.t i c h
 ·simp [go_sem]
 ·rintro av mem maps ⟨rfl,rfl,rfl⟩
  simp only [pOb]
  simp [hk,go_sem]
  refine Q8 ?_
  refine YM ?_
  simp [hk,go_sem]
  refine YM ?_
  simp [hk,go_sem]
  refine YM ?_
  simp [hk,go_sem]
  refine YM ?_
  simp [hk,go_sem]
  refine Q8 ?_
  refine Zhj 1 ?_
  simp [go_sem]
  refine Vo [0] 48 ho (by simp) rfl (fun i _=>rnP E.lo i) ?_ ?_ (E.mpsLe []) (E.mpsLe [])
  ·simp [go_sem]
  ·simp [go_sem,PEnv.ob,pOb]
   exact fun i c _ h=>Zs E.t i c h
theorem G1 (E:PEnv) (i:Nat) (hi:i<E.t.length) (j:Nat) (hj:j<E.t.length) (e:PT) (r0:List TkP) (h0:E.at_ r0=j) (hk:(Zj E.t i).kind=4) (hk2:(Zj E.t j).kind≠5) (ho:E.Ans 95 [.ptr 0 6 0 0,.lit (.int .i64 0)] (i+1) (some (e,r0))):E.Ans 125 [.ptr 0 6 0 0] i none:=by
 have cn:=Qq E.b1 E.b2 E.b3 E.b4 E.t E.len i hi
 have cn2:=Qq E.b1 E.b2 E.b3 E.b4 E.t E.len j hj
 simp only [PEnv.Ans,PEnv.ob,pOb,PEnv.mps,Xc,PTok.cells] at cn cn2 ⊢
 refine X8 Tryz.func125 (by kernel_rfl) rfl (by simp [Tryz.ntmps125]) ?_;simp only [Tryz.ntmps125,UT,We,List.length_cons,List.length_nil,List.length_singleton]
 refine YM ?_
 simp [go_sem]
 refine YM ?_
 simp [go_sem]
 refine Zd [0] cn (by simp) ?_ ?_ ?_ ?_
 ·simp [go_sem]
 ·simp [go_sem]
  exact fun i c _ h=>Zs E.t i c h
 ·simp [go_sem]
 ·rintro av mem maps ⟨rfl,rfl,rfl⟩
  simp only [pOb]
  simp [hk,go_sem]
  refine Q8 ?_
  refine YM ?_
  simp [hk,go_sem]
  refine YM ?_
  simp [hk,go_sem]
  refine YM ?_
  simp [hk,go_sem]
  refine YM ?_
  simp [hk,go_sem]
  refine YM ?_
  simp [hk,go_sem]
  refine YI [0] 48 ho (by simp) rfl (fun i _=>rnP E.lo i) ?_ ?_ ?_ ?_
  ·simp [go_sem]
  ·simp [go_sem,PEnv.ob,pOb]
   exact fun i c _ h=>Zs E.t i c h
  ·exact E.mpsLe []
  ·rintro av mem maps ⟨⟨rfl,rfl⟩,rfl⟩
   rw [h0]
   simp only [PEnv.ob,pOb,PEnv.mps,Xc]
   simp [go_sem]
   refine Q8 ?_
   refine YM ?_
   simp [go_sem]
   refine Zd [0] cn2 (by simp) ?_ ?_ ?_ ?_
   ·simp [go_sem]
   ·simp [go_sem]
    exact fun i c _ h=>Zs E.t i c h
   ·simp [go_sem]
   ·rintro av mem maps ⟨rfl,rfl,rfl⟩
    simp only [pOb]
    simp [hk2,go_sem]
    refine Zhj 2 ?_
    simp [go_sem,Zaw,E.n13,E.n14,E.n34]
theorem ZlR (E:PEnv) (i:Nat) (hi:i<E.t.length) (q:Nat) (hk:(Zj E.t i).kind=3) (hz:(Zj E.t i).text.size≤maxLen) (hm:mget E.esN (.string (Zj E.t i).text)=some (.func (.func 94) #[] #[vsP E.bp E.bo 0,vsP E.bp E.bo (q+1)])) (e:PT) (rest:List TkP)
  (ho:E.Ans 94 [.agg (Zj E.t i).cells,.lit (vsP E.bp E.bo 0),.lit (vsP E.bp E.bo (q+1))] (i+1) (some (e,rest))):E.Ans 125 [.ptr 0 6 0 0] i (some (e,rest)):=by
 refine .mk ?_
 have cn:=Qq E.b1 E.b2 E.b3 E.b4 E.t E.len i hi
 have h13:=E.n13
 have h14:=E.n14
 have h34:=E.n34
 simp only [PEnv.ob,pOb,PEnv.mps,Xc,PTok.cells,vsP] at cn ho hm ⊢
 refine Wc Tryz.func125 (by kernel_rfl) rfl (by simp [Tryz.ntmps125]) ?_;simp only [Tryz.ntmps125,Tryz.results125];simp [go_sem]
 refine Zd [0] cn (by simp) ?_ ?_ ?_ ?_
 ·simp [go_sem]
 ·simp [go_sem]
  exact fun i c _ h=>Zs E.t i c h
 ·simp [go_sem]
 ·rintro av mem maps ⟨rfl,rfl,rfl⟩
  simp only [pOb]
  simp [hk,go_sem]
  refine Zq [8] (.q 0 <| .q 1 <| .q 2 <| .q 3 <| .q 4 <| .q 5 <| .q 6 <| .q 7 <| .or 8 (.q 9 <| .done) (.nil)) (by kernel_rfl) ?_
  simp [hk,go_sem,h13,h14,h34]
  refine Xk Y7 (XL hz) _ Zhc ?_
  rw [hm]
  simp [go_sem]
  refine YI [0] 48 ho (by simp) rfl (fun i _=>rnP E.lo i) ?_ ?_ ?_ ?_
  ·simp [go_sem,hk]
  ·simp [go_sem,PEnv.ob,pOb]
   exact fun i c _ h=>Zs E.t i c h
  ·exact E.mpsLe []
  ·rintro av mem maps ⟨⟨rfl,rfl⟩,rfl⟩
   simp only [PEnv.ob,pOb,PEnv.mps,Xc]
   simp [go_sem]
   exact E.fin_ E.mps rfl rfl
theorem Zfi (E:PEnv) (i:Nat) (hi:i<E.t.length) (q:Nat) (hk:(Zj E.t i).kind=3) (hz:(Zj E.t i).text.size≤maxLen) (hm:mget E.esN (.string (Zj E.t i).text)=some (.func (.func 94) #[] #[vsP E.bp E.bo 0,vsP E.bp E.bo (q+1)]))
  (ho:E.Ans 94 [.agg (Zj E.t i).cells,.lit (vsP E.bp E.bo 0),.lit (vsP E.bp E.bo (q+1))] (i+1) none):E.Ans 125 [.ptr 0 6 0 0] i none:=by
 have cn:=Qq E.b1 E.b2 E.b3 E.b4 E.t E.len i hi
 have h13:=E.n13
 have h14:=E.n14
 have h34:=E.n34
 simp only [PEnv.Ans,PEnv.ob,pOb,PEnv.mps,Xc,PTok.cells,vsP] at cn ho hm ⊢
 refine X8 Tryz.func125 (by kernel_rfl) rfl (by simp [Tryz.ntmps125]) ?_;simp only [Tryz.ntmps125,UT,We,List.length_cons,List.length_nil,List.length_singleton]
 refine YM ?_
 simp [go_sem]
 refine YM ?_
 simp [go_sem]
 refine Zd [0] cn (by simp) ?_ ?_ ?_ ?_
 ·simp [go_sem]
 ·simp [go_sem]
  exact fun i c _ h=>Zs E.t i c h
 ·simp [go_sem]
 ·rintro av mem maps ⟨rfl,rfl,rfl⟩
  simp only [pOb]
  simp [hk,go_sem]
  refine YM ?_
  simp [hk,go_sem]
  refine Q8 (Hl [8] (.q 0 <| .q 1 <| .q 2 <| .q 3 <| .q 4 <| .q 5 <| .q 6 <| .q 7 <| .or 8 (.q 9 <| .done) (.nil)) (by kernel_rfl) ?_)
  simp [hk,go_sem,h13,h14,h34]
  refine Xk Y7 (XL hz) _ Zhc ?_
  rw [hm]
  simp [go_sem]
  refine Vo [0] 48 ho (by simp) rfl (fun i _=>rnP E.lo i) ?_ ?_ (E.mpsLe []) (E.mpsLe [])
  ·simp [go_sem,hk]
  ·simp [go_sem,PEnv.ob,pOb]
   exact fun i c _ h=>Zs E.t i c h
theorem Zjj {l:List POp} {k:PTok} {tk:TkP} (h:Vc l k tk):k.kind=5→tk=.cls:=by
 cases tk<;>simp only [Vc] at h<;>intro h5<;>first|rfl|(exfalso;omega)|skip
theorem Zlj (E:PEnv) (n:Nat) (hO:∀ i m d ts res,Yi E.l E.t i ts→Fit true d ts→Ops.operand lvO n m ts=some res→E.Ans 95 [.ptr 0 6 0 0,.lit (.int .i64 m)] i res)
  (i d:Nat) (ts:List TkP) (res:Option (PT×List TkP)) (ht:Yi E.l E.t i ts) (hf:Fit true d ts) (h:Ops.firstF lvO (Ops.operand lvO n) ts=some res):E.Ans 125 [.ptr 0 6 0 0] i res:=by
 cases ts with
 |nil=>exact absurd hf (by simp [Fit])
 |cons tk r=>
  obtain ⟨hi,h1,_⟩:=Zas ht
  obtain ⟨ht1,ht2⟩:=ht
  have big:∀ {m:Int} {u:List TkP} {e:PT} {rest:List TkP},u.length≤E.t.length→Ops.operand lvO n m u=some (some (e,rest))→ZY e≤1048576:=@fun _ _ e _ hu hq=>by
   have:=((Ops.sound_all lvO n).1 _ _ _ _ hq).1
   have h2:=Xs e
   have h3:=congrArg List.length this
   rw [List.length_append] at h3
   have:=E.len
   omega
  have hlen:=Y6 ht2
  cases tk with
  |leaf b=>
   simp only [Ops.firstF,Option.some.injEq] at h
   subst h
   simp only [Vc] at ht1
   have:=Zlc E i hi r h1 ht1.1
   rw [ht1.2];exact this
  |opn=>
   simp only [Vc] at ht1
   simp only [Fit] at hf
   cases hq:Ops.operand lvO n 0 r with
   |none=>simp [Ops.firstF,hq] at h
   |some x=>
    have ho:=hO (i+1) 0 (d+1) r x ht2 hf hq
    cases x with
    |none=>
     simp [Ops.firstF,hq] at h
     subst h
     exact ZdU E i hi ht1 ho
    |some y=>
     obtain ⟨e,r0⟩:=y
     have hs:=((Ops.sound_all lvO n).1 _ _ _ _ hq).1
     have ht3:=ht2
     rw [hs] at ht3
     have ht4:=Vz ht3
     have hj:E.t.length-1-r0.length<E.t.length:=by omega
     have hb:=big (by omega) hq
     simp only [Ops.firstF,hq] at h
     cases r0 with
     |nil=>
      simp at h;subst h
      exact G1 E i hi (E.at_ []) hj e [] rfl ht1 (by
       have:=ht4.2
       show (Zj E.t (E.t.length-1-0)).kind≠5
       simp only [List.length_nil] at this
       omega) ho
     |cons tk2 r1=>
      obtain ⟨_,h6,h7⟩:=Zas ht4
      by_cases hc:tk2=.cls
      ·subst hc
       simp at h;subst h
       have hk5:=ht4.1
       simp only [Vc] at hk5
       exact Zlb E i hi (E.at_ (.cls::r1)) hj e _ r1 rfl h6 ht1 hk5 (by omega) ho
      ·have hn:res=none:=by cases tk2<;>first|exact absurd rfl hc|(simp at h;exact h.symm)
       subst hn
       exact G1 E i hi (E.at_ (tk2::r1)) hj e _ rfl ht1 (fun h5=>hc (Zjj ht4.1 h5)) ho
  |pre o=>
   simp only [Vc] at ht1
   simp only [Fit] at hf
   obtain ⟨k1,k2,k3,j,hj,rfl⟩:=ht1
   obtain ⟨q,hq0,hq1,hq2⟩:=E.maps.nud j hj k3
   have hok:=E.maps.ok j hj
   have hh:ZH (Zm E.lo q) false=(lvO (Zm E.l j)).h2:=by rw [hq1];exact HJ hok k3
   have hw:(Zm E.lo q).wf:=by rw [hq1];exact E.maps.wf j hj
   rw [k2] at hq2
   cases hq:Ops.operand lvO n (lvO (Zm E.l j)).h2 r with
   |none=>simp [Ops.firstF,hq] at h
   |some x=>
    have ho:=hO (i+1) _ d r x ht2 hf hq
    rw [←hh] at ho
    simp only [Ops.firstF,hq] at h
    cases x with
    |none=>
     simp at h;subst h
     exact Zfi E i hi q k1 (E.txt i hi) hq2 (ZfN E _ q hq0 hw _ ho)
    |some y=>
     obtain ⟨e,r0⟩:=y
     simp at h;subst h
     have hb:=big (by omega) hq
     have:=ZlR E i hi q k1 (E.txt i hi) hq2 _ _ (ZlV E (Zj E.t i) q hq0 hw _ e r0 (by omega) ho)
     rw [hq1] at this;exact this
  |cls=>exact absurd hf (by simp [Fit])
  |inf o=>exact absurd hf (by simp [Fit])
  |post o=>exact absurd hf (by simp [Fit])
theorem PEnv.mpsLe1 (E:PEnv) (M:List (Nat×Mp)):YE ((E.b1,⟨151,E.esA⟩)::(E.mps++M)) E.mps:=by
 have h1:=E.n13
 have h2:=E.n14
 have h3:=E.n34
 simp [PEnv.mps,Xc,YE,lkm,h1,h2,h3,Ne.symm h1,Ne.symm h2,Ne.symm h3]
theorem PEnv.fin2 (E:PEnv) {u v:Value} {i j:Nat} {M:List (Nat×Mp)} (hM:YE M E.mps) {r:List (Option Ob)} {tm:List (Nat×AV)} (hv:v=u) (hij:i=j):VO E.mps (E.Rt u j) ⟨tm,E.ob i::r,M,1⟩ (.lit v):=by
 subst hv;subst hij
 refine ⟨rfl,[],[E.ob i],by simp,by simp,by simp [go_sem],?_,fun b hb=>?_,⟨⟨rfl,rfl⟩,hM⟩⟩
 ·simp only [PEnv.ob,pOb]
  simp [go_sem]
  exact Zjz
 ·cases hq:lkm E.mps b with
  |none=>rw [hq] at hb;simp at hb
  |some mp=>rw [YK hM (b,mp) (XE hq)];rfl
theorem Zc9:UJ Tryz.prog 166 .nilFunc:=fun w=>Tryz.zeroValue166 w
structure AtLoop (E:PEnv) (n:Nat) (m:Int) (res:Option (PT×List TkP)) (x:PT×List TkP):Prop where
 run:∃ k,k≤n∧Ops.loop lvO k m x.1 x.2=some res
 toks:Yi E.l E.t (E.at_ x.2) x.2
 fit:∃ d,Fit false d x.2
 len:x.1.yield.length+x.2.length+1≤E.t.length
def HY (E:PEnv) (m:Int) (x:PT×List TkP):VS:=⟨[(62,.fam (E.lo.length+1) (vsP E.bp E.bo) (asP E.lo)),(0,.ptr 0 6 0 0),(1,.lit (.int .i64 m)),(4,.lit .nilIface),(5,.lit (Wx x.1))],[E.ob (E.at_ x.2)],E.mps,1⟩
theorem ZkW (E:PEnv) (n:Nat) (hO:∀ i m d ts res,Yi E.l E.t i ts→Fit true d ts→Ops.operand lvO n m ts=some res→E.Ans 95 [.ptr 0 6 0 0,.lit (.int .i64 m)] i res)
  (i:Nat) (m:Int) (e:PT) (ts:List TkP) (er:PT) (rest:List TkP) (hf:E.Ans 125 [.ptr 0 6 0 0] i (some (e,ts))) (hm:m≤e.level lvO) (hl:AtLoop E n m (some (er,rest)) (e,ts)):E.Ans 95 [.ptr 0 6 0 0,.lit (.int .i64 m)] i (some (er,rest)):=by
 refine .mk ?_
 obtain ⟨T,u,hT,⟨fl,hfl,cl⟩,_⟩:=UY e
 have h13:=E.n13
 have h14:=E.n14
 have h34:=E.n34
 simp only [PEnv.ob,pOb,PEnv.mps,Xc]
 refine Wc Tryz.func95 (by kernel_rfl) rfl (by simp [Tryz.ntmps95]) ?_;simp only [Tryz.ntmps95,Tryz.results95];simp [go_sem]
 refine YI [0] 62 hf (by simp) rfl (fun i _=>rnP E.lo i) ?_ ?_ ?_ ?_
 ·simp [go_sem]
 ·simp [go_sem,PEnv.ob,pOb]
  exact fun i c _ h=>Zs E.t i c h
 ·exact E.mpsLe []
 ·rintro av mem maps ⟨⟨rfl,rfl⟩,rfl⟩
  simp only [PEnv.ob,pOb,PEnv.mps,Xc]
  simp [go_sem]
  rw [hT]
  simp [go_sem,hfl]
  refine Zc cl ?_ ?_
  ·simp [go_sem]
  ·rw [←Jb] at hm
   simp [go_sem,show ¬Zk1 e<m by omega]
   refine Y9 (AtLoop E n m (some (er,rest))) (fun x=>x.2.length) (HY E m) ⟨(e,ts),hl,?_⟩ (fun x hx=>?_)
   ·refine Zx [0] (by simp) (by simp) (by simp) (by simp) (E.mpsLe _) ?_ ?_
    ·simp [go_sem]
     exact ⟨.fam _ _ _ _ fun i _=>rnP E.lo i,hT.symm⟩
    ·simp [go_sem,PEnv.ob,pOb]
     exact fun i c _ h=>Zs E.t i c h
   ·obtain ⟨e,ts⟩:=x
    obtain ⟨⟨k,hk,hrun⟩,htk,⟨d,hfit⟩,hlen⟩:=hx
    have hlt:E.at_ ts<E.t.length:=by unfold PEnv.at_;omega
    simp only [HY,PEnv.ob,pOb,PEnv.mps,Xc]
    simp [go_sem]
    refine Zq [11] (.q 0 <| .q 1 <| .q 2 <| .q 3 <| .q 4 <| .q 5 <| .q 6 <| .q 7 <| .q 8 <| .q 9 <| .or 10 (.or 11 (.done) (.nil)) (.nil)) (by kernel_rfl) ?_
    simp [go_sem,Zo,hlt,PTok.cells]
    cases ts with
    |nil=>
     have hk7:=htk.2
     simp [go_sem,hk7]
     cases k with
     |zero=>simp [Ops.loop] at hrun
     |succ k=>
      simp [Ops.loop,Ops.loopF] at hrun
      obtain ⟨rfl,rfl⟩:=hrun
      exact E.fin_ [] rfl rfl
    |cons tk r=>
     obtain ⟨hi,hi1,hi2⟩:=Zas htk
     obtain ⟨ht1,ht2⟩:=htk
     have hi2':E.at_ (tk::r)<E.t.length:=hlt
     by_cases hc:tk=.cls
     ·subst hc
      simp only [Vc] at ht1
      simp [go_sem,ht1]
      cases k with
      |zero=>simp [Ops.loop] at hrun
      |succ k=>
       simp [Ops.loop,Ops.loopF] at hrun
       obtain ⟨rfl,rfl⟩:=hrun
       exact E.fin_ [] rfl rfl
     ·obtain ⟨o,hk3,htx,hko,⟨j,hj,hjo⟩,htk⟩:∃ o,(Zj E.t (E.at_ (tk::r))).kind=3∧o.text=(Zj E.t (E.at_ (tk::r))).text∧o.kind≠1∧(∃ j,j<E.l.length∧Zm E.l j=o)∧((tk=.inf o∧o.kind=2)∨(tk=.post o∧o.kind=3)):=by
       cases tk with
       |cls=>exact absurd rfl hc
       |inf o=>exact ⟨o,ht1.1,ht1.2.1,by have:=ht1.2.2.1;omega,ht1.2.2.2,.inl ⟨rfl,ht1.2.2.1⟩⟩
       |post o=>exact ⟨o,ht1.1,ht1.2.1,by have:=ht1.2.2.1;omega,ht1.2.2.2,.inr ⟨rfl,ht1.2.2.1⟩⟩
       |leaf b=>exact absurd hfit (by simp [Fit])
       |opn=>exact absurd hfit (by simp [Fit])
       |pre o=>exact absurd hfit (by simp [Fit])
      have hw:o.wf:=by rw [←hjo];exact E.maps.wf j hj
      have hok:Yx o=true:=by rw [←hjo];exact E.maps.ok j hj
      have hh1:=Qn hok hko
      have cH:=Kw o hw false
      rw [hh1] at cH
      have cb:=ZfD E.l E.b1 E.b2 E.b3 E.b4 E.t (E.at_ (tk::r)) E.maps.uniq E.esA E.maps.at_ j hj (by rw [hjo];exact hko) (by rw [hjo];exact hw)
      rw [hjo,htx] at cb
      simp only [POp.cells,pOb] at cb cH
      simp [go_sem,hk3]
      refine Zd [0] cb (by simp) ?_ ?_ ?_ ?_
      ·simp [go_sem]
      ·simp [go_sem]
       exact fun i c _ h=>Zs E.t i c h
      ·simp [go_sem]
      ·rintro av mem maps ⟨rfl,rfl,rfl⟩
       simp only [pOb]
       simp [go_sem]
       have hrun':∃ k',k=k'+1∧((o.level<m∨e.level lvO<(lvO o).h1)→er=e∧rest=tk::r):=by
        cases k with
        |zero=>simp [Ops.loop] at hrun
        |succ k=>
         refine ⟨k,rfl,fun hor=>?_⟩
         rw [Ops.loop] at hrun
         rcases htk with ⟨rfl,_⟩|⟨rfl,_⟩<;>
         ·simp only [Ops.loopF] at hrun
          have hl:(lvO o).lev=o.level:=rfl
          rw [hl] at hrun
          by_cases hlm:o.level<m
          ·rw [if_pos hlm] at hrun;simp at hrun;exact ⟨hrun.1.symm,hrun.2.symm⟩
          ·rcases hor with hor|hor
           ·exact absurd hor hlm
           ·rw [if_neg hlm,if_pos hor] at hrun;simp at hrun;exact ⟨hrun.1.symm,hrun.2.symm⟩
       obtain ⟨k,rfl,hstop⟩:=hrun'
       refine ⟨fun hlm=>?_,fun hlm=>?_⟩
       ·obtain ⟨rfl,rfl⟩:=hstop (.inl hlm)
        exact E.fin2 (E.mpsLe1 []) rfl rfl
       ·refine Zq [] (.q 0 <| .q 2 <| .or 1 (.or 3 (.q 4 <| .done) (.nil)) (.nil)) (by kernel_rfl) ?_
        simp [go_sem]
        obtain ⟨T,u,hT,⟨fl,hfl,cl⟩,_⟩:=UY e
        rw [hT]
        simp [go_sem,hfl]
        refine Zu cl ?_ ?_
        ·simp [go_sem]
        ·simp [go_sem]
         refine Zu cH ?_ ?_
         ·simp [go_sem]
         ·simp [go_sem]
          rw [←hT]
          rw [Jb]
          refine ⟨fun hlh=>?_,fun hlh=>?_⟩
          ·obtain ⟨rfl,rfl⟩:=hstop (.inr hlh)
           exact E.fin2 (E.mpsLe1 []) rfl rfl
          ·have ew:IntKind.i64.wrap ((E.at_ (tk::r):Int)+1)=((E.at_ r:Nat):Int):=by rw [hi1,hi2];exact Zn (by have:=E.len;omega)
           simp [go_sem,ew]
           refine Zq [9] (.q 0 <| .q 1 <| .q 2 <| .q 3 <| .q 4 <| .q 5 <| .q 6 <| .q 7 <| .q 8 <| .or 9 (.q 10 <| .done) (.nil)) (by kernel_rfl) ?_
           simp [go_sem,h13,h14,h34,Ne.symm h13,Ne.symm h14,Ne.symm h34]
           refine Xk Y7 (XL (E.txt _ hi2')) _ Zc9 ?_
           have hye:=Xs e
           have hEl:=E.len
           simp only [List.length_cons] at hlen
           rcases htk with ⟨rfl,ho2⟩|⟨rfl,ho3⟩
           ·have hm2:=E.maps.led2 j hj (by rw [hjo];exact ho2)
            rw [hjo,htx] at hm2
            rw [hm2]
            simp [go_sem]
            simp only [Fit] at hfit
            have hh2:=QV hok ho2
            rw [Ops.loop,Ops.loopF,if_neg (show ¬(lvO o).lev<m by show ¬o.level<m;omega),if_neg (show ¬e.level lvO<(lvO o).h1 by omega)] at hrun
            cases hq:Ops.operand lvO k (lvO o).h2 r with
            |none=>rw [hq] at hrun;simp at hrun
            |some y=>
             rw [hq] at hrun
             cases y with
             |none=>simp at hrun
             |some y=>
              obtain ⟨e2,r2⟩:=y
              simp only at hrun
              have hq':=Ops.operand_le lvO (show k≤n by omega) hq
              have hs:=((Ops.sound_all lvO n).1 _ _ _ _ hq').1
              have ht2':Yi E.l E.t (E.at_ r) r:=by rw [hi1,←hi2];exact ht2
              have ho:=hO (E.at_ r) _ d r _ ht2' hfit hq'
              rw [←hh2] at ho
              have hy2:=Xs e2
              have hl2:=congrArg List.length hs
              rw [List.length_append] at hl2
              have ha:=Zky E o hw (E.at_ r) e e2 r2 (by omega) (by omega) ho
              refine YI [0] 62 ha (by simp) rfl (fun i _=>rnP E.lo i) ?_ ?_ ?_ ?_
              ·simp [go_sem,POp.cells,vsP]
              ·simp [go_sem,PEnv.ob,pOb]
               exact fun i c _ h=>Zs E.t i c h
              ·exact E.mpsLe1 []
              ·rintro av mem maps ⟨⟨rfl,rfl⟩,rfl⟩
               simp only [PEnv.ob,pOb]
               simp [go_sem]
               refine ⟨.inf o e e2,r2,⟨⟨k,by omega,hrun⟩,?_,⟨d,?_⟩,?_⟩,?_,?_⟩
               ·rw [hs] at ht2';exact Vz ht2'
               ·rw [hs] at hfit;exact Vt _ _ _ hfit
               ·simp [Tr.yield];omega
               ·try simp only [List.length_cons]
                omega
               ·refine Zx [0] (by simp) (by simp) (by simp) (by simp) (E.mpsLe _) ?_ ?_
                ·simp [go_sem]
                 exact .fam _ _ _ _ fun i _=>rnP E.lo i
                ·simp [go_sem,PEnv.ob,pOb]
                 exact fun i c _ h=>Zs E.t i c h
           ·have hm3:=E.maps.led3 j hj (by rw [hjo];exact ho3)
            rw [hjo,htx] at hm3
            rw [hm3]
            simp [go_sem]
            simp only [Fit] at hfit
            rw [Ops.loop,Ops.loopF,if_neg (show ¬(lvO o).lev<m by show ¬o.level<m;omega),if_neg (show ¬e.level lvO<(lvO o).h1 by omega)] at hrun
            have ha:=ZhJ E e o r (by omega)
            have ht2':Yi E.l E.t (E.at_ r) r:=by rw [hi1,←hi2];exact ht2
            refine YI [0] 62 ha (by simp) rfl (fun i _=>rnP E.lo i) ?_ ?_ ?_ ?_
            ·simp [go_sem,POp.cells,vsP]
            ·simp [go_sem,PEnv.ob,pOb]
             exact fun i c _ h=>Zs E.t i c h
            ·exact E.mpsLe1 []
            ·rintro av mem maps ⟨⟨rfl,rfl⟩,rfl⟩
             simp only [PEnv.ob,pOb]
             simp [go_sem]
             refine ⟨.post o e,r,⟨⟨k,by omega,hrun⟩,ht2',⟨d,hfit⟩,?_⟩,?_,?_⟩
             ·simp [Tr.yield];omega
             ·try simp only [List.length_cons]
              omega
             ·refine Zx [0] (by simp) (by simp) (by simp) (by simp) (E.mpsLe _) ?_ ?_
              ·simp [go_sem]
               exact .fam _ _ _ _ fun i _=>rnP E.lo i
              ·simp [go_sem,PEnv.ob,pOb]
               exact fun i c _ h=>Zs E.t i c h
theorem ZjH (E:PEnv) (i:Nat) (m:Int) (hf:E.Ans 125 [.ptr 0 6 0 0] i none):E.Ans 95 [.ptr 0 6 0 0,.lit (.int .i64 m)] i none:=by
 simp only [PEnv.Ans,PEnv.ob,pOb,PEnv.mps,Xc] at hf ⊢
 refine X8 Tryz.func95 (by kernel_rfl) rfl (by simp [Tryz.ntmps95]) ?_;simp only [Tryz.ntmps95,UT,We,List.length_cons,List.length_nil,List.length_singleton]
 refine YM ?_
 simp [go_sem]
 refine Q8 ?_
 refine Zhj 1 ?_
 simp [go_sem]
 refine Vo [0] 62 hf (by simp) rfl (fun i _=>rnP E.lo i) ?_ ?_ (E.mpsLe []) (E.mpsLe [])
 ·simp [go_sem]
 ·simp [go_sem,PEnv.ob,pOb]
  exact fun i c _ h=>Zs E.t i c h
theorem ZjG (E:PEnv) (i:Nat) (m:Int) (e:PT) (ts:List TkP) (hf:E.Ans 125 [.ptr 0 6 0 0] i (some (e,ts))) (hm:e.level lvO<m):E.Ans 95 [.ptr 0 6 0 0,.lit (.int .i64 m)] i none:=by
 obtain ⟨T,u,hT,⟨fl,hfl,cl⟩,_⟩:=UY e
 simp only [PEnv.Ans,PEnv.ob,pOb,PEnv.mps,Xc]
 refine X8 Tryz.func95 (by kernel_rfl) rfl (by simp [Tryz.ntmps95]) ?_;simp only [Tryz.ntmps95,UT,We,List.length_cons,List.length_nil,List.length_singleton]
 refine YM ?_
 simp [go_sem]
 refine YM ?_
 simp [go_sem]
 refine YI [0] 62 hf (by simp) rfl (fun i _=>rnP E.lo i) ?_ ?_ ?_ ?_
 ·simp [go_sem]
 ·simp [go_sem,PEnv.ob,pOb]
  exact fun i c _ h=>Zs E.t i c h
 ·exact E.mpsLe []
 ·rintro av mem maps ⟨⟨rfl,rfl⟩,rfl⟩
  simp only [PEnv.ob,pOb,PEnv.mps,Xc]
  simp [go_sem]
  rw [hT]
  refine Q8 ?_
  refine YM ?_
  simp [go_sem,hfl]
  refine Zc cl ?_ ?_
  ·simp [go_sem]
  ·rw [←Jb] at hm
   simp [go_sem,hm]
   refine Zhj 2 ?_
   simp [go_sem,Zaw,E.n13,E.n14,E.n34]
theorem ZjF (E:PEnv) (n:Nat) (hO:∀ i m d ts res,Yi E.l E.t i ts→Fit true d ts→Ops.operand lvO n m ts=some res→E.Ans 95 [.ptr 0 6 0 0,.lit (.int .i64 m)] i res)
  (i:Nat) (m:Int) (e:PT) (ts:List TkP) (hf:E.Ans 125 [.ptr 0 6 0 0] i (some (e,ts))) (hm:m≤e.level lvO) (hl:AtLoop E n m none (e,ts)):E.Ans 95 [.ptr 0 6 0 0,.lit (.int .i64 m)] i none:=by
 obtain ⟨T,u,hT,⟨fl,hfl,cl⟩,_⟩:=UY e
 have h13:=E.n13
 have h14:=E.n14
 have h34:=E.n34
 simp only [PEnv.Ans,PEnv.ob,pOb,PEnv.mps,Xc]
 refine X8 Tryz.func95 (by kernel_rfl) rfl (by simp [Tryz.ntmps95]) ?_;simp only [Tryz.ntmps95,UT,We,List.length_cons,List.length_nil,List.length_singleton]
 refine YM ?_
 simp [go_sem]
 refine YM ?_
 simp [go_sem]
 refine YI [0] 62 hf (by simp) rfl (fun i _=>rnP E.lo i) ?_ ?_ ?_ ?_
 ·simp [go_sem]
 ·simp [go_sem,PEnv.ob,pOb]
  exact fun i c _ h=>Zs E.t i c h
 ·exact E.mpsLe []
 ·rintro av mem maps ⟨⟨rfl,rfl⟩,rfl⟩
  simp only [PEnv.ob,pOb,PEnv.mps,Xc]
  simp [go_sem]
  rw [hT]
  refine YM ?_
  simp [go_sem,hfl]
  refine Zc cl ?_ ?_
  ·simp [go_sem]
  ·rw [←Jb] at hm
   simp [go_sem,show ¬Zk1 e<m by omega]
   refine Zja (AtLoop E n m none) (fun x=>x.2.length) (HY E m) ⟨(e,ts),hl,?_⟩ (fun x hx=>?_)
   ·refine Zx [0] (by simp) (by simp) (by simp) (by simp) (E.mpsLe _) ?_ ?_
    ·simp [go_sem]
     exact ⟨.fam _ _ _ _ fun i _=>rnP E.lo i,hT.symm⟩
    ·simp [go_sem,PEnv.ob,pOb]
     exact fun i c _ h=>Zs E.t i c h
   ·obtain ⟨e,ts⟩:=x
    obtain ⟨⟨k,hk,hrun⟩,htk,⟨d,hfit⟩,hlen⟩:=hx
    have hlt:E.at_ ts<E.t.length:=by unfold PEnv.at_;omega
    cases k with
    |zero=>simp [Ops.loop] at hrun
    |succ k=>
     rw [Ops.loop] at hrun
     cases ts with
     |nil=>simp [Ops.loopF] at hrun
     |cons tk r=>
      obtain ⟨hi,hi1,hi2⟩:=Zas htk
      obtain ⟨ht1,ht2⟩:=htk
      have hi2':E.at_ (tk::r)<E.t.length:=hlt
      obtain ⟨o,hk3,htx,hko,⟨j,hj,hjo⟩,htk⟩:∃ o,(Zj E.t (E.at_ (tk::r))).kind=3∧o.text=(Zj E.t (E.at_ (tk::r))).text∧o.kind≠1∧(∃ j,j<E.l.length∧Zm E.l j=o)∧((tk=.inf o∧o.kind=2)∨(tk=.post o∧o.kind=3)):=by
       cases tk with
       |cls=>simp [Ops.loopF] at hrun
       |inf o=>exact ⟨o,ht1.1,ht1.2.1,by have:=ht1.2.2.1;omega,ht1.2.2.2,.inl ⟨rfl,ht1.2.2.1⟩⟩
       |post o=>exact ⟨o,ht1.1,ht1.2.1,by have:=ht1.2.2.1;omega,ht1.2.2.2,.inr ⟨rfl,ht1.2.2.1⟩⟩
       |leaf b=>exact absurd hfit (by simp [Fit])
       |opn=>exact absurd hfit (by simp [Fit])
       |pre o=>exact absurd hfit (by simp [Fit])
      have hlm:¬o.level<m:=fun hlm=>by
       rcases htk with ⟨rfl,_⟩|⟨rfl,_⟩<;>
       ·simp only [Ops.loopF] at hrun
        rw [if_pos (show (lvO o).lev<m from hlm)] at hrun
        simp at hrun
      have hlh:¬e.level lvO<(lvO o).h1:=fun hlh=>by
       rcases htk with ⟨rfl,_⟩|⟨rfl,_⟩<;>
       ·simp only [Ops.loopF] at hrun
        rw [if_neg (show ¬(lvO o).lev<m from hlm),if_pos hlh] at hrun
        simp at hrun
      have hw:o.wf:=by rw [←hjo];exact E.maps.wf j hj
      have hok:Yx o=true:=by rw [←hjo];exact E.maps.ok j hj
      have hh1:=Qn hok hko
      have cH:=Kw o hw false
      rw [hh1] at cH
      have cb:=ZfD E.l E.b1 E.b2 E.b3 E.b4 E.t (E.at_ (tk::r)) E.maps.uniq E.esA E.maps.at_ j hj (by rw [hjo];exact hko) (by rw [hjo];exact hw)
      rw [hjo,htx] at cb
      have ew:IntKind.i64.wrap ((E.at_ (tk::r):Int)+1)=((E.at_ r:Nat):Int):=by rw [hi1,hi2];exact Zn (by have:=E.len;omega)
      obtain ⟨T,u,hT,⟨fl,hfl,cl⟩,_⟩:=UY e
      have hye:=Xs e
      have hEl:=E.len
      simp only [List.length_cons] at hlen
      have ht2':Yi E.l E.t (E.at_ r) r:=by rw [hi1,←hi2];exact ht2
      simp only [POp.cells,pOb] at cb cH
      -- the walk to the call of the closure,throwing or not
      by_cases hdie:tk=.inf o∧Ops.operand lvO k (lvO o).h2 r=some none
      ·refine .inl ?_
       obtain ⟨rfl,hdq⟩:=hdie
       have ho2:o.kind=2:=by
        rcases htk with ⟨_,h⟩|⟨h,_⟩
        ·exact h
        ·simp at h
       simp only [Fit] at hfit
       have hh2:=QV hok ho2
       have ho:=hO (E.at_ r) _ d r _ ht2' hfit (Ops.operand_le lvO (show k≤n by omega) hdq)
       rw [←hh2] at ho
       have ha:=ZfO E o hw (E.at_ r) e ho
       have hm2:=E.maps.led2 j hj (by rw [hjo];exact ho2)
       rw [hjo,htx] at hm2
       simp only [HY,PEnv.ob,pOb,PEnv.mps,Xc]
       simp [go_sem]
       refine YM ?_
       refine Zq [11] (.q 0 <| .q 1 <| .q 2 <| .q 3 <| .q 4 <| .q 5 <| .q 6 <| .q 7 <| .q 8 <| .q 9 <| .or 10 (.or 11 (.done) (.nil)) (.nil)) (by kernel_rfl) ?_
       simp [go_sem,Zo,hlt,PTok.cells]
       refine YM ?_
       simp [go_sem,hk3]
       refine YM ?_
       simp [go_sem]
       refine Zd [0] cb (by simp) ?_ ?_ ?_ ?_
       ·simp [go_sem]
       ·simp [go_sem]
        exact fun i c _ h=>Zs E.t i c h
       ·simp [go_sem]
       ·rintro av mem maps ⟨rfl,rfl,rfl⟩
        simp only [pOb]
        simp [go_sem]
        refine YM ?_
        simp [go_sem,hlm]
        refine YM ?_
        simp [go_sem]
        refine Zq [] (.q 0 <| .q 2 <| .or 1 (.or 3 (.q 4 <| .done) (.nil)) (.nil)) (by kernel_rfl) ?_
        simp [go_sem]
        rw [hT]
        simp [go_sem,hfl]
        refine Zu cl ?_ ?_
        ·simp [go_sem]
        ·simp [go_sem]
         refine Zu cH ?_ ?_
         ·simp [go_sem]
         ·rw [←hT,Jb]
          simp [go_sem,hlh]
          refine YM ?_
          simp [go_sem,ew]
          refine Hl [9] (.q 0 <| .q 1 <| .q 2 <| .q 3 <| .q 4 <| .q 5 <| .q 6 <| .q 7 <| .q 8 <| .or 9 (.q 10 <| .done) (.nil)) (by kernel_rfl) ?_
          simp [go_sem,h13,h14,h34,Ne.symm h13,Ne.symm h14,Ne.symm h34]
          refine Xk Y7 (XL (E.txt _ hi2')) _ Zc9 ?_
          rw [hm2]
          simp [go_sem]
          refine Vo [0] 62 ha (by simp) rfl (fun i _=>rnP E.lo i) ?_ ?_ (E.mpsLe1 []) (E.mpsLe [])
          ·simp [go_sem,POp.cells,vsP]
          ·simp [go_sem,PEnv.ob,pOb]
           exact fun i c _ h=>Zs E.t i c h
      ·refine .inr ?_
       simp only [HY,PEnv.ob,pOb,PEnv.mps,Xc]
       simp [go_sem]
       refine Zq [11] (.q 0 <| .q 1 <| .q 2 <| .q 3 <| .q 4 <| .q 5 <| .q 6 <| .q 7 <| .q 8 <| .q 9 <| .or 10 (.or 11 (.done) (.nil)) (.nil)) (by kernel_rfl) ?_
       simp [go_sem,Zo,hlt,PTok.cells]
       simp [go_sem,hk3]
       refine Zd [0] cb (by simp) ?_ ?_ ?_ ?_
       ·simp [go_sem]
       ·simp [go_sem]
        exact fun i c _ h=>Zs E.t i c h
       ·simp [go_sem]
       ·rintro av mem maps ⟨rfl,rfl,rfl⟩
        simp only [pOb]
        simp [go_sem,hlm]
        refine Zq [] (.q 0 <| .q 2 <| .or 1 (.or 3 (.q 4 <| .done) (.nil)) (.nil)) (by kernel_rfl) ?_
        simp [go_sem]
        rw [hT]
        simp [go_sem,hfl]
        refine Zu cl ?_ ?_
        ·simp [go_sem]
        ·simp [go_sem]
         refine Zu cH ?_ ?_
         ·simp [go_sem]
         ·rw [←hT,Jb]
          simp [go_sem,hlh]
          simp [go_sem,ew]
          refine Zq [9] (.q 0 <| .q 1 <| .q 2 <| .q 3 <| .q 4 <| .q 5 <| .q 6 <| .q 7 <| .q 8 <| .or 9 (.q 10 <| .done) (.nil)) (by kernel_rfl) ?_
          simp [go_sem,h13,h14,h34,Ne.symm h13,Ne.symm h14,Ne.symm h34]
          refine Xk Y7 (XL (E.txt _ hi2')) _ Zc9 ?_
          rcases htk with ⟨rfl,ho2⟩|⟨rfl,ho3⟩
          ·have hm2:=E.maps.led2 j hj (by rw [hjo];exact ho2)
           rw [hjo,htx] at hm2
           rw [hm2]
           simp [go_sem]
           simp only [Fit] at hfit
           have hh2:=QV hok ho2
           rw [Ops.loopF,if_neg (show ¬(lvO o).lev<m by show ¬o.level<m;omega),if_neg (show ¬e.level lvO<(lvO o).h1 by omega)] at hrun
           cases hq:Ops.operand lvO k (lvO o).h2 r with
           |none=>rw [hq] at hrun;simp at hrun
           |some y=>
            rw [hq] at hrun
            cases y with
            |none=>exact absurd ⟨rfl,hq⟩ hdie
            |some y=>
             obtain ⟨e2,r2⟩:=y
             simp only at hrun
             have hq':=Ops.operand_le lvO (show k≤n by omega) hq
             have hs:=((Ops.sound_all lvO n).1 _ _ _ _ hq').1
             have ht2':Yi E.l E.t (E.at_ r) r:=by rw [hi1,←hi2];exact ht2
             have ho:=hO (E.at_ r) _ d r _ ht2' hfit hq'
             rw [←hh2] at ho
             have hy2:=Xs e2
             have hl2:=congrArg List.length hs
             rw [List.length_append] at hl2
             have ha:=Zky E o hw (E.at_ r) e e2 r2 (by omega) (by omega) ho
             refine YI [0] 62 ha (by simp) rfl (fun i _=>rnP E.lo i) ?_ ?_ ?_ ?_
             ·simp [go_sem,POp.cells,vsP]
             ·simp [go_sem,PEnv.ob,pOb]
              exact fun i c _ h=>Zs E.t i c h
             ·exact E.mpsLe1 []
             ·rintro av mem maps ⟨⟨rfl,rfl⟩,rfl⟩
              simp only [PEnv.ob,pOb]
              simp [go_sem]
              refine ⟨.inf o e e2,r2,⟨⟨k,by omega,hrun⟩,?_,⟨d,?_⟩,?_⟩,?_,?_⟩
              ·rw [hs] at ht2';exact Vz ht2'
              ·rw [hs] at hfit;exact Vt _ _ _ hfit
              ·simp [Tr.yield];omega
              ·try simp only [List.length_cons]
               omega
              ·refine Zx [0] (by simp) (by simp) (by simp) (by simp) (E.mpsLe _) ?_ ?_
               ·simp [go_sem]
                exact .fam _ _ _ _ fun i _=>rnP E.lo i
               ·simp [go_sem,PEnv.ob,pOb]
                exact fun i c _ h=>Zs E.t i c h
          ·have hm3:=E.maps.led3 j hj (by rw [hjo];exact ho3)
           rw [hjo,htx] at hm3
           rw [hm3]
           simp [go_sem]
           simp only [Fit] at hfit
           rw [Ops.loopF,if_neg (show ¬(lvO o).lev<m by show ¬o.level<m;omega),if_neg (show ¬e.level lvO<(lvO o).h1 by omega)] at hrun
           have ha:=ZhJ E e o r (by omega)
           have ht2':Yi E.l E.t (E.at_ r) r:=by rw [hi1,←hi2];exact ht2
           refine YI [0] 62 ha (by simp) rfl (fun i _=>rnP E.lo i) ?_ ?_ ?_ ?_
           ·simp [go_sem,POp.cells,vsP]
           ·simp [go_sem,PEnv.ob,pOb]
            exact fun i c _ h=>Zs E.t i c h
           ·exact E.mpsLe1 []
           ·rintro av mem maps ⟨⟨rfl,rfl⟩,rfl⟩
            simp only [PEnv.ob,pOb]
            simp [go_sem]
            refine ⟨.post o e,r,⟨⟨k,by omega,hrun⟩,ht2',⟨d,hfit⟩,?_⟩,?_,?_⟩
            ·simp [Tr.yield];omega
            ·try simp only [List.length_cons]
             omega
            ·refine Zx [0] (by simp) (by simp) (by simp) (by simp) (E.mpsLe _) ?_ ?_
             ·simp [go_sem]
              exact .fam _ _ _ _ fun i _=>rnP E.lo i
             ·simp [go_sem,PEnv.ob,pOb]
              exact fun i c _ h=>Zs E.t i c h
theorem ZiE (E:PEnv):∀ (n i:Nat) (m:Int) (d:Nat) (ts:List TkP) (res:Option (PT×List TkP)),Yi E.l E.t i ts→Fit true d ts→Ops.operand lvO n m ts=some res→E.Ans 95 [.ptr 0 6 0 0,.lit (.int .i64 m)] i res:=by
 intro n
 induction n with
 |zero=>intro i m d ts res _ _ h;simp [Ops.operand] at h
 |succ n ih=>
  intro i m d ts res ht hf h
  rw [Ops.operand] at h
  cases hx:Ops.first lvO n ts with
  |none=>rw [hx] at h;simp at h
  |some x=>
   rw [hx] at h
   have h1:=Ops.first_le lvO (Nat.le_succ n) hx
   rw [Ops.first] at h1
   have ha:=Zlj E n ih i d ts x ht hf h1
   cases x with
   |none=>
    simp at h;subst h
    exact ZjH E i m ha
   |some y=>
    obtain ⟨e,rest⟩:=y
    simp only at h
    by_cases hlm:e.level lvO<m
    ·rw [if_pos hlm] at h
     simp at h;subst h
     exact ZjG E i m e rest ha hlm
    ·rw [if_neg hlm] at h
     have hs:=((Ops.sound_all lvO n).2.1 _ _ _ hx).1
     have hl:AtLoop E n m res (e,rest):=by
      have hlen:=Y6 ht
      rw [hs] at ht hf
      rw [hs,List.length_append] at hlen
      exact ⟨⟨n,Nat.le_refl _,h⟩,Vz ht,⟨d,Vt _ _ _ hf⟩,by simp only;omega⟩
     cases res with
     |none=>exact ZjF E n ih i m e rest ha (by omega) hl
     |some z=>exact ZkW E n ih i m e rest z.1 z.2 ha (by omega) hl
end Go.Proofs.YtjdmmhcogmepaaaGreatDoor.V
namespace Go.Proofs.YtjdmmhcogmepaaaGreatDoor.V
open Go.RowKit
theorem ZgT (p q:Addr) (w:World):CallsD Tryz.prog 98 #[.pointer (some p),.pointer (some q)] .returning w fun e u' w'=>e=.returned (.tuple #[])∧u'=.returning∧w'=w:=by
 refine callsD_of_wpS Tryz.func98 rfl fun c₀ cs hu=>?_
 apply wpS_seq
 apply wpS_region
 simp [wpOpsS,go_sem,recoverD,hu,Tryz.ntmps98,Exit.thenS]
 apply wpS_seq
 apply wpS_region
 simp [wpOpsS,go_sem,recoverD,hu,Exit.thenS]
 refine wpS_cond (t:=false) (by simp [Act.eval,Array.replicate]) ?_
 simp only [Bool.false_eq_true,if_false]
 refine wpS_of_wp (wp_skip ?_)
 cases c₀
 simp_all [bodyPostS,results,Tryz.results98]
theorem Zcr (w:World):(Instr.typeAssert (.iface 168 (.agg #[])) 20 168 true).run Tryz.prog w=.ok (.tuple #[.agg #[],.bool true]) w:=by
 obtain ⟨d,h4,h5⟩:=J2 (P:=Tryz.prog) (T:=168) (by kernel_rfl)
 unfold Instr.typeAssert
 simp only [Sem.run_bind,Ys h4,Result.andThen_ok]
 cases d<;>first|exact absurd rfl (h5 _)|simp [Sem.run_pure]
theorem ZgU (p q:Addr) (x y:Value) (u:TypeId) (older:List PanicEntry) (w:World) (hc:w.cell? p=some x) (hz:w.frozen? p=false) (hc2:w.cell? q=some y) (hz2:w.frozen? q=false) (hpq:p.block≠q.block) :
  CallsD Tryz.prog 98 #[.pointer (some p),.pointer (some q)] (.panicking ({ v:=.iface 168 (.agg #[]),recovered:=false }::older)) w fun e u' w'=>e=.returned (.tuple #[])∧u'=.panicking ({ v:=.iface 168 (.agg #[]),recovered:=true }::older)∧w'=((w.alloc (.cells #[] 168)).setCell p .nilIface).setCell q (.bool false):=by
 refine callsD_of_wpS Tryz.func98 rfl fun c₀ cs hu=>?_
 apply wpS_seq
 apply wpS_region
 simp [wpOpsS,go_sem,recoverD,hu,Tryz.ntmps98,Exit.thenS]
 apply wpS_seq
 apply wpS_region
 simp [wpOpsS,go_sem,recoverD,hu,Exit.thenS]
 refine wpS_cond (t:=true) (by simp [Act.eval,Array.replicate]) ?_
 simp only [if_true]
 apply wpS_seq
 apply wpS_seq
 apply wpS_region
 simp [wpOpsS,go_sem,recoverD,hu,Exit.thenS,Zcr]
 apply wpS_seq
 apply wpS_region
 simp [wpOpsS,go_sem,recoverD,hu,Exit.thenS]
 refine wpS_cond (t:=false) (by simp [Act.eval,Array.replicate]) ?_
 simp only [Bool.false_eq_true,if_false]
 refine wpS_of_wp (wp_skip ?_)
 simp only [Exit.thenS]
 apply wpS_region
 have h1:(w.alloc (.cells #[] 168)).cell? p=some x:=(World.cell?_alloc_lt _ _ _ (World.block_lt_of_cell? w _ hc)).trans hc
 have h2:(w.alloc (.cells #[] 168)).frozen? p=false:=(World.frozen?_alloc_old _ _ _ (by have:=World.block_lt_of_cell? w _ hc;omega)).trans hz
 have h3:((w.alloc (.cells #[] 168)).setCell p .nilIface).cell? q=some y:=by
  rw [World.cell?_setCell_other _ _ _ _ (fun e=>hpq (by rw [e]))]
  exact (World.cell?_alloc_lt _ _ _ (World.block_lt_of_cell? w _ hc2)).trans hc2
 have h4:((w.alloc (.cells #[] 168)).setCell p .nilIface).frozen? q=false:=by
  rw [World.frozen?_setCell]
  exact (World.frozen?_alloc_old _ _ _ (by have:=World.block_lt_of_cell? w _ hc2;omega)).trans hz2
 simp [wpOpsS,go_sem,h1,h2,h3,h4,bodyPostS,results,Tryz.results98]
open Go.Maps (Keyed)
open Go.Proofs.YtjdmmhcogmepaaaGreatDoor.Ops (Tr Tk Lv Res Fit)
def UK (E:PEnv) (i:Nat):VS:=⟨[(3,.ptr 2 1 0 0),(2,.ptr 1 1 0 0),(20,.fam (E.lo.length+1) (vsP E.bp E.bo) (asP E.lo)),(0,.ptr 0 6 0 0)],[E.ob i,some ⟨92,1,1,fun _=>[.lit .nilIface]⟩,some ⟨4,1,1,fun _=>[.lit (.bool false)]⟩],E.mps,1⟩
def PEnv.Rw (E:PEnv) (u:Value) (b:Bool) (j:Nat) (av:AV) (mem:List (Option Ob)) (maps:List (Nat×Mp)):Prop:=(av=.tup [.lit u,.lit (.bool b)]∧mem=[E.ob j])∧YE maps E.mps
theorem PEnv.finw (E:PEnv) {u v:Value} {b c:Bool} {i j:Nat} {M:List (Nat×Mp)} (hM:YE M E.mps) {r:List (Option Ob)} {tm:List (Nat×AV)} (hv:v=u) (hb:c=b) (hij:i=j):VO E.mps (E.Rw u b j) ⟨tm,E.ob i::r,M,1⟩ (.tup [.lit v,.lit (.bool c)]):=by
 subst hv;subst hij;subst hb
 refine ⟨rfl,[],[E.ob i],by simp,by simp,by simp [go_sem],?_,fun b hb=>?_,⟨⟨rfl,rfl⟩,hM⟩⟩
 ·simp only [PEnv.ob,pOb]
  simp [go_sem]
  exact Zjz
 ·cases hq:lkm E.mps b with
  |none=>rw [hq] at hb;simp at hb
  |some mp=>rw [YK hM (b,mp) (XE hq)];rfl
theorem ZdY (E:PEnv) (i:Nat) (e:PT) (rest:List TkP) (hi:E.at_ rest<E.t.length) (ho:E.Ans 95 [.ptr 0 6 0 0,.lit (.int .i64 0)] i (some (e,rest))) :
  VProcG Tryz.prog 52 [.ptr 0 6 0 0] (E.lo.length+1) (vsP E.bp E.bo) (asP E.lo) [E.ob i] E.mps (E.Rw (Wx e) (decide ((Zj E.t (E.at_ rest)).kind=7)) (E.at_ rest)):=by
 refine ⟨⟨_,Tryz.func52,by kernel_rfl,rfl⟩,fun w vs hd0 hlen hrep hfam hm hmp htl=>?_⟩
 have hrel:=(US (P:=Tryz.prog) (fn:=Tryz.f52) (by simp [Tryz.ntmps52]) hlen hrep hm hmp htl).tell 20 hfam
 suffices hX:∀ (X:Value→World→Prop),(∀ v w',(Bel (Sh w hd0 [E.ob i] E.mps) w w'∧∃ hd av mem maps,E.Rw (Wx e) (decide ((Zj E.t (E.at_ rest)).kind=7)) (E.at_ rest) av mem maps∧PostOk [E.ob i] E.mps av mem maps∧((∀ k,k<[E.ob i].length→hd k=hd0 k)∧TailEq hd0 hd)∧MemRel (Sh w hd0 [E.ob i] E.mps) w' hd mem∧MapRel Tryz.prog (Sh w hd0 [E.ob i] E.mps) w' maps∧Rep w' (ZE mem hd) hd mem.length av v)→X v w')→Calls Tryz.prog 52 vs.toArray w (fun e w'=>∃ v,e=.returned v∧X v w') from hX _ fun v w' h=>h
 intro X hX
 refine calls_of_wp_defers Tryz.func52 rfl ?_
 refine wp_seq (WE rfl _ hrel (K:=fun e s=>e=.normal∧s=UK E i) ?_ fun x hd' s' a' w' h' hk=>?_)
 ·simp only [Tryz.ntmps52,PEnv.ob,pOb,PEnv.mps,Xc,We]
  simp [go_sem]
  rfl
 ·obtain ⟨rfl,rfl⟩:=hk
  simp only [VX.out,Exit.then]
  refine wp_seq (wp_region_list ?_)
  have hmf:∀ (fn:Fn) (first cap:Array Value) (w:World),(Instr.makeFunc fn first cap).run Tryz.prog w=.ok (.func fn first cap) w:=fun _ _ _ _=>rfl
  have hsz:a'.tmps.size=20:=h'.size
  have hds:a'.defers=[]:=h'.defers
  obtain ⟨b2,n2,c2,hb2,hp2⟩:=Ql (h'.tm 2)
  obtain ⟨b3,n3,c3,hb3,hp3⟩:=Ql (h'.tm 3)
  simp [hsz] at hp2 hp3
  simp [wpList,Region.wanted,Oper.wp,Oper.upon,go_sem,hmf,hsz,hds,hp2,hp3,Exit.then]
  refine .inl (.inl ?_)
  have h2:RelH 20 ⟨Tryz.prog,Sh w hd0 [E.ob i] E.mps,hd0,[⟨.fn (.func 98) #[.pointer (some ⟨b2,0,none⟩),.pointer (some ⟨b3,0,none⟩)],#[]⟩]⟩ w hd' (UK E i) ⟨a'.tmps.setIfInBounds 4 (.func (.func 98) #[] #[.pointer (some ⟨b2,0,none⟩),.pointer (some ⟨b3,0,none⟩)]),[⟨.fn (.func 98) #[.pointer (some ⟨b2,0,none⟩),.pointer (some ⟨b3,0,none⟩)],#[]⟩]⟩ w':=by
   refine ⟨rfl,by simp [hsz],h'.below,h'.le,h'.fixl,h'.fix,h'.mp,fun t=>?_,h'.me⟩
   by_cases ht:t=4
   ·subst ht
    exact .undef _
   ·have:=h'.tm t
    rwa [show (a'.tmps.setIfInBounds 4 (.func (.func 98) #[] #[.pointer (some ⟨b2,0,none⟩),.pointer (some ⟨b3,0,none⟩)])).getD t undef=a'.tmps.getD t undef by
     simp only [Array.getD_eq_getD_getElem?];rw [Array.getElem?_setIfInBounds_ne (by omega)]]
  refine WE rfl _ h2 (K:=ZfQ Tryz.prog 1 E.mps Tryz.f52.results.toList (E.Rw (Wx e) (decide ((Zj E.t (E.at_ rest)).kind=7)) (E.at_ rest))) ?_ fun x hd3 s3 a3 w3 h3 hk=>?_
  ·simp only [UK,PEnv.ob,pOb,PEnv.mps,Xc]
   simp [go_sem]
   refine YI [0] 20 ho (by simp) rfl (fun i _=>rnP E.lo i) ?_ ?_ ?_ ?_
   ·simp [go_sem]
   ·simp [go_sem,PEnv.ob,pOb]
    exact fun i c _ h=>Zs E.t i c h
   ·exact E.mpsLe []
   ·rintro av mem maps ⟨⟨rfl,rfl⟩,rfl⟩
    simp only [PEnv.ob,pOb,PEnv.mps,Xc]
    obtain ⟨T,u,hT⟩:=GV e
    rw [hT]
    simp [go_sem]
    refine Zq [13,14] (.q 0 <| .q 1 <| .q 2 <| .q 3 <| .q 5 <| .q 6 <| .q 7 <| .or 4 (.or 8 (.or 9 (.q 10 <| .or 11 (.or 12 (.or 13 (.or 14 (.done) (.nil)) (.nil)) (.or 13 (.q 12 <| .or 14 (.done) (.nil)) (.nil))) (.or 13 (.q 11 <| .q 12 <| .or 14 (.done) (.nil)) (.nil))) (.or 13 (.q 9 <| .q 10 <| .q 11 <| .q 12 <| .or 14 (.done) (.nil)) (.nil))) (.or 13 (.q 8 <| .q 9 <| .q 10 <| .q 11 <| .q 12 <| .or 14 (.done) (.nil)) (.nil))) (.or 8 (.or 4 (.or 9 (.q 10 <| .or 11 (.or 12 (.or 13 (.or 14 (.done) (.nil)) (.nil)) (.or 13 (.q 12 <| .or 14 (.done) (.nil)) (.nil))) (.or 13 (.q 11 <| .q 12 <| .or 14 (.done) (.nil)) (.nil))) (.or 13 (.q 9 <| .q 10 <| .q 11 <| .q 12 <| .or 14 (.done) (.nil)) (.nil))) (.or 13 (.q 4 <| .q 9 <| .q 10 <| .q 11 <| .q 12 <| .or 14 (.done) (.nil)) (.nil))) (.or 13 (.q 4 <| .q 8 <| .q 9 <| .q 10 <| .q 11 <| .q 12 <| .or 14 (.done) (.nil)) (.nil)))) (by kernel_rfl) ?_
    simp [go_sem,Zo,hi,PTok.cells]
    repeat' first
    |exact E.finw (E.mpsLe _) rfl (WV _ _) rfl
    |refine And.intro (E.finw (E.mpsLe _) rfl (WV _ _) rfl) ?_
  ·have fin:∀ (R':Ending→World→Prop) v,(results Tryz.f52 a3.tmps).run Tryz.prog w3=.ok v w3→R' (.returned v) w3→Leaves Tryz.prog Tryz.f52 a3.tmps R' a3.defers .returning w3:=fun R' v h1 h4=>by
    rw [show a3.defers=_ from h3.defers]
    refine leaves_cons (f:=98) (args:=#[.pointer (some ⟨b2,0,none⟩),.pointer (some ⟨b3,0,none⟩)]) (by simp) (by simp [go_sem]) ?_
    refine (ZgT _ _ _).mono ?_
    rintro e u' w'' ⟨rfl,rfl,rfl⟩
    exact ⟨v,h1,h4⟩
   cases x with
   |exit id=>exact hk.elim
   |normal=>
    obtain ⟨v,h1,h4⟩:=Vm h3 hk.1 hk.2
    exact fin _ v h1 ⟨v,rfl,hX _ _ h4⟩
   |ret=>
    obtain ⟨v,h1,h4⟩:=Vm h3 hk.1 hk.2
    exact fin _ v h1 ⟨v,rfl,hX _ _ h4⟩
end Go.Proofs.YtjdmmhcogmepaaaGreatDoor.V
namespace Go.Proofs.YtjdmmhcogmepaaaGreatDoor.V
open Go.RowKit
open Go.Maps (Keyed)
open Go.Proofs.YtjdmmhcogmepaaaGreatDoor.Ops (Tr Tk Lv Res Fit)
section
variable {P:Program} {n:Nat} {base:Fr} {w0 w:World} {hd:Nat→Value} {s:VS} {a:Act}
theorem Zhw (h:RelH n base w0 hd s a w) {k ty:Nat} {f:Nat→List AV} (hk:s.mem[k]?=some (some ⟨ty,1,1,f⟩)) (ht:ty<Xw):∃ g cap cur,hd k=.slice (some ⟨g,0,none⟩) 1 cap∧w.heap[g]?=some (.cells cur ty (0,0))∧0<cur.size:=by
 obtain ⟨_,vals,ho,hr⟩:=h.me.obs k _ hk
 rcases (ho.row ht).2 with ⟨_,h0⟩|⟨g,cap,cur,e,_,hg,h1,_,h2,_⟩
 ·simp at h0
 ·exact ⟨g,cap,cur,e,hg,by have h1':1≤cap:=h1;have h2':cur.size=cap*1:=h2;omega⟩
theorem ZbS {g:Nat} {cur:Array Value} {t:TypeId} (hg:w.heap[g]?=some (.cells cur t (0,0))) (hp:0<cur.size):∃ x,w.cell? ⟨g,0,none⟩=some x∧w.frozen? ⟨g,0,none⟩=false:=by
 refine ⟨cur[0],?_,?_⟩
 ·simp [World.cell?,hg,hp]
 ·simp [World.frozen?,hg]
theorem Zfn (h:RelH n base w0 hd s a w) (hP:base.P=P) {o:Oper} {f:FuncId} {xs:List Operand} (hcall:WO P s o.op=some (f,xs)) {pv:Value} {ks:List Nat} {args':List AV} {mem0:List (Option Ob)} {maps0:List (Nat×Mp)} {t N:Nat} {vs0:Nat→Value} {as0 as1:Nat→AV}
  (hnd:ks.Nodup) (hargs:Yf (fun j=>ks.getD j 0) ks.length (xs.map (ev s)) args') (hgt:lk s.tmps t=.fam N vs0 as0) (hg:∀ i,i<N→Rn (fun j=>ks.getD j 0) ks.length (as0 i) (as1 i)) (hsh:Vv (fun j=>ks.getD j 0) ks.length s.mem ks mem0) (hmaps:YE s.maps maps0) (hd1:Zc8 P f pv args' N vs0 as1 mem0 maps0)
  {K:Act→World→Prop} {Q:Exit→Act→World→Prop} (hQ:∀ w',Bel (Sh w (hdF hd ks s.mem false) mem0 maps0) w w'→MapRel P (Sh w (hdF hd ks s.mem false) mem0 maps0) w' maps0→Q (.panic [{ v:=pv,recovered:=false }]) a w'):o.wp P a w K Q:=by
 have hrun:(execOp a.eval o).run P w=.ok (.enter f (xs.map a.eval).toArray) w:=(HR h hcall).trans (Qj hd1.1 _ w)
 obtain ⟨hlen,_,hrep,hfam,hm0,hmp0,htl0⟩:=Gv h hP hnd hargs hgt hg hsh (YK hmaps)
 have hcalls:=hd1.2 w (xs.map a.eval) (hdF hd ks s.mem false) hlen hrep hfam hm0 hmp0 htl0
 unfold Oper.wp
 rw [hrun]
 simp only [Oper.upon]
 refine hcalls.mono ?_
 rintro e w' ⟨rfl,hb,hm⟩
 exact hQ w' hb hm
end
theorem GT {may:Nat→Prop} {w w':World} (h:Bel may w w') {a:Addr} (ha:may a.block) (v:Value):Bel may w (w'.setCell a v):=by
 refine ⟨h.os,h.tape,h.output,by simpa [World.setCell] using h.size,fun k hk hk2=>?_⟩
 rw [Below.heap_setCell _ _ _ k (fun e=>hk2 (by rw [e];exact ha))]
 exact h.block k hk hk2
theorem ZiP {may:Nat→Prop} {w w':World} (h:Bel may w w') (o:Obj):Bel may w (w'.alloc o):=by
 refine ⟨h.os,h.tape,h.output,by rw [World.size_alloc];have:=h.size;omega,fun k hk hk2=>?_⟩
 have hlt:k<w'.heap.size:=Nat.lt_of_lt_of_le hk h.size
 rw [Below.heap_alloc _ _ _ hlt]
 exact h.block k hk hk2
set_option maxRecDepth 20000 in
theorem ZdZ (E:PEnv) (i:Nat) (ho:E.Ans 95 [.ptr 0 6 0 0,.lit (.int .i64 0)] i none) :
  VProcG Tryz.prog 52 [.ptr 0 6 0 0] (E.lo.length+1) (vsP E.bp E.bo) (asP E.lo) [E.ob i] E.mps (fun av mem maps=>(av=.tup [.lit .nilIface,.lit (.bool false)]∧mem=[none])∧maps=E.mps):=by
 refine ⟨⟨_,Tryz.func52,by kernel_rfl,rfl⟩,fun w vs hd0 hlen hrep hfam hm hmp htl=>?_⟩
 have hrel:=(US (P:=Tryz.prog) (fn:=Tryz.f52) (by simp [Tryz.ntmps52]) hlen hrep hm hmp htl).tell 20 hfam
 suffices hX:∀ (X:Value→World→Prop),(∀ v w',(Bel (Sh w hd0 [E.ob i] E.mps) w w'∧MapRel Tryz.prog (Sh w hd0 [E.ob i] E.mps) w' E.mps∧v=.tuple #[.nilIface,.bool false])→X v w')→Calls Tryz.prog 52 vs.toArray w (fun e w'=>∃ v,e=.returned v∧X v w') from hX _ fun v w' ⟨h1,h2,h3⟩=>by
  subst h3
  refine ⟨h1,hd0,_,[none],E.mps,⟨⟨rfl,rfl⟩,rfl⟩,⟨Nat.le_refl _,rfl,fun k ob hk=>?_,fun b hb=>hb⟩,⟨fun _ _=>rfl,TailEq.refl _⟩,⟨fun k ob hk=>?_,fun k ob hk=>?_,fun k hk=>hm.hds k hk,fun k k' ob ob' hk=>?_⟩,h2,.tup _ [.nilIface,.bool false] rfl fun j a q g1 g2=>?_⟩
  ·cases k<;>simp at hk
  ·cases k<;>simp at hk
  ·cases k<;>simp at hk
  ·cases k<;>simp at hk
  ·rcases j with _ | _|j
   ·simp at g1 g2;subst g1;subst g2;exact .lit _
   ·simp at g1 g2;subst g1;subst g2;exact .lit _
   ·simp at g1
 intro X hX
 refine calls_of_wp_defers Tryz.func52 rfl ?_
 refine wp_seq (WE rfl _ hrel (K:=fun e s=>e=.normal∧s=UK E i) ?_ fun x hd' s' a' w' h' hk=>?_)
 ·simp only [Tryz.ntmps52,PEnv.ob,pOb,PEnv.mps,Xc,We]
  simp [go_sem]
  rfl
 ·obtain ⟨rfl,rfl⟩:=hk
  simp only [VX.out,Exit.then]
  refine wp_seq (wp_region_list ?_)
  have hmf:∀ (fn:Fn) (first cap:Array Value) (w:World),(Instr.makeFunc fn first cap).run Tryz.prog w=.ok (.func fn first cap) w:=fun _ _ _ _=>rfl
  have hsz:a'.tmps.size=20:=h'.size
  have hds:a'.defers=[]:=h'.defers
  obtain ⟨b2,n2,c2,hb2,hp2⟩:=Ql (h'.tm 2)
  obtain ⟨b3,n3,c3,hb3,hp3⟩:=Ql (h'.tm 3)
  simp [hsz] at hp2 hp3
  simp [wpList,Region.wanted,Oper.wp,Oper.upon,go_sem,hmf,hsz,hds,hp2,hp3,Exit.then]
  refine .inl (.inl ?_)
  have h2:RelH 20 ⟨Tryz.prog,Sh w hd0 [E.ob i] E.mps,hd0,[⟨.fn (.func 98) #[.pointer (some ⟨b2,0,none⟩),.pointer (some ⟨b3,0,none⟩)],#[]⟩]⟩ w hd' (UK E i) ⟨a'.tmps.setIfInBounds 4 (.func (.func 98) #[] #[.pointer (some ⟨b2,0,none⟩),.pointer (some ⟨b3,0,none⟩)]),[⟨.fn (.func 98) #[.pointer (some ⟨b2,0,none⟩),.pointer (some ⟨b3,0,none⟩)],#[]⟩]⟩ w':=by
   refine ⟨rfl,by simp [hsz],h'.below,h'.le,h'.fixl,h'.fix,h'.mp,fun t=>?_,h'.me⟩
   by_cases ht:t=4
   ·subst ht
    exact .undef _
   ·have:=h'.tm t
    rwa [show (a'.tmps.setIfInBounds 4 (.func (.func 98) #[] #[.pointer (some ⟨b2,0,none⟩),.pointer (some ⟨b3,0,none⟩)])).getD t undef=a'.tmps.getD t undef by
     simp only [Array.getD_eq_getD_getElem?];rw [Array.getElem?_setIfInBounds_ne (by omega)]]
  refine wp_seq (wp_region_list ?_)
  unfold wpList
  rw [if_pos (by simp [Region.wanted])]
  refine .inl ?_
  have hmove:∀ (o:Oper) (a:Act) (w:World) {K:Act→World→Prop} {Q:Exit→Act→World→Prop},o.op=.move (.tmp 0)→K (a.put o.dst (a.eval (.tmp 0))) w→o.wp Tryz.prog a w K Q:=fun o a w K Q ho hK=>by
   unfold Oper.wp
   rw [show (execOp a.eval o).run Tryz.prog w=.ok (.value (a.eval (.tmp 0))) w by unfold execOp;simp only [ho];rfl]
   exact hK
  refine hmove _ _ _ rfl ?_
  have h3:=h2.put (t:=5) (by omega) (h2.ev_ (.tmp 0))
  generalize hw3:w'=w3 at h3 ⊢
  generalize ha3:Act.put _ (some 5) _=a3 at h3 ⊢
  unfold wpList
  rw [if_pos (by simp [Region.wanted])]
  refine .inl ?_
  have ho':Zc8 Tryz.prog 95 Zaw [.ptr 0 6 0 0,.lit (.int .i64 0)] (E.lo.length+1) (vsP E.bp E.bo) (asP E.lo) [E.ob i] E.mps:=ho
  refine Zfn (s:={ UK E i with tmps:=(5,.ptr 0 6 0 0)::(UK E i).tmps }) (f:=95) (xs:=[.tmp 5,.const (.int .i64 0)]) (ks:=[0]) (t:=20) h3 rfl ?_ (by simp) ?_ (N:=E.lo.length+1) (vs0:=vsP E.bp E.bo) (as0:=asP E.lo) (as1:=asP E.lo) ?_ (fun i _=>rnP E.lo i) ?_ ?_ ho' fun w4 hb4 hm4=>?_
  ·simp [WO,W6]
  ·simp [go_sem]
  ·rfl
  ·simp [go_sem,UK,PEnv.ob,pOb]
   exact fun i c _ h=>Zs E.t i c h
  ·exact E.mpsLe []
  ·simp only [Exit.then,bodyPostD]
   have hmay:∀ b,Sh w3 (hdF hd' [0] (UK E i).mem false) [E.ob i] E.mps b→Sh w hd0 [E.ob i] E.mps b:=by
    rintro b (h1|⟨j,ob',h1,h2⟩|h1)
    ·exact h3.le _ (Nat.le_trans h3.below.size h1)
    ·cases j with
     |zero=>
      rw [X2 (by simp)] at h2
      exact h3.me.alw 0 _ rfl b h2
     |succ j=>simp at h1
    ·exact .inr (.inr h1)
   obtain ⟨g2,cap2,cur2,e2,hg2,hq2⟩:=Zhw h3 (k:=1) rfl (by decide)
   obtain ⟨g3,cap3,cur3,e3,hg3,hq3⟩:=Zhw h3 (k:=2) rfl (by decide)
   have ev2:g2=b2:=by rw [hb2] at e2;simp at e2;exact e2.1.symm
   have ev3:g3=b3:=by rw [hb3] at e3;simp at e3;exact e3.1.symm
   subst ev2;subst ev3
   have o2:(hd' 1).ownBlock=some g2:=by rw [e2];rfl
   have o3:(hd' 2).ownBlock=some g3:=by rw [e3];rfl
   have m2:=h3.me.alw 1 _ rfl g2 o2
   have m3:=h3.me.alw 2 _ rfl g3 o3
   have h23:g2≠g3:=fun e=>by
    rcases h3.me.apart 1 2 _ _ rfl rfl (by omega) with h|h
    ·rw [o2] at h;simp at h
    ·exact h (by rw [o2,o3,e])
   have notSh:∀ (k:Nat) (ob:Ob) (g:Nat),k≠0→(UK E i).mem[k]?=some (some ob)→(hd' k).ownBlock=some g→g<w3.heap.size→¬Sh w3 (hdF hd' [0] (UK E i).mem false) [E.ob i] E.mps g:=by
    intro k ob g hk hm hg hlt
    rintro (h1|⟨j,ob',h1,h2⟩|h1)
    ·omega
    ·cases j with
     |zero=>
      rw [X2 (by simp)] at h2
      rcases h3.me.apart k 0 ob _ hm rfl hk with h|h
      ·rw [hg] at h;simp at h
      ·exact h (by rw [hg];exact h2.symm)
     |succ j=>simp at h1
    ·cases hq:lkm E.mps g with
     |none=>rw [hq] at h1;simp at h1
     |some mp=>exact (W9 h3 (b:=g) (mp:=mp) hq).2 k ob hm hg
   have l2:g2<w3.heap.size:=(Array.getElem?_eq_some_iff.1 hg2).1
   have l3:g3<w3.heap.size:=(Array.getElem?_eq_some_iff.1 hg3).1
   have k2:w4.heap[g2]?=some (.cells cur2 92 (0,0)):=(hb4.block g2 l2 (notSh 1 _ g2 (by omega) rfl o2 l2)).trans hg2
   have k3:w4.heap[g3]?=some (.cells cur3 4 (0,0)):=(hb4.block g3 l3 (notSh 2 _ g3 (by omega) rfl o3 l3)).trans hg3
   obtain ⟨x,hx,hfx⟩:=ZbS k2 hq2
   obtain ⟨y,hy,hfy⟩:=ZbS k3 hq3
   have hbel:Bel (Sh w hd0 [E.ob i] E.mps) w w4:=⟨hb4.os.trans h3.below.os,hb4.tape.trans h3.below.tape,hb4.output.trans h3.below.output,Nat.le_trans h3.below.size hb4.size,fun k hk hk2=>(hb4.block k (Nat.lt_of_lt_of_le hk h3.below.size) (fun e=>hk2 (hmay k e))).trans (h3.below.block k hk hk2)⟩
   obtain ⟨b2',_,_,hb2',ht2⟩:=Ql (h3.tm 2)
   obtain ⟨b3',_,_,hb3',ht3⟩:=Ql (h3.tm 3)
   have ev2:b2'=g2:=by rw [hb2'] at e2;simp at e2;exact e2.1
   have ev3:b3'=g3:=by rw [hb3'] at e3;simp at e3;exact e3.1
   subst ev2;subst ev3
   have hs3:a3.tmps.size=20:=h3.size
   rw [show a3.defers=_ from h3.defers]
   refine leaves_cons (f:=98) (args:=#[.pointer (some ⟨b2',0,none⟩),.pointer (some ⟨b3',0,none⟩)]) (by simp) (by simp [go_sem]) ?_
   refine (ZgU ⟨b2',0,none⟩ ⟨b3',0,none⟩ x y 0 [] w4 hx hfx hy hfy h23).mono ?_
   rintro e u' w'' ⟨rfl,rfl,rfl⟩
   have c2:(((w4.alloc (.cells #[] 168)).setCell ⟨b2',0,none⟩ .nilIface).setCell ⟨b3',0,none⟩ (.bool false)).cell? ⟨b2',0,none⟩=some .nilIface:=by
    rw [World.cell?_setCell_other _ _ _ _ (fun e=>h23 (by simpa using e.symm))]
    exact World.cell?_setCell_same _ _ _ ((World.cell?_alloc_lt _ _ _ (World.block_lt_of_cell? w4 _ hx)).trans hx)
   have c3:(((w4.alloc (.cells #[] 168)).setCell ⟨b2',0,none⟩ .nilIface).setCell ⟨b3',0,none⟩ (.bool false)).cell? ⟨b3',0,none⟩=some (.bool false):=by
    refine World.cell?_setCell_same (u:=y) _ _ _ ?_
    rw [World.cell?_setCell_other _ _ _ _ (fun e=>h23 (by simp at e))]
    exact (World.cell?_alloc_lt _ _ _ (World.block_lt_of_cell? w4 _ hy)).trans hy
   refine ⟨.tuple #[.nilIface,.bool false],?_,_,rfl,hX _ _ ⟨GT (GT (ZiP hbel _) m2 _) m3 _,fun b mp hb=>?_,rfl⟩⟩
   ·generalize ((w4.alloc (.cells #[] 168)).setCell ⟨b2',0,none⟩ .nilIface).setCell ⟨b3',0,none⟩ (.bool false)=W at c2 c3
    simp [hs3] at ht2 ht3
    simp [results,Tryz.results52,go_sem,hs3,ht2,ht3,c2,c3]
   ·obtain ⟨hb1,es,clock,hh,hmi⟩:=hm4 b mp hb
    refine ⟨hmay b hb1,es,clock,?_,hmi⟩
    have hlt:b<w4.heap.size:=(Array.getElem?_eq_some_iff.1 hh).1
    rw [Below.heap_setCell _ _ _ _ (fun e=>by rw [e,k3] at hh;simp at hh),Below.heap_setCell _ _ _ _ (fun e=>by rw [e,k2] at hh;simp at hh),Below.heap_alloc _ _ _ hlt]
    exact hh
end Go.Proofs.YtjdmmhcogmepaaaGreatDoor.V
namespace Go.Proofs.YtjdmmhcogmepaaaGreatDoor.V
open Go.RowKit
open Go.Proofs.YtjdmmhcogmepaaaGreatDoor.Ops (Tr Tk Lv Res Fit OF)
def Ux (t:List PTok) (i j:Nat):List AV:=[.lit (.int .i64 (if j<i then Zaj t j else 0))]
theorem Zba (t:List PTok) (i j:Nat):Ux t i j=[.lit (.int .i64 (if j<i then Zaj t j else 0))]:=rfl
theorem Gk (t:List PTok) (i j:Nat) (c:AV) (h:c∈Ux t i j):Closed c:=by
 simp only [Ux,List.mem_singleton] at h
 subst h;exact .lit _
set_option maxRecDepth 100000 in
theorem Zkt (l:List POp) (hl:l.length≤9223372036854775807) (hw:YT l) (z:ByteArray) (hz:z.size≤1048576):VFun Tryz.prog 19 [.agg [.sl 4 l.length (Zg l)],.lit (.string z)] (paR l z):=by
 have cl:∀ (i:Nat) (c:AV),i<l.length→c∈Zg l i→Closed c:=fun i c _ h=>ZK l i c h
 refine Zi Tryz.func19 (by kernel_rfl) rfl (by simp [Tryz.ntmps19]) ?_;simp only [Tryz.ntmps19,Tryz.results19];simp [go_sem]
 refine Zc (Q2 l hl hw) ?_ ?_
 ·simp [go_sem]
  exact Ze (by omega) cl
 ·simp [go_sem]
  refine ⟨fun h0=>Wy (by simp [parZ,h0]),fun h0=>?_⟩
  have hu:=WF h0
  refine ⟨fun h1=>Wy ?_,fun h1=>?_⟩
  ·have:¬z.size≤20000:=by omega
   simp [parZ,h0,this]
  have hz2:z.size≤20000:=by omega
  have h1:X0 l z=true:=by simp [X0,h0,hz2]
  refine ZR (ZmN l hl hw z hz) ?_ ?_
  ·simp [go_sem]
   exact Ze (by omega) cl
  ·rintro av obs (⟨h2,_⟩|⟨_,rfl,rfl⟩)
   ·rw [h1] at h2;cases h2
   simp [go_sem]
   have hends:=QS h1
   obtain ⟨hq1,hq2⟩:=Kn (l:=l) (z:=z) (by omega)
   obtain ⟨t,ht⟩:∃ t,t=X6 l z:=⟨_,rfl⟩
   have hpar:parZ l z=parK l t:=by rw [parZ,if_neg (by omega),if_neg (by omega),←ht]
   rw [←ht] at hends hq1 hq2 ⊢
   have clt:∀ (i:Nat) (c:AV),i<t.length→c∈Zr t i→Closed c:=fun i c _ h=>Zs t i c h
   have hto:t.length+Xp t≤1048576:=by omega
   refine ⟨by omega,by omega,by omega,by omega,?_⟩
   refine Yn (fun i:Nat=>i≤t.length) (fun i=>t.length-i) (fun i=>.of [(2,.ptr 0 1 0 0),(4,.ptr 1 1 0 0),(5,.lit (.int .i64 0)),(6,.lit (.int .i64 0)),(7,.own 2),(9,.own 3),(10,.lit (.int .i64 (Xp (t.take i)))),(36,.own 2),(37,.lit (.int .i64 t.length)),(38,.lit (.int .i64 i))] [some ⟨30,1,1,fun _=>[.sl 4 l.length (Zg l)]⟩,some ⟨37,1,1,fun _=>[.lit (.slice none 0 0)]⟩,some ⟨88,3,t.length,Zr t⟩,some ⟨3,1,t.length,Ux t i⟩]) ⟨0,by omega,?_⟩ (fun i hi=>?_)
   ·simp [go_sem,Ux,Xp]
    exact ⟨cl,fun i hi c hc=>.closed _ (clt i c hi hc)⟩
   ·by_cases h:i<t.length
    ·have hup:∀ x:AV,ZaR t.length (Ux t i) i 0 [x] i=[x]:=fun x=>by
      rw [Uv h h,if_pos rfl];rfl
     have htk:=GO t i h
     have htl:=UR t (i+1)
     have hsz:VA (t.getD i default)=(Zj t i).gap.size+(Zj t i).text.size:=rfl
     have ew:IntKind.i64.wrap (((Xp (t.take i):Nat):Int)+(Zj t i).gap.size)=Zaj t i:=by rw [wrap_i64 (by omega)];simp [Zaj]
     have ew2:IntKind.i64.wrap (Zaj t i+(Zj t i).text.size)=((Xp (t.take (i+1)):Nat):Int):=by unfold Zaj;rw [wrap_i64 (by omega),htk,hsz];omega
     simp [go_sem,Zo,h,ew]
     refine Zq [] (.q 0 <| .q 1 <| .q 2 <| .q 3 <| .q 4 <| .q 5 <| .q 6 <| .q 7 <| .q 8 <| .done) (by kernel_rfl) ?_
     simp [go_sem,Zo,h,hup,ew2]
     refine ⟨i+1,by omega,by omega,⟨rfl,Zn (by omega)⟩,cl,fun j hj=>⟨?_,fun c hc=>.closed _ (Gk _ _ _ c hc)⟩⟩
     rw [Uv h hj]
     by_cases hji:j=i
     ·subst hji
      simp [Ux,Wt]
     ·rw [if_neg hji]
      simp only [Ux]
      by_cases h2:j<i
      ·rw [if_pos h2,if_pos (by omega)]
      ·rw [if_neg h2,if_neg (by omega)]
    ·obtain rfl:i=t.length:=by omega
     simp [go_sem]
     refine ⟨by omega,?_⟩
     refine Y9 (fun i:Nat=>i≤t.length∧∀ j,j<i→(Zj t j).kind≠6) (fun i=>t.length-i) (fun i=>.of [(2,.ptr 0 1 0 0),(4,.ptr 1 1 0 0),(5,.lit (.int .i64 0)),(6,.lit (.int .i64 0)),(7,.sl 3 t.length (Zr t)),(9,.own 3),(60,.sl 3 t.length (Zr t)),(61,.lit (.int .i64 t.length)),(62,.lit (.int .i64 i))] [some ⟨30,1,1,fun _=>[.sl 4 l.length (Zg l)]⟩,some ⟨37,1,1,fun _=>[.lit (.slice none 0 0)]⟩,none,some ⟨3,1,t.length,Ux t t.length⟩]) ⟨0,⟨by omega,by simp⟩,?_⟩ (fun i hi=>?_)
     ·refine (Ent.give [7,60] 2 rfl (fun i hi c hc=>clt i c hi hc) (by simp [lk])).trans (Ent.of_le ?_)
      simp [go_sem]
      exact ⟨clt,cl,fun i hi c hc=>.closed _ (Gk _ _ _ c hc)⟩
     ·by_cases h:i<t.length
      ·by_cases hk:(Zj t i).kind=6
       ·simp [go_sem,Zo,h,hk]
        refine Zq [5] (.q 0 <| .or 1 (.or 2 (.or 3 (.or 4 (.or 5 (.q 6 <| .q 7 <| .done) (.nil)) (.or 5 (.q 4 <| .q 6 <| .q 7 <| .done) (.nil))) (.or 5 (.q 3 <| .q 4 <| .q 6 <| .q 7 <| .done) (.nil))) (.or 5 (.q 2 <| .q 3 <| .q 4 <| .q 6 <| .q 7 <| .done) (.nil))) (.or 2 (.or 1 (.or 3 (.or 4 (.or 5 (.q 6 <| .q 7 <| .done) (.nil)) (.or 5 (.q 4 <| .q 6 <| .q 7 <| .done) (.nil))) (.or 5 (.q 3 <| .q 4 <| .q 6 <| .q 7 <| .done) (.nil))) (.or 5 (.q 1 <| .q 3 <| .q 4 <| .q 6 <| .q 7 <| .done) (.nil))) (.or 5 (.q 1 <| .q 2 <| .q 3 <| .q 4 <| .q 6 <| .q 7 <| .done) (.nil)))) (by kernel_rfl) ?_
        simp [go_sem,Zba,h]
        exact Wy (by rw [hpar,KO (Zb5 h hi.2 hk)])
       ·simp [go_sem,Zo,h,hk]
        refine ⟨i+1,⟨by omega,fun j hj=>?_⟩,by omega,Ent.of_le ?_⟩
        ·rcases Nat.lt_succ_iff_lt_or_eq.mp hj with hj|rfl
         ·exact hi.2 j hj
         ·exact hk
        ·simp [go_sem]
         exact ⟨⟨clt,Zn (by omega)⟩,cl,fun i hi c hc=>.closed _ (Gk _ _ _ c hc)⟩
      ·obtain rfl:i=t.length:=by omega
       have hnb:=J8 hi.2
       simp [go_sem]
       refine ZR (Zks l hl hw t (by omega) (fun i hi=>by have:=ZaT hi;unfold VA at this;simp only [maxLen];omega)) ?_ ?_
       ·simp [go_sem]
        exact ⟨Ze (by omega) cl,Ze (by omega) clt⟩
       ·rintro av obs ⟨rfl,rfl⟩
        simp [go_sem]
        rcases QL h0 hends with ⟨hr,hR⟩|⟨hr,hlt⟩
        ·rw [hr,hR]
         simp [go_sem]
         have F:=Jj h0 hr
         refine Zd [] (Jo l hl hw) (by simp) ?_ ?_ trivial ?_
         ·simp [go_sem]
          exact cl
         ·simp [go_sem]
         ·rintro av mem maps ⟨b1,b2,esA,esT,rfl,rfl,rfl,hb,hat,_⟩
          simp [go_sem]
          refine Zgf [] 109 (Zfs l t b1 b2 esA hu (XZ h0) hw hat) (by simp) ?_ ?_ ?_ ?_
          ·simp [go_sem]
           exact clt
          ·simp [go_sem]
          ·simp [go_sem]
           exact fun e=>hb e.symm
          ·rintro av mem' maps' N vs as1 ⟨lo,bp,bo,b3,b4,esN,esL,⟨n13,n14,n34⟩,rfl,rfl,rfl,rfl,rfl,rfl,hP⟩
           simp [go_sem]
           obtain ⟨E,hE⟩:∃ E:PEnv,E=⟨l,lo,t,bp,bo,b1,b2,b3,b4,esA,esN,esL,hP,by omega,fun i hi=>by have:=ZaT hi;unfold VA at this;simp only [maxLen];omega,n13,n14,n34⟩:=⟨_,rfl⟩
           obtain ⟨r,hrun,hcase⟩:=ZlH h0 F
           have ho:=ZiE E _ 0 0 0 (toksZ l t) r (by rw [hE];exact F.toks) F.fit hrun
           have hfam:∀ i,i<lo.length+1→Rn (fun j=>[5].getD j 0) 1 (Zh7 (XH [] 5) (asP lo i)) (asP lo i):=fun i _=>by
            cases i with
            |zero=>
             refine .bptr _ _ (by simp) fun j a b h1 h2=>?_
             match j with
             |0=>
              simp [XH,VN] at h1 h2
              subst h1;subst h2
              exact .ptr (f:=fun j=>[5].getD j 0) 0 6 0 0 (by omega)
             |j+1=>simp at h1
            |succ j=>
             have e:Zh7 (XH [] 5) (asP lo (j+1))=asP lo (j+1):=by simp [asP,Zh7,POp.cells,VN]
             rw [e]
             exact .closed _ (.bptr _ fun c hc=>by
              simp [POp.cells] at hc
              rcases hc with rfl|rfl|rfl|rfl<;>exact .lit _)
           have hob:Option.map (KL (XH [] 5)) (pOb b1 b2 b3 b4 t 0)=pOb b1 b2 b3 b4 t 0:=by simp [pOb,KL,VN]
           rw [hob]
           have hml:=E.mpsLe [(b2,⟨9,esT⟩),(b1,⟨151,esA⟩)]
           rw [hE] at hml
           cases r with
           |none=>
            simp only at hcase
            have cw:=ZdZ E 0 ho
            rw [hE] at cw
            refine YI [5] 109 cw (by simp) rfl hfam ?_ ?_ ?_ ?_
            ·simp [go_sem]
            ·simp [go_sem,PEnv.ob,pOb]
             exact clt
            ·exact hml
            ·rintro av mem maps ⟨⟨rfl,rfl⟩,rfl⟩
             simp [go_sem]
             exact Wy (by rw [hpar,UD hnb hr hcase])
           |some x=>
            obtain ⟨e,rest⟩:=x
            simp only at hcase
            obtain ⟨hat7,hcase⟩:=hcase
            have ea:E.at_ rest=t.length-1-rest.length:=by rw [hE];rfl
            have eT:E.t=t:=by rw [hE]
            have cw:=ZdY E 0 e rest (by rw [ea,eT];exact hat7) ho
            rw [ea,eT] at cw
            rcases hcase with ⟨hp,hk7⟩|⟨hp,hk7⟩
            ·rw [hk7,hE] at cw
             obtain ⟨e1,e2,e3,e4,e5⟩:=KN F hp
             obtain ⟨T,u,hT,_,fh,hmh,ch⟩:=UY e
             obtain ⟨T',u',hT',fn,hmn,cn⟩:=QO e [] e5 (by have:=Wn e [];have:=F.len;rw [e2] at *;simp only [List.length_nil] at *;omega)
             rw [hT] at cw hT'
             simp only [Value.iface.injEq] at hT'
             obtain ⟨rfl,rfl⟩:=hT'
             refine YI [5] 109 cw (by simp) rfl hfam ?_ ?_ ?_ ?_
             ·simp [go_sem]
             ·simp [go_sem,PEnv.ob,pOb]
              exact clt
             ·exact hml
             ·rintro av mem maps ⟨⟨rfl,rfl⟩,hM⟩
              simp [go_sem,hmh]
              refine Zc ch ?_ ?_
              ·simp [go_sem]
              ·simp [go_sem,hmn]
               refine ⟨fun h6=>Wy (by rw [hpar,QM hnb hr hp (by omega)]),fun h6=>?_⟩
               refine Zd [] (VProc.adoptNil (by omega) cn) (by simp) ?_ ?_ trivial ?_
               ·simp [go_sem]
               ·simp [go_sem]
               ·rintro av mem maps ⟨rfl,rfl,rfl⟩
                simp [go_sem,Zb]
                refine ⟨_,obsSame_one.mpr ⟨⟨77,4,(lay e []).length,Zf (lay e [])⟩,⟨rfl,rfl,rfl,fun j hj=>⟨rfl,Z5 _ j⟩⟩,rfl⟩,.inl ?_⟩
                rw [hpar,K6 hnb hr hp h6]
                exact ⟨rfl,rfl⟩
            ·have hk7':decide ((Zj t (t.length-1-rest.length)).kind=7)=false:=decide_eq_false hk7
             rw [hk7',hE] at cw
             refine YI [5] 109 cw (by simp) rfl hfam ?_ ?_ ?_ ?_
             ·simp [go_sem]
             ·simp [go_sem,PEnv.ob,pOb]
              exact clt
             ·exact hml
             ·rintro av mem maps ⟨⟨rfl,rfl⟩,hM⟩
              simp [go_sem]
              exact Wy (by rw [hpar,UD hnb hr hp])
        ·obtain ⟨q,hq⟩:∃ q:Nat,(Z8 l t).2=q:=⟨(Z8 l t).2.toNat,by omega⟩
         have hk:=UZ hnb hr
         rw [hq] at hr hlt hk ⊢
         simp only [Int.toNat_natCast] at hk
         have hq':q<t.length:=by omega
         refine ⟨fun _=>Zq [5] (.q 0 <| .or 1 (.or 2 (.or 3 (.or 4 (.or 5 (.q 6 <| .q 7 <| .done) (.nil)) (.or 5 (.q 4 <| .q 6 <| .q 7 <| .done) (.nil))) (.or 5 (.q 3 <| .q 4 <| .q 6 <| .q 7 <| .done) (.nil))) (.or 5 (.q 2 <| .q 3 <| .q 4 <| .q 6 <| .q 7 <| .done) (.nil))) (.or 2 (.or 1 (.or 3 (.or 4 (.or 5 (.q 6 <| .q 7 <| .done) (.nil)) (.or 5 (.q 4 <| .q 6 <| .q 7 <| .done) (.nil))) (.or 5 (.q 3 <| .q 4 <| .q 6 <| .q 7 <| .done) (.nil))) (.or 5 (.q 1 <| .q 3 <| .q 4 <| .q 6 <| .q 7 <| .done) (.nil))) (.or 5 (.q 1 <| .q 2 <| .q 3 <| .q 4 <| .q 6 <| .q 7 <| .done) (.nil)))) (by kernel_rfl) ?_,fun h=>by omega⟩
         simp [go_sem,Zba,hq']
         exact Wy (by rw [hpar,hk])
theorem ZhI (l:List POp) (hl:l.length≤9223372036854775807) (hw:YT l) (z:ByteArray) (hz:z.size≤1048576):VFun Tryz.prog 19 [.agg [.sl 4 l.length (Zg l)],.lit (.string z)] (fun av obs=>av=.tup [.agg [.own 0],.lit (.int .i64 (parZ l z).2.1),.lit (.int .i64 (parZ l z).2.2)]∧obs=[⟨77,4,(parZ l z).1.length,Zf (parZ l z).1⟩]):=
 (Zkt l hl hw z hz).adoptA 77 4 (by omega) (Zf []) fun av obs h=>Zhv h
theorem Kh {l:List POp} {t:List PTok} {rs:List Int} {B:Nat} (hB:∀ j,(Zj t j).text.size≤B):∀ (e:PT) (i:Nat) (out:List PNode),YW l t rs i e.yield→VQ B out→VQ B (lay e out)
 | .leaf b,i,out,h,ho=>by
  simp only [Tr.yield,YW,Vc] at h
  refine Xb ho ?_
  have:=h.1.2
  simp only [this]
  exact hB i
 | .grp e,i,out,h,ho=>by
  simp only [Tr.yield,YW] at h
  exact Xb (Kh hB e _ out (seg_append.1 h.2.2).1 ho) (Nat.zero_le _)
 | .pre o e,i,out,h,ho=>by
  simp only [Tr.yield,YW,Vc] at h
  obtain ⟨⟨_,ht,_⟩,_,h2⟩:=h
  exact Xb (Kh hB e _ out h2 ho) (by simp only [ht];exact hB i)
 | .post o e,i,out,h,ho=>by
  simp only [Tr.yield] at h
  obtain ⟨h1,h3⟩:=seg_append.1 h
  simp only [YW,Vc] at h3
  obtain ⟨⟨_,ht,_⟩,_⟩:=h3
  exact Xb (Kh hB e _ out h1 ho) (by simp only [ht];exact hB _)
 | .inf o x y,i,out,h,ho=>by
  simp only [Tr.yield] at h
  obtain ⟨h1,h3⟩:=seg_append.1 h
  simp only [YW,Vc] at h3
  obtain ⟨⟨_,ht,_⟩,_,h4⟩:=h3
  exact Xb (Kh hB y _ _ h4 (Kh hB x _ out h1 ho)) (by simp only [ht];exact hB _)
theorem Hu (l:List POp) (z:ByteArray):VQ 200000 (parZ l z).1:=by
 have nil:VQ 200000 ([]:List PNode):=fun i hi=>by simp at hi
 unfold parZ
 split
 ·exact nil
 ·rename_i h0
  have h0:Yv l=0:=Decidable.byContradiction h0
  split
  ·exact nil
  ·rename_i h1
   have h1:z.size≤20000:=Decidable.byContradiction h1
   have hok:X0 l z=true:=by simp [X0,h0,h1]
   obtain ⟨hq1,hq2⟩:=Kn (l:=l) (z:=z) (by omega)
   cases hb:Qv (X6 l z) with
   |some i=>rw [KO hb];exact nil
   |none=>
    rcases QL h0 (QS hok) with ⟨hr,_⟩|⟨hr,_⟩
    ·have F:=Jj h0 hr
     cases hp:partT l (X6 l z) with
     |none=>rw [UD hb hr hp];exact nil
     |some e=>
      obtain ⟨e1,e2,e3,e4,e5⟩:=KN F hp
      by_cases he:ZY e≤1000
      ·rw [K6 hb hr hp he]
       have hs:=F.seg
       rw [←e2] at hs
       refine Kh (fun j=>?_) e 0 [] hs nil
       by_cases hj:j<(X6 l z).length
       ·have:=ZaT hj
        unfold VA at this
        omega
       ·have:Zj (X6 l z) j=default:=by unfold Zj;rw [List.getD_eq_getElem?_getD,List.getElem?_eq_none (by omega)];rfl
        rw [this];decide
      ·rw [QM hb hr hp he];exact nil
    ·rw [UZ hb hr];exact nil
theorem Zau (l:List POp) (z:ByteArray):KP (parZ l z).1:=fun i hi=>by
 have:=Hu l z i hi
 unfold PNode.wf
 simp only [maxLen]
 omega
end Go.Proofs.YtjdmmhcogmepaaaGreatDoor.V
namespace Go.Proofs.YtjdmmhcogmepaaaGreatDoor.V
open Go.RowKit
theorem Qd {z:ByteArray} {p q i:Nat} (h:p+i<q) (hq:q≤z.size):Zh (z.extract p q) i=Zh z (p+i):=by
 have h1:i<(z.extract p q).size:=by rw [ByteArray.size_extract];omega
 have h2:p+i<z.size:=by omega
 unfold Zh
 rw [dif_pos h1,dif_pos h2,ByteArray.getElem_extract]
theorem Qt {a b:ByteArray} {i:Nat} (h:i<a.size):Zh (a++b) i=Zh a i:=by
 have h1:i<(a++b).size:=by rw [ByteArray.size_append];omega
 unfold Zh
 rw [dif_pos h1,dif_pos h,ByteArray.getElem_append_left h]
theorem Qs {a b:ByteArray} {i:Nat} (h:i<b.size):Zh (a++b) (a.size+i)=Zh b i:=by
 have h1:a.size+i<(a++b).size:=by rw [ByteArray.size_append];omega
 unfold Zh
 rw [dif_pos h1,dif_pos h,ByteArray.getElem_append_right (by omega)]
 simp
theorem ZdW (a b c:ByteArray):(a++b++c).extract a.size (a.size+b.size)=b:=by
 apply ByteArray.ext
 simp only [ByteArray.data_extract,ByteArray.data_append]
 apply Array.toList_inj.1
 simp [←ByteArray.size_data]
theorem Gd {c:Int} (h:XT c=true):X7 c=false∧Uq c=false∧YH c=false∧c≠40∧c≠41:=by
 simp only [XT,List.any_eq_true,List.mem_range,decide_eq_true_eq] at h
 obtain ⟨i,hi,rfl⟩:=h
 rcases (by omega:i=0∨i=1∨i=2∨i=3∨i=4∨i=5∨i=6∨i=7∨i=8∨i=9∨i=10∨i=11∨i=12∨i=13∨i=14∨i=15∨i=16∨i=17) with h|h|h|h|h|h|h|h|h|h|h|h|h|h|h|h|h|h<;>subst h<;>decide
theorem Zed {c:Int} (h:ZZ c=true):XT c=false∧YH c=false∧c≠40∧c≠41:=by
 refine ⟨?_,?_⟩
 ·cases e:XT c with
  |false=>rfl
  |true=>
   obtain ⟨h1,h2,_⟩:=Gd e
   simp [ZZ,h1,h2] at h
 ·simp only [ZZ,X7,Uq,Bool.or_eq_true,Bool.and_eq_true,decide_eq_true_eq] at h
  simp only [YH,decide_eq_false_iff_not]
  omega
def Zlt (w:ByteArray):Prop:=∀ i,i<w.size→XT (Zh w i)=true
def ZkG (w:ByteArray):Prop:=∀ i,i<w.size→ZZ (Zh w i)=true
theorem Gl {w:ByteArray} (h:VE w=true):ZkG w∧0<w.size:=by
 simp only [VE,Bool.and_eq_true,List.all_eq_true,List.mem_range,decide_eq_true_eq] at h
 exact ⟨fun i hi=>by simp [ZZ,h.1 i hi],h.2⟩
theorem JZ {w:ByteArray} (h:Vx w=true):ZkG w∧0<w.size:=by
 simp only [Vx,Bool.and_eq_true,List.all_eq_true,List.mem_range,decide_eq_true_eq,X9,Bool.or_eq_true] at h
 refine ⟨fun i hi=>?_,h.2⟩
 rcases h.1 i hi with e|⟨_,e⟩<;>simp [ZZ,e]
theorem QK {w:ByteArray} (h:Kg w=true):Zlt w∧0<w.size∧w.size≤16:=by
 simp only [Kg,Za2,Bool.and_eq_true,List.all_eq_true,List.mem_range,decide_eq_true_eq] at h
 exact ⟨h.1.1,h.1.2,h.2⟩
theorem Vi {o:POp} (h:Yx o=true):Kg o.text=true:=by
 simp only [Yx,Bool.and_eq_true] at h
 exact h.1
theorem ZgO {l:List POp} (hok:∀ j,j<l.length→Yx (Zm l j)=true) {w:ByteArray} (h:QT l w=true):Kg w=true:=by
 simp only [QT,Bool.or_eq_true,YU] at h
 rcases h with (⟨j,hj,e,_⟩|⟨j,hj,e,_⟩)|⟨j,hj,e,_⟩<;>(rw [←e];exact Vi (hok j hj))
inductive WordOk (l:List POp) (w:ByteArray):Prop where
 |op (h:Zlt w) (h0:0<w.size) (h1:w.size≤16) (k:Yd l w=3)
 |al (h:ZkG w) (h0:0<w.size) (k:Yd l w=1∨Yd l w=2)
 |opn (h:w=⟨#[40]⟩) (k:Yd l w=4)
 |cls (h:w=⟨#[41]⟩) (k:Yd l w=5)
theorem ZkH {l:List POp} (hok:∀ j,j<l.length→Yx (Zm l j)=true) {w:ByteArray} (h:Yd l w≠6):WordOk l w:=by
 by_cases h1:VE w=true
 ·exact .al (Gl h1).1 (Gl h1).2 (by simp [Yd,h1])
 ·by_cases h2:Vx w=true
  ·exact .al (JZ h2).1 (JZ h2).2 (by simp [Yd,h1,h2])
  ·by_cases h3:w=⟨#[40]⟩
   ·refine .opn h3 ?_
    simp only [Yd,h1,h2]
    simp [h3]
   ·by_cases h4:w=⟨#[41]⟩
    ·refine .cls h4 ?_
     simp only [Yd,h1,h2,h3]
     simp [h4]
    ·by_cases h5:QT l w=true
     ·obtain ⟨g1,g2,g3⟩:=QK (ZgO hok h5)
      exact .op g1 g2 g3 (by simp [Yd,h1,h2,h3,h4,h5])
     ·exact absurd (by simp [Yd,h1,h2,h3,h4,h5]) h
theorem ZgL {l:List POp} (hok:∀ j,j<l.length→Yx (Zm l j)=true) {w:ByteArray} (h0:0<w.size) (hs:XT (Zh w 0)=true) {j:Nat} (hj:j<w.size) (hn:XT (Zh w j)=false):Yd l w=6:=by
 refine Decidable.byContradiction fun hk=>?_
 obtain ⟨s1,s2,s3,s4,s5⟩:=Gd hs
 cases ZkH hok hk with
 |op h=>rw [h j hj] at hn;cases hn
 |al h=>have:=h 0 h0;simp [ZZ,s1,s2] at this
 |opn h=>subst h;exact s4 rfl
 |cls h=>subst h;exact s5 rfl
theorem U3 {l:List POp} {z:ByteArray} {i:Nat} {m:Nat} (hm:1≤m) (hk:m=1∨Yd l (z.extract i (i+m))≠6):∀ n,m≤n→(∀ k,m<k→k≤n→Yd l (z.extract i (i+k))=6)→Wa l z i n=m
 |0,h,_=>by omega
 |n+1,h,h6=>by
  unfold Wa
  by_cases e:m=n+1
  ·by_cases e0:n=0
   ·rw [if_pos e0];omega
   ·rw [if_neg e0]
    rcases hk with hk|hk
    ·omega
    ·rw [←e,if_pos hk]
  ·rw [if_neg (by omega),if_neg (by rw [h6 (n+1) (by omega) (by omega)];simp)]
   exact U3 hm hk n (by omega) fun k h1 h2=>h6 k h1 (by omega)
theorem Zdx {p:Int→Bool} {z:ByteArray}:∀ (n f:Nat),f+n≤z.size→(∀ j,j<n→p (Zh z (f+j))=true)→(f+n=z.size∨p (Zh z (f+n))=false)→run p z f=n
 |0,f,h,_,hs=>by
  rcases hs with hs|hs
  ·exact Vd (by omega)
  ·by_cases e:f<z.size
   ·exact V0 e (by simpa using hs)
   ·exact Vd (by omega)
 |n+1,f,h,ha,hs=>by
  have h0:=ha 0 (by omega)
  rw [Wv (by omega) (by simpa using h0),Zdx n (f+1) (by omega) (fun j hj=>by have:=ha (j+1) (by omega);rwa [show f+(j+1)=f+1+j by omega] at this) (by rwa [show f+1+n=f+(n+1) by omega])]
  omega
def ZfU (w:ByteArray) (c:Int):Prop:=(XT (Zh w 0)=true→XT c=false)∧(ZZ (Zh w 0)=true→ZZ c=false)
theorem ZgJ {l:List POp} (hok:∀ j,j<l.length→Yx (Zm l j)=true) {z:ByteArray} {p q:Nat} (hpq:p<q) (hq:q≤z.size) (hw:WordOk l (z.extract p q)) (hs:q=z.size∨ZfU (z.extract p q) (Zh z q)):ZV l z p=q-p:=by
 have hsz:(z.extract p q).size=q-p:=by rw [ByteArray.size_extract];omega
 have hb0:Zh (z.extract p q) 0=Zh z p:=by rw [Qd (by omega) hq];rfl
 have hext:p+(q-p)=q:=by omega
 unfold ZV
 have hr:=UC z p (by omega)
 cases hw with
 |op h h0 h1 k=>
  have hf:XT (Zh z p)=true:=by rw [←hb0];exact h 0 h0
  rw [hsz] at h1
  refine U3 (by omega) (.inr (by rw [hext,k];decide)) _ (by unfold YC;rw [if_pos hf];split<;>omega) fun n hn1 hn2=>?_
  rcases hs with hs|hs
  ·omega
  ·have hx:(z.extract p (p+n)).size=n:=by rw [ByteArray.size_extract];omega
   refine ZgL hok (by omega) (by rw [Qd (by omega) (by omega)];exact hf) (j:=q-p) (by omega) ?_
   rw [Qd (by omega) (by omega),hext]
   exact hs.1 (by rw [hb0];exact hf)
 |al h h0 k=>
  have hf:ZZ (Zh z p)=true:=by rw [←hb0];exact h 0 h0
  have hrn:1+run ZZ z (p+1)=q-p:=by
   rw [Zdx (p:=ZZ) (q-p-1) (p+1) (by omega) (fun j hj=>by
    have:=h (j+1) (by omega)
    rw [Qd (by omega) hq] at this
    rwa [show p+1+j=p+(j+1) by omega]) ?_]
   ·omega
   ·rw [show p+1+(q-p-1)=q by omega]
    rcases hs with hs|hs
    ·exact .inl hs
    ·exact .inr (hs.2 (by rw [hb0];exact hf))
  have hre:YC z p=q-p:=by
   unfold YC
   rw [if_neg (by rw [(Zed hf).1];simp),if_pos hf,hrn]
  rw [hre]
  refine U3 (by omega) (.inr ?_) _ (Nat.le_refl _) fun n hn1 hn2=>by omega
  rw [hext];omega
 |opn h k=>
  have e1:q-p=1:=by rw [←hsz,h];rfl
  have hf:Zh z p=40:=by rw [←hb0,h];rfl
  have hre:YC z p=1:=by
   unfold YC
   rw [hf,if_neg (by decide),if_neg (by decide)]
  rw [hre,e1]
  exact U3 (by omega) (.inl rfl) 1 (by omega) fun n hn1 hn2=>by omega
 |cls h k=>
  have e1:q-p=1:=by rw [←hsz,h];rfl
  have hf:Zh z p=41:=by rw [←hb0,h];rfl
  have hre:YC z p=1:=by
   unfold YC
   rw [hf,if_neg (by decide),if_neg (by decide)]
  rw [hre,e1]
  exact U3 (by omega) (.inl rfl) 1 (by omega) fun n hn1 hn2=>by omega
theorem Q5 {l:List POp} {w:ByteArray} (h:WordOk l w):0<w.size∧YH (Zh w 0)=false:=by
 cases h with
 |op h h0 h1 k=>exact ⟨h0,(Gd (h 0 h0)).2.2.1⟩
 |al h h0 k=>exact ⟨h0,(Zed (h 0 h0)).2.1⟩
 |opn h k=>subst h;exact ⟨by decide,by decide⟩
 |cls h k=>subst h;exact ⟨by decide,by decide⟩
theorem ZjV {l:List POp} (hok:∀ j,j<l.length→Yx (Zm l j)=true) {z:ByteArray} {f p q:Nat} (hfp:f≤p) (hpq:p<q) (hq:q≤z.size) (hg:∀ j,f≤j→j<p→YH (Zh z j)=true) (hw:WordOk l (z.extract p q)) (hs:q=z.size∨ZfU (z.extract p q) (Zh z q)) :
  YB l z f=⟨Yd l (z.extract p q),z.extract f p,z.extract p q⟩::YB l z q:=by
 have hr:run YH z f=p-f:=by
  refine Zdx (p-f) f (by omega) (fun j hj=>hg _ (by omega) (by omega)) (.inr ?_)
  have:=(Q5 hw).2
  rw [Qd (by omega) hq] at this
  rw [show f+(p-f)=p by omega];exact this
 have hl:=ZgJ hok hpq hq hw hs
 rw [Vl (i:=p) (by omega) (by omega),hl,show p+(q-p)=q by omega]
theorem Zk2 {l:List POp} {z:ByteArray} {f:Nat} (hf:f≤z.size) (hg:∀ j,f≤j→j<z.size→YH (Zh z j)=true):YB l z f=[⟨7,z.extract f z.size,⟨#[]⟩⟩]:=by
 have hr:run YH z f=z.size-f:=Zdx (z.size-f) f (by omega) (fun j hj=>hg _ (by omega) (by omega)) (.inl (by omega))
 rw [WK (i:=z.size) (by omega) (by omega)]
def Zcd (g:ByteArray):Prop:=∀ i,i<g.size→YH (Zh g i)=true
def Xi:List (ByteArray×ByteArray)→ByteArray→ByteArray
 |[],g=>g
 |x::r,g=>x.1++x.2++Xi r g
def GH (l:List POp):List (ByteArray×ByteArray)→ByteArray→Prop
 |[],g=>Zcd g
 |x::r,g=>Zcd x.1∧WordOk l x.2∧(match r with|[]=>True|y::_=>0<y.1.size∨ZfU x.2 (Zh y.2 0))∧GH l r g
theorem ZgM {l:List POp}:∀ (r:List (ByteArray×ByteArray)) (g:ByteArray),GH l r g→(Xi r g).size=0∨(0<(Xi r g).size∧((YH (Zh (Xi r g) 0)=true)∨∃ y s,r=y::s∧y.1.size=0∧Zh (Xi r g) 0=Zh y.2 0))
 |[],g,h=>by
  by_cases e:g.size=0
  ·exact .inl e
  ·exact .inr ⟨by simp only [Xi];omega,.inl (h 0 (by omega))⟩
 |y::s,g,h=>by
  have hw:=Q5 h.2.1
  refine .inr ⟨by simp only [Xi,ByteArray.size_append];omega,?_⟩
  by_cases e:y.1.size=0
  ·refine .inr ⟨y,s,rfl,e,?_⟩
   simp only [Xi]
   rw [Qt (by rw [ByteArray.size_append];omega)]
   have:=Qs (a:=y.1) (b:=y.2) (i:=0) hw.1
   rwa [e] at this
  ·refine .inl ?_
   simp only [Xi]
   rw [Qt (by rw [ByteArray.size_append];omega),Qt (by omega)]
   exact h.1 0 (by omega)
theorem ZfM {w:ByteArray} {c:Int} (h:YH c=true):ZfU w c:=by
 refine ⟨fun _=>?_,fun _=>?_⟩
 ·cases e:XT c with
  |false=>rfl
  |true=>rw [(Gd e).2.2.1] at h;cases h
 ·cases e:ZZ c with
  |false=>rfl
  |true=>rw [(Zed e).2.1] at h;cases h
theorem Ze7 {l:List POp} (hok:∀ j,j<l.length→Yx (Zm l j)=true):∀ (r:List (ByteArray×ByteArray)) (g pre:ByteArray),GH l r g→YB l (pre++Xi r g) pre.size=r.map (fun x=>⟨Yd l x.2,x.1,x.2⟩)++[⟨7,g,⟨#[]⟩⟩]
 |[],g,pre,h=>by
  simp only [Xi,List.map_nil,List.nil_append]
  rw [Zk2 (by rw [ByteArray.size_append];omega) fun j h1 h2=>?_]
  ·have:=ZdW pre g ByteArray.empty
   rw [ByteArray.append_empty] at this
   rw [ByteArray.size_append,this]
  ·rw [ByteArray.size_append] at h2
   rw [show j=pre.size+(j-pre.size) by omega,Qs (by omega)]
   exact h _ (by omega)
 |x::r,g,pre,h=>by
  obtain ⟨hb,hw,hn,hr⟩:=h
  obtain ⟨z,hz⟩:∃ z,z=pre++Xi (x::r) g:=⟨_,rfl⟩
  have hzs:z.size=pre.size+x.1.size+x.2.size+(Xi r g).size:=by rw [hz];simp only [Xi,ByteArray.size_append];omega
  have e1:z=pre++x.1++(x.2++Xi r g):=by rw [hz];simp [Xi,ByteArray.append_assoc]
  have e2:z=(pre++x.1)++x.2++Xi r g:=by rw [hz];simp [Xi,ByteArray.append_assoc]
  have x1:z.extract pre.size (pre.size+x.1.size)=x.1:=by rw [e1];exact ZdW _ _ _
  have x2:z.extract (pre.size+x.1.size) (pre.size+x.1.size+x.2.size)=x.2:=by
   have:=ZdW (pre++x.1) x.2 (Xi r g)
   rw [ByteArray.size_append] at this
   rw [e2];exact this
  have hpos:=(Q5 hw).1
  rw [←hz]
  have hword:=ZjV hok (z:=z) (f:=pre.size) (p:=pre.size+x.1.size) (q:=pre.size+x.1.size+x.2.size) (by omega) (by omega) (by omega) (fun j h1 h2=>by
   rw [e1,Qt (by rw [ByteArray.size_append];omega),show j=pre.size+(j-pre.size) by omega,Qs (by omega)]
   exact hb _ (by omega)) (by rw [x2];exact hw) (by
   rw [x2]
   rcases ZgM r g hr with e|⟨e,e3⟩
   ·exact .inl (by omega)
   ·refine .inr ?_
    have hc:Zh z (pre.size+x.1.size+x.2.size)=Zh (Xi r g) 0:=by
     have:=Qs (a:=(pre++x.1)++x.2) (b:=Xi r g) (i:=0) e
     rw [←e2] at this
     simp only [ByteArray.size_append,Nat.add_zero] at this
     exact this
    rw [hc]
    rcases e3 with e3|⟨y,s,rfl,e4,e5⟩
    ·exact ZfM e3
    ·rcases hn with hn|hn
     ·omega
     ·rw [e5];exact hn)
  rw [hword,x1,x2]
  have ih:=Ze7 hok r g ((pre++x.1)++x.2) hr
  rw [←e2] at ih
  simp only [ByteArray.size_append] at ih
  rw [ih]
  rfl
open Go.Proofs.YtjdmmhcogmepaaaGreatDoor.Ops (Tr Tk Lv Res Fit OF)
def tkW:TkP→ByteArray
 | .leaf b=>b.2
 | .opn=>⟨#[40]⟩
 | .cls=>⟨#[41]⟩
 | .pre o=>o.text
 | .inf o=>o.text
 | .post o=>o.text
def K0 (l:List POp):TkP→Prop
 | .leaf b=>(b.1=1∧VE b.2=true)∨(b.1=2∧Vx b.2=true)
 | .pre o=>o.kind=1∧InL l o
 | .inf o=>o.kind=2∧InL l o
 | .post o=>o.kind=3∧InL l o
 | _=>True
theorem ZkZ {w:ByteArray} (h:Vx w=true):VE w=false:=by
 cases e:VE w with
 |false=>rfl
 |true=>
  simp only [VE,Vx,X9,Bool.and_eq_true,List.all_eq_true,List.mem_range,decide_eq_true_eq,Bool.or_eq_true] at h e
  have h1:=h.1 0 h.2
  have h2:=e.1 0 h.2
  simp at h1
  simp only [X7,Uq,Bool.and_eq_true,decide_eq_true_eq] at h1 h2
  omega
theorem ZdO {l:List POp} (hok:∀ j,j<l.length→Yx (Zm l j)=true) {o:POp} (h:InL l o) (hk:1≤o.kind∧o.kind≤3):Yd l o.text=3:=by
 obtain ⟨j,hj,rfl⟩:=h
 have hs:=Vi (hok j hj)
 obtain ⟨s1,s2,s3⟩:=QK hs
 obtain ⟨n1,n2,n3,n4,n5⟩:=Gd (s1 0 s2)
 have e1:VE (Zm l j).text=false:=by
  cases e:VE (Zm l j).text with
  |false=>rfl
  |true=>
   simp only [VE,Bool.and_eq_true,List.all_eq_true,List.mem_range,decide_eq_true_eq] at e
   rw [e.1 0 s2] at n1;cases n1
 have e2:Vx (Zm l j).text=false:=by
  cases e:Vx (Zm l j).text with
  |false=>rfl
  |true=>
   have:=(JZ e).1 0 s2
   simp [ZZ,n1,n2] at this
 have e3:¬(Zm l j).text=⟨#[40]⟩:=fun e=>n4 (by rw [e];rfl)
 have e4:¬(Zm l j).text=⟨#[41]⟩:=fun e=>n5 (by rw [e];rfl)
 have e5:QT l (Zm l j).text=true:=by
  have hh:ZQ l (Zm l j).text (Zm l j).kind=true:=(YU l _ _).2 ⟨j,hj,rfl,rfl⟩
  rcases (by omega:(Zm l j).kind=1∨(Zm l j).kind=2∨(Zm l j).kind=3) with e|e|e<;>rw [e] at hh<;>simp [QT,hh]
 simp [Yd,e1,e2,e3,e4,e5]
theorem Zjl {l:List POp} (hok:∀ j,j<l.length→Yx (Zm l j)=true) {tk:TkP} (h:K0 l tk) (g:ByteArray):Vc l ⟨Yd l (tkW tk),g,tkW tk⟩ tk∧WordOk l (tkW tk):=by
 cases tk with
 |leaf b=>
  obtain ⟨k,w⟩:=b
  rcases h with ⟨h1,h2⟩|⟨h1,h2⟩
  ·simp only at h1 h2
   subst h1
   have e:Yd l w=1:=by simp [Yd,h2]
   exact ⟨⟨.inl e,by simp only [tkW];rw [e]⟩,.al (Gl h2).1 (Gl h2).2 (.inl e)⟩
  ·simp only at h1 h2
   subst h1
   have e:Yd l w=2:=by simp [Yd,h2,ZkZ h2]
   exact ⟨⟨.inr e,by simp only [tkW];rw [e]⟩,.al (JZ h2).1 (JZ h2).2 (.inr e)⟩
 |opn=>
  have e:Yd l ⟨#[40]⟩=4:=by
   have e1:VE ⟨#[40]⟩=false:=by decide
   have e2:Vx ⟨#[40]⟩=false:=by decide
   simp [Yd,e1,e2]
  exact ⟨e,.opn rfl e⟩
 |cls=>
  have e:Yd l ⟨#[41]⟩=5:=by
   have e1:VE ⟨#[41]⟩=false:=by decide
   have e2:Vx ⟨#[41]⟩=false:=by decide
   simp [Yd,e1,e2]
  exact ⟨e,.cls rfl e⟩
 |pre o=>
  have e:=ZdO hok h.2 (by have:=h.1;omega)
  obtain ⟨j,hj,rfl⟩:=h.2
  have hs:=QK (Vi (hok j hj))
  exact ⟨⟨e,rfl,h.1,j,hj,rfl⟩,.op hs.1 hs.2.1 hs.2.2 e⟩
 |inf o=>
  have e:=ZdO hok h.2 (by have:=h.1;omega)
  obtain ⟨j,hj,rfl⟩:=h.2
  have hs:=QK (Vi (hok j hj))
  exact ⟨⟨e,rfl,h.1,j,hj,rfl⟩,.op hs.1 hs.2.1 hs.2.2 e⟩
 |post o=>
  have e:=ZdO hok h.2 (by have:=h.1;omega)
  obtain ⟨j,hj,rfl⟩:=h.2
  have hs:=QK (Vi (hok j hj))
  exact ⟨⟨e,rfl,h.1,j,hj,rfl⟩,.op hs.1 hs.2.1 hs.2.2 e⟩
def ZeA (l:List POp) (ps:List (ByteArray×TkP)) (g:ByteArray):List PTok:=ps.map (fun x=>⟨Yd l (tkW x.2),x.1,tkW x.2⟩)++[⟨7,g,⟨#[]⟩⟩]
theorem Zcx {l:List POp} (hok:∀ j,j<l.length→Yx (Zm l j)=true) (g:ByteArray):∀ (ps:List (ByteArray×TkP)) (pre:List PTok),(∀ x,x∈ps→K0 l x.2)→Yi l (pre++ZeA l ps g) pre.length (ps.map (·.2))
 |[],pre,_=>by
  simp only [ZeA,List.map_nil,List.nil_append,Yi,List.length_append,List.length_singleton,true_and]
  rw [H5,if_neg (by omega),Nat.sub_self];rfl
 |x::r,pre,h=>by
  simp only [List.map_cons,Yi]
  have e:pre++ZeA l (x::r) g=(pre++[⟨Yd l (tkW x.2),x.1,tkW x.2⟩])++ZeA l r g:=by simp [ZeA]
  refine ⟨?_,?_⟩
  ·have e2:Zj (pre++ZeA l (x::r) g) pre.length=⟨Yd l (tkW x.2),x.1,tkW x.2⟩:=by
    rw [H5,if_neg (by omega),Nat.sub_self];rfl
   rw [e2]
   exact (Zjl hok (h x (by simp)) x.1).1
  ·have:=Zcx hok g r (pre++[⟨Yd l (tkW x.2),x.1,tkW x.2⟩]) fun y hy=>h y (by simp [hy])
   rw [←e] at this
   simpa using this
theorem Zil {l:List POp} (h0:Yv l=0) {ps:List (ByteArray×TkP)} {g:ByteArray} (hj:GH l (ps.map fun x=>(x.1,tkW x.2)) g) (hz:(Xi (ps.map fun x=>(x.1,tkW x.2)) g).size≤20000):X6 l (Xi (ps.map fun x=>(x.1,tkW x.2)) g)=ZeA l ps g:=by
 have h1:X0 l (Xi (ps.map fun x=>(x.1,tkW x.2)) g)=true:=by simp [X0,h0,hz]
 have:=Ze7 (XZ h0) _ g ByteArray.empty hj
 rw [ByteArray.empty_append] at this
 rw [X6,if_pos h1]
 refine this.trans ?_
 simp [ZeA]
theorem VR:∀ (e:PT) (d:Nat) (rest:List TkP),Fit false d rest→Fit true d (e.yield++rest)
 | .leaf b,d,rest,h=>by simpa [Tr.yield,Fit] using h
 | .grp e,d,rest,h=>by
  have:=VR e (d+1) (.cls::rest) (by simpa [Fit] using h)
  simpa [Tr.yield,Fit] using this
 | .pre o e,d,rest,h=>by
  have:=VR e d rest h
  simpa [Tr.yield,Fit] using this
 | .post o e,d,rest,h=>by
  have:=VR e d (.post o::rest) (by simpa [Fit] using h)
  simpa [Tr.yield] using this
 | .inf o x y,d,rest,h=>by
  have:=VR x d (.inf o::(y.yield++rest)) (by simpa [Fit] using VR y d rest h)
  simpa [Tr.yield] using this
theorem ZkT (tk:TkP):0≤XG tk:=by cases tk<;>simp [XG]
theorem ZcZ {l:List POp} {t:List PTok} (hu:WB l):∀ (ts:List TkP) (i d:Nat),Yi l t i ts→Fit (!Ye l t i) d ts→(d:Int)=ZJ t i→Ye l t (i+ts.length)=true∧ZJ t (i+ts.length)=0
 |[],i,d,_,hf,hd=>by
  cases hs:Ye l t i with
  |false=>rw [hs] at hf;simp [Fit] at hf
  |true=>rw [hs] at hf;simp [Fit] at hf;simp [hs];omega
 |tk::r,i,d,ht,hf,hd=>by
  obtain ⟨h1,h2⟩:=ht
  have nxt:∀ (st:Bool) (d':Nat),Ye l t (i+1)=st→(d':Int)=ZJ t (i+1)→Fit (!st) d' r→Ye l t (i+(tk::r).length)=true∧ZJ t (i+(tk::r).length)=0:=fun st d' e1 e2 e3=>by
   have:=ZcZ hu r (i+1) d' h2 (by rw [e1];exact e3) e2
   simp only [List.length_cons]
   rw [show i+(r.length+1)=i+1+r.length by omega];exact this
  have has:∀ {o:POp},o.text=(Zj t i).text→(∃ j,j<l.length∧Zm l j=o)→ZQ l (Zj t i).text o.kind=true:=fun {o} e ⟨j,hj,e2⟩=>(YU l _ _).2 ⟨j,hj,by rw [e2];exact e,by rw [e2]⟩
  have hasno:∀ {o:POp} {k:Int},o.text=(Zj t i).text→(∃ j,j<l.length∧Zm l j=o)→o.kind≠1→k≠1→o.kind≠k→ZQ l (Zj t i).text k=false:=fun {o k} e ⟨j,hj,e2⟩ n1 n2 n3=>by
   cases hh:ZQ l (Zj t i).text k with
   |false=>rfl
   |true=>
    obtain ⟨j',hj',g1,g2⟩:=(YU l _ _).1 hh
    have:=hu j j' hj hj' (by rw [e2,e,g1]) (by
     rw [e2,g2]
     have a1:(o.kind==1)=false:=by simpa using n1
     have a2:(k==1)=false:=by simpa using n2
     rw [a1,a2])
    rw [e2] at this
    rw [←this] at g2
    exact absurd g2 n3
  cases hs:Ye l t i with
  |false=>
   rw [hs] at hf
   cases tk with
   |leaf b=>
    refine nxt true d ?_ ?_ (by simpa [Fit] using hf)
    ·rcases h1.1 with e|e<;>simp [Ye,e]
    ·rcases h1.1 with e|e<;>simp [ZJ,e,hd]
   |opn=>
    have k4:(Zj t i).kind=4:=h1
    exact nxt false (d+1) (by simp [Ye,k4]) (by simp [ZJ,k4];omega) (by simpa [Fit] using hf)
   |pre o=>exact nxt false d (by simp [Ye,h1.1,hs]) (by simp [ZJ,h1.1,hd]) (by simpa [Fit] using hf)
   |cls=>simp [Fit] at hf
   |inf o=>simp [Fit] at hf
   |post o=>simp [Fit] at hf
  |true=>
   rw [hs] at hf
   cases tk with
   |leaf b=>simp [Fit] at hf
   |opn=>simp [Fit] at hf
   |pre o=>simp [Fit] at hf
   |inf o=>
    have no:=hasno (k:=3) h1.2.1 h1.2.2.2 (by rw [h1.2.2.1];omega) (by omega) (by rw [h1.2.2.1];omega)
    exact nxt false d (by simp [Ye,h1.1,hs,no]) (by simp [ZJ,h1.1,hd]) (by simpa [Fit] using hf)
   |post o=>
    have hh:=has h1.2.1 h1.2.2.2
    rw [h1.2.2.1] at hh
    exact nxt true d (by simp [Ye,h1.1,hs,hh]) (by simp [ZJ,h1.1,hd]) (by simpa [Fit] using hf)
   |cls=>
    have k5:(Zj t i).kind=5:=h1
    cases d with
    |zero=>simp [Fit] at hf
    |succ d=>exact nxt true d (by simp [Ye,k5]) (by simp [ZJ,k5];omega) (by simpa [Fit] using hf)
theorem Zh5 {l:List POp} {t:List PTok} (h0:Yv l=0) {ts:List TkP} (ht:Yi l t 0 ts) (hf:Fit true 0 ts):(Z8 l t).2=-1:=by
 have hu:=WF h0
 have hlen:=Y6 ht
 have hs:=Za5 hu ts 0 0 ht hf rfl
 obtain ⟨s1,s2⟩:=ZcZ hu ts 0 0 ht hf rfl
 have hend:=Kb (u:=ts) (ts:=[]) (i:=0) (by simpa using ht)
 simp only [Yi,Nat.zero_add] at hend s1 s2
 have hall:∀ j,j<t.length→0≤ZI l t j (Ye l t j):=fun j hj=>by
  by_cases e:j<ts.length
  ·obtain ⟨tk,htk⟩:∃ tk,ts[j]?=some tk:=⟨_,List.getElem?_eq_getElem e⟩
   have:=(UV hs htk).2
   rw [Nat.zero_add,ZeN hj] at this
   rw [this];exact ZkT tk
  ·obtain rfl:j=ts.length:=by omega
   rw [s1]
   simp [ZI,hend.2,s2,hend.1]
 have hb:=Ub hall
 have he:VG t=true:=by
  have e1:t.length-1=ts.length:=by omega
  simp only [VG,e1,hend.2,Bool.and_eq_true,decide_eq_true_eq,and_true]
  omega
 unfold Z8
 rw [if_neg (by omega),hb]
 simp only
 rw [if_pos he]
theorem Za4 {l:List POp} {t:List PTok} {rs:List Int} (hu:WB l):∀ (ts ts':List TkP) (i:Nat),YW l t rs i ts→YW l t rs i ts'→ts.length=ts'.length→ts=ts'
 |[],[],_,_,_,_=>rfl
 |tk::r,tk'::r',i,h,h',hl=>by
  have e:=Za4 hu r r' (i+1) h.2.2 h'.2.2 (by simpa using hl)
  have e2:tk=tk':=by
   have q:=h.1
   have q':=h'.1
   have hr:XG tk=XG tk':=h.2.1.symm.trans h'.2.1
   have opq:∀ {o o':POp} {k:Int},o.text=(Zj t i).text→o'.text=(Zj t i).text→o.kind=k→o'.kind=k→(∃ j,j<l.length∧Zm l j=o)→(∃ j,j<l.length∧Zm l j=o')→o=o':=fun {o o' k} a1 a2 a3 a4 a5 a6=>by
    have p1:=(Y5 hu a1 a5).2
    have p2:=(Y5 hu a2 a6).2
    rw [a3] at p1
    rw [a4] at p2
    rw [←p1,p2]
   cases tk<;>cases tk'<;>simp only [XG] at hr<;>simp only [Vc] at q q'<;>first|omega|rfl|skip
   ·rw [q.2,q'.2]
   ·rw [opq q.2.1 q'.2.1 q.2.2.1 q'.2.2.1 q.2.2.2 q'.2.2.2]
   ·rw [opq q.2.1 q'.2.1 q.2.2.1 q'.2.2.1 q.2.2.2 q'.2.2.2]
   ·rw [opq q.2.1 q'.2.1 q.2.2.1 q'.2.2.1 q.2.2.2 q'.2.2.2]
  rw [e,e2]
 |[],_::_,_,_,_,hl=>by simp at hl
 | _::_,[],_,_,_,hl=>by simp at hl
theorem Zji {l:List POp} {t:List PTok} (h0:Yv l=0) {ts:List TkP} (ht:Yi l t 0 ts) (hf:Fit true 0 ts):toksZ l t=ts:=by
 have hu:=WF h0
 obtain ⟨h1,h2⟩:=Zez ⟨ts,ht,hf⟩
 have l1:=Y6 h1
 have l2:=Y6 ht
 exact Za4 hu _ _ 0 (Za5 hu _ 0 0 h1 h2 rfl) (Za5 hu _ 0 0 ht hf rfl) (by omega)
theorem Zgl {l:List POp} {k:PTok} {tk:TkP} (h:Vc l k tk):k.kind≠6:=by
 cases tk with
 |leaf b=>have:=h.1;omega
 |opn=>have h : _=_:=h;omega
 |cls=>have h : _=_:=h;omega
 |pre o=>have:=h.1;omega
 |inf o=>have:=h.1;omega
 |post o=>have:=h.1;omega
theorem Zey {l:List POp} {t:List PTok}:∀ (ts:List TkP) (i:Nat),Yi l t i ts→∀ j,i≤j→j<t.length→(Zj t j).kind≠6
 |[],i,h,j,h1,h2=>by
  have h3:=h.1
  have h4:=h.2
  obtain rfl:j=i:=by omega
  omega
 |tk::r,i,h,j,h1,h2=>by
  by_cases e:j=i
  ·subst e;exact Zgl h.1
  ·exact Zey r (i+1) h.2 j (by omega) h2
structure Reads (l:List POp) (e:PT) (z:ByteArray):Prop where
 bad:Qv (X6 l z)=none
 roles:(Z8 l (X6 l z)).2=-1
 toks:toksZ l (X6 l z)=e.yield
 len:z.size≤20000
theorem Zgx {l:List POp} (h0:Yv l=0) {e:PT} {ps:List (ByteArray×TkP)} {g:ByteArray} (hp:ps.map (·.2)=e.yield) (hk:∀ tk,tk∈e.yield→K0 l tk) (hj:GH l (ps.map fun x=>(x.1,tkW x.2)) g) (hz:(Xi (ps.map fun x=>(x.1,tkW x.2)) g).size≤20000):Reads l e (Xi (ps.map fun x=>(x.1,tkW x.2)) g):=by
 have hl:=Zil h0 hj hz
 have ht:=Zcx (XZ h0) g ps [] fun x hx=>hk x.2 (by rw [←hp];exact List.mem_map.2 ⟨x,hx,rfl⟩)
 simp only [List.nil_append,List.length_nil] at ht
 rw [hp] at ht
 have hf:Fit true 0 e.yield:=by
  have:=VR e 0 [] (by simp [Fit])
  simpa using this
 refine ⟨?_,?_,?_,hz⟩
 ·rw [hl];exact J8 fun j hj=>Zey _ 0 ht j (by omega) hj
 ·rw [hl];exact Zh5 h0 ht hf
 ·rw [hl];exact Zji h0 ht hf
theorem Reads.adm {l:List POp} {e:PT} {z:ByteArray} (h:Reads l e z) (h0:Yv l=0) (ha:e.Adm lvO) (hh:ZY e≤1000):parZ l z=(lay e [],0,0):=by
 have F:=Jj h0 h.roles
 have hp:partT l (X6 l z)=some e:=by
  unfold partT
  rw [h.toks]
  exact Ops.build_complete lvO (ZbE h0) e _ (Nat.le_refl _) (F.all e h.toks.symm) ha
 rw [parZ,if_neg (by omega),if_neg (by have:=h.len;omega),K6 h.bad h.roles hp hh]
end Go.Proofs.YtjdmmhcogmepaaaGreatDoor.V
namespace Go.Proofs.YtjdmmhcogmepaaaGreatDoor.V
open Go.RowKit
open Go.Proofs.YtjdmmhcogmepaaaGreatDoor.Ops (Tr)
set_option maxRecDepth 100000 in
theorem ZhO (g:List PNode) (hg:g.length≤1048576) {o:POp} {e:ET} (hk:o.kind=1) (ih:YOk g e):YOk g (.pre o e):=by
 have clg:∀ (i:Nat) (c:AV),i<g.length→c∈Zf g i→Closed c:=fun i c _ h=>ZG g i c h
 obtain ⟨z,k,lv,sd⟩:=o
 simp only at hk
 subst hk
 intro pre hn hl ws hw
 simp only [lay] at hn hl ⊢
 obtain ⟨hsub,hn''⟩:=Up hn
 have hle1:=ZN e pre
 have hp:=Z1 e
 have hyl:=Yu e
 simp only [List.length_append,List.length_singleton,Nat.add_sub_cancel] at hl ⊢
 simp only [ZF] at hw
 have ih1:=ih pre hsub (by omega) (ws++[⟨z,false,true⟩]) (by simp;omega)
 have hn':Za g (lay e pre).length=⟨z,3,((lay e pre).length:Int)-1,0⟩:=by rw [hn''];rfl
 generalize hq:(lay e pre).length=q at *
 have ea:(q:Int)-1=((q-1:Nat):Int):=by omega
 have c1:=VJ (Za g q)
 have c2:=Yh 3
 have e1:ZO (Za g q)=true:=by simp [ZO,hn']
 have kk:Zv 3=1:=by simp [Zv]
 rw [hn'] at e1
 simp only [PNode.cells,hn',Zp,Z3] at c1 ⊢
 refine Zl Tryz.func47 (by kernel_rfl) rfl (by simp [Tryz.ntmps47]) ?_;simp only [Tryz.ntmps47,Tryz.results47];simp [go_sem]
 simp [Zz,hn']
 refine ⟨by omega,?_⟩
 refine ZX (⟨[(0,.sl 4 g.length (Zf g)),(2,.own 0),(7,.ptr 1 4 0 0),(8,.ptr 2 3 0 0)],[Z3 ws,some ⟨77,4,1,fun _=>[.lit (.int .i64 3),.lit (.string z),.lit (.int .i64 ((q:Int)-1)),.lit (.int .i64 (0))]⟩,some ⟨83,3,1,fun _=>[.lit (.string z),.lit (.bool true),.lit (.bool false)]⟩],[],1⟩) [9] (.q 0 <| .q 1 <| .q 2 <| .q 4 <| .q 5 <| .q 6 <| .or 3 (.q 7 <| .or 8 (.or 9 (.done) (.nil)) (.nil)) (.or 8 (.or 3 (.q 7 <| .or 9 (.done) (.nil)) (.nil)) (.nil))) (by kernel_rfl) ?_ ?_
 ·simp [go_sem]
  refine ⟨Zu c1 ?_ ?_,Zu c1 ?_ ?_⟩
  ·simp [go_sem]
  ·simp [go_sem,e1]
   refine Zx [0,1,2] (by simp) (by simp) (by simp) (by simp) (by simp [go_sem]) ?_ ?_
   ·simp [go_sem]
    exact clg
   ·simp [go_sem,Z3]
    exact .inr Kf
  ·simp [go_sem]
  ·simp [go_sem,e1]
   refine Zx [0,1,2] (by simp) (by simp) (by simp) (by simp) (by simp [go_sem]) ?_ ?_
   ·simp [go_sem]
    exact clg
   ·simp [go_sem,Z3]
    exact .inr Kf
 ·simp [go_sem,Z3]
  refine Zc c2 ?_ ?_
  ·simp [go_sem]
  ·simp [go_sem,kk]
   refine ZX (⟨[(6,.own 1)],[none,Z3 (ws++[⟨z,false,true⟩]++Zp e)],[],1⟩) [6,7] (.q 3 <| .q 4 <| .or 0 (.or 1 (.or 2 (.or 5 (.or 6 (.or 7 (.q 8 <| .done) (.nil)) (.nil)) (.nil)) (.or 5 (.or 2 (.or 6 (.or 7 (.q 8 <| .done) (.nil)) (.nil)) (.or 6 (.q 2 <| .or 7 (.q 8 <| .done) (.nil)) (.nil))) (.nil))) (.or 5 (.or 1 (.or 2 (.or 6 (.or 7 (.q 8 <| .done) (.nil)) (.nil)) (.or 6 (.q 2 <| .or 7 (.q 8 <| .done) (.nil)) (.nil))) (.or 6 (.q 1 <| .q 2 <| .or 7 (.q 8 <| .done) (.nil)) (.nil))) (.nil))) (.or 1 (.or 0 (.or 2 (.or 5 (.or 6 (.or 7 (.q 8 <| .done) (.nil)) (.nil)) (.nil)) (.or 5 (.or 2 (.or 6 (.or 7 (.q 8 <| .done) (.nil)) (.nil)) (.or 6 (.q 2 <| .or 7 (.q 8 <| .done) (.nil)) (.nil))) (.nil))) (.or 2 (.or 0 (.or 5 (.or 6 (.or 7 (.q 8 <| .done) (.nil)) (.nil)) (.nil)) (.or 5 (.or 0 (.or 6 (.or 7 (.q 8 <| .done) (.nil)) (.nil)) (.or 6 (.q 0 <| .or 7 (.q 8 <| .done) (.nil)) (.nil))) (.nil))) (.or 5 (.or 0 (.or 2 (.or 6 (.or 7 (.q 8 <| .done) (.nil)) (.nil)) (.or 6 (.q 2 <| .or 7 (.q 8 <| .done) (.nil)) (.nil))) (.or 2 (.or 0 (.or 6 (.or 7 (.q 8 <| .done) (.nil)) (.nil)) (.or 6 (.q 0 <| .or 7 (.q 8 <| .done) (.nil)) (.nil))) (.or 6 (.q 0 <| .q 2 <| .or 7 (.q 8 <| .done) (.nil)) (.nil)))) (.nil)))) (.or 5 (.or 0 (.or 1 (.or 2 (.or 6 (.or 7 (.q 8 <| .done) (.nil)) (.nil)) (.or 6 (.q 2 <| .or 7 (.q 8 <| .done) (.nil)) (.nil))) (.or 6 (.q 1 <| .q 2 <| .or 7 (.q 8 <| .done) (.nil)) (.nil))) (.or 1 (.or 0 (.or 2 (.or 6 (.or 7 (.q 8 <| .done) (.nil)) (.nil)) (.or 6 (.q 2 <| .or 7 (.q 8 <| .done) (.nil)) (.nil))) (.or 2 (.or 0 (.or 6 (.or 7 (.q 8 <| .done) (.nil)) (.nil)) (.or 6 (.q 0 <| .or 7 (.q 8 <| .done) (.nil)) (.nil))) (.or 6 (.q 0 <| .q 2 <| .or 7 (.q 8 <| .done) (.nil)) (.nil)))) (.or 6 (.q 0 <| .q 1 <| .q 2 <| .or 7 (.q 8 <| .done) (.nil)) (.nil)))) (.nil)))) (by kernel_rfl) ?_ ?_
   ·simp [go_sem]
    repeat' apply And.intro
    all_goals first|omega|skip
    all_goals
     refine Zd [4] ih1 (by simp) ?_ ?_ trivial ?_
     ·simp [go_sem,ea]
      exact clg
     ·simp [go_sem,Z3]
      exact ZkP ⟨z,false,true⟩ (by simp) rfl rfl (by simp)
     ·rintro av mem maps ⟨rfl,rfl,rfl⟩
      simp [go_sem,Z3]
      refine Zx [0,5] (by simp) (by simp) (by simp) (by simp) (by simp [go_sem]) ?_ ?_
      ·simp [go_sem]
      ·simp [go_sem,Z3]
       exact .inr Kf
   ·simp [go_sem,Z3]
    refine ⟨rfl,[1],[none,Z3 (ws++ZP ⟨z,1,lv,sd⟩::Zp e)],by simp,by simp,by simp [go_sem],?_,by simp [go_sem],?_⟩
    ·simp [go_sem,Z3,ZP]
     exact ZjC
    ·simp [go_sem,Z3]
set_option maxRecDepth 100000 in
theorem ZfW (g:List PNode) (hg:g.length≤1048576) {o:POp} {e:ET} (hk:o.kind=3) (ih:YOk g e):YOk g (.post o e):=by
 have clg:∀ (i:Nat) (c:AV),i<g.length→c∈Zf g i→Closed c:=fun i c _ h=>ZG g i c h
 obtain ⟨z,k,lv,sd⟩:=o
 simp only at hk
 subst hk
 intro pre hn hl ws hw
 simp only [lay] at hn hl ⊢
 obtain ⟨hsub,hn''⟩:=Up hn
 have hle1:=ZN e pre
 have hp:=Z1 e
 have hyl:=Yu e
 simp only [List.length_append,List.length_singleton,Nat.add_sub_cancel] at hl ⊢
 simp only [ZF] at hw
 have ih1:=ih pre hsub (by omega) (ws) (by omega)
 have hn':Za g (lay e pre).length=⟨z,5,((lay e pre).length:Int)-1,0⟩:=by rw [hn''];rfl
 generalize hq:(lay e pre).length=q at *
 have ea:(q:Int)-1=((q-1:Nat):Int):=by omega
 have c1:=VJ (Za g q)
 have c2:=Yh 5
 have e1:ZO (Za g q)=true:=by simp [ZO,hn']
 have kk:Zv 5=1:=by simp [Zv]
 rw [hn'] at e1
 simp only [PNode.cells,hn',Zp,Z3] at c1 ⊢
 refine Zl Tryz.func47 (by kernel_rfl) rfl (by simp [Tryz.ntmps47]) ?_;simp only [Tryz.ntmps47,Tryz.results47];simp [go_sem]
 simp [Zz,hn']
 refine ⟨by omega,?_⟩
 refine ZX (⟨[(0,.sl 4 g.length (Zf g)),(2,.own 0),(7,.ptr 1 4 0 0),(8,.ptr 2 3 0 0)],[Z3 ws,some ⟨77,4,1,fun _=>[.lit (.int .i64 5),.lit (.string z),.lit (.int .i64 ((q:Int)-1)),.lit (.int .i64 (0))]⟩,some ⟨83,3,1,fun _=>[.lit (.string z),.lit (.bool true),.lit (.bool false)]⟩],[],1⟩) [9] (.q 0 <| .q 1 <| .q 2 <| .q 4 <| .q 5 <| .q 6 <| .or 3 (.q 7 <| .or 8 (.or 9 (.done) (.nil)) (.nil)) (.or 8 (.or 3 (.q 7 <| .or 9 (.done) (.nil)) (.nil)) (.nil))) (by kernel_rfl) ?_ ?_
 ·simp [go_sem]
  refine ⟨Zu c1 ?_ ?_,Zu c1 ?_ ?_⟩
  ·simp [go_sem]
  ·simp [go_sem,e1]
   refine Zx [0,1,2] (by simp) (by simp) (by simp) (by simp) (by simp [go_sem]) ?_ ?_
   ·simp [go_sem]
    exact clg
   ·simp [go_sem,Z3]
    exact .inr Kf
  ·simp [go_sem]
  ·simp [go_sem,e1]
   refine Zx [0,1,2] (by simp) (by simp) (by simp) (by simp) (by simp [go_sem]) ?_ ?_
   ·simp [go_sem]
    exact clg
   ·simp [go_sem,Z3]
    exact .inr Kf
 ·simp [go_sem,Z3]
  refine Zc c2 ?_ ?_
  ·simp [go_sem]
  ·simp [go_sem,kk]
   refine ZX (⟨[(0,.sl 4 g.length (Zf g)),(2,.own 2),(7,.ptr 1 4 0 0)],[none,some ⟨77,4,1,fun _=>[.lit (.int .i64 5),.lit (.string z),.lit (.int .i64 ((q:Int)-1)),.lit (.int .i64 (0))]⟩,Z3 (ws++Zp e++[⟨z,false,true⟩])],[],1⟩) [7,4] (.q 0 <| .q 1 <| .q 2 <| .q 3 <| .or 4 (.q 5 <| .or 6 (.or 7 (.q 8 <| .done) (.nil)) (.nil)) (.or 5 (.or 4 (.or 6 (.or 7 (.q 8 <| .done) (.nil)) (.nil)) (.or 6 (.or 4 (.or 7 (.q 8 <| .done) (.nil)) (.nil)) (.nil))) (.nil))) (by kernel_rfl) ?_ ?_
   ·simp [go_sem]
    repeat' apply And.intro
    all_goals first|omega|skip
    all_goals
     refine Zd [0] ih1 (by simp) ?_ ?_ trivial ?_
     ·simp [go_sem,ea]
      exact clg
     ·simp [go_sem,Z3]
      exact Kf
     ·rintro av mem maps ⟨rfl,rfl,rfl⟩
      simp [go_sem,Z3]
      refine ⟨by omega,by omega,?_⟩
      refine Zx [0,1,5] (by simp) (by simp) (by simp) (by simp) (by simp [go_sem]) ?_ ?_
      ·simp [go_sem]
       exact clg
      ·simp [go_sem,Z3]
       exact .inr ⟨by omega,ZkP ⟨z,false,true⟩ (by simp) rfl (by simp) (by simp)⟩
   ·simp [go_sem,Z3]
    refine ⟨rfl,[2],[none,Z3 (ws++(Zp e++[ZP ⟨z,3,lv,sd⟩]))],by simp,by simp,by simp [go_sem],?_,by simp [go_sem],?_⟩
    ·simp [go_sem,Z3,ZP]
     exact ZjC
    ·simp [go_sem,Z3]
set_option maxRecDepth 100000 in
theorem ZhP (g:List PNode) (hg:g.length≤1048576) {o:POp} {e y:ET} (hk:o.kind=2) (ih:YOk g e) (ihy:YOk g y):YOk g (.inf o e y):=by
 have clg:∀ (i:Nat) (c:AV),i<g.length→c∈Zf g i→Closed c:=fun i c _ h=>ZG g i c h
 obtain ⟨z,k,lv,sd⟩:=o
 simp only at hk
 subst hk
 intro pre hn hl ws hw
 simp only [lay] at hn hl ⊢
 obtain ⟨hsuby,hn''⟩:=Up hn
 have hle:=ZN y (lay e pre)
 have hp2:=Z1 y
 have hsub:∀ j,j<(lay e pre).length→Za g j=Za (lay e pre) j:=fun j hj=>by rw [hsuby j (by omega),Uy y _ j hj]
 have hle1:=ZN e pre
 have hp:=Z1 e
 have hyl:=Yu e
 simp only [List.length_append,List.length_singleton,Nat.add_sub_cancel] at hl ⊢
 simp only [ZF] at hw
 have ih1:=ih pre hsub (by omega) (ws) (by omega)
 have ih2:=ihy (lay e pre) hsuby (by omega) (ws++Zp e++[⟨z,true,true⟩]) (by simp;omega)
 have hn':Za g (lay y (lay e pre)).length=⟨z,4,((lay e pre).length:Int)-1,((lay y (lay e pre)).length:Int)-1⟩:=by rw [hn''];rfl
 generalize hq:(lay y (lay e pre)).length=q at *
 generalize hr:(lay e pre).length=r at *
 have ea:(r:Int)-1=((r-1:Nat):Int):=by omega
 have eb:(q:Int)-1=((q-1:Nat):Int):=by omega
 have c1:=VJ (Za g q)
 have c2:=Yh 4
 have e1:ZO (Za g q)=true:=by simp [ZO,hn']
 have kk:Zv 4=2:=by simp [Zv]
 rw [hn'] at e1
 simp only [PNode.cells,hn',Zp,Z3] at c1 ⊢
 refine Zl Tryz.func47 (by kernel_rfl) rfl (by simp [Tryz.ntmps47]) ?_;simp only [Tryz.ntmps47,Tryz.results47];simp [go_sem]
 simp [Zz,hn']
 refine ⟨by omega,?_⟩
 refine ZX (⟨[(0,.sl 4 g.length (Zf g)),(2,.own 0),(7,.ptr 1 4 0 0),(8,.ptr 2 3 0 0)],[Z3 ws,some ⟨77,4,1,fun _=>[.lit (.int .i64 4),.lit (.string z),.lit (.int .i64 ((r:Int)-1)),.lit (.int .i64 ((q:Int)-1))]⟩,some ⟨83,3,1,fun _=>[.lit (.string z),.lit (.bool true),.lit (.bool true)]⟩],[],1⟩) [9] (.q 0 <| .q 1 <| .q 2 <| .q 4 <| .q 5 <| .q 6 <| .or 3 (.q 7 <| .or 8 (.or 9 (.done) (.nil)) (.nil)) (.or 8 (.or 3 (.q 7 <| .or 9 (.done) (.nil)) (.nil)) (.nil))) (by kernel_rfl) ?_ ?_
 ·simp [go_sem]
  refine ⟨Zu c1 ?_ ?_,Zu c1 ?_ ?_⟩
  ·simp [go_sem]
  ·simp [go_sem,e1]
   refine Zx [0,1,2] (by simp) (by simp) (by simp) (by simp) (by simp [go_sem]) ?_ ?_
   ·simp [go_sem]
    exact clg
   ·simp [go_sem,Z3]
    exact .inr Kf
  ·simp [go_sem]
  ·simp [go_sem,e1]
   refine Zx [0,1,2] (by simp) (by simp) (by simp) (by simp) (by simp [go_sem]) ?_ ?_
   ·simp [go_sem]
    exact clg
   ·simp [go_sem,Z3]
    exact .inr Kf
 ·simp [go_sem,Z3]
  refine Zc c2 ?_ ?_
  ·simp [go_sem]
  ·simp [go_sem,kk]
   refine ZX (⟨[(0,.sl 4 g.length (Zf g)),(2,.own 2),(7,.ptr 1 4 0 0)],[none,some ⟨77,4,1,fun _=>[.lit (.int .i64 4),.lit (.string z),.lit (.int .i64 ((r:Int)-1)),.lit (.int .i64 ((q:Int)-1))]⟩,Z3 (ws++Zp e++[⟨z,true,true⟩])],[],1⟩) [7,4] (.q 0 <| .q 1 <| .q 2 <| .q 3 <| .or 4 (.q 5 <| .or 6 (.or 7 (.q 8 <| .done) (.nil)) (.nil)) (.or 5 (.or 4 (.or 6 (.or 7 (.q 8 <| .done) (.nil)) (.nil)) (.or 6 (.or 4 (.or 7 (.q 8 <| .done) (.nil)) (.nil)) (.nil))) (.nil))) (by kernel_rfl) ?_ ?_
   ·simp [go_sem]
    repeat' apply And.intro
    all_goals first|omega|skip
    all_goals
     refine Zd [0] ih1 (by simp) ?_ ?_ trivial ?_
     ·simp [go_sem,ea]
      exact clg
     ·simp [go_sem,Z3]
      exact Kf
     ·rintro av mem maps ⟨rfl,rfl,rfl⟩
      simp [go_sem,Z3]
      refine ⟨by omega,by omega,?_⟩
      refine Zx [0,1,5] (by simp) (by simp) (by simp) (by simp) (by simp [go_sem]) ?_ ?_
      ·simp [go_sem]
       exact clg
      ·simp [go_sem,Z3]
       exact .inr ⟨by omega,ZkP ⟨z,true,true⟩ (by simp) rfl (by simp) (by simp)⟩
   ·simp [go_sem,Z3]
    refine Zd [2] ih2 (by simp) ?_ ?_ trivial ?_
    ·simp [go_sem,eb]
     exact clg
    ·simp [go_sem,Z3]
     exact Kf
    ·rintro av mem maps ⟨rfl,rfl,rfl⟩
     simp [go_sem,Z3]
     refine ⟨rfl,[3],[none,Z3 (ws++(Zp e++ZP ⟨z,2,lv,sd⟩::Zp y))],by simp,by simp,by simp [go_sem],?_,by simp [go_sem],?_⟩
     ·simp [go_sem,Z3,ZP]
      exact ZjC
     ·simp [go_sem,Z3]
set_option maxRecDepth 100000 in
theorem ZhQ (g:List PNode) (hg:g.length≤1048576) {e:ET} (ih:YOk g e):YOk g (.grp e):=by
 have clg:∀ (i:Nat) (c:AV),i<g.length→c∈Zf g i→Closed c:=fun i c _ h=>ZG g i c h
 intro pre hn hl ws hw
 simp only [lay] at hn hl ⊢
 obtain ⟨hsub,hn''⟩:=Up hn
 have hle1:=ZN e pre
 have hp:=Z1 e
 have hyl:=Yu e
 simp only [List.length_append,List.length_singleton,Nat.add_sub_cancel] at hl ⊢
 simp only [ZF] at hw
 have ih1:=ih pre hsub (by omega) (ws++[Vj]) (by simp;omega)
 have hn':Za g (lay e pre).length=⟨⟨#[]⟩,6,((lay e pre).length:Int)-1,0⟩:=by rw [hn'']
 generalize hq:(lay e pre).length=q at *
 have ea:(q:Int)-1=((q-1:Nat):Int):=by omega
 have c1:=VJ (Za g q)
 have c2:=Yh 6
 have e1:ZO (Za g q)=false:=by simp [ZO,hn']
 have kk:Zv 6=1:=by simp [Zv]
 rw [hn'] at e1
 simp only [PNode.cells,hn',Zp,Z3] at c1 ⊢
 refine Zl Tryz.func47 (by kernel_rfl) rfl (by simp [Tryz.ntmps47]) ?_;simp only [Tryz.ntmps47,Tryz.results47];simp [go_sem]
 simp [Zz,hn']
 refine ⟨by omega,?_⟩
 refine ZX (⟨[(0,.sl 4 g.length (Zf g)),(2,.own 0),(7,.ptr 1 4 0 0),(8,.ptr 2 3 0 0)],[Z3 ws,some ⟨77,4,1,fun _=>[.lit (.int .i64 6),.lit (.string ⟨#[]⟩),.lit (.int .i64 ((q:Int)-1)),.lit (.int .i64 (0))]⟩,some ⟨83,3,1,fun _=>[.lit (.string ⟨#[]⟩),.lit (.bool false),.lit (.bool false)]⟩],[],1⟩) [9] (.q 0 <| .q 1 <| .q 2 <| .q 4 <| .q 5 <| .q 6 <| .or 3 (.q 7 <| .or 8 (.or 9 (.done) (.nil)) (.nil)) (.or 8 (.or 3 (.q 7 <| .or 9 (.done) (.nil)) (.nil)) (.nil))) (by kernel_rfl) ?_ ?_
 ·simp [go_sem]
  refine ⟨Zu c1 ?_ ?_,Zu c1 ?_ ?_⟩
  ·simp [go_sem]
  ·simp [go_sem,e1]
   refine Zx [0,1,2] (by simp) (by simp) (by simp) (by simp) (by simp [go_sem]) ?_ ?_
   ·simp [go_sem]
    exact clg
   ·simp [go_sem,Z3]
    exact .inr Kf
  ·simp [go_sem]
  ·simp [go_sem,e1]
   refine Zx [0,1,2] (by simp) (by simp) (by simp) (by simp) (by simp [go_sem]) ?_ ?_
   ·simp [go_sem]
    exact clg
   ·simp [go_sem,Z3]
    exact .inr Kf
 ·simp [go_sem,Z3]
  refine Zc c2 ?_ ?_
  ·simp [go_sem]
  ·simp [go_sem,kk]
   refine ZX (⟨[(2,.own 1)],[none,Z3 (ws++[Vj]++Zp e)],[],1⟩) [6,7] (.q 3 <| .q 4 <| .or 0 (.or 1 (.or 2 (.or 5 (.or 6 (.or 7 (.q 8 <| .done) (.nil)) (.nil)) (.nil)) (.or 5 (.or 2 (.or 6 (.or 7 (.q 8 <| .done) (.nil)) (.nil)) (.or 6 (.q 2 <| .or 7 (.q 8 <| .done) (.nil)) (.nil))) (.nil))) (.or 5 (.or 1 (.or 2 (.or 6 (.or 7 (.q 8 <| .done) (.nil)) (.nil)) (.or 6 (.q 2 <| .or 7 (.q 8 <| .done) (.nil)) (.nil))) (.or 6 (.q 1 <| .q 2 <| .or 7 (.q 8 <| .done) (.nil)) (.nil))) (.nil))) (.or 1 (.or 0 (.or 2 (.or 5 (.or 6 (.or 7 (.q 8 <| .done) (.nil)) (.nil)) (.nil)) (.or 5 (.or 2 (.or 6 (.or 7 (.q 8 <| .done) (.nil)) (.nil)) (.or 6 (.q 2 <| .or 7 (.q 8 <| .done) (.nil)) (.nil))) (.nil))) (.or 2 (.or 0 (.or 5 (.or 6 (.or 7 (.q 8 <| .done) (.nil)) (.nil)) (.nil)) (.or 5 (.or 0 (.or 6 (.or 7 (.q 8 <| .done) (.nil)) (.nil)) (.or 6 (.q 0 <| .or 7 (.q 8 <| .done) (.nil)) (.nil))) (.nil))) (.or 5 (.or 0 (.or 2 (.or 6 (.or 7 (.q 8 <| .done) (.nil)) (.nil)) (.or 6 (.q 2 <| .or 7 (.q 8 <| .done) (.nil)) (.nil))) (.or 2 (.or 0 (.or 6 (.or 7 (.q 8 <| .done) (.nil)) (.nil)) (.or 6 (.q 0 <| .or 7 (.q 8 <| .done) (.nil)) (.nil))) (.or 6 (.q 0 <| .q 2 <| .or 7 (.q 8 <| .done) (.nil)) (.nil)))) (.nil)))) (.or 5 (.or 0 (.or 1 (.or 2 (.or 6 (.or 7 (.q 8 <| .done) (.nil)) (.nil)) (.or 6 (.q 2 <| .or 7 (.q 8 <| .done) (.nil)) (.nil))) (.or 6 (.q 1 <| .q 2 <| .or 7 (.q 8 <| .done) (.nil)) (.nil))) (.or 1 (.or 0 (.or 2 (.or 6 (.or 7 (.q 8 <| .done) (.nil)) (.nil)) (.or 6 (.q 2 <| .or 7 (.q 8 <| .done) (.nil)) (.nil))) (.or 2 (.or 0 (.or 6 (.or 7 (.q 8 <| .done) (.nil)) (.nil)) (.or 6 (.q 0 <| .or 7 (.q 8 <| .done) (.nil)) (.nil))) (.or 6 (.q 0 <| .q 2 <| .or 7 (.q 8 <| .done) (.nil)) (.nil)))) (.or 6 (.q 0 <| .q 1 <| .q 2 <| .or 7 (.q 8 <| .done) (.nil)) (.nil)))) (.nil)))) (by kernel_rfl) ?_ ?_
   ·simp [go_sem]
    repeat' apply And.intro
    all_goals first|omega|skip
    all_goals
     refine Zd [4] ih1 (by simp) ?_ ?_ trivial ?_
     ·simp [go_sem,ea]
      exact clg
     ·simp [go_sem,Z3]
      exact ZkP Vj (by simp) rfl rfl (by simp)
     ·rintro av mem maps ⟨rfl,rfl,rfl⟩
      simp [go_sem,Z3]
      refine Zx [0,5] (by simp) (by simp) (by simp) (by simp) (by simp [go_sem]) ?_ ?_
      ·simp [go_sem]
      ·simp [go_sem,Z3]
       exact .inr Kf
   ·simp [go_sem,Z3]
    refine ⟨by omega,by omega,?_⟩
    refine ⟨rfl,[3],[none,Z3 (ws++Vj::(Zp e++[UW]))],by simp,by simp,by simp [go_sem],?_,by simp [go_sem],?_⟩
    ·simp [go_sem,Z3]
     exact Zlr UW (by simp) rfl (by simp) (by simp)
    ·simp [go_sem,Z3]
theorem Zc4 {l:List POp} (hw:YT l) (b1 b2:Nat):∀ e:ET,Xh l e→K1 b1 b2 e
 | .leaf b,_=>Zjq b1 b2 b
 | .grp e,h=>ZkS (Zc4 hw b1 b2 e h)
 | .pre o e,⟨h1,h2,h3,h4⟩=>ZkQ (by rw [←h3];exact HA hw h2) h1 (Zc4 hw b1 b2 e h4)
 | .post o e,⟨h1,h2,h3,h4⟩=>Zjp (by rw [←h3];exact HA hw h2) h1 (Zc4 hw b1 b2 e h4)
 | .inf o x y,⟨h1,h2,h3,h4,h5⟩=>ZkR (by rw [←h3];exact HA hw h2) h1 (Zc4 hw b1 b2 x h4) (Zc4 hw b1 b2 y h5)
theorem ZlT {l:List POp} (hw:YT l) (b1 b2:Nat) (e:ET) (hT:Xh l e) (hs:ZF e≤1000000) (m:Int) :
  VProc Tryz.prog 101 [.ptr 0 4 0 0,.lit (Vq e),.lit (.int .i64 m)] [some ⟨106,4,1,fun _=>[.lit (.map (some b1)),.lit (.map (some b2)),.lit (.slice none 0 0),.lit (.slice none 0 0)]⟩] [] (fun av mem maps=>av=.tup []∧mem=[Z0 b1 b2 3 4,none,none,Zb (lay (Zw (ZD e) m) []),Zy (Zp (Zw (ZD e) m))]∧maps=[]):=by
 have h:=Zc4 hw b1 b2 e hT m [] [] (by simp;omega) (by simp;omega)
 simp only [List.nil_append] at h
 have h1:VProc Tryz.prog 101 [.ptr 0 4 0 0,.lit (Vq e),.lit (.int .i64 m)] (Us [some ⟨106,4,1,fun _=>[.lit (.map (some b1)),.lit (.map (some b2)),.lit (.slice none 0 0),.lit (.slice none 0 0)]⟩] 0 ⟨106,4,1,fun _=>[.lit (.map (some b1)),.lit (.map (some b2)),.lit (.slice none 0 0),.lit (.slice none 0 0)]⟩ 2 77 4 (Zf [])) [] (fun av mem maps=>av=.tup []∧mem=[Z0 b1 b2 3 4,none,none,Zb (lay (Zw (ZD e) m) []),Zy (Zp (Zw (ZD e) m))]∧maps=[]):=
  VProc.adopt (j:=0) (ob:=⟨106,4,1,fun _=>[.lit (.map (some b1)),.lit (.map (some b2)),.own 1,.lit (.slice none 0 0)]⟩) (c:=3) (ty:=113) (sz:=3) (g:=Xo []) h rfl rfl rfl (by omega)
 exact VProc.adopt h1 rfl rfl rfl (by omega)
set_option maxRecDepth 100000 in
theorem ZiC (l:List POp) (hl:l.length≤9223372036854775807) (hw:YT l) (t:List PNode) (ht:t.length≤1048576) (hwt:∀ i,i<t.length→(Za t i).wf):VProc Tryz.prog 57 [.agg [.sl 4 l.length (Zg l)],.agg [.sl 4 t.length (Zf t)]] [] [] (fun av mem maps=>
  (XX l t=false∧av=.tup [.lit (.pointer none),.lit (.bool false)]∧mem=[])∨(XX l t=true∧av=.tup [.ptr 0 4 0 0,.lit (.bool (decide (ZF (ZT l t)≤20000)))]∧∃ b1 b2,mem=[Z0 b1 b2 1 2,Zb (lay (ZT l t) []),Zy (Zp (ZT l t))])):=by
 have cl:∀ (i:Nat) (c:AV),i<l.length→c∈Zg l i→Closed c:=fun i c _ h=>ZK l i c h
 have clt:∀ (i:Nat) (c:AV),i<t.length→c∈Zf t i→Closed c:=fun i c _ h=>ZG t i c h
 by_cases h0:Yv l=0
 ·have hu:=WF h0
  refine Zl Tryz.func57 (by kernel_rfl) rfl (by simp [Tryz.ntmps57]) ?_;simp only [Tryz.ntmps57,Tryz.results57];simp [go_sem]
  refine Zc (Q2 l hl hw) ?_ ?_
  ·simp [go_sem]
   exact Ze (by omega) cl
  ·simp [go_sem,h0]
   refine Zc (ZiJ t (by omega) hwt) ?_ ?_
   ·simp [go_sem]
    exact Ze (by omega) clt
   ·cases h1:Xd t with
    |false=>
     have hwf:XX l t=false:=by simp [XX,h1]
     simp [go_sem]
     refine ⟨rfl,[],[],by simp,by simp,by simp [go_sem],by simp [go_sem],by simp [go_sem],?_⟩
     simp [go_sem,hwf]
    |true=>
     have hkid:=fun i hi=>Gr h1 (i:=i) hi
     simp [go_sem]
     refine Zd [] (Jo l hl hw) (by simp) ?_ ?_ ?_ ?_
     ·simp [go_sem]
      exact cl
     ·simp [go_sem]
     ·simp [go_sem]
     ·rintro av mem maps ⟨b1,b2,e1,e2,rfl,rfl,rfl,hb,hat,htx⟩
      have hb':¬b2=b1:=fun e=>hb e.symm
      simp [go_sem]
      refine Zd [] (Zkh l hu b1 b2 e1 hat t ht hwt fun i hi=>(hkid i hi).2.1) (by simp) ?_ ?_ ?_ ?_
      ·simp [go_sem]
       exact clt
      ·simp [go_sem]
      ·simp [go_sem,hb']
      ·rintro av mem maps ⟨hm,⟨h2,rfl,rfl⟩|⟨h2,rfl,rfl⟩⟩
       ·have hwf:XX l t=true:=by simp [XX,h0,h1,h2]
        have hkind:∀ i,i<t.length→ZO (Za t i)=true→ZQ l (Za t i).text ((Za t i).kind-2)=true:=fun i hi e=>by
         have:=List.all_eq_true.1 h2 i (List.mem_range.2 hi)
         simpa [e] using this
        simp [go_sem]
        refine Zd [] (ZiD l hu b1 b2 e1 hat t ht hwt h1 hkind) (by simp) ?_ ?_ ?_ ?_
        ·simp [go_sem]
         exact clt
        ·simp [go_sem]
        ·rcases hm with rfl|rfl<;>simp [go_sem,hb']
        ·rintro av mem maps' ⟨hm',rfl,rfl⟩
         obtain ⟨g1,g2,g3,g4,g5,g6,g7,g8,g9,g10⟩:=WQ hwf
         have e0:IntKind.i64.wrap ((t.length:Int)-1)=((t.length-1:Nat):Int):=by rw [wrap_i64 (by omega)];omega
         obtain ⟨T1,U1,hP⟩:=Xr (Xq l t)
         have hp:VD l t t.length (t.length-1)=[.lit (.iface T1 U1)]:=by
          rw [←hP,Zh8,paN,if_pos (by omega)];rfl
         have hs:ZF (Xq l t)=t.length:=by rw [g4,ZN];simp [←g4]
         have hs2:=Xt (ZD (Xq l t)) 0
         have hs3:=Xx (Xq l t)
         have c1:=ZlT hw b1 b2 (Xq l t) g3 (by omega) 0
         have hy:=Yu (Zw (ZD (Xq l t)) 0)
         have hO:=ZN (Zw (ZD (Xq l t)) 0) []
         rw [hP] at c1
         have hgE:Zw (ZD (Xq l t)) 0=ZT l t:=rfl
         rw [hgE] at c1 hs2 hy hO
         simp at hO
         simp [go_sem,e0,hp]
         refine ⟨by omega,by omega,?_⟩
         refine Zd [5] c1 (by simp) ?_ ?_ trivial ?_
         ·simp [go_sem]
         ·simp [go_sem]
         ·rintro av mem maps'' ⟨rfl,rfl,rfl⟩
          simp [go_sem,Z0,Zb,Zy]
          refine Zq [] (.q 0 <| .q 1 <| .q 2 <| .q 3 <| .q 4 <| .q 5 <| .q 6 <| .q 7 <| .q 8 <| .done) (by kernel_rfl) ?_
          simp [go_sem,hO]
          refine ⟨by omega,rfl,[5,8,9],[Z0 b1 b2 1 2,Zb (lay (ZT l t) []),Zy (Zp (ZT l t))],by simp,by simp,by simp [go_sem],?_,by simp [go_sem],?_⟩
          ·simp [go_sem,Z0,Zb,Zy,hO]
           refine ⟨⟨rfl,rfl,rfl,fun i hi=>⟨rfl,UF rfl,fun c hc q hq=>?_⟩⟩,Hx,Hw⟩
           simp at hc
           rcases hc with rfl|rfl|rfl|rfl<;>simp [VP] at hq<;>simp [hq]
          ·simp [go_sem,Z0,Zb,Zy,hO,hwf]
           exact ⟨by omega,b1,b2,rfl⟩
       ·have hwf:XX l t=false:=by simp [XX,h2]
        simp [go_sem]
        refine ⟨rfl,[],[],by simp,by simp,by simp [go_sem],by simp [go_sem],by simp [go_sem],?_⟩
        simp [go_sem,hwf]
 ·have hwf:XX l t=false:=by simp [XX,h0]
  refine Zl Tryz.func57 (by kernel_rfl) rfl (by simp [Tryz.ntmps57]) ?_;simp only [Tryz.ntmps57,Tryz.results57];simp [go_sem]
  refine Zc (Q2 l hl hw) ?_ ?_
  ·simp [go_sem]
   exact Ze (by omega) cl
  ·simp [go_sem,h0]
   refine ⟨rfl,[],[],by simp,by simp,by simp [go_sem],by simp [go_sem],by simp [go_sem],?_⟩
   simp [go_sem,hwf]
theorem UG {l:List POp} (g:List PNode) (hg:g.length≤1048576):∀ e:ET,Xh l e→YOk g e
 | .leaf b,h=>ZfX g hg b h
 | .grp e,h=>ZhQ g hg (UG g hg e h)
 | .pre o e,⟨h1,_,_,h4⟩=>ZhO g hg h1 (UG g hg e h4)
 | .post o e,⟨h1,_,_,h4⟩=>ZfW g hg h1 (UG g hg e h4)
 | .inf o x y,⟨h1,_,_,h4,h5⟩=>ZhP g hg h1 (UG g hg x h4) (UG g hg y h5)
def ZbG (a b:PWord):Bool:=b.infix_||a.infix_||(b.op&&a.op)
def Y2 (ws:List PWord):Nat→ByteArray
 |0=>ByteArray.empty
 |i+1=>(if 0<i∧ZbG (YX ws (i-1)) (YX ws i)=true then Y2 ws i++⟨#[32]⟩ else Y2 ws i)++(YX ws i).text
theorem K7 {ws:List PWord} {B:Nat} (h:∀ i,(YX ws i).text.size≤B):∀ i,(Y2 ws i).size≤i*(B+1)
 |0=>by simp [Y2]
 |i+1=>by
  have h1:=K7 h i
  have h2:=h i
  have e:(i+1)*(B+1)=i*(B+1)+(B+1):=Nat.succ_mul _ _
  have e3:(⟨#[32]⟩:ByteArray).size=1:=rfl
  simp only [Y2]
  split<;>simp only [ByteArray.size_append,e3]<;>omega
def TxB (B:Nat):ET→Prop
 | .leaf b=>b.2.size≤B
 | .grp e=>TxB B e
 | .pre o e=>o.text.size≤B∧TxB B e
 | .post o e=>o.text.size≤B∧TxB B e
 | .inf o x y=>o.text.size≤B∧TxB B x∧TxB B y
theorem Jq {B:Nat}:∀ {e:ET},TxB B e→TxB B (ZD e)
 | .leaf b,h=>h
 | .grp e,h=>Jq (e:=e) h
 | .pre o e,⟨h1,h2⟩=>⟨h1,Jq h2⟩
 | .post o e,⟨h1,h2⟩=>⟨h1,Jq h2⟩
 | .inf o x y,⟨h1,h2,h3⟩=>⟨h1,Jq h2,Jq h3⟩
theorem Jf {B:Nat}:∀ {e:ET} (m:Int),TxB B e→TxB B (Zw e m)
 | .leaf b,m,h=>by simp only [Zw];split<;>exact h
 | .grp e,m,h=>by have:=Jf (e:=e) 0 h;simp only [Zw];split<;>exact this
 | .pre o e,m,⟨h1,h4⟩=>by have:=Jf (ZH o false) h4;simp only [Zw];split<;>exact ⟨h1,this⟩
 | .post o e,m,⟨h1,h4⟩=>by have:=Jf (ZH o false) h4;simp only [Zw];split<;>exact ⟨h1,this⟩
 | .inf o x y,m,⟨h1,h4,h5⟩=>by have:=Jf (ZH o false) h4;have:=Jf (ZH o true) h5;simp only [Zw];split<;>exact ⟨h1,by assumption,by assumption⟩
theorem UA {B:Nat} (hB:1≤B):∀ {e:ET},TxB B e→∀ w,w∈Zp e→w.text.size≤B
 | .leaf b,h,w,hw=>by simp only [Zp,List.mem_singleton] at hw;subst hw;exact h
 | .grp e,h,w,hw=>by
  simp only [Zp,List.mem_cons,List.mem_append,List.mem_nil_iff,or_false] at hw
  rcases hw with rfl|hw|rfl
  ·exact hB
  ·exact UA hB (e:=e) h w hw
  ·exact hB
 | .pre o e,⟨h1,h2⟩,w,hw=>by
  simp only [Zp,List.mem_cons] at hw
  rcases hw with rfl|hw
  ·exact h1
  ·exact UA hB h2 w hw
 | .post o e,⟨h1,h2⟩,w,hw=>by
  simp only [Zp,List.mem_append,List.mem_singleton] at hw
  rcases hw with hw|rfl
  ·exact UA hB h2 w hw
  ·exact h1
 | .inf o x y,⟨h1,h2,h3⟩,w,hw=>by
  simp only [Zp,List.mem_cons,List.mem_append] at hw
  rcases hw with hw|rfl|hw
  ·exact UA hB h2 w hw
  ·exact h1
  ·exact UA hB h3 w hw
theorem Kp:∀ (e:ET) (out:List PNode) (n:PNode),n∈out→n∈lay e out
 | .leaf b,out,n,h=>by simp only [lay,List.mem_append];exact .inl h
 | .grp e,out,n,h=>by simp only [lay,List.mem_append];exact .inl (Kp e out n h)
 | .pre o e,out,n,h=>by simp only [lay,List.mem_append];exact .inl (Kp e out n h)
 | .post o e,out,n,h=>by simp only [lay,List.mem_append];exact .inl (Kp e out n h)
 | .inf o x y,out,n,h=>by simp only [lay,List.mem_append];exact .inl (Kp y _ n (Kp x out n h))
theorem Gp {B:Nat}:∀ (e:ET) (out:List PNode),(∀ n,n∈lay e out→n.text.size≤B)→TxB B e
 | .leaf b,out,h=>h ⟨b.2,b.1,0,0⟩ (by simp [lay])
 | .grp e,out,h=>Gp e out fun n hn=>h n (by simp only [lay,List.mem_append];exact .inl hn)
 | .pre o e,out,h=>⟨h ⟨o.text,o.kind+2,(lay e out).length-1,0⟩ (by simp [lay]),Gp e out fun n hn=>h n (by simp only [lay,List.mem_append];exact .inl hn)⟩
 | .post o e,out,h=>⟨h ⟨o.text,o.kind+2,(lay e out).length-1,0⟩ (by simp [lay]),Gp e out fun n hn=>h n (by simp only [lay,List.mem_append];exact .inl hn)⟩
 | .inf o x y,out,h=>⟨h ⟨o.text,o.kind+2,(lay x out).length-1,(lay y (lay x out)).length-1⟩ (by simp [lay]),Gp x out fun n hn=>h n (by simp only [lay,List.mem_append];exact .inl (Kp y _ n hn)),Gp y _ fun n hn=>h n (by simp only [lay,List.mem_append];exact .inl hn)⟩
theorem ZbD {l:List POp} {t:List PNode} {B:Nat} (hB:1≤B) (h:XX l t=true) (ht:∀ i,i<t.length→(Za t i).text.size≤B) (i:Nat):(YX (Zp (ZT l t)) i).text.size≤B:=by
 obtain ⟨g1,g2,g3,g4,_⟩:=WQ h
 have h1:TxB B (Xq l t):=Gp (Xq l t) [] fun n hn=>by
  rw [←g4] at hn
  obtain ⟨j,hj,rfl⟩:=List.mem_iff_getElem.1 hn
  have:=ht j hj
  simpa [Za,List.getD_eq_getElem?_getD,hj] using this
 have h2:=UA hB (Jf 0 (Jq h1))
 unfold YX
 rw [List.getD_eq_getElem?_getD]
 by_cases hi:i<(Zp (ZT l t)).length
 ·rw [List.getElem?_eq_getElem hi]
  exact h2 _ (List.getElem_mem hi)
 ·rw [List.getElem?_eq_none (by omega)]
  exact Nat.zero_le _
theorem ZcC (a:ByteArray) {g:Nat→List AV} (hg:g 0=[.lit (.int .u8 32)]) (j:Nat) (hj:j<a.size+1):Z2 a.size (Zt a) g j=Zt (a++⟨#[32]⟩) j:=by
 rw [←V5 a ⟨#[32]⟩ j hj]
 unfold Z2
 by_cases h:j<a.size
 ·rw [if_pos h,if_pos h]
 ·have e:j-a.size=0:=by omega
  rw [if_neg h,if_neg h,e,hg]
  rfl
theorem ZlF {idx:Nat→Nat} {m n k:Nat} {a b c:ByteArray} (hn:n=a.size) (e:c=a++b) (hk:k=c.size):∀ j,j<k→Yf idx m (Z2 n (Zt a) (Zt b) j) (Zt c j):=fun j hj=>by
 subst hn;subst e;subst hk
 rw [V5 a b j (by simpa using hj)]
 exact Zk rfl
theorem Znq {idx:Nat→Nat} {m n n' k:Nat} {a b c:ByteArray} {g:Nat→List AV} (hn:n=a.size) (hn':n'=a.size+1) (hg:g 0=[.lit (.int .u8 32)]) (e:c=(a++⟨#[32]⟩)++b) (hk:k=c.size):∀ j,j<k→Yf idx m (Z2 n' (Z2 n (Zt a) g) (Zt b) j) (Zt c j):=fun j hj=>by
 subst hn;subst hn';subst e;subst hk
 have hs:(a++⟨#[32]⟩:ByteArray).size=a.size+1:=by rw [ByteArray.size_append];rfl
 rw [←V5 (a++⟨#[32]⟩) b j (by simpa using hj)]
 unfold Z2
 rw [hs]
 by_cases h:j<a.size+1
 ·rw [if_pos h,if_pos h]
  rw [show (if j<a.size then Zt a j else g (j-a.size))=Z2 a.size (Zt a) g j from rfl,ZcC a hg j h]
  exact Zk rfl
 ·rw [if_neg h,if_neg h]
  exact Zk rfl
def Vh (l:List POp) (t:List PNode):ByteArray:=if Yg l t then Y2 (Zp (ZT l t)) (Zp (ZT l t)).length else ByteArray.empty
set_option maxRecDepth 100000 in
theorem Zfr (l:List POp) (hl:l.length≤9223372036854775807) (hw:YT l) (t:List PNode) (ht:t.length≤1048576) (hwt:KP t) (hts:∀ i,i<t.length→(Za t i).text.size≤1048576):VFun Tryz.prog 27 [.agg [.sl 4 l.length (Zg l)],.agg [.sl 4 t.length (Zf t)]] (fun av obs=>obs=[]∧av=.tup [.lit (.string (Vh l t)),.lit (.bool (Yg l t))]):=by
 have cl:∀ (i:Nat) (c:AV),i<l.length→c∈Zg l i→Closed c:=fun i c _ h=>ZK l i c h
 have clt:∀ (i:Nat) (c:AV),i<t.length→c∈Zf t i→Closed c:=fun i c _ h=>ZG t i c h
 refine Zi Tryz.func27 (by kernel_rfl) rfl (by simp [Tryz.ntmps27]) ?_;simp only [Tryz.ntmps27,Tryz.results27];simp [go_sem]
 refine ZR (G8 l hl hw t ht hwt) ?_ ?_
 ·simp [go_sem]
  exact ⟨Ze (by omega) cl,Ze (by omega) clt⟩
 rintro av obs ⟨rfl,rfl⟩
 cases hgo:Yg l t with
 |false=>
  simp [go_sem,Vh,hgo]
  rfl
 |true=>
  have hgo':=hgo
  simp only [Yg,Bool.and_eq_true,decide_eq_true_eq] at hgo'
  obtain ⟨hwf,hs⟩:=hgo'
  obtain ⟨g1,g2,g3,g4,g5,g6,g7,g8,g9,g10⟩:=WQ hwf
  have e3:Xm l t=lay (ZT l t) []:=by rw [Xm,hgo];rfl
  have hO:=ZN (ZT l t) []
  have hp:=Z1 (ZT l t)
  have hyl:=Yu (ZT l t)
  have htx:=ZbD (by decide:1≤1048576) hwf hts
  simp only [List.length_nil,Nat.zero_add] at hO
  have hT:Xh l (ZT l t):=WS 0 (Wh g3)
  have cy:=UG (l:=l) (Xm l t) (by rw [e3,hO];omega) (ZT l t) hT [] (by rw [e3];exact fun _ _=>rfl) (by rw [e3];exact Nat.le_refl _) [] (by simp;omega)
  rw [hO] at cy
  have hgl:(Xm l t).length=ZF (ZT l t):=by rw [e3,hO]
  have clg:∀ (i:Nat) (c:AV),i<(Xm l t).length→c∈Zf (Xm l t) i→Closed c:=fun i c _ h=>ZG _ i c h
  have ew:IntKind.i64.wrap (((Xm l t).length:Int)-1)=((ZF (ZT l t)-1:Nat):Int):=by rw [hgl,wrap_i64 (by omega)];omega
  have hpz:Vh l t=Y2 (Zp (ZT l t)) (Zp (ZT l t)).length:=by rw [Vh,hgo];rfl
  rw [hpz]
  simp only [List.nil_append] at cy
  generalize hWs:Zp (ZT l t)=W at *
  simp [go_sem,ew]
  refine ⟨by omega,?_⟩
  refine Q9 [4] cy (by simp) ?_ ?_ trivial ?_
  ·simp [go_sem]
   exact ⟨.inr (.inl ⟨by simp,Ym (k:=2) rfl (by omega) clg,fun i hi=>Z5 _ i⟩),.inl (.closed _ (.lit _)),.inl (.own 0 (by simp))⟩
  ·simp [go_sem,Z3]
  ·rintro av mem maps ⟨rfl,rfl,rfl⟩
   refine ⟨HC fun i=>rfl,?_⟩
   simp [go_sem,Z3]
   have hsz:=K7 htx
   refine Y9 (fun i:Nat=>i≤W.length) (fun i=>W.length-i) (fun i=>.of [(8,.own 0),(9,.own 1),(10,.lit (.int .i64 i))] [Z3 W,some ⟨5,1,(Y2 W i).size,Zt (Y2 W i)⟩]) ⟨0,by omega,?_⟩ (fun i hi=>?_)
   ·refine Zx [5,6] (by simp) (by simp) (by simp) (by simp) (by simp [go_sem]) ?_ ?_
    ·simp [go_sem]
    ·simp [go_sem,Z3,Y2]
     exact .inr Kf
   ·have hb2:(Y2 W i).size≤41943080000:=Nat.le_trans (hsz i) (by have:=Nat.mul_le_mul_right 1048577 (show i≤40000 by omega);omega)
    have ht1:=htx i
    have htb:∀ j,j<(YX W i).text.size→(Zt (YX W i).text j).all XW=true:=fun j _=>HW _ j
    by_cases hlt:i<W.length
    ·by_cases hi0:i=0
     ·subst hi0
      have hW1:Y2 W 1=Y2 W 0++(YX W 0).text:=by simp [Y2]
      have hsz1:(Y2 W 1).size=(Y2 W 0).size+(YX W 0).text.size:=by rw [hW1,ByteArray.size_append]
      simp [go_sem,Z3,Q4,hlt,-List.all_eq_true,HW]
      refine ⟨by omega,by omega,by omega,by omega,1,by omega,by omega,?_⟩
      refine Zx [0,4] (by simp) (by simp) (by simp) (by simp) (by simp [go_sem]) ?_ ?_
      ·simp [go_sem]
       rfl
      ·simp [go_sem]
       first
       |exact .inr ⟨hsz1.symm,ZlF rfl hW1 rfl⟩
       |exact ⟨.inr Kf,.inr ⟨hsz1.symm,ZlF rfl hW1 rfl⟩⟩
     ·have ei:IntKind.i64.wrap ((i:Int)-1)=((i-1:Nat):Int):=by rw [wrap_i64 (by omega)];omega
      have hlt':i-1<W.length:=by omega
      have hpos:0<i:=by omega
      cases hg:ZbG (YX W (i-1)) (YX W i) with
      |true=>
       have hW1:Y2 W (i+1)=(Y2 W i++⟨#[32]⟩)++(YX W i).text:=by simp only [Y2];rw [if_pos ⟨hpos,hg⟩]
       have hsz1:(Y2 W (i+1)).size=(Y2 W i).size+1+(YX W i).text.size:=by rw [hW1,ByteArray.size_append,ByteArray.size_append];rfl
       cases b1:(YX W i).infix_<;>cases b2:(YX W (i-1)).infix_<;>cases b3:(YX W i).op<;>cases b4:(YX W (i-1)).op<;>first|(simp [ZbG,b1,b2,b3,b4] at hg;done)|skip
       all_goals
        simp [go_sem,Z3,Q4,hlt,hlt',hpos,ei,b1,b2,b3,b4,-List.all_eq_true,HW]
        refine ⟨by omega,by omega,by omega,by omega,by omega,by omega,i+1,by omega,by omega,?_⟩
        refine Zx [0,6] (by simp) (by simp) (by simp) (by simp) (by simp [go_sem]) ?_ ?_
        ·simp [go_sem]
         exact Zn (by omega)
        ·simp [go_sem]
         exact ⟨.inr Kf,.inr ⟨hsz1.symm,Znq rfl rfl rfl hW1 rfl⟩⟩
      |false=>
       have hW1:Y2 W (i+1)=Y2 W i++(YX W i).text:=by simp only [Y2];rw [if_neg (by rw [hg];simp)]
       have hsz1:(Y2 W (i+1)).size=(Y2 W i).size+(YX W i).text.size:=by rw [hW1,ByteArray.size_append]
       cases b1:(YX W i).infix_<;>cases b2:(YX W (i-1)).infix_<;>cases b3:(YX W i).op<;>cases b4:(YX W (i-1)).op<;>first|(simp [ZbG,b1,b2,b3,b4] at hg;done)|skip
       all_goals
        simp [go_sem,Z3,Q4,hlt,hlt',hpos,ei,b1,b2,b3,b4,-List.all_eq_true,HW]
        refine ⟨by omega,by omega,by omega,by omega,i+1,by omega,by omega,?_⟩
        refine Zx [0,4] (by simp) (by simp) (by simp) (by simp) (by simp [go_sem]) ?_ ?_
        ·simp [go_sem]
         exact Zn (by omega)
        ·simp [go_sem]
         exact ⟨.inr Kf,.inr ⟨hsz1.symm,ZlF rfl hW1 rfl⟩⟩
    ·have e:i=W.length:=by omega
     subst e
     simp [go_sem,Z3,Q4]
     omega
end Go.Proofs.YtjdmmhcogmepaaaGreatDoor.V
namespace Go.Proofs.YtjdmmhcogmepaaaGreatDoor.V
open Go.RowKit
set_option maxRecDepth 100000 in
theorem Zd5 (a b:List PNode) (ha:a.length≤9223372036854775807) (hb:b.length≤9223372036854775807):VFun Tryz.prog 20 [.agg [.sl 4 a.length (Zf a)],.agg [.sl 4 b.length (Zf b)]] (fun av obs=>obs=[]∧av=.lit (.bool (JY a b))):=by
 have cla:∀ (i:Nat) (c:AV),i<a.length→c∈Zf a i→Closed c:=fun i c _ h=>ZG a i c h
 have clb:∀ (i:Nat) (c:AV),i<b.length→c∈Zf b i→Closed c:=fun i c _ h=>ZG b i c h
 refine Zi Tryz.func20 (by kernel_rfl) rfl (by simp [Tryz.ntmps20]) ?_;simp only [Tryz.ntmps20,Tryz.results20];simp [go_sem]
 refine ⟨by omega,by omega,fun h=>by simp [JY];omega,fun h=>?_⟩
 refine Yn (fun i:Nat=>i≤a.length∧∀ j,j<i→HB (Za a j) (Za b j)=true) (fun i=>a.length-i) (fun i=>.of [(2,.ptr 0 1 0 0),(3,.ptr 1 1 0 0),(5,.lit (.int .i64 i))] [some ⟨37,1,1,fun _=>[.sl 4 a.length (Zf a)]⟩,some ⟨37,1,1,fun _=>[.sl 4 b.length (Zf b)]⟩]) ⟨0,⟨by omega,by simp⟩,?_⟩ (fun i hi=>?_)
 ·simp [go_sem]
  exact ⟨cla,clb⟩
 ·by_cases hlt:i<a.length
  ·simp [go_sem,hlt]
   refine ⟨by omega,Zq [] (.q 0 <| .q 1 <| .q 2 <| .q 3 <| .q 4 <| .q 5 <| .q 6 <| .q 7 <| .q 8 <| .q 9 <| .q 10 <| .done) (by kernel_rfl) ?_⟩
   simp [go_sem,Zz,hlt]
   refine ⟨by omega,.bool (!HB (Za a i) (Za b i)),fun w=>?_,?_⟩
   ·simp only [HB,X4]
    by_cases h1:(Za a i).kind=(Za b i).kind<;>by_cases h2:(Za a i).text=(Za b i).text<;>by_cases h3:(Za a i).a=(Za b i).a<;>by_cases h4:(Za a i).b=(Za b i).b<;>simp [h1,h2,h3,h4,Zkv]
   ·cases hq:HB (Za a i) (Za b i) with
    |false=>
     simp [go_sem]
     exact ZdB hlt hq
    |true=>
     simp [go_sem]
     refine ⟨i+1,⟨by omega,fun j hj=>?_⟩,by omega,Zn (by omega),cla,clb⟩
     rcases Nat.lt_succ_iff_lt_or_eq.mp hj with hj|rfl
     ·exact hi.2 j hj
     ·exact hq
  ·simp [go_sem,hlt]
   exact ⟨by omega,GY (by omega) fun j hj=>hi.2 j (by omega)⟩
open Go.Proofs.YtjdmmhcogmepaaaGreatDoor.Ops (Tr Tk Lv Res Fit OF)
def VM (l:List POp):PT→Prop
 | .leaf b=>K0 l (.leaf b)
 | .grp e=>VM l e
 | .pre o e=>K0 l (.pre o)∧VM l e
 | .post o e=>K0 l (.post o)∧VM l e
 | .inf o x y=>K0 l (.inf o)∧VM l x∧VM l y
theorem Wl {l:List POp}:∀ {e:PT},VM l e→∀ tk,tk∈e.yield→K0 l tk
 | .leaf b,h,tk,hm=>by simp only [Tr.yield,List.mem_singleton] at hm;subst hm;exact h
 | .grp e,h,tk,hm=>by
  simp only [Tr.yield,List.mem_cons,List.mem_append,List.mem_nil_iff,or_false] at hm
  rcases hm with rfl|hm|rfl
  ·trivial
  ·exact Wl (e:=e) h tk hm
  ·trivial
 | .pre o e,h,tk,hm=>by
  simp only [Tr.yield,List.mem_cons] at hm
  rcases hm with rfl|hm
  ·exact h.1
  ·exact Wl h.2 tk hm
 | .post o e,h,tk,hm=>by
  simp only [Tr.yield,List.mem_append,List.mem_singleton] at hm
  rcases hm with hm|rfl
  ·exact Wl h.2 tk hm
  ·exact h.1
 | .inf o x y,h,tk,hm=>by
  simp only [Tr.yield,List.mem_cons,List.mem_append] at hm
  rcases hm with hm|rfl|hm
  ·exact Wl h.2.1 tk hm
  ·exact h.1
  ·exact Wl h.2.2 tk hm
theorem QB {l:List POp} {o:POp} {k:Int} (h1:ZQ l o.text k=true) (h2:JX l o.text k=o):InL l o:=by
 obtain ⟨i,hi,e,_⟩:=QN h1
 exact ⟨i,hi,by rw [←e,h2]⟩
theorem QU {l:List POp} (hu:WB l):∀ {e:PT},YQ e→Xe e→e.All lvO (InL l)→Xh l e
 | .leaf b,h1,_,_=>h1
 | .grp e,h1,h2,h3=>QU hu (e:=e) h1 h2 h3
 | .pre o e,h1,h2,h3=>by
  obtain ⟨p1,p2⟩:=Y5 hu (z:=o.text) rfl h3.1
  rw [h2.1] at p1 p2
  exact ⟨h2.1,p1,p2,QU hu h1 h2.2 h3.2.2⟩
 | .post o e,h1,h2,h3=>by
  obtain ⟨p1,p2⟩:=Y5 hu (z:=o.text) rfl h3.1
  rw [h2.1] at p1 p2
  exact ⟨h2.1,p1,p2,QU hu h1 h2.2 h3.2.2⟩
 | .inf o x y,h1,h2,h3=>by
  obtain ⟨p1,p2⟩:=Y5 hu (z:=o.text) rfl h3.1
  rw [h2.1] at p1 p2
  exact ⟨h2.1,p1,p2,QU hu h1.1 h2.2.1 h3.2.1,QU hu h1.2 h2.2.2 h3.2.2⟩
theorem H7 {l:List POp}:∀ (e:PT) (out:List PNode),Xh l e→(∀ n,n∈lay e out→YL n=true)→VM l e
 | .leaf b,out,h,ht=>by
  have:=ht ⟨b.2,b.1,0,0⟩ (by simp [lay])
  simp only [YL,Bool.and_eq_true] at this
  have h2:=this.2
  rcases h with h|h
  ·rw [if_pos h] at h2;exact .inl ⟨h,h2⟩
  ·rw [if_neg (by omega),if_pos h] at h2;exact .inr ⟨h,h2⟩
 | .grp e,out,h,ht=>H7 e out h fun n hn=>ht n (by simp [lay,hn])
 | .pre o e,out,h,ht=>⟨⟨h.1,QB h.2.1 h.2.2.1⟩,H7 e out h.2.2.2 fun n hn=>ht n (by simp [lay,hn])⟩
 | .post o e,out,h,ht=>⟨⟨h.1,QB h.2.1 h.2.2.1⟩,H7 e out h.2.2.2 fun n hn=>ht n (by simp [lay,hn])⟩
 | .inf o x y,out,h,ht=>by
  have hy:∀ n,n∈lay y (lay x out)→YL n=true:=fun n hn=>ht n (by simp [lay,hn])
  exact ⟨⟨h.1,QB h.2.1 h.2.2.1⟩,H7 x out h.2.2.2.1 fun n hn=>hy n (Kp y _ n hn),H7 y _ h.2.2.2.2 hy⟩
theorem WC:∀ e:PT,(Zp e).map (·.text)=e.yield.map tkW
 | .leaf b=>rfl
 | .grp e=>by simp [Zp,Tr.yield,WC e,tkW,Vj,UW]
 | .pre o e=>by simp [Zp,Tr.yield,WC e,tkW,ZP]
 | .post o e=>by simp [Zp,Tr.yield,WC e,tkW,ZP]
 | .inf o x y=>by simp [Zp,Tr.yield,WC x,WC y,tkW,ZP]
theorem Zcu (e:PT) {i:Nat} {tk:TkP} (h:e.yield[i]?=some tk):(YX (Zp e) i).text=tkW tk:=by
 have h1:=congrArg (fun l=>l[i]?) (WC e)
 simp only [List.getElem?_map,h,Option.map_some] at h1
 unfold YX
 rw [List.getD_eq_getElem?_getD]
 cases hw:(Zp e)[i]? with
 |none=>rw [hw] at h1;simp at h1
 |some w=>rw [hw] at h1;simpa using h1
theorem Ju (e:PT):(Zp e).length=e.yield.length:=by
 have:=congrArg List.length (WC e)
 simpa using this
theorem Zbv:∀ (r:List (ByteArray×ByteArray)) (x:ByteArray×ByteArray) (g:ByteArray),Xi (r++[x]) g=Xi r ByteArray.empty++x.1++x.2++g
 |[],x,g=>by simp [Xi]
 |y::r,x,g=>by
  simp only [List.cons_append,Xi,Zbv r x g,ByteArray.append_assoc]
theorem Zbw (r:List (ByteArray×ByteArray)) (x:ByteArray×ByteArray):Xi (r++[x]) ByteArray.empty=Xi r ByteArray.empty++x.1++x.2:=by
 rw [Zbv,ByteArray.append_empty]
def JC (gp:Nat→ByteArray):Nat→List TkP→List (ByteArray×TkP)
 | _,[]=>[]
 |i,tk::r=>(gp i,tk)::JC gp (i+1) r
theorem ZcU (gp:Nat→ByteArray):∀ (i:Nat) (ts:List TkP),(JC gp i ts).map (·.2)=ts
 | _,[]=>rfl
 |i,tk::r=>by simp [JC,ZcU gp (i+1) r]
theorem ZbH (gp:Nat→ByteArray):∀ (i:Nat) (ts:List TkP) (tk:TkP),JC gp i (ts++[tk])=JC gp i ts++[(gp (i+ts.length),tk)]
 |i,[],tk=>by simp [JC]
 |i,x::r,tk=>by
  simp only [List.cons_append,JC,ZbH gp (i+1) r tk,List.length_cons]
  rw [show i+1+r.length=i+(r.length+1) by omega]
def Zev (ps:List (ByteArray×TkP)):List (ByteArray×ByteArray):=ps.map fun x=>(x.1,tkW x.2)
def ZkD (a b:TkP):Prop:=ZfU (tkW a) (Zh (tkW b) 0)
theorem ZcQ {l:List POp} (hok:∀ j,j<l.length→Yx (Zm l j)=true) {gp:Nat→ByteArray} (hb:∀ i,Zcd (gp i)) {g:ByteArray} (hg:Zcd g):∀ (ts:List TkP) (i:Nat),(∀ tk,tk∈ts→K0 l tk)→(∀ k a b,ts[k]?=some a→ts[k+1]?=some b→0<(gp (i+k+1)).size∨ZkD a b)→GH l (Zev (JC gp i ts)) g
 |[],i,_,_=>hg
 |tk::r,i,hk,hm=>by
  have ht:=(Zjl hok (hk tk (by simp)) ByteArray.empty).2
  refine ⟨hb i,ht,?_,ZcQ hok hb hg r (i+1) (fun t h=>hk t (by simp [h])) (fun k a b h1 h2=>by
   have:=hm (k+1) a b (by simpa using h1) (by simpa using h2)
   rwa [show i+(k+1)+1=i+1+k+1 by omega] at this)⟩
  cases r with
  |nil=>trivial
  |cons y s=>exact hm 0 tk y rfl rfl
theorem GE {g:ByteArray} (h:g=⟨#[]⟩∨g=⟨#[32]⟩∨g=⟨#[10,9]⟩∨g=⟨#[32,32]⟩):Zcd g:=by
 intro i hi
 rcases h with rfl|rfl|rfl|rfl
 ·have:(⟨#[]⟩:ByteArray).size=0:=rfl
  omega
 ·obtain rfl:i=0:=by have:(⟨#[32]⟩:ByteArray).size=1:=rfl;omega
  decide
 ·have:(⟨#[10,9]⟩:ByteArray).size=2:=rfl
  rcases (by omega:i=0∨i=1) with rfl|rfl<;>decide
 ·have:(⟨#[32,32]⟩:ByteArray).size=2:=rfl
  rcases (by omega:i=0∨i=1) with rfl|rfl<;>decide
structure WfTree (l:List POp) (T:List PNode) (e:PT):Prop where
 tbl:Yv l=0
 lay:T=lay e []
 inT:Xh l e
 tks:VM l e
 len:1≤T.length∧T.length≤20000
theorem ZkI {l:List POp} {T:List PNode} (h:XX l T=true):WfTree l T (Xq l T):=by
 obtain ⟨g1,g2,g3,g4,_⟩:=WQ h
 refine ⟨(H2 h).2,g4,g3,H7 _ [] g3 fun n hn=>?_,g1,g2⟩
 rw [←g4] at hn
 obtain ⟨i,hi,rfl⟩:=List.getElem_of_mem hn
 have:=(Zbc h).txt i hi
 unfold Za at this
 rwa [List.getD_eq_getElem?_getD,List.getElem?_eq_getElem hi] at this
def ZfR:PT→Prop
 | .leaf _=>True
 | .grp _=>False
 | .pre _ e=>ZfR e
 | .post _ e=>ZfR e
 | .inf _ x y=>ZfR x∧ZfR y
theorem UI:∀ e:PT,ZfR (ZD e)
 | .leaf _=>trivial
 | .grp e=>UI e
 | .pre _ e=>UI e
 | .post _ e=>UI e
 | .inf _ x y=>⟨UI x,UI y⟩
theorem Q3:∀ {e:PT},ZfR e→∀ m,ZD (Zw e m)=e
 | .leaf b,_,m=>by simp only [Zw];split<;>rfl
 | .pre o e,h,m=>by
  have:=Q3 (e:=e) h (ZH o false)
  simp only [Zw];split<;>simp [ZD,this]
 | .post o e,h,m=>by
  have:=Q3 (e:=e) h (ZH o false)
  simp only [Zw];split<;>simp [ZD,this]
 | .inf o x y,h,m=>by
  have h1:=Q3 h.1 (ZH o false)
  have h2:=Q3 h.2 (ZH o true)
  simp only [Zw];split<;>simp [ZD,h1,h2]
theorem QI {l:List POp}:∀ {e:PT},VM l e→VM l (ZD e)
 | .leaf _,h=>h
 | .grp e,h=>QI (e:=e) h
 | .pre _ e,h=>⟨h.1,QI h.2⟩
 | .post _ e,h=>⟨h.1,QI h.2⟩
 | .inf _ x y,h=>⟨h.1,QI h.2.1,QI h.2.2⟩
theorem QH {l:List POp}:∀ {e:PT} (m:Int),VM l e→VM l (Zw e m)
 | .leaf _,m,h=>by simp only [Zw];split<;>exact h
 | .grp e,m,h=>by have:=QH (e:=e) 0 h;simp only [Zw];split<;>exact this
 | .pre o e,m,h=>by have:=QH (ZH o false) h.2;simp only [Zw];split<;>exact ⟨h.1,this⟩
 | .post o e,m,h=>by have:=QH (ZH o false) h.2;simp only [Zw];split<;>exact ⟨h.1,this⟩
 | .inf o x y,m,h=>by
  have h1:=QH (ZH o false) h.2.1
  have h2:=QH (ZH o true) h.2.2
  simp only [Zw];split<;>exact ⟨h.1,h1,h2⟩
theorem QX:∀ {e:PT},ZfR e→∀ m,m≤1001→(∀ o b,ZH o b≤1001)→ZY (Zw e m)≤2*ZY e
 | .leaf b,_,m,hm,_=>by simp only [Zw];rw [if_neg (by omega)];simp [ZY]
 | .pre o e,h,m,hm,hh=>by
  have:=QX (e:=e) h (ZH o false) (hh _ _) hh
  simp only [Zw];split<;>simp only [ZY]<;>omega
 | .post o e,h,m,hm,hh=>by
  have:=QX (e:=e) h (ZH o false) (hh _ _) hh
  simp only [Zw];split<;>simp only [ZY]<;>omega
 | .inf o x y,h,m,hm,hh=>by
  have h1:=QX h.1 (ZH o false) (hh _ _) hh
  have h2:=QX h.2 (ZH o true) (hh _ _) hh
  simp only [Zw];split<;>simp only [ZY]<;>omega
theorem Uz (o:POp) (b:Bool):ZH o b≤1001:=by
 unfold ZH
 by_cases h:Yx o=true
 ·have:o.level≤1000:=by simp [Yx] at h;omega
  split
  ·omega
  ·repeat' split
   all_goals omega
 ·simp [h]
theorem KW {l:List POp} (hok:∀ j,j<l.length→Yx (Zm l j)=true):∀ {e:PT},ZfR e→Xh l e→∀ m,m≤1001→m≤(Zw e m).level lvO∧(Zw e m).Adm lvO
 | .leaf b,_,_,m,hm=>by simp only [Zw];rw [if_neg (by omega)];exact ⟨hm,trivial⟩
 | .pre o e,h,ht,m,hm=>by
  obtain ⟨j,hj,ej⟩:=QB ht.2.1 ht.2.2.1
  have ho:Yx o=true:=ej▸hok j hj
  have e1:=HJ ho ht.1
  have:=KW hok (e:=e) h ht.2.2.2 (ZH o false) (Uz _ _)
  rw [e1] at this
  simp only [Zw]
  rw [e1]
  split
  ·exact ⟨hm,this⟩
  ·exact ⟨by simp only [Tr.level,lvO];omega,this⟩
 | .post o e,h,ht,m,hm=>by
  obtain ⟨j,hj,ej⟩:=QB ht.2.1 ht.2.2.1
  have ho:Yx o=true:=ej▸hok j hj
  have e1:=Qn ho (by have:=ht.1;omega)
  have:=KW hok (e:=e) h ht.2.2.2 (ZH o false) (Uz _ _)
  rw [e1] at this
  simp only [Zw]
  rw [e1]
  split
  ·exact ⟨hm,this⟩
  ·exact ⟨by simp only [Tr.level,lvO];omega,this⟩
 | .inf o x y,h,ht,m,hm=>by
  obtain ⟨j,hj,ej⟩:=QB ht.2.1 ht.2.2.1
  have ho:Yx o=true:=ej▸hok j hj
  have e1:=Qn ho (by have:=ht.1;omega)
  have e2:=QV ho ht.1
  have h1:=KW hok h.1 ht.2.2.2.1 (ZH o false) (Uz _ _)
  have h2:=KW hok h.2 ht.2.2.2.2 (ZH o true) (Uz _ _)
  rw [e1] at h1
  rw [e2] at h2
  simp only [Zw]
  rw [e1,e2]
  split
  ·exact ⟨hm,h1.1,h2.1,h1.2,h2.2⟩
  ·exact ⟨by simp only [Tr.level,lvO];omega,h1.1,h2.1,h1.2,h2.2⟩
theorem Zfe {l:List POp} {T:List PNode} (h:Yg l T=true):Yv l=0∧Xh l (ZT l T)∧VM l (ZT l T)∧(ZT l T).Adm lvO∧ZF (ZT l T)≤20000∧ZD (ZT l T)=ZD (Xq l T)∧ZY (ZT l T)≤2*ZY (ZD (Xq l T)):=by
 simp only [Yg,Bool.and_eq_true,decide_eq_true_eq] at h
 have W:=ZkI h.1
 have hb:=UI (Xq l T)
 have hi:=Wh W.inT
 exact ⟨W.tbl,WS 0 hi,QH 0 (QI W.tks),(KW (XZ W.tbl) hb hi 0 (by omega)).2,h.2,Q3 hb 0,QX hb 0 (by omega) Uz⟩
theorem ZjX {l:List POp} {e:PT} (h0:Yv l=0) (hi:Xh l e) (ht:VM l e) (hx:ETx 20000 e) (hs:ZF e≤20000):XX l (lay e [])=true:=by
 have hl:=ZN e []
 have hp:=Z1 e
 simp only [List.length_nil,Nat.zero_add] at hl
 have htx:=Jd e [] hx (K9 _)
 have key:∀ n,n∈lay e []→n.text.size≤20000→YL n=true∧(ZO n=true→ZQ l n.text (n.kind-2)=true):=by
  have okL:∀ {o},InL l o→Kg o.text=true:=fun ⟨j,hj,e⟩=>Vi (e▸XZ h0 j hj)
  have gen:∀ (e:PT) (out:List PNode),Xh l e→VM l e→(∀ n,n∈out→n.text.size≤20000→YL n=true∧(ZO n=true→ZQ l n.text (n.kind-2)=true))→∀ n,n∈lay e out→n.text.size≤20000→YL n=true∧(ZO n=true→ZQ l n.text (n.kind-2)=true):=by
   intro e
   induction e with
   |leaf b=>
    intro out hi ht ho n hn hz
    simp only [lay,List.mem_append,List.mem_singleton] at hn
    rcases hn with hn|rfl
    ·exact ho n hn hz
    ·rcases ht with ⟨k,hk⟩|⟨k,hk⟩
     ·simp only at hz;simp [YL,ZO,k,hk,hz]
     ·simp only at hz;simp [YL,ZO,k,hk,hz]
   |grp e ih=>
    intro out hi ht ho n hn hz
    simp only [lay,List.mem_append,List.mem_singleton] at hn
    rcases hn with hn|rfl
    ·exact ih out hi ht ho n hn hz
    ·simp only at hz;simp [YL,ZO,hz]
   |pre o e ih=>
    intro out hi ht ho n hn hz
    simp only [lay,List.mem_append,List.mem_singleton] at hn
    rcases hn with hn|rfl
    ·exact ih out hi.2.2.2 ht.2 ho n hn hz
    ·have:=okL ht.1.2
     simp only at hz;simp [YL,ZO,hi.1,this,hz,hi.2.1]
   |post o e ih=>
    intro out hi ht ho n hn hz
    simp only [lay,List.mem_append,List.mem_singleton] at hn
    rcases hn with hn|rfl
    ·exact ih out hi.2.2.2 ht.2 ho n hn hz
    ·have:=okL ht.1.2
     simp only at hz;simp [YL,ZO,hi.1,this,hz,hi.2.1]
   |inf o x y ih1 ih2=>
    intro out hi ht ho n hn hz
    simp only [lay,List.mem_append,List.mem_singleton] at hn
    rcases hn with hn|rfl
    ·exact ih2 (lay x out) hi.2.2.2.2 ht.2.2 (ih1 out hi.2.2.2.1 ht.2.1 ho) n hn hz
    ·have:=okL ht.1.2
     simp only at hz;simp [YL,ZO,hi.1,this,hz,hi.2.1]
  exact gen e [] hi ht (by simp)
 have hk:∀ i,i<(lay e []).length→YL (Za (lay e []) i)=true∧(ZO (Za (lay e []) i)=true→ZQ l (Za (lay e []) i).text ((Za (lay e []) i).kind-2)=true):=fun i hi=>by
  refine key _ ?_ (htx i hi)
  unfold Za
  rw [List.getD_eq_getElem?_getD,List.getElem?_eq_getElem hi]
  exact List.getElem_mem hi
 obtain ⟨f1,_⟩:=Zbr (l:=l) (t:=lay e []) e [] hi (fun _ _=>rfl)
 simp only [XX,Xd,Kj,Bool.and_eq_true,decide_eq_true_eq,List.all_eq_true,List.mem_range]
 refine ⟨⟨h0,⟨by omega,?_⟩,fun i hi=>(hk i hi).1⟩,fun i hi=>?_⟩
 ·have:((lay e []).length:Int)-1=(((lay e []).length-1:Nat):Int):=by omega
  rw [this];simpa using f1
 ·have:=(hk i hi).2
  cases ho:ZO (Za (lay e []) i) with
  |false=>rfl
  |true=>simp [this ho]
theorem Zbs {l:List POp} {e:PT} (hi:Xh l e):Xq l (lay e [])=e:=(Zbr (l:=l) (t:=lay e []) e [] hi (fun _ _=>rfl)).2
theorem Zbt {l:List POp} {e:PT} (hw:XX l (lay e [])=true) (hi:Xh l e):Xd (lay e [])=true∧Ya (lay e [])=lay (ZD e) []:=by
 obtain ⟨_,_,_,_,g,_⟩:=WQ hw
 rw [Zbs hi] at g
 exact ⟨(H2 hw).1,g⟩
def VB:TkP→PWord
 | .leaf b=>⟨b.2,false,false⟩
 | .opn=>Vj
 | .cls=>UW
 | .pre o=>ZP o
 | .inf o=>ZP o
 | .post o=>ZP o
theorem WT:∀ e:PT,Zp e=e.yield.map VB
 | .leaf b=>rfl
 | .grp e=>by simp [Zp,Tr.yield,WT e,VB]
 | .pre o e=>by simp [Zp,Tr.yield,WT e,VB]
 | .post o e=>by simp [Zp,Tr.yield,WT e,VB]
 | .inf o x y=>by simp [Zp,Tr.yield,WT x,WT y,VB]
theorem ZcA (e:PT) {i:Nat} {tk:TkP} (h:e.yield[i]?=some tk):YX (Zp e) i=VB tk:=by
 unfold YX
 rw [List.getD_eq_getElem?_getD,WT,List.getElem?_map,h]
 rfl
theorem Zkb {b:Bool} {d:Nat} {t:TkP} {r:List TkP} (h:Fit b d (t::r)):∃ b' d',Fit b' d' r:=by
 cases b with
 |true=>
  cases t<;>simp only [Fit] at h
  ·exact ⟨_,_,h⟩
  ·exact ⟨_,_,h⟩
  ·exact ⟨_,_,h⟩
 |false=>
  cases t with
  |cls=>
   cases d with
   |zero=>simp only [Fit] at h
   |succ d=>simp only [Fit] at h;exact ⟨_,_,h⟩
  |inf o=>simp only [Fit] at h;exact ⟨_,_,h⟩
  |post o=>simp only [Fit] at h;exact ⟨_,_,h⟩
  |leaf b=>simp only [Fit] at h
  |pre o=>simp only [Fit] at h
  |opn=>simp only [Fit] at h
theorem ZbL:∀ (ts:List TkP) (b:Bool) (d:Nat),Fit b d ts→∀ k x y,ts[k]?=some (.leaf x)→ts[k+1]?=some (.leaf y)→False
 |[],_,_,_,k,x,y,h1,_=>by simp at h1
 |t::r,b,d,h,0,x,y,h1,h2=>by
  simp only [List.getElem?_cons_zero,Option.some.injEq] at h1
  subst h1
  cases r with
  |nil=>simp at h2
  |cons u s=>
   simp only [List.getElem?_cons_succ,List.getElem?_cons_zero,Option.some.injEq] at h2
   subst h2
   cases b with
   |true=>simp only [Fit] at h
   |false=>simp only [Fit] at h
 |t::r,b,d,h,k+1,x,y,h1,h2=>by
  obtain ⟨b',d',h'⟩:=Zkb h
  exact ZbL r b' d' h' k x y (by simpa using h1) (by simpa using h2)
theorem ZfY (e:PT):Fit true 0 e.yield:=by
 have:=VR e 0 [] (by simp [Fit])
 simpa using this
theorem Zjk {l:List POp} (hok:∀ j,j<l.length→Yx (Zm l j)=true) {o:POp} (h:InL l o):XT (Zh o.text 0)=true∧ZZ (Zh o.text 0)=false:=by
 obtain ⟨j,hj,rfl⟩:=h
 obtain ⟨h1,h2,_⟩:=QK (Vi (hok j hj))
 have h3:=h1 0 h2
 refine ⟨h3,?_⟩
 obtain ⟨g1,g2,_⟩:=Gd h3
 simp [ZZ,g1,g2]
theorem Zmi {l:List POp} {b:Int×ByteArray} (h:K0 l (.leaf b)):ZZ (Zh b.2 0)=true∧XT (Zh b.2 0)=false:=by
 have h3:ZZ (Zh b.2 0)=true:=by
  rcases h with ⟨_,h⟩|⟨_,h⟩
  ·exact (Gl h).1 0 (Gl h).2
  ·exact (JZ h).1 0 (JZ h).2
 exact ⟨h3,(Zed h3).1⟩
theorem Zk0 {l:List POp} (hok:∀ j,j<l.length→Yx (Zm l j)=true) {a b:TkP} (ha:K0 l a) (hb:K0 l b) (h1:¬((VB a).op=true∧(VB b).op=true)) (h2:∀ x y,a=.leaf x→b=.leaf y→False):ZkD a b:=by
 have e40:Zh (⟨#[40]⟩:ByteArray) 0=40:=rfl
 have e41:Zh (⟨#[41]⟩:ByteArray) 0=41:=rfl
 have s40:XT 40=false:=by decide
 have s41:XT 41=false:=by decide
 have a40:ZZ 40=false:=by decide
 have a41:ZZ 41=false:=by decide
 have first:∀ {t:TkP},K0 l t→(VB t).op=false→XT (Zh (tkW t) 0)=false:=fun {t} ht ho=>by
  cases t with
  |leaf x=>exact (Zmi ht).2
  |opn=>simp only [tkW,e40,s40]
  |cls=>simp only [tkW,e41,s41]
  |pre o=>simp [VB,ZP] at ho
  |inf o=>simp [VB,ZP] at ho
  |post o=>simp [VB,ZP] at ho
 have second:∀ {t:TkP},K0 l t→(∀ x,t≠.leaf x)→ZZ (Zh (tkW t) 0)=false:=fun {t} ht ho=>by
  cases t with
  |leaf x=>exact absurd rfl (ho x)
  |opn=>simp only [tkW,e40,a40]
  |cls=>simp only [tkW,e41,a41]
  |pre o=>exact (Zjk hok ht.2).2
  |inf o=>exact (Zjk hok ht.2).2
  |post o=>exact (Zjk hok ht.2).2
 refine ⟨fun hs=>?_,fun hs=>?_⟩
 ·refine first hb ?_
  cases hbo:(VB b).op with
  |false=>rfl
  |true=>
   cases hao:(VB a).op with
   |true=>exact absurd ⟨hao,hbo⟩ h1
   |false=>rw [first ha hao] at hs;cases hs
 ·refine second hb fun y hy=>?_
  by_cases hx:∃ x,a=.leaf x
  ·obtain ⟨x,hx⟩:=hx
   exact h2 x y hx hy
  ·rw [second ha fun x hx'=>hx ⟨x,hx'⟩] at hs;cases hs
def ZhG (ws:List PWord) (i:Nat):ByteArray:=if 0<i∧ZbG (YX ws (i-1)) (YX ws i)=true then ⟨#[32]⟩ else ⟨#[]⟩
theorem ZcI (e:PT):∀ i,i≤e.yield.length→Y2 (Zp e) i=Xi (Zev (JC (ZhG (Zp e)) 0 (e.yield.take i))) ByteArray.empty
 |0,_=>by simp [Y2,JC,Zev,Xi]
 |i+1,h=>by
  have hi:i<e.yield.length:=by omega
  rw [List.take_add_one,List.getElem?_eq_getElem hi]
  simp only [Option.toList_some]
  rw [ZbH]
  simp only [Zev,List.map_append,List.map_cons,List.map_nil]
  rw [Zbw,Y2,ZcI e i (by omega),Zcu e (List.getElem?_eq_getElem hi)]
  simp only [List.length_take,Nat.zero_add,Zev]
  rw [Nat.min_eq_left (by omega)]
  unfold ZhG
  by_cases h0:0<i∧ZbG (YX (Zp e) (i-1)) (YX (Zp e) i)=true
  ·rw [if_pos h0,if_pos h0]
  ·rw [if_neg h0,if_neg h0,show (⟨#[]⟩:ByteArray)=ByteArray.empty from rfl,ByteArray.append_empty]
theorem Zci {l:List POp} {e:PT} (h0:Yv l=0) (hk:VM l e) (hz:(Y2 (Zp e) (Zp e).length).size≤20000):Reads l e (Y2 (Zp e) (Zp e).length):=by
 have e1:=ZcI e e.yield.length (Nat.le_refl _)
 rw [List.take_length] at e1
 rw [Ju] at hz ⊢
 rw [e1] at hz ⊢
 refine Zgx h0 (ZcU _ _ _) (Wl hk) ?_ hz
 refine ZcQ (XZ h0) (fun i=>?_) (GE (.inl rfl)) _ 0 (Wl hk) fun k a b h1 h2=>?_
 ·unfold ZhG;split
  ·exact GE (.inr (.inl rfl))
  ·exact GE (.inl rfl)
 ·by_cases hg:ZbG (YX (Zp e) k) (YX (Zp e) (k+1))=true
  ·refine .inl ?_
   unfold ZhG
   rw [if_pos ⟨by omega,by rw [show 0+k+1-1=k by omega,show 0+k+1=k+1 by omega];exact hg⟩]
   decide
  ·refine .inr (Zk0 (XZ h0) (Wl hk a (List.mem_of_getElem? h1)) (Wl hk b (List.mem_of_getElem? h2)) (fun ⟨g1,g2⟩=>hg ?_) fun x y hx hy=>?_)
   ·rw [ZcA e h1,ZcA e h2]
    simp [ZbG,g1,g2]
   ·subst hx;subst hy
    exact ZbL _ _ _ (ZfY e) k x y h1 h2
theorem ZiU {l:List POp} (hok:∀ j,j<l.length→Yx (Zm l j)=true) {tk:TkP} (h:K0 l tk):0<(tkW tk).size:=(Q5 (Zjl hok h ByteArray.empty).2).1
theorem ZkV {l:List POp} {e:PT} (h0:Yv l=0) (hk:VM l e):0<(Y2 (Zp e) (Zp e).length).size:=by
 have hl:0<e.yield.length:=Ops.yield_pos e
 rw [Ju]
 obtain ⟨n,hn⟩:∃ n,e.yield.length=n+1:=⟨e.yield.length-1,by omega⟩
 rw [hn,Y2,ByteArray.size_append]
 have hx:e.yield[n]?=some e.yield[n]:=List.getElem?_eq_getElem (by omega)
 rw [Zcu e hx]
 have:=ZiU (XZ h0) (Wl hk _ (List.mem_of_getElem? hx))
 omega
theorem ZdM {l:List POp} {z:ByteArray} (f:Nat) (hf:f≤z.size):∀ k,k∈YB l z f→k.kind=7∨k.kind=Yd l k.text:=by
 generalize hn:z.size-f=n
 induction n using Nat.strongRecOn generalizing f with
 |ind n ih=>
  have hr:=Za6 YH z f hf
  intro k hk
  by_cases h:f+run YH z f<z.size
  ·have hg:=Vk l z (f+run YH z f)
   have hl:=V3 l z (f+run YH z f) h
   rw [Vl rfl h,List.mem_cons] at hk
   rcases hk with rfl|hk
   ·exact .inr rfl
   ·exact ih (z.size-(f+run YH z f+ZV l z (f+run YH z f))) (by omega) _ hl rfl k hk
  ·rw [WK rfl h,List.mem_singleton] at hk
   subst hk;exact .inl rfl
theorem Zhs {l:List POp} {t:List PTok} (hk:∀ k,k∈t→k.kind=7∨k.kind=Yd l k.text):∀ (ts:List TkP) (i:Nat),Yi l t i ts→∀ tk,tk∈ts→K0 l tk
 |[],i,h,tk,hm=>by simp at hm
 |x::r,i,h,tk,hm=>by
  rw [List.mem_cons] at hm
  rcases hm with rfl|hm
  ·have hlen:=Y6 h
   have hi:i<t.length:=by simp at hlen;omega
   have hmem:Zj t i∈t:=by
    unfold Zj
    rw [List.getD_eq_getElem?_getD,List.getElem?_eq_getElem hi]
    exact List.getElem_mem hi
   have h1:=hk _ hmem
   have h2:=h.1
   cases tk with
   |leaf b=>
    obtain ⟨h3,rfl⟩:=h2
    have h4:(Zj t i).kind=Yd l (Zj t i).text:=h1.resolve_left (by omega)
    unfold Yd at h4
    rcases h3 with h3|h3
    ·refine .inl ⟨h3,?_⟩
     rw [h3] at h4
     cases hn:VE (Zj t i).text with
     |true=>rfl
     |false=>
      exfalso;rw [hn] at h4
      simp only [Bool.false_eq_true,if_false] at h4
      repeat' split at h4
      all_goals omega
    ·refine .inr ⟨h3,?_⟩
     rw [h3] at h4
     cases hn:Vx (Zj t i).text with
     |true=>rfl
     |false=>
      exfalso;rw [hn] at h4
      simp only [Bool.false_eq_true,if_false] at h4
      repeat' split at h4
      all_goals omega
   |opn=>trivial
   |cls=>trivial
   |pre o=>exact ⟨h2.2.2.1,h2.2.2.2⟩
   |inf o=>exact ⟨h2.2.2.1,h2.2.2.2⟩
   |post o=>exact ⟨h2.2.2.1,h2.2.2.2⟩
  ·exact Zhs hk r (i+1) h.2 tk hm
theorem K4 {l:List POp}:∀ {e:PT},(∀ tk,tk∈e.yield→K0 l tk)→VM l e
 | .leaf b,h=>h _ (by simp [Tr.yield])
 | .grp e,h=>K4 (e:=e) fun tk hm=>h tk (by simp [Tr.yield,hm])
 | .pre o e,h=>⟨h _ (by simp [Tr.yield]),K4 fun tk hm=>h tk (by simp [Tr.yield,hm])⟩
 | .post o e,h=>⟨h _ (by simp [Tr.yield]),K4 fun tk hm=>h tk (by simp [Tr.yield,hm])⟩
 | .inf o x y,h=>⟨h _ (by simp [Tr.yield]),K4 fun tk hm=>h tk (by simp [Tr.yield,hm]),K4 fun tk hm=>h tk (by simp [Tr.yield,hm])⟩
theorem ZdA {l:List POp} {z:ByteArray} (hc:(parZ l z).2.1=0):∃ e:PT,Yv l=0∧e.Adm lvO∧Xh l e∧VM l e∧ETx 20000 e∧ZY e≤1000∧ZF e≤20000∧e.yield.length≤20000∧parZ l z=(lay e [],0,0):=by
 unfold parZ at hc ⊢
 split at hc
 ·simp at hc
 ·rename_i h0
  rw [if_neg h0]
  have h0:Yv l=0:=Decidable.byContradiction h0
  split at hc
  ·simp at hc
  ·rename_i h1
   rw [if_neg h1]
   have h1:z.size≤20000:=Decidable.byContradiction h1
   have hok:X0 l z=true:=by simp [X0,h0,h1]
   have hlz:X6 l z=YB l z 0:=by rw [X6,if_pos hok]
   have hlen:=KT l z 0 (by omega)
   have hsum:Xp (X6 l z)≤20000:=by
    rw [hlz,←K5,Hs l z 0 (by omega),ByteArray.size_extract]
    omega
   rw [←hlz] at hlen
   cases hb:Qv (X6 l z) with
   |some i=>rw [KO hb] at hc;simp at hc
   |none=>
    rcases QL h0 (QS hok) with ⟨hr,_⟩|⟨hr,_⟩
    ·have F:=Jj h0 hr
     cases hp:partT l (X6 l z) with
     |none=>rw [UD hb hr hp] at hc;simp at hc
     |some e=>
      obtain ⟨e1,e2,e3,e4,e5⟩:=KN F hp
      by_cases he:ZY e≤1000
      ·have hF:=F.len
       have hly:=Wn e []
       have hll:=ZN e []
       have htk:=Zhs (l:=l) (t:=X6 l z) (by rw [hlz];exact ZdM 0 (by omega)) _ 0 F.toks
       rw [←e2] at htk hF
       simp only [List.length_nil] at hly hll
       have hs:=F.seg
       rw [←e2] at hs
       refine ⟨e,h0,e1,QU (WF h0) e3 e5 e4,K4 htk,?_,he,by omega,by omega,K6 hb hr hp he⟩
       refine (Ka e [] (Kh (fun j=>?_) e 0 [] hs (K9 _))).1
       by_cases hj:j<(X6 l z).length
       ·have:=ZaT hj
        unfold VA at this
        omega
       ·have:Zj (X6 l z) j=default:=by unfold Zj;rw [List.getD_eq_getElem?_getD,List.getElem?_eq_none (by omega)];rfl
        rw [this];decide
      ·rw [QM hb hr hp he] at hc;simp at hc
    ·rw [UZ hb hr] at hc;simp at hc
end Go.Proofs.YtjdmmhcogmepaaaGreatDoor.V
namespace Go.Proofs.YtjdmmhcogmepaaaGreatDoor.V
open Go.RowKit
open Go.Proofs.YtjdmmhcogmepaaaGreatDoor.Ops (Tr)
theorem ZfE (u:Bool) (z:ByteArray) (h:z.size+1≤140737488355328):VProc Tryz.prog 59 [.ptr 0 2 0 0,.lit (.int .u8 32)] [some ⟨111,2,1,fun _=>[bp u,.own 1]⟩,some ⟨5,1,z.size,Zt z⟩] [] (fun av mem maps=>av=.lit .nilIface∧mem=[some ⟨111,2,1,fun _=>[.ptr 0 2 0 0,.own 2]⟩,none,some ⟨5,1,z.size+1,Zt (z++⟨#[32]⟩)⟩]∧maps=[]):=by
 refine Zl Tryz.func59 (by kernel_rfl) rfl (by simp [Tryz.ntmps59]) ?_;simp only [Tryz.ntmps59,Tryz.results59];simp [go_sem]
 refine Zd [0,1] (Zac u z) (by simp) ?_ ?_ trivial ?_
 ·simp [go_sem]
 ·simp [go_sem]
  refine ⟨?_,fun i _=>Zk rfl⟩
  cases u
  ·exact .closed _ (.lit _)
  ·exact .ptr 0 2 0 0 (by omega)
 ·rintro av mem maps ⟨rfl,rfl,rfl⟩
  simp [go_sem]
  refine ⟨by omega,by omega,rfl,[3],[some ⟨111,2,1,fun _=>[.ptr 0 2 0 0,.own 2]⟩,none,some ⟨5,1,z.size+1,Zt (z++⟨#[32]⟩)⟩],by simp,by simp,by simp [go_sem],?_,by simp [go_sem],?_⟩
  ·simp [go_sem]
   exact ⟨⟨rfl,rfl,rfl,fun i hi=>⟨rfl,UF rfl,fun c hc q hq=>by simp at hc;rcases hc with rfl|rfl<;>simp [VP] at hq<;>simp [hq]⟩⟩,ZC (fun i hi=>ZcC z rfl i hi) (fun i _=>rfl)⟩
  ·simp [go_sem]
theorem ZlG {idx:Nat→Nat} {m k:Nat} {c d:ByteArray} (e:d=c):∀ j,j<k→Yf idx m (Zt c j) (Zt d j):=fun j _=>by
 subst e
 exact Zk rfl
set_option maxRecDepth 100000 in
set_option maxHeartbeats 2000000 in
theorem Zlm (l:List POp) (hl:l.length≤9223372036854775807) (hw:YT l) (t:List PNode) (ht:t.length≤1048576) (hwt:KP t) (hts:∀ i,i<t.length→(Za t i).text.size≤1048576):VFun Tryz.prog 28 [.agg [.sl 4 l.length (Zg l)],.agg [.sl 4 t.length (Zf t)]] (fun av obs=>obs=[]∧av=.tup [.lit (.string (Vh l t)),.lit (.bool (Yg l t))]):=by
 have cl:∀ (i:Nat) (c:AV),i<l.length→c∈Zg l i→Closed c:=fun i c _ h=>ZK l i c h
 have clt:∀ (i:Nat) (c:AV),i<t.length→c∈Zf t i→Closed c:=fun i c _ h=>ZG t i c h
 refine Zi Tryz.func28 (by kernel_rfl) rfl (by simp [Tryz.ntmps28]) ?_;simp only [Tryz.ntmps28,Tryz.results28];simp [go_sem]
 refine Zd [] (ZiC l hl hw t ht hwt) (by simp) ?_ ?_ ?_ ?_
 ·simp [go_sem]
  exact ⟨cl,clt⟩
 ·simp [go_sem]
 ·simp [go_sem]
 ·rintro av mem maps (⟨h,rfl,rfl⟩|⟨hwf,rfl,b1,b2,rfl⟩)
  ·have hgo:Yg l t=false:=by simp [Yg,h]
   simp [go_sem,Vh,hgo]
   rfl
  ·by_cases hs:ZF (ZT l t)≤20000
   ·have hgo:Yg l t=true:=by simp [Yg,hwf,hs]
    have hyl:=Yu (ZT l t)
    have htx:=ZbD (by decide:1≤1048576) hwf hts
    have hpz:Vh l t=Y2 (Zp (ZT l t)) (Zp (ZT l t)).length:=by rw [Vh,hgo];rfl
    rw [hpz,hgo]
    generalize hWs:Zp (ZT l t)=W at *
    have hsz:=K7 htx
    simp [go_sem,hs,Z0,Zb,Zy]
    refine ⟨by omega,?_⟩
    refine Y9 (fun p:Nat×Bool=>p.1≤W.length) (fun p=>W.length-p.1) (fun p=>.of [(6,.ptr 2 4 0 0),(8,.ptr 0 2 0 0),(23,.own 3),(24,.lit (.int .i64 W.length)),(25,.lit (.int .i64 p.1))] [some ⟨111,2,1,fun _=>[bp p.2,.own 1]⟩,some ⟨5,1,(Y2 W p.1).size,Zt (Y2 W p.1)⟩,some ⟨106,4,1,fun _=>[.undef,.undef,.undef,.own 3]⟩,Zy W]) ⟨(0,false),by omega,?_⟩ (fun p hp=>?_)
    ·refine (Ent.adopt (j:=5) (c:=1) rfl rfl rfl 5 1 (by omega) (fun _=>[])).trans ?_
     refine Zx [5,6,2,4] (by simp) (by simp) (by simp) (by simp) trivial ?_ ?_
     ·simp [go_sem]
     ·simp [go_sem,Y2,bp,Zy]
      exact .inr KC
    ·obtain ⟨i,u⟩:=p
     simp only at hp
     have bpr:∀ g:Nat→Nat,g 0=0→VN g (bp u)=bp u:=fun g h=>by cases u<;>simp [bp,VN,h]
     have bpc:∀ f:Nat→Nat,∀ m,0<m→f 0=0→Rn f m (bp u) (bp u):=fun f m h1 h2=>by
      cases u
      ·exact .closed _ (.lit _)
      ·have:=Rn.ptr (f:=f) (m:=m) 0 2 0 0 h1
       rw [h2] at this
       exact this
     have hb2:(Y2 W i).size≤41943080000:=Nat.le_trans (hsz i) (by have:=Nat.mul_le_mul_right 1048577 (show i≤40000 by omega);omega)
     have ht1:=htx i
     by_cases hlt:i<W.length
     ·by_cases hi0:i=0
      ·subst hi0
       have hW1:Y2 W 1=Y2 W 0++(YX W 0).text:=by simp [Y2]
       have hsz1:(Y2 W 1).size=(Y2 W 0).size+(YX W 0).text.size:=by rw [hW1,ByteArray.size_append]
       simp [go_sem,Zy,Q6,hlt]
       refine Zd [0,1] (QE u (Y2 W 0) (YX W 0).text (by omega)) (by simp) ?_ ?_ trivial ?_
       ·simp [go_sem]
       ·simp [go_sem]
        exact ⟨bpc _ _ (by omega) rfl,fun i _=>Zk rfl⟩
       ·rintro av mem maps ⟨rfl,rfl,rfl⟩
        simp [go_sem]
        refine ⟨1,by omega,by omega,.inr ?_⟩
        refine Zx [0,5,2,3] (by simp) (by simp) (by simp) (by simp) trivial ?_ ?_
        ·simp [go_sem]
         exact rfl
        ·simp [go_sem,bp,Zy]
         exact ⟨.inr ⟨hsz1.symm,ZlG hW1⟩,.inr KC⟩
      ·have ei:IntKind.i64.wrap ((i:Int)-1)=((i-1:Nat):Int):=by rw [wrap_i64 (by omega)];omega
       have hlt':i-1<W.length:=by omega
       have hpos:0<i:=by omega
       cases hg:ZbG (YX W (i-1)) (YX W i) with
       |true=>
        have hW1:Y2 W (i+1)=(Y2 W i++⟨#[32]⟩)++(YX W i).text:=by simp only [Y2];rw [if_pos ⟨hpos,hg⟩]
        have hsz1:(Y2 W (i+1)).size=(Y2 W i).size+1+(YX W i).text.size:=by rw [hW1,ByteArray.size_append,ByteArray.size_append];rfl
        cases b1:(YX W i).infix_<;>cases b2:(YX W (i-1)).infix_<;>cases b3:(YX W i).op<;>cases b4:(YX W (i-1)).op<;>first|(simp [ZbG,b1,b2,b3,b4] at hg;done)|skip
        all_goals
         simp [go_sem,Zy,Q6,hlt,hlt',hpos,ei,b1,b2,b3,b4]
         refine Zd [0,1] (ZfE u (Y2 W i) (by omega)) (by simp) ?_ ?_ trivial ?_
         ·simp [go_sem]
         ·simp [go_sem]
          exact ⟨bpc _ _ (by omega) rfl,fun i _=>Zk rfl⟩
         ·rintro av mem maps ⟨rfl,rfl,rfl⟩
          simp [go_sem]
          refine Zd [0,6] (QE true (Y2 W i++⟨#[32]⟩) (YX W i).text (by rw [ByteArray.size_append,show (⟨#[32]⟩:ByteArray).size=1 from rfl];omega)) (by simp) ?_ ?_ trivial ?_
          ·simp [go_sem]
          ·simp [go_sem,bp]
           exact fun i _=>Zk rfl
          ·rintro av mem maps ⟨rfl,rfl,rfl⟩
           simp [go_sem]
           refine ⟨i+1,by omega,by omega,.inr ?_⟩
           refine Zx [0,7,2,3] (by simp) (by simp) (by simp) (by simp) trivial ?_ ?_
           ·simp [go_sem]
            exact Zn (by omega)
           ·simp [go_sem,bp,Zy]
            exact ⟨.inr ⟨hsz1.symm,ZlG hW1⟩,.inr KC⟩
       |false=>
        have hW1:Y2 W (i+1)=Y2 W i++(YX W i).text:=by simp only [Y2];rw [if_neg (by rw [hg];simp)]
        have hsz1:(Y2 W (i+1)).size=(Y2 W i).size+(YX W i).text.size:=by rw [hW1,ByteArray.size_append]
        cases b1:(YX W i).infix_<;>cases b2:(YX W (i-1)).infix_<;>cases b3:(YX W i).op<;>cases b4:(YX W (i-1)).op<;>first|(simp [ZbG,b1,b2,b3,b4] at hg;done)|skip
        all_goals
         simp [go_sem,Zy,Q6,hlt,hlt',hpos,ei,b1,b2,b3,b4]
         refine Zd [0,1] (QE u (Y2 W i) (YX W i).text (by omega)) (by simp) ?_ ?_ trivial ?_
         ·simp [go_sem]
         ·simp [go_sem]
          exact ⟨bpc _ _ (by omega) rfl,fun i _=>Zk rfl⟩
         ·rintro av mem maps ⟨rfl,rfl,rfl⟩
          simp [go_sem]
          refine ⟨i+1,by omega,by omega,.inr ?_⟩
          refine Zx [0,6,2,3] (by simp) (by simp) (by simp) (by simp) trivial ?_ ?_
          ·simp [go_sem]
           exact Zn (by omega)
          ·simp [go_sem,bp,Zy]
           exact ⟨.inr ⟨hsz1.symm,ZlG hW1⟩,.inr KC⟩
     ·have e:i=W.length:=by omega
      subst e
      simp [go_sem,Zy,Q6]
      refine Zd [0,1] (Zkr (bp u) (Y2 W W.length)) (by simp) ?_ ?_ trivial ?_
      ·simp [go_sem]
      ·simp [go_sem]
       exact ⟨bpc _ _ (by omega) rfl,fun i _=>Zk rfl⟩
      ·rintro av mem maps ⟨rfl,rfl,rfl⟩
       simp [go_sem]
   ·have hgo:Yg l t=false:=by simp [Yg,hs]
    simp [go_sem,hs,Vh,hgo]
    rfl
end Go.Proofs.YtjdmmhcogmepaaaGreatDoor.V
namespace Go.Proofs.YtjdmmhcogmepaaaGreatDoor.V
open Go.RowKit
noncomputable def fmtZ (l:List POp) (z:ByteArray):ByteArray×Int×Int:=if (parZ l z).2.1≠0 then (⟨#[]⟩,(parZ l z).2.1,(parZ l z).2.2) else (Vh l (parZ l z).1,0,0)
set_option maxRecDepth 100000 in
theorem Zd3 (l:List POp) (hl:l.length≤9223372036854775807) (hw:YT l) (z:ByteArray) (hz:z.size≤1048576):VFun Tryz.prog 10 [.agg [.sl 4 l.length (Zg l)],.lit (.string z)] (fun av obs=>obs=[]∧av=.tup [.lit (.string (fmtZ l z).1),.lit (.int .i64 (fmtZ l z).2.1),.lit (.int .i64 (fmtZ l z).2.2)]):=by
 have cl:∀ (i:Nat) (c:AV),i<l.length→c∈Zg l i→Closed c:=fun i c _ h=>ZK l i c h
 have hlen:=Hv l z
 have htx:=Hu l z
 have hwf:=Zau l z
 have cs:=G7 l hl hw z hz
 unfold fmtZ
 generalize hP:parZ l z=p at *
 have clt:∀ (i:Nat) (c:AV),i<p.1.length→c∈Zf p.1 i→Closed c:=fun i c _ h=>ZG p.1 i c h
 have cp:=Zfr l hl hw p.1 (by omega) hwf (fun i hi=>by have:=htx i hi;omega)
 refine Zi Tryz.func10 (by kernel_rfl) rfl (by simp [Tryz.ntmps10]) ?_;simp only [Tryz.ntmps10,Tryz.results10];simp [go_sem]
 refine ZR cs ?_ ?_
 ·simp [go_sem]
  exact Ze (by omega) cl
 ·rintro av obs ⟨rfl,rfl⟩
  simp [go_sem]
  refine ⟨fun h=>by simp [h],fun h=>?_⟩
  refine Vp cp ?_ (by simp [go_sem]) ?_
  ·simp [go_sem]
   exact ⟨Ze (by omega) cl,Ym (k:=1) rfl (by omega) clt⟩
  ·simp [go_sem,h]
set_option maxRecDepth 100000 in
theorem ZfF (l:List POp) (hl:l.length≤9223372036854775807) (hw:YT l) (z:ByteArray) (hz:z.size≤1048576):VFun Tryz.prog 12 [.agg [.sl 4 l.length (Zg l)],.lit (.string z)] (fun av obs=>obs=[]∧av=.tup [.lit (.string (fmtZ l z).1),.lit (.int .i64 (fmtZ l z).2.1),.lit (.int .i64 (fmtZ l z).2.2)]):=by
 have cl:∀ (i:Nat) (c:AV),i<l.length→c∈Zg l i→Closed c:=fun i c _ h=>ZK l i c h
 have hlen:=Hv l z
 have htx:=Hu l z
 have hwf:=Zau l z
 have cs:=ZhI l hl hw z hz
 unfold fmtZ
 generalize hP:parZ l z=p at *
 have clt:∀ (i:Nat) (c:AV),i<p.1.length→c∈Zf p.1 i→Closed c:=fun i c _ h=>ZG p.1 i c h
 have cp:=Zlm l hl hw p.1 (by omega) hwf (fun i hi=>by have:=htx i hi;omega)
 refine Zi Tryz.func12 (by kernel_rfl) rfl (by simp [Tryz.ntmps12]) ?_;simp only [Tryz.ntmps12,Tryz.results12];simp [go_sem]
 refine ZR cs ?_ ?_
 ·simp [go_sem]
  exact Ze (by omega) cl
 ·rintro av obs ⟨rfl,rfl⟩
  simp [go_sem]
  refine ⟨fun h=>by simp [h],fun h=>?_⟩
  refine Vp cp ?_ (by simp [go_sem]) ?_
  ·simp [go_sem]
   exact ⟨Ze (by omega) cl,Ym (k:=1) rfl (by omega) clt⟩
  ·simp [go_sem,h]
open Go.Proofs.YtjdmmhcogmepaaaGreatDoor.Ops (Tr Tk Lv Res Fit OF)
theorem Jg {l:List POp} (hok:∀ j,j<l.length→Yx (Zm l j)=true):∀ {e:PT},Xh l e→e.Adm lvO→∀ m,m≤1001→(m≤e.level lvO→ZF (Zw (ZD e) m)≤ZF e∧ZY (Zw (ZD e) m)≤ZY e)∧ZF (Zw (ZD e) m)≤ZF e+1∧ZY (Zw (ZD e) m)≤ZY e+1
 | .leaf b,_,_,m,hm=>by
  simp only [ZD,Zw];rw [if_neg (by omega)]
  exact ⟨fun _=>⟨Nat.le_refl _,Int.le_refl _⟩,by omega,by omega⟩
 | .grp e,h,ha,m,hm=>by
  obtain ⟨_,h1,h2⟩:=Jg hok (e:=e) h ha m hm
  simp only [ZD,ZF,ZY]
  omega
 | .pre o e,h,ha,m,hm=>by
  obtain ⟨j,hj,ej⟩:=QB h.2.1 h.2.2.1
  have ho:Yx o=true:=ej▸hok j hj
  have e1:=HJ ho h.1
  obtain ⟨h1,_⟩:=Jg hok (e:=e) h.2.2.2 ha.2 (ZH o false) (Uz _ _)
  obtain ⟨h1,h2⟩:=h1 (by rw [e1];exact ha.1)
  simp only [ZD,Zw,Tr.level,lvO]
  split<;>simp only [ZF,ZY]<;>omega
 | .post o e,h,ha,m,hm=>by
  obtain ⟨j,hj,ej⟩:=QB h.2.1 h.2.2.1
  have ho:Yx o=true:=ej▸hok j hj
  have e1:=Qn ho (by have:=h.1;omega)
  obtain ⟨h1,_⟩:=Jg hok (e:=e) h.2.2.2 ha.2 (ZH o false) (Uz _ _)
  obtain ⟨h1,h2⟩:=h1 (by rw [e1];exact ha.1)
  simp only [ZD,Zw,Tr.level,lvO]
  split<;>simp only [ZF,ZY]<;>omega
 | .inf o x y,h,ha,m,hm=>by
  obtain ⟨j,hj,ej⟩:=QB h.2.1 h.2.2.1
  have ho:Yx o=true:=ej▸hok j hj
  have e1:=Qn ho (by have:=h.1;omega)
  have e2:=QV ho h.1
  obtain ⟨h1,_⟩:=Jg hok (e:=x) h.2.2.2.1 ha.2.2.1 (ZH o false) (Uz _ _)
  obtain ⟨h1,h2⟩:=h1 (by rw [e1];exact ha.1)
  obtain ⟨h3,_⟩:=Jg hok (e:=y) h.2.2.2.2 ha.2.2.2 (ZH o true) (Uz _ _)
  obtain ⟨h3,h4⟩:=h3 (by rw [e2];exact ha.2.1)
  simp only [ZD,Zw,Tr.level,lvO]
  split<;>simp only [ZF,ZY]<;>omega
theorem Zim {l:List POp} (hok:∀ j,j<l.length→Yx (Zm l j)=true) {e:PT} (h:Xh l e):0≤e.level lvO:=by
 have key:∀ (o:POp) (k:Int),ZQ l o.text k=true→JX l o.text k=o→0≤o.level:=fun o k h1 h2=>by
  obtain ⟨j,hj,ej⟩:=QB h1 h2
  have ho:Yx o=true:=ej▸hok j hj
  have:=V2 ho
  omega
 cases e with
 |leaf b=>exact (by decide:(0:Int)≤1001)
 |grp e=>exact (by decide:(0:Int)≤1001)
 |pre o e=>exact key o 1 h.2.1 h.2.2.1
 |post o e=>exact key o 3 h.2.1 h.2.2.1
 |inf o x y=>exact key o 2 h.2.1 h.2.2.1
theorem ZdT {l:List POp} {z:ByteArray} (hc:(parZ l z).2.1=0):Yv l=0∧(fmtZ l z).2=(0,0)∧0<(fmtZ l z).1.size∧((fmtZ l z).1.size≤20000→(parZ l (fmtZ l z).1).2.1=0∧fmtZ l (fmtZ l z).1=((fmtZ l z).1,0,0)∧Ya (parZ l (fmtZ l z).1).1=Ya (parZ l z).1):=by
 obtain ⟨e,h0,ha,hi,hk,hx,hh,hs,_,he⟩:=ZdA hc
 have hok:=XZ h0
 have hw:=ZjX h0 hi hk hx hs
 have hr:=Zbs hi
 obtain ⟨hs1,_⟩:=Jg hok hi ha 0 (by omega)
 obtain ⟨hs1,hh1⟩:=hs1 (Zim hok hi)
 have eg:ZT l (lay e [])=Zw (ZD e) 0:=by unfold ZT;rw [hr]
 have hg:Yg l (lay e [])=true:=by simp only [Yg,hw,eg,Bool.true_and,decide_eq_true_eq];omega
 obtain ⟨g1,g2,g3,g4,g5,g6,g7⟩:=Zfe hg
 rw [hr] at g6
 rw [eg] at g2 g3 g4 g5 g6
 have hx':ETx 20000 (Zw (ZD e) 0):=U6 0 (Qe hx)
 have ef:fmtZ l z=(Y2 (Zp (Zw (ZD e) 0)) (Zp (Zw (ZD e) 0)).length,0,0):=by
  unfold fmtZ
  rw [he]
  simp only [Vh,if_pos hg,eg]
  rfl
 have hpos:=ZkV h0 g3
 obtain ⟨_,q2⟩:=Zbt hw hi
 rw [ef,he]
 generalize hG:Zw (ZD e) 0=G at *
 refine ⟨h0,rfl,hpos,fun hz=>?_⟩
 have hrd:=(Zci h0 g3 hz).adm h0 g4 (by omega)
 have hwG:=ZjX h0 g2 g3 hx' g5
 have hrG:=Zbs g2
 have eg2:ZT l (lay G [])=G:=by unfold ZT;rw [hrG,g6,hG]
 have hg2:Yg l (lay G [])=true:=by simp only [Yg,hwG,eg2,Bool.true_and,decide_eq_true_eq];omega
 obtain ⟨_,q3⟩:=Zbt hwG g2
 refine ⟨by rw [hrd],?_,by rw [hrd];simp only;rw [q3,q2,g6]⟩
 rw [fmtZ,hrd]
 simp only [Vh,if_pos hg2,eg2]
 rfl
end Go.Proofs.YtjdmmhcogmepaaaGreatDoor.V
namespace Go.Proofs.YtjdmmhcogmepaaaGreatDoor.V
open Go.RowKit
theorem Zft (t:List PNode) (ht:t.length≤1048576) (hwt:KP t):VFun Tryz.prog 24 [.agg [.sl 4 t.length (Zf t)]] (fun av obs=>av=.agg [.own 0]∧obs=[⟨77,4,(Ya t).length,Zf (Ya t)⟩]):=by
 have clt:∀ (i:Nat) (c:AV),i<t.length→c∈Zf t i→Closed c:=fun i c _ h=>ZG t i c h
 refine Zi Tryz.func24 (by kernel_rfl) rfl (by simp [Tryz.ntmps24]) ?_;simp only [Tryz.ntmps24,Tryz.results24];simp [go_sem]
 refine ZR (G9 t ht hwt) ?_ ?_
 ·simp [go_sem]
  exact Ze (by omega) clt
 rintro av obs ⟨rfl,rfl⟩
 simp [go_sem]
 exact obsSame_one.mpr ⟨_,⟨rfl,rfl,rfl,fun j hj=>⟨rfl,Z5 _ j⟩⟩,rfl⟩
theorem ZeQ {l:List POp} {T:List PNode} {B:Nat} (hB:1≤B) (ht:VQ B T):(Vh l T).size≤40000*(B+1):=by
 unfold Vh
 split
 ·rename_i h
  have hg:=h
  simp only [Yg,Bool.and_eq_true,decide_eq_true_eq] at h
  have h1:=K7 (ws:=Zp (ZT l T)) (B:=B) (fun i=>ZbD hB h.1 ht i) (Zp (ZT l T)).length
  have h2:=Yu (ZT l T)
  exact Nat.le_trans h1 (Nat.mul_le_mul (by omega) (by omega))
 ·simp
theorem Zeb (N:Nat) (f:Nat→Nat) (hN:N≤9223372036854775807) (hf:∀ i,f i<256):VFun Tryz.prog 33 [.sl 1 N (Yc f)] (fun av obs=>av=.tup [.agg [.own 0],.lit (.string (Ve N f).2)]∧obs=[⟨133,4,(Ve N f).1.length,Zg (Ve N f).1⟩]):=by
 have cd:=ZfG N f hN hf
 refine Zi Tryz.func33 (by kernel_rfl) rfl (by simp [Tryz.ntmps33]) ?_;simp only [Tryz.ntmps33,Tryz.results33];simp [go_sem]
 refine ZR cd (by simp [go_sem];exact Ze (by omega) fun i c _ h=>YF f i c h) ?_
 rintro av obs ⟨rfl,rfl⟩
 simp [go_sem]
 exact ⟨⟨rfl,rfl,rfl,fun _ _=>⟨rfl,XV _ _⟩⟩,trivial⟩
set_option maxHeartbeats 4000000 in
set_option maxRecDepth 100000 in
theorem Zg3 (N:Nat) (f:Nat→Nat) (hN:N≤maxLen) (hf:∀ i,f i<256):VFun Tryz.prog 8 [.sl 1 N (Yc f)] (fun av _=>av=.lit (.bool true)):=by
 have clf:∀ (f:Nat→Nat) (N i:Nat) (c:AV),i<N→c∈Yc f i→Closed c:=fun f N i c _ h=>YF f i c h
 have hN':N≤9223372036854775807:=by simpa [maxLen] using hN
 have hP:=ZgR (N:=N) hf
 have cd:=Zeb N f hN' hf
 generalize Ve N f=D at *
 obtain ⟨L,z⟩:=D
 simp only at *
 have clL:∀ (i:Nat) (c:AV),i<L.length→c∈Zg L i→Closed c:=fun i c _ h=>ZK L i c h
 have clT:∀ (T:List PNode) (i:Nat) (c:AV),i<T.length→c∈Zf T i→Closed c:=fun T i c _ h=>ZG T i c h
 have c1:=Zd3 L (by omega) hP.2.1 z (by omega)
 have c2:=ZfF L (by omega) hP.2.1 z (by omega)
 by_cases hc:(parZ L z).2.1=0
 ·obtain ⟨h0,hf2,hpos,hff⟩:=ZdT hc
  have c3:=G7 L (by omega) hP.2.1 z (by omega)
  have hT1:=Hv L z
  have hT2:=Zau L z
  rw [hf2] at c1 c2
  generalize hO:(fmtZ L z).1=o at *
  have hz1:¬o.toList=[]:=fun h=>by
   have b1:o.toList=[]↔o=⟨#[]⟩:=by have:=X4 o ⟨#[]⟩;simpa using this
   rw [b1.1 h] at hpos
   exact absurd hpos (by decide)
  have hos:o.size≤9223372036854775807:=by
   have:=ZeQ (l:=L) (B:=200000) (by omega) (Hu L z)
   have e:o=Vh L (parZ L z).1:=by rw [←hO,fmtZ,if_neg (by omega)]
   rw [e];omega
  generalize (parZ L z).2.1=k at *
  subst hc
  generalize (parZ L z).2.2=p at *
  generalize (parZ L z).1=T at *
  refine Zi Tryz.func8 (by kernel_rfl) rfl (by simp [Tryz.ntmps8]) ?_;simp only [Tryz.ntmps8,Tryz.results8];simp [go_sem]
  refine ⟨by omega,fun hbig=>?_⟩
  refine ZR cd (by simp [go_sem];exact Ze (by omega) (clf f N)) ?_
  rintro av obs ⟨rfl,rfl⟩
  simp [go_sem]
  refine ZR c1 (by simp [go_sem];exact Ym rfl (by omega) clL) ?_
  rintro av obs ⟨rfl,rfl⟩
  simp [go_sem]
  refine ZR cd (by simp [go_sem];exact Ze (by omega) (clf f N)) ?_
  rintro av obs ⟨rfl,rfl⟩
  simp [go_sem]
  refine ZR c2 (by simp [go_sem];exact Ym rfl (by omega) clL) ?_
  rintro av obs ⟨rfl,rfl⟩
  simp [go_sem]
  by_cases ho:o.size≤20000
  ·obtain ⟨d1,d2,d3⟩:=hff ho
   have c4:=ZhI L (by omega) hP.2.1 o (by omega)
   have c5:=ZfF L (by omega) hP.2.1 o (by omega)
   rw [d2] at c5
   rw [d1] at c4
   have hU1:=Hv L o
   have hU2:=Zau L o
   generalize (parZ L o).2.2=p2 at *
   generalize (parZ L o).1=U at *
   have c6:=Zft U (by omega) hU2
   have c7:=Zft T (by omega) hT2
   rw [d3] at c6
   have hE:=ZbM T
   generalize Ya T=E at *
   have cq:=Zd5 E E (by omega) (by omega)
   rw [ZeV] at cq
   have ho2:¬(20000:Int)<o.size:=by omega
   simp [go_sem,hos,ho2]
   try intro _
   refine ZR c3 (by simp [go_sem];exact Ym rfl (by omega) clL) ?_
   rintro av obs ⟨rfl,rfl⟩
   simp [go_sem]
   refine ZR c4 (by simp [go_sem];exact Ym rfl (by omega) clL) ?_
   rintro av obs ⟨rfl,rfl⟩
   simp [go_sem]
   refine ZR c5 (by simp [go_sem];exact Ym rfl (by omega) clL) ?_
   rintro av obs ⟨rfl,rfl⟩
   simp [go_sem]
   refine Zq [] (.q 0 <| .q 1 <| .q 2 <| .q 3 <| .q 4 <| .q 5 <| .q 6 <| .q 7 <| .q 8 <| .q 9 <| .q 10 <| .q 11 <| .q 12 <| .q 14 <| .or 13 (.or 15 (.or 16 (.q 17 <| .q 18 <| .done) (.nil)) (.nil)) (.nil)) (by kernel_rfl) ?_
   simp [go_sem]
   repeat' apply And.intro
   all_goals
    refine Xv c6 (by simp [go_sem];exact Ym rfl (by omega) (clT U)) ?_
    rintro av obs ⟨rfl,rfl⟩
    simp [go_sem]
    repeat' apply And.intro
    all_goals
     refine Xv c7 (by simp [go_sem];exact Ym rfl (by omega) (clT T)) ?_
     rintro av obs ⟨rfl,rfl⟩
     simp [go_sem]
     refine Zu cq ?_ ?_
     ·simp [go_sem]
      exact ⟨Ym rfl (by omega) (clT E),Ym rfl (by omega) (clT E)⟩
     simp [go_sem]
  ·have ho2:(20000:Int)<o.size:=by omega
   simp [go_sem,hos,ho2,hz1]
   try (intro h;omega)
 ·have hfo:fmtZ L z=(⟨#[]⟩,(parZ L z).2.1,(parZ L z).2.2):=by rw [fmtZ,if_pos hc]
  rw [hfo] at c1 c2
  generalize (parZ L z).2.1=k at *
  generalize (parZ L z).2.2=p at *
  refine Zi Tryz.func8 (by kernel_rfl) rfl (by simp [Tryz.ntmps8]) ?_;simp only [Tryz.ntmps8,Tryz.results8];simp [go_sem]
  refine ⟨by omega,fun hbig=>?_⟩
  refine ZR cd (by simp [go_sem];exact Ze (by omega) (clf f N)) ?_
  rintro av obs ⟨rfl,rfl⟩
  simp [go_sem]
  refine ZR c1 (by simp [go_sem];exact Ym rfl (by omega) clL) ?_
  rintro av obs ⟨rfl,rfl⟩
  simp [go_sem]
  refine ZR cd (by simp [go_sem];exact Ze (by omega) (clf f N)) ?_
  rintro av obs ⟨rfl,rfl⟩
  simp [go_sem]
  refine ZR c2 (by simp [go_sem];exact Ym rfl (by omega) clL) ?_
  rintro av obs ⟨rfl,rfl⟩
  simp [go_sem,hc]
set_option maxRecDepth 100000 in
theorem ZeI (n:Nat) (xs:List AV) (h:Qf Tryz.prog (n+2) 34 xs):∃ (m:Nat) (g:Nat→Nat),m≤maxLen∧(∀ i,g i<256)∧∃ f,xs=[.sl 1 m f]∧∀ i,i<m→f i=Yc g i:=by
 obtain ⟨m,f,rfl,hm,hf⟩:=ZeH Tryz.underlying34 h
 have each:∀ i,i<m→∃ b:Nat,b<256∧f i=[.lit (.int .u8 b)]:=by
  intro i hi
  obtain ⟨b,e,hb⟩:=ZhZ Tryz.underlying5 (hf i hi).2
  have h8:IntKind.u8.bits=8:=rfl
  simp [Lit.wf,IntKind.min,IntKind.max,IntKind.signed,h8] at hb
  refine ⟨b.toNat,by omega,?_⟩
  rw [e,Int.toNat_of_nonneg (by omega)]
 refine ⟨m,fun i=>if h:i<m then (each i h).choose else 0,hm,fun i=>?_,f,rfl,fun i hi=>?_⟩
 ·by_cases h:i<m
  ·simp only [dif_pos h];exact (each i h).choose_spec.1
  ·simp only [dif_neg h];omega
 ·simp only [Yc,dif_pos hi]
  exact (each i hi).choose_spec.2
end Go.Proofs.YtjdmmhcogmepaaaGreatDoor.V
