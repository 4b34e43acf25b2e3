import Derived.Test.YtadghlfkddkelaaGreatDoorTD
import Derived.Test.YtadghlfkddkelaaGreatDoorTC
import Derived.Shelf.Strings.Builder1
set_option linter.unusedVariables false
set_option linter.unusedSimpArgs false
set_option linter.constructorNameAsVariable false
namespace Go.Proofs.YtadghlfkddkelaaGreatDoor.V
open Go.RowKit
set_option maxRecDepth 10000 in
theorem Zl8 (l:List POp) (hl:l.length≤9223372036854775807) (hw:XD l) (t:List PTok) (ht:t.length≤1048576) (hz:∀ i,i<t.length→(Zf t i).text.size≤maxLen):VFun Tryz.prog 105 [.agg [.sl 4 l.length (Za l)],.sl 3 t.length (Zk t)] (fun av obs=>(∃ x,ZW l t=([],x)∧av=.tup [.lit (.slice none 0 0),.lit (.int .i64 x)]∧obs=[])∨(av=.tup [.own 0,.lit (.int .i64 (ZW l t).2)]∧obs=[⟨3,1,(ZW l t).1.length,Zy (ZW l t).1⟩])):=by
 have cl:∀ (i:Nat) (c:AV),i<l.length→c∈Za l i→Closed c:=fun i c _ h=>Zo l i c h
 have clt:∀ (i:Nat) (c:AV),i<t.length→c∈Zk t i→Closed c:=fun i c _ h=>Zm t i c h
 refine Zd Tryz.func105 (by kernel_rfl) rfl (by simp [Tryz.ntmps105]) ?_;simp only [Tryz.ntmps105,Tryz.results105];simp [go_sem]
 refine Zc (Kw l hl hw) ?_ ?_
 ·simp [go_sem]
  exact Zb (by omega) cl
 ·simp [go_sem]
  refine ⟨fun h0=>by simp [ZW,h0],fun h0=>?_⟩
  have hu:=Qk h0
  have nil_:∀ x,ZW l t=([],x)→ZW l t=([],x)∨False:=fun x h=>.inl h
  refine Zx [] (HT l hl hw) (by simp) ?_ ?_ ?_ ?_
  ·simp [go_sem]
   exact cl
  ·simp [go_sem]
  ·simp [go_sem]
  ·rintro av mem maps ⟨b1,b2,e1,e2,rfl,rfl,rfl,hb,hat,htx⟩
   have hb':¬b2=b1:=fun e=>hb e.symm
   simp [go_sem]
   refine ⟨by omega,by omega,by omega,by omega,?_⟩
   refine ZC (fun i:Nat=>i≤t.length∧(∀ j,j<i→0≤ZB l t j (Yf l t j))∧(∀ j,j<i→(Zf t j).kind≠7)∧0≤ZG t i) (fun i=>t.length-i) (fun i=>⟨[(1,.sl 3 t.length (Zk t)),(6,.ptr 0 2 0 0),(7,.own 1),(8,.lit (.bool !(Yf l t i))),(9,.lit (.int .i64 (ZG t i))),(27,.sl 3 t.length (Zk t)),(28,.lit (.int .i64 t.length)),(29,.lit (.int .i64 i))],[some ⟨164,2,1,fun _=>[.lit (.map (some b1)),.lit (.map (some b2))]⟩,some ⟨3,1,(Yp l t i).length,Zy (Yp l t i)⟩],[(b2,⟨9,e2⟩),(b1,⟨109,e1⟩)],0⟩) ⟨0,⟨by omega,by simp,by simp,by simp [ZG]⟩,?_⟩ (fun i hi=>?_)
   ·refine ZU [1,2] (by simp) (by simp) (by simp) (by simp) (by simp [go_sem,hb']) ?_ ?_
    ·simp [go_sem,Yf,ZG]
     exact clt
    ·simp [go_sem,Yp]
   ·obtain ⟨h1,h2,h3,h4⟩:=hi
    have hop:=Kl t i
    have hlen:=UK l t i
    have hsucc:=JK l t i
    by_cases h:i<t.length
    ·have bad:ZB l t i (Yf l t i)<0→ZW l t=([],(i:Int)):=fun e=>by
      have:=KN h h2 e
      simp [ZW,h0,this]
     have next:0≤ZB l t i (Yf l t i)→(Zf t i).kind≠7→0≤ZG t (i+1)→i+1≤t.length∧(∀ j,j<i+1→0≤ZB l t j (Yf l t j))∧(∀ j,j<i+1→(Zf t j).kind≠7)∧0≤ZG t (i+1):=fun a1 a2 a3=>by
      refine ⟨by omega,fun j hj=>?_,fun j hj=>?_,a3⟩
      ·rcases Nat.lt_succ_iff_lt_or_eq.mp hj with hj|rfl
       ·exact h2 j hj
       ·exact a1
      ·rcases Nat.lt_succ_iff_lt_or_eq.mp hj with hj|rfl
       ·exact h3 j hj
       ·exact a2
     have app:∀ (r:Int),ZB l t i (Yf l t i)=r→∀ j,j<i+1→ZH i (Zy (Yp l t i)) (fun q=>[[AV.lit (.int .i64 r)]][q]?.getD []) j=Zy (Yp l t i++[ZB l t i (Yf l t i)]) j:=fun r e j hj=>by
      have:=Za5 (Yp l t i) (ZB l t i (Yf l t i)) j (by rw [hlen];exact hj)
      rw [hlen,e] at this
      rw [e];exact this
     cases hst:Yf l t i with
     |false=>
      rw [hst] at bad app
      by_cases k1:(Zf t i).kind=1
      ·have hst':Yf l t (i+1)=true:=by simp [Yf,hst,k1]
       have ho':ZG t (i+1)=ZG t i:=by simp [ZG,k1]
       simp [go_sem,Zg,h,hst,k1,hlen]
       refine ⟨by omega,by omega,i+1,next (by rw [hst];simp [ZB,k1]) (by omega) (by rw [ho'];omega),by omega,?_⟩
       refine ZU [0,4] (by simp) (by simp) (by simp) (by simp) (by simp [go_sem,hb',hb]) ?_ ?_
       ·simp [go_sem,hst',ho']
        exact ⟨clt,Zj (by omega)⟩
       ·simp [go_sem,hsucc,hlen,hst]
        exact .inl fun j hj=>⟨app 0 (by simp [ZB,k1]) j hj,Z8 _ _⟩
      ·by_cases k2:(Zf t i).kind=2
       ·have hst':Yf l t (i+1)=true:=by simp [Yf,hst,k2]
        have ho':ZG t (i+1)=ZG t i:=by simp [ZG,k2]
        simp [go_sem,Zg,h,hst,k2,hlen]
        refine ⟨by omega,by omega,i+1,next (by rw [hst];simp [ZB,k2]) (by omega) (by rw [ho'];omega),by omega,?_⟩
        refine ZU [0,4] (by simp) (by simp) (by simp) (by simp) (by simp [go_sem,hb',hb]) ?_ ?_
        ·simp [go_sem,hst',ho']
         exact ⟨clt,Zj (by omega)⟩
        ·simp [go_sem,hsucc,hlen,hst]
         exact .inl fun j hj=>⟨app 0 (by simp [ZB,k2]) j hj,Z8 _ _⟩
       ·by_cases k4:(Zf t i).kind=4
        ·have hst':Yf l t (i+1)=false:=by simp [Yf,hst,k4]
         have ho':ZG t (i+1)=ZG t i+1:=by simp [ZG,k4]
         simp [go_sem,Zg,h,hst,k4,hlen]
         refine ⟨by omega,by omega,i+1,next (by rw [hst];simp [ZB,k4]) (by omega) (by rw [ho'];omega),by omega,?_⟩
         refine ZU [0,4] (by simp) (by simp) (by simp) (by simp) (by simp [go_sem,hb',hb]) ?_ ?_
         ·simp [go_sem,hst',ho']
          exact ⟨clt,wrap_i64 (by omega),clt,Zj (by omega)⟩
         ·simp [go_sem,hsucc,hlen,hst]
          exact .inl fun j hj=>⟨app 0 (by simp [ZB,k4]) j hj,Z8 _ _⟩
        ·by_cases k3:(Zf t i).kind=3
         ·simp [go_sem,Zg,h,hst,k3,hlen]
          refine Zx [] (ZmS l hu b1 b2 e1 hat (Zf t i).text (hz i h) 1) (by simp) ?_ ?_ ?_ ?_
          ·simp [go_sem]
          ·simp [go_sem]
          ·simp [go_sem,hb']
          ·rintro av mem maps ⟨⟨o1,rfl,ho1⟩,rfl,rfl⟩
           cases hp:Z5 l (Zf t i).text 1 with
           |false=>
            simp [go_sem,hp,POp.cells]
            exact bad (by simp [ZB,k3,hp])
           |true=>
            have hst':Yf l t (i+1)=false:=by simp [Yf,hst,k3]
            have ho':ZG t (i+1)=ZG t i:=by simp [ZG,k3]
            simp [go_sem,hp,hlen,POp.cells]
            refine ⟨by omega,by omega,i+1,next (by rw [hst];simp [ZB,k3,hp]) (by omega) (by rw [ho'];omega),by omega,?_⟩
            refine ZU [0,5] (by simp) (by simp) (by simp) (by simp) (by simp [go_sem,hb',hb]) ?_ ?_
            ·simp [go_sem,hst',ho']
             exact ⟨clt,Zj (by omega)⟩
            ·simp [go_sem,hsucc,hlen,hst]
             exact .inl fun j hj=>⟨app 1 (by simp [ZB,k3,hp]) j hj,Z8 _ _⟩
         ·have q1:((Zf t i).kind==1)=false:=by simpa using k1
          have q2:((Zf t i).kind==2)=false:=by simpa using k2
          have q3:((Zf t i).kind==3)=false:=by simpa using k3
          have q4:((Zf t i).kind==4)=false:=by simpa using k4
          simp [go_sem,Zg,h,hst,q1,q2,q3,q4,hlen]
          exact bad (by simp [ZB,k1,k2,k3,k4])
     |true=>
      rw [hst] at bad app
      by_cases k3:(Zf t i).kind=3
      ·simp [go_sem,Zg,h,hst,k3,hlen]
       refine Zx [] (ZmS l hu b1 b2 e1 hat (Zf t i).text (hz i h) 2) (by simp) ?_ ?_ ?_ ?_
       ·simp [go_sem]
       ·simp [go_sem]
       ·simp [go_sem,hb']
       ·rintro av mem maps ⟨⟨o2,rfl,ho2⟩,rfl,rfl⟩
        cases hp:Z5 l (Zf t i).text 2 with
        |true=>
         have hno:Z5 l (Zf t i).text 3=false:=by
          rw [Bool.eq_false_iff]
          intro e
          obtain ⟨j,hj,e3,e4⟩:=(Xl _ _ _).1 e
          obtain ⟨j',hj',e5,e6⟩:=(Xl _ _ _).1 hp
          have:=hu j j' hj hj' (by rw [e3,e5]) (by rw [e4,e6];rfl)
          rw [this,e6] at e4
          cases e4
         have hst':Yf l t (i+1)=false:=by simp [Yf,hst,k3,hno]
         have ho':ZG t (i+1)=ZG t i:=by simp [ZG,k3]
         simp [go_sem,hp,hlen,POp.cells]
         refine ⟨by omega,by omega,i+1,next (by rw [hst];simp [ZB,k3,hp]) (by omega) (by rw [ho'];omega),by omega,?_⟩
         refine ZU [0,5] (by simp) (by simp) (by simp) (by simp) (by simp [go_sem,hb',hb]) ?_ ?_
         ·simp [go_sem,hst',ho']
          exact ⟨clt,Zj (by omega)⟩
         ·simp [go_sem,hsucc,hlen,hst]
          exact .inl fun j hj=>⟨app 2 (by simp [ZB,k3,hp]) j hj,Z8 _ _⟩
        |false=>
         simp [go_sem,hp,POp.cells]
         refine Zx [] (ZmS l hu b1 b2 e1 hat (Zf t i).text (hz i h) 3) (by simp) ?_ ?_ ?_ ?_
         ·simp [go_sem]
         ·simp [go_sem]
         ·simp [go_sem,hb']
         ·rintro av mem maps ⟨⟨o3,rfl,ho3⟩,rfl,rfl⟩
          cases hq:Z5 l (Zf t i).text 3 with
          |true=>
           have hst':Yf l t (i+1)=true:=by simp [Yf,hst,k3,hq]
           have ho':ZG t (i+1)=ZG t i:=by simp [ZG,k3]
           simp [go_sem,hq,hlen,POp.cells]
           refine ⟨by omega,by omega,i+1,next (by rw [hst];simp [ZB,k3,hp,hq]) (by omega) (by rw [ho'];omega),by omega,?_⟩
           refine ZU [0,6] (by simp) (by simp) (by simp) (by simp) (by simp [go_sem,hb',hb]) ?_ ?_
           ·simp [go_sem,hst',ho']
            exact ⟨clt,Zj (by omega)⟩
           ·simp [go_sem,hsucc,hlen,hst]
            exact .inl fun j hj=>⟨app 3 (by simp [ZB,k3,hp,hq]) j hj,Z8 _ _⟩
          |false=>
           simp [go_sem,hq,POp.cells]
           exact bad (by simp [ZB,k3,hp,hq])
      ·have q3:((Zf t i).kind==3)=false:=by simpa using k3
       by_cases k5:(Zf t i).kind=5
       ·by_cases hpos:0<ZG t i
        ·have hst':Yf l t (i+1)=true:=by simp [Yf,k5]
         have ho':ZG t (i+1)=ZG t i-1:=by simp [ZG,k5]
         simp [go_sem,Zg,h,hst,k5,hpos,hlen]
         refine ⟨by omega,by omega,i+1,next (by rw [hst];simp [ZB,k5,hpos]) (by omega) (by rw [ho'];omega),by omega,?_⟩
         refine ZU [0,4] (by simp) (by simp) (by simp) (by simp) (by simp [go_sem,hb',hb]) ?_ ?_
         ·simp [go_sem,hst',ho']
          exact ⟨clt,wrap_i64 (by omega),clt,Zj (by omega)⟩
         ·simp [go_sem,hsucc,hlen,hst]
          exact .inl fun j hj=>⟨app 0 (by simp [ZB,k5,hpos]) j hj,Z8 _ _⟩
        ·have e0:ZG t i=0:=by omega
         simp [go_sem,Zg,h,hst,k5,e0,hlen]
         exact bad (by simp [ZB,k5,e0])
       ·have q5:((Zf t i).kind==5)=false:=by simpa using k5
        by_cases k7:(Zf t i).kind=7
        ·by_cases e0:ZG t i=0
         ·by_cases elast:i+1=t.length
          ·have ew:IntKind.i64.wrap ((t.length:Int)-1)=i:=by rw [wrap_i64 (by omega)];omega
           simp [go_sem,Zg,h,hst,k7,e0,hlen,ew]
           have hr0:ZB l t i true=0:=by simp [ZB,k7,e0,elast]
           have hn:=U0 (l:=l) (t:=t) fun j hj=>by
            rcases Nat.lt_succ_iff_lt_or_eq.mp (show j<i+1 by omega) with hj|rfl
            ·exact h2 j hj
            ·rw [hst,hr0];omega
           have hlast:t.length-1=i:=by omega
           have hzz:ZW l t=(Yp l t (i+1),-1):=by
            have hne:V0 t=true:=by
             simp only [V0,hlast,k7,Bool.and_eq_true,decide_eq_true_eq]
             exact ⟨by omega,trivial⟩
            simp [ZW,h0,hn,hne,elast]
           rw [hzz]
           refine ⟨by omega,by omega,by omega,?_,rfl⟩
           refine obsSame_one.mpr ⟨⟨3,1,i+1,Zy (Yp l t (i+1))⟩,⟨rfl,rfl,rfl,fun j hj=>⟨?_,rfl⟩⟩,by rw [UK]⟩
           have:=app 0 hr0 j hj
           rw [hsucc,hst]
           exact this
          ·have ew:((i:Int)==IntKind.i64.wrap ((t.length:Int)-1))=false:=by rw [wrap_i64 (by omega)];simp;omega
           simp [go_sem,Zg,h,hst,k7,e0,hlen,ew]
           exact ⟨by omega,bad (by simp [ZB,k7,e0,elast])⟩
         ·have q0:(ZG t i==0)=false:=by simpa using e0
          simp [go_sem,Zg,h,hst,k7,q0,hlen]
          exact bad (by simp [ZB,k7,e0])
        ·have q7:((Zf t i).kind==7)=false:=by simpa using k7
         simp [go_sem,Zg,h,hst,q3,q5,q7,hlen]
         exact bad (by simp [ZB,k3,k5,k7])
    ·have e:i=t.length:=by omega
     simp [go_sem,h]
     refine ⟨by omega,?_⟩
     have hn:=U0 (l:=l) (t:=t) fun j hj=>h2 j (by omega)
     have hne:V0 t=false:=by
      rw [Bool.eq_false_iff]
      intro e2
      simp only [V0,Bool.and_eq_true,decide_eq_true_eq] at e2
      exact h3 (t.length-1) (by omega) e2.2
     simp [ZW,h0,hn,hne]
def bp (u:Bool):AV:=if u then .ptr 0 2 0 0 else .lit (.pointer none)
theorem Zk5 (l:List POp) (hl:l.length≤9223372036854775807) (hw:XD l) (t:List PTok) (ht:t.length≤1048576) (hz:∀ i,i<t.length→(Zf t i).text.size≤maxLen):VFun Tryz.prog 105 [.agg [.sl 4 l.length (Za l)],.sl 3 t.length (Zk t)] (fun av obs=>av=.tup [.own 0,.lit (.int .i64 (ZW l t).2)]∧obs=[⟨3,1,(ZW l t).1.length,Zy (ZW l t).1⟩]):=by
 refine (Zl8 l hl hw t ht hz).adopt 3 1 (by omega) (Zy []) fun av obs h=>?_
 rcases h with ⟨x,h1,rfl,rfl⟩|h1
 ·refine .inr ⟨_,rfl,rfl,?_⟩
  rw [h1]
  exact ⟨rfl,rfl⟩
 ·exact .inl h1
end Go.Proofs.YtadghlfkddkelaaGreatDoor.V
namespace Go.Proofs.YtadghlfkddkelaaGreatDoor.Ops
structure Lv where
 lev:Int
 srt:Int
def Lv.h1 (a:Lv):Int:=if a.srt=1 then a.lev else a.lev+1
def Lv.h2 (a:Lv):Int:=if a.srt=2 then a.lev else a.lev+1
inductive Tr (α β:Type) where
 |leaf (b:β)
 |grp (t:Tr α β)
 |pre (o:α) (t:Tr α β)
 |post (o:α) (t:Tr α β)
 |inf (o:α) (l r:Tr α β)
inductive Tk (α β:Type) where
 |leaf (b:β)
 |pre (o:α)
 |inf (o:α)
 |post (o:α)
 |opn
 |cls
variable {α β:Type} (v:α→Lv)
def Tr.level:Tr α β→Int
 | .leaf _=>1001
 | .grp _=>1001
 | .pre o _=>(v o).lev
 | .post o _=>(v o).lev
 | .inf o _ _=>(v o).lev
def Tr.yield:Tr α β→List (Tk α β)
 | .leaf b=>[.leaf b]
 | .grp t=>.opn::(t.yield++[.cls])
 | .pre o t=>.pre o::t.yield
 | .post o t=>t.yield++[.post o]
 | .inf o l r=>l.yield++.inf o::r.yield
def Tr.Adm:Tr α β→Prop
 | .leaf _=>True
 | .grp t=>t.Adm
 | .pre o t=>(v o).h2≤t.level v∧t.Adm
 | .post o t=>(v o).h1≤t.level v∧t.Adm
 | .inf o l r=>(v o).h1≤l.level v∧(v o).h2≤r.level v∧l.Adm∧r.Adm
def Tr.All (p:α→Prop):Tr α β→Prop
 | .leaf _=>True
 | .grp t=>t.All p
 | .pre o t=>p o∧(v o).srt=2∧t.All p
 | .post o t=>p o∧(v o).srt=1∧t.All p
 | .inf o l r=>p o∧l.All p∧r.All p
structure Good (p:α→Prop):Prop where
 low:∀ a,p a→1≤(v a).lev
 high:∀ a,p a→(v a).lev≤1000
 one:∀ a b,p a→p b→(v a).lev=(v b).lev→(v a).srt=(v b).srt
abbrev Res (α β:Type):=Option (Option (Tr α β×List (Tk α β)))
def firstF (ope:Int→List (Tk α β)→Res α β) (ts:List (Tk α β)):Res α β:=
 match ts with
 | .leaf b::r=>some (some (.leaf b,r))
 | .opn::r=>
  match ope 0 r with
  |none=>none
  |some none=>some none
  |some (some (t,rest))=>
   match rest with
   | .cls::r'=>some (some (.grp t,r'))
   | _=>some none
 | .pre o::r=>
  match ope (v o).h2 r with
  |none=>none
  |some none=>some none
  |some (some (t,rest))=>some (some (.pre o t,rest))
 | _=>some none
def loopF (ope:Int→List (Tk α β)→Res α β) (lp:Int→Tr α β→List (Tk α β)→Res α β) (m:Int) (l:Tr α β) (ts:List (Tk α β)):Res α β:=
 match ts with
 | .inf o::r=>
  if (v o).lev<m then some (some (l,ts))
  else if l.level v<(v o).h1 then some (some (l,ts))
  else
   match ope (v o).h2 r with
   |none=>none
   |some none=>some none
   |some (some (t,rest))=>lp m (.inf o l t) rest
 | .post o::r=>
  if (v o).lev<m then some (some (l,ts))
  else if l.level v<(v o).h1 then some (some (l,ts))
  else lp m (.post o l) r
 | _=>some (some (l,ts))
mutual
def operand:Nat→Int→List (Tk α β)→Res α β
 |0,_,_=>none
 |n+1,m,ts=>
  match first n ts with
  |none=>none
  |some none=>some none
  |some (some (l,rest))=>if l.level v<m then some none else loop n m l rest
def first:Nat→List (Tk α β)→Res α β
 |0,_=>none
 |n+1,ts=>firstF v (operand n) ts
def loop:Nat→Int→Tr α β→List (Tk α β)→Res α β
 |0,_,_,_=>none
 |n+1,m,l,ts=>loopF v (operand n) (loop n) m l ts
end
theorem ZaO (n:Nat) :
  (∀ m (ts:List (Tk α β)) r,operand v n m ts=some r→operand v (n+1) m ts=some r)∧
  (∀ (ts:List (Tk α β)) r,first v n ts=some r→first v (n+1) ts=some r)∧
  (∀ m (l:Tr α β) ts r,loop v n m l ts=some r→loop v (n+1) m l ts=some r):=by
 induction n with
 |zero=>exact ⟨fun _ _ _ h=>by simp [operand] at h,fun _ _ h=>by simp [first] at h,fun _ _ _ _ h=>by simp [loop] at h⟩
 |succ n ih=>
  obtain ⟨iho,ihf,ihl⟩:=ih
  refine ⟨fun m ts r h=>?_,fun ts r h=>?_,fun m l ts r h=>?_⟩
  ·rw [operand] at h ⊢
   cases hf:first v n ts with
   |none=>rw [hf] at h;simp at h
   |some x=>
    rw [ihf _ _ hf];rw [hf] at h
    cases x with
    |none=>exact h
    |some y=>
     obtain ⟨l,rest⟩:=y
     simp only at h ⊢
     split
     ·rename_i hl;rw [if_pos hl] at h;exact h
     ·rename_i hl;rw [if_neg hl] at h;exact ihl _ _ _ _ h
  ·rw [first] at h ⊢;unfold firstF at h ⊢
   split at h
   ·exact h
   ·rename_i r0
    cases ho:operand v n 0 r0 with
    |none=>rw [ho] at h;simp at h
    |some x=>rw [iho _ _ _ ho];rw [ho] at h;exact h
   ·rename_i o r0
    cases ho:operand v n (v o).h2 r0 with
    |none=>rw [ho] at h;simp at h
    |some x=>rw [iho _ _ _ ho];rw [ho] at h;exact h
   ·exact h
  ·rw [loop] at h ⊢;unfold loopF at h ⊢
   split at h
   ·rename_i o r0
    split
    ·rename_i hc;rw [if_pos hc] at h;exact h
    ·rename_i hc;rw [if_neg hc] at h
     split
     ·rename_i hd;rw [if_pos hd] at h;exact h
     ·rename_i hd;rw [if_neg hd] at h
      cases ho:operand v n (v o).h2 r0 with
      |none=>rw [ho] at h;simp at h
      |some x=>
       rw [iho _ _ _ ho];rw [ho] at h
       cases x with
       |none=>exact h
       |some y=>exact ihl _ _ _ _ h
   ·rename_i o r0
    split
    ·rename_i hc;rw [if_pos hc] at h;exact h
    ·rename_i hc;rw [if_neg hc] at h
     split
     ·rename_i hd;rw [if_pos hd] at h;exact h
     ·rename_i hd;rw [if_neg hd] at h;exact ihl _ _ _ _ h
   ·exact h
theorem operand_le {n n':Nat} (h:n≤n') {m} {ts:List (Tk α β)} {r} (e:operand v n m ts=some r):operand v n' m ts=some r:=by
 induction h with
 |refl=>exact e
 |step _ ih=>exact (ZaO v _).1 _ _ _ ih
theorem first_le {n n':Nat} (h:n≤n') {ts:List (Tk α β)} {r} (e:first v n ts=some r):first v n' ts=some r:=by
 induction h with
 |refl=>exact e
 |step _ ih=>exact (ZaO v _).2.1 _ _ ih
theorem G3 {n n':Nat} (h:n≤n') {m} {l:Tr α β} {ts:List (Tk α β)} {r} (e:loop v n m l ts=some r):loop v n' m l ts=some r:=by
 induction h with
 |refl=>exact e
 |step _ ih=>exact (ZaO v _).2.2 _ _ _ _ ih
theorem sound_all (n:Nat) :
  (∀ m (ts:List (Tk α β)) t rest,operand v n m ts=some (some (t,rest))→ts=t.yield++rest∧t.Adm v∧m≤t.level v)∧
  (∀ (ts:List (Tk α β)) t rest,first v n ts=some (some (t,rest))→ts=t.yield++rest∧t.Adm v)∧
  (∀ m (l:Tr α β) ts t rest,loop v n m l ts=some (some (t,rest))→l.Adm v→m≤l.level v→l.yield++ts=t.yield++rest∧t.Adm v∧m≤t.level v):=by
 induction n with
 |zero=>exact ⟨fun _ _ _ _ h=>by simp [operand] at h,fun _ _ _ h=>by simp [first] at h,fun _ _ _ _ _ h=>by simp [loop] at h⟩
 |succ n ih=>
  obtain ⟨iho,ihf,ihl⟩:=ih
  refine ⟨fun m ts t rest h=>?_,fun ts t rest h=>?_,fun m l ts t rest h ha hm=>?_⟩
  ·rw [operand] at h
   cases hf:first v n ts with
   |none=>rw [hf] at h;simp at h
   |some x=>
    rw [hf] at h
    cases x with
    |none=>simp at h
    |some y=>
     obtain ⟨l,r0⟩:=y
     simp only at h
     split at h
     ·simp at h
     ·rename_i hl
      obtain ⟨h1,h2⟩:=ihf _ _ _ hf
      obtain ⟨h3,h4,h5⟩:=ihl _ _ _ _ _ h h2 (by omega)
      exact ⟨by rw [h1,h3],h4,h5⟩
  ·rw [first] at h;unfold firstF at h
   split at h
   ·simp only [Option.some.injEq,Prod.mk.injEq] at h
    obtain ⟨rfl,rfl⟩:=h
    exact ⟨rfl,trivial⟩
   ·rename_i r0
    cases ho:operand v n 0 r0 with
    |none=>rw [ho] at h;simp at h
    |some x=>
     rw [ho] at h
     cases x with
     |none=>simp at h
     |some y=>
      obtain ⟨t0,r1⟩:=y
      simp only at h
      split at h
      ·simp only [Option.some.injEq,Prod.mk.injEq] at h
       obtain ⟨rfl,rfl⟩:=h
       obtain ⟨h1,h2,_⟩:=iho _ _ _ _ ho
       refine ⟨?_,h2⟩
       rw [h1];simp [Tr.yield]
      ·simp at h
   ·rename_i o r0
    cases ho:operand v n (v o).h2 r0 with
    |none=>rw [ho] at h;simp at h
    |some x=>
     rw [ho] at h
     cases x with
     |none=>simp at h
     |some y=>
      obtain ⟨t0,r1⟩:=y
      simp only [Option.some.injEq,Prod.mk.injEq] at h
      obtain ⟨rfl,rfl⟩:=h
      obtain ⟨h1,h2,h3⟩:=iho _ _ _ _ ho
      refine ⟨?_,h3,h2⟩
      rw [h1];simp [Tr.yield]
   ·simp at h
  ·rw [loop] at h;unfold loopF at h
   split at h
   ·rename_i o r0
    split at h
    ·simp only [Option.some.injEq,Prod.mk.injEq] at h
     obtain ⟨rfl,rfl⟩:=h
     exact ⟨rfl,ha,hm⟩
    ·rename_i hc
     split at h
     ·simp only [Option.some.injEq,Prod.mk.injEq] at h
      obtain ⟨rfl,rfl⟩:=h
      exact ⟨rfl,ha,hm⟩
     ·rename_i hd
      cases ho:operand v n (v o).h2 r0 with
      |none=>rw [ho] at h;simp at h
      |some x=>
       rw [ho] at h
       cases x with
       |none=>simp at h
       |some y=>
        obtain ⟨t0,r1⟩:=y
        obtain ⟨h1,h2,h3⟩:=iho _ _ _ _ ho
        obtain ⟨h4,h5,h6⟩:=ihl _ _ _ _ _ h ⟨by omega,h3,ha,h2⟩ (by simp only [Tr.level];omega)
        refine ⟨?_,h5,h6⟩
        rw [←h4,h1];simp [Tr.yield]
   ·rename_i o r0
    split at h
    ·simp only [Option.some.injEq,Prod.mk.injEq] at h
     obtain ⟨rfl,rfl⟩:=h
     exact ⟨rfl,ha,hm⟩
    ·rename_i hc
     split at h
     ·simp only [Option.some.injEq,Prod.mk.injEq] at h
      obtain ⟨rfl,rfl⟩:=h
      exact ⟨rfl,ha,hm⟩
     ·rename_i hd
      obtain ⟨h4,h5,h6⟩:=ihl _ _ _ _ _ h ⟨by omega,ha⟩ (by simp only [Tr.level];omega)
      refine ⟨?_,h5,h6⟩
      rw [←h4];simp [Tr.yield]
   ·simp only [Option.some.injEq,Prod.mk.injEq] at h
    obtain ⟨rfl,rfl⟩:=h
    exact ⟨rfl,ha,hm⟩
def Stop (m:Int):List (Tk α β)→Prop
 | .inf o::_=>(v o).lev<m
 | .post o::_=>(v o).lev<m
 | _=>True
def Edge:Tr α β→List (Tk α β)→Prop
 | .pre o t,r=>Stop v (v o).h2 r∧Edge t r
 | .inf o _ t,r=>Stop v (v o).h2 r∧Edge t r
 | _,_=>True
theorem Edge.of_low {t:Tr α β} {r:List (Tk α β)} {m:Int} (ha:t.Adm v) (hm:m≤t.level v) (hs:Stop v m r):Edge v t r:=by
 induction t generalizing m with
 |leaf b=>trivial
 |grp t=>trivial
 |post o t=>trivial
 |pre o t ih=>
  have h2:(v o).lev≤(v o).h2:=by unfold Lv.h2;split<;>omega
  simp only [Tr.level] at hm
  have hs':Stop v (v o).h2 r:=by
   unfold Stop at hs ⊢
   split<;>simp_all<;>omega
  exact ⟨hs',ih ha.2 ha.1 hs'⟩
 |inf o l t _ ih=>
  have h2:(v o).lev≤(v o).h2:=by unfold Lv.h2;split<;>omega
  simp only [Tr.level] at hm
  have hs':Stop v (v o).h2 r:=by
   unfold Stop at hs ⊢
   split<;>simp_all<;>omega
  exact ⟨hs',ih ha.2.2.2 ha.2.1 hs'⟩
theorem Edge.of_op {p:α→Prop} (hg:Good v p) {t:Tr α β} {x:α} {tk:Tk α β} {r:List (Tk α β)} (hp:t.All v p) (hx:p x) (htk:tk=.inf x∨tk=.post x)
  (ha:t.Adm v) (hm:(v x).h1≤t.level v):Edge v t (tk::r):=by
 have stop:∀ m,(v x).lev<m→Stop v m (tk::r):=by
  intro m h
  rcases htk with rfl|rfl<;>exact h
 have e1:(v x).lev≤(v x).h1:=by unfold Lv.h1;split<;>omega
 have key:∀ o,p o→(v x).h1≤(v o).lev→(v x).lev<(v o).h2:=by
  intro o ho h
  by_cases he:(v x).lev=(v o).lev
  ·have hs:=hg.one x o hx ho he
   unfold Lv.h1 at h
   unfold Lv.h2
   split at h
   ·rename_i h1
    rw [if_neg (by omega)];omega
   ·omega
  ·have:(v o).lev≤(v o).h2:=by unfold Lv.h2;split<;>omega
   omega
 cases t with
 |leaf b=>trivial
 |grp t=>trivial
 |post o t=>trivial
 |pre o t=>
  have hs:Stop v (v o).h2 (tk::r):=stop _ (key o hp.1 hm)
  exact ⟨hs,Edge.of_low v ha.2 ha.1 hs⟩
 |inf o l t=>
  have hs:Stop v (v o).h2 (tk::r):=stop _ (key o hp.1 hm)
  exact ⟨hs,Edge.of_low v ha.2.2.2 ha.2.1 hs⟩
theorem Kp {m:Int} {l:Tr α β} {r:List (Tk α β)} (hs:Stop v m r):loop v 1 m l r=some (some (l,r)):=by
 rw [loop];unfold loopF
 split
 ·exact if_pos hs
 ·exact if_pos hs
 ·rfl
theorem ZkS {p:α→Prop} (hg:Good v p) (t:Tr α β):∀ (m:Int) (rest:List (Tk α β)) (n:Nat) (res:Option (Tr α β×List (Tk α β))),t.All v p→t.Adm v→m≤t.level v→Edge v t rest→
  loop v n m t rest=some res→∃ n',operand v n' m (t.yield++rest)=some res:=by
 induction t with
 |leaf b=>
  intro m rest n res _ _ hm _ h
  refine ⟨n+2,?_⟩
  rw [operand]
  have e:first v (n+1) (Tr.yield (.leaf b)++rest)=some (some (.leaf b,rest)):=by rw [first];unfold firstF;rfl
  rw [e];simp only
  rw [if_neg (by omega)]
  exact G3 v (by omega) h
 |grp t ih=>
  intro m rest n res hp ha hm _ h
  obtain ⟨n',h'⟩:=ih 0 (.cls::rest) 1 _ hp ha (by
   cases t<;>simp only [Tr.level]<;>first|omega|(have:=hg.low _ hp.1;omega)) (Edge.of_low v (m:=t.level v) ha (by omega) trivial) (Kp v trivial)
  refine ⟨n+n'+3,?_⟩
  rw [operand]
  have e:first v (n+n'+2) (Tr.yield (.grp t)++rest)=some (some (.grp t,rest)):=by
   rw [first];unfold firstF
   simp only [Tr.yield,List.cons_append,List.append_assoc,List.nil_append]
   rw [operand_le v (by omega) h']
  rw [e];simp only
  rw [if_neg (by omega)]
  exact G3 v (by omega) h
 |pre o t ih=>
  intro m rest n res hp ha hm he h
  obtain ⟨n',h'⟩:=ih (v o).h2 rest 1 _ hp.2.2 ha.2 ha.1 he.2 (Kp v he.1)
  refine ⟨n+n'+3,?_⟩
  rw [operand]
  have e:first v (n+n'+2) (Tr.yield (.pre o t)++rest)=some (some (.pre o t,rest)):=by
   rw [first];unfold firstF
   simp only [Tr.yield,List.cons_append]
   rw [operand_le v (by omega) h']
  rw [e];simp only
  rw [if_neg (by omega)]
  exact G3 v (by omega) h
 |post o t ih=>
  intro m rest n res hp ha hm he h
  simp only [Tr.level] at hm
  have e1:(v o).lev≤(v o).h1:=by unfold Lv.h1;split<;>omega
  have ha1:=ha.1
  have hl:loop v (n+1) m t (.post o::rest)=some res:=by
   rw [loop];unfold loopF;simp only
   rw [if_neg (by omega),if_neg (by omega)]
   exact h
  obtain ⟨n',h'⟩:=ih m (.post o::rest) (n+1) res hp.2.2 ha.2 (by omega) (Edge.of_op v hg hp.2.2 hp.1 (.inr rfl) ha.2 ha.1) hl
  exact ⟨n',by simpa [Tr.yield] using h'⟩
 |inf o l r ihl ihr=>
  intro m rest n res hp ha hm he h
  simp only [Tr.level] at hm
  have e1:(v o).lev≤(v o).h1:=by unfold Lv.h1;split<;>omega
  have ha1:=ha.1
  obtain ⟨n2,h2⟩:=ihr (v o).h2 rest 1 _ hp.2.2 ha.2.2.2 ha.2.1 he.2 (Kp v he.1)
  have hl:loop v (n+n2+1) m l (.inf o::(r.yield++rest))=some res:=by
   rw [loop];unfold loopF;simp only
   rw [if_neg (by omega),if_neg (by omega),operand_le v (by omega) h2]
   exact G3 v (by omega) h
  obtain ⟨n',h'⟩:=ihl m (.inf o::(r.yield++rest)) (n+n2+1) res hp.2.1 ha.2.2.1 (by omega) (Edge.of_op v hg hp.2.1 hp.1 (.inl rfl) ha.2.2.1 ha.1) hl
  exact ⟨n',by simpa [Tr.yield] using h'⟩
theorem ZiH {p:α→Prop} (hg:Good v p) {t:Tr α β} (hp:t.All v p):1≤t.level v:=by
 cases t<;>simp only [Tr.level]<;>first|omega|exact hg.low _ hp.1
theorem fuel_all (n:Nat) :
  (∀ m (ts:List (Tk α β)),2*ts.length+2≤n→∃ r,operand v n m ts=some r)∧
  (∀ (ts:List (Tk α β)),2*ts.length+1≤n→∃ r,first v n ts=some r∧∀ t rest,r=some (t,rest)→rest.length<ts.length)∧
  (∀ m (l:Tr α β) ts,2*ts.length+1≤n→∃ r,loop v n m l ts=some r):=by
 have shorter:∀ k m (ts:List (Tk α β)) t rest,operand v k m ts=some (some (t,rest))→rest.length<ts.length:=by
  intro k m ts t rest h
  have:=((sound_all v k).1 _ _ _ _ h).1
  have ht:0<(t.yield).length:=by cases t<;>simp [Tr.yield]<;>omega
  rw [this,List.length_append];omega
 induction n with
 |zero=>exact ⟨fun _ _ h=>by omega,fun _ h=>by omega,fun _ _ _ h=>by omega⟩
 |succ n ih=>
  obtain ⟨iho,ihf,ihl⟩:=ih
  refine ⟨fun m ts h=>?_,fun ts h=>?_,fun m l ts h=>?_⟩
  ·obtain ⟨r,hr,hlt⟩:=ihf ts (by omega)
   rw [operand,hr]
   cases r with
   |none=>exact ⟨_,rfl⟩
   |some y=>
    obtain ⟨l,rest⟩:=y
    have:=hlt _ _ rfl
    simp only
    split
    ·exact ⟨_,rfl⟩
    ·exact ihl _ _ _ (by omega)
  ·rw [first];unfold firstF
   split
   ·exact ⟨_,rfl,fun t rest h=>by
     simp only [Option.some.injEq,Prod.mk.injEq] at h
     obtain ⟨_,rfl⟩:=h
     simp⟩
   ·rename_i r0
    simp only [List.length_cons] at h
    obtain ⟨x,hx⟩:=iho 0 r0 (by omega)
    rw [hx]
    cases x with
    |none=>exact ⟨_,rfl,fun _ _ h=>by simp at h⟩
    |some y=>
     obtain ⟨t0,r1⟩:=y
     have:=shorter _ _ _ _ _ hx
     simp only
     split
     ·exact ⟨_,rfl,fun t rest h=>by
       simp only [Option.some.injEq,Prod.mk.injEq] at h
       obtain ⟨_,rfl⟩:=h
       simp only [List.length_cons] at this ⊢
       omega⟩
     ·exact ⟨_,rfl,fun _ _ h=>by simp at h⟩
   ·rename_i o r0
    simp only [List.length_cons] at h
    obtain ⟨x,hx⟩:=iho (v o).h2 r0 (by omega)
    rw [hx]
    cases x with
    |none=>exact ⟨_,rfl,fun _ _ h=>by simp at h⟩
    |some y=>
     obtain ⟨t0,r1⟩:=y
     have:=shorter _ _ _ _ _ hx
     exact ⟨_,rfl,fun t rest h=>by
      simp only [Option.some.injEq,Prod.mk.injEq] at h
      obtain ⟨_,rfl⟩:=h
      simp only [List.length_cons]
      omega⟩
   ·exact ⟨_,rfl,fun _ _ h=>by simp at h⟩
  ·rw [loop];unfold loopF
   split
   ·rename_i o r0
    simp only [List.length_cons] at h
    split
    ·exact ⟨_,rfl⟩
    ·split
     ·exact ⟨_,rfl⟩
     ·obtain ⟨x,hx⟩:=iho (v o).h2 r0 (by omega)
      rw [hx]
      cases x with
      |none=>exact ⟨_,rfl⟩
      |some y=>
       obtain ⟨t0,r1⟩:=y
       have:=shorter _ _ _ _ _ hx
       exact ihl _ _ _ (by omega)
   ·rename_i o r0
    simp only [List.length_cons] at h
    split
    ·exact ⟨_,rfl⟩
    ·split
     ·exact ⟨_,rfl⟩
     ·exact ihl _ _ _ (by omega)
   ·exact ⟨_,rfl⟩
theorem Zm0 {p:α→Prop} (hg:Good v p) (t:Tr α β) (hp:t.All v p) (ts:List (Tk α β)) :
  operand v (2*ts.length+2) 0 ts=some (some (t,[]))↔t.Adm v∧t.yield=ts:=by
 constructor
 ·intro h
  obtain ⟨h1,h2,_⟩:=(sound_all v _).1 _ _ _ _ h
  exact ⟨h2,by rw [h1];simp⟩
 ·rintro ⟨ha,rfl⟩
  have:=ZiH v hg hp
  obtain ⟨n',h'⟩:=ZkS v hg t 0 [] 1 _ hp ha (by omega) (Edge.of_low v (m:=t.level v) ha (by omega) trivial) (Kp v trivial)
  rw [List.append_nil] at h'
  obtain ⟨r,hr⟩:=(fuel_all v (2*t.yield.length+2)).1 0 t.yield (by omega)
  rw [hr]
  have h1:=operand_le v (Nat.le_max_left n' (2*t.yield.length+2)) h'
  have h2:=operand_le v (Nat.le_max_right n' (2*t.yield.length+2)) hr
  rw [h1] at h2
  exact h2.symm
end Go.Proofs.YtadghlfkddkelaaGreatDoor.Ops
namespace Go.Proofs.YtadghlfkddkelaaGreatDoor.Ops
variable {α β:Type} (v:α→Lv)
def Tk.op?:Tk α β→Option α
 | .pre o=>some o
 | .inf o=>some o
 | .post o=>some o
 | _=>none
def Tk.turn:Tk α β→Int
 | .opn=>1
 | .cls=>-1
 | _=>0
def better (best:Option (Nat×α)) (x:Nat×α):Option (Nat×α):=
 match best with
 |none=>some x
 |some b=>if (v x.2).lev<(v b.2).lev∨((v x.2).lev=(v b.2).lev∧(v x.2).srt≠2) then some x else some b
def root:List (Tk α β)→Nat→Int→Option (Nat×α)→Option (Nat×α)
 |[],_,_,best=>best
 |tk::r,i,d,best=>
  if d+tk.turn=0 then
   match tk.op? with
   |none=>root r (i+1) (d+tk.turn) best
   |some o=>root r (i+1) (d+tk.turn) (better v best (i,o))
  else root r (i+1) (d+tk.turn) best
def buildF (bl:List (Tk α β)→Option (Tr α β)) (s:List (Tk α β)):Option (Tr α β):=
 match root v s 0 0 none with
 |none=>
  match s with
  | .opn::r=>(bl r.dropLast).map .grp
  | .leaf b::_=>some (.leaf b)
  | _=>none
 |some (i,_)=>
  match s[i]? with
  |some (.pre o)=>
   if i≠0 then none
   else match bl (s.drop 1) with
    |none=>none
    |some t=>if (v o).h2≤t.level v then some (.pre o t) else none
  |some (.post o)=>
   if i+1≠s.length then none
   else match bl (s.take i) with
    |none=>none
    |some t=>if (v o).h1≤t.level v then some (.post o t) else none
  |some (.inf o)=>
   match bl (s.take i) with
   |none=>none
   |some l=>
    match bl (s.drop (i+1)) with
    |none=>none
    |some r=>if (v o).h1≤l.level v∧(v o).h2≤r.level v then some (.inf o l r) else none
  | _=>none
def build:Nat→List (Tk α β)→Option (Tr α β)
 |0,_=>none
 |n+1,s=>buildF v (build n) s
def Tr.tops:Tr α β→Nat→List (Nat×α)
 | .leaf _,_=>[]
 | .grp _,_=>[]
 | .pre o t,i=>(i,o)::t.tops (i+1)
 | .post o t,i=>t.tops i++[(i+t.yield.length,o)]
 | .inf o l r,i=>l.tops i++(i+l.yield.length,o)::r.tops (i+l.yield.length+1)
theorem Uc {tk:Tk α β} {r:List (Tk α β)} {i:Nat} {d d':Int} {best} (e:d+tk.turn=d') (h:d'≠0):root v (tk::r) i d best=root v r (i+1) d' best:=by
 subst e;rw [root,if_neg h]
theorem K4 {tk:Tk α β} {r:List (Tk α β)} {i:Nat} {d d':Int} {best} (e:d+tk.turn=d') (h:tk.op?=none):root v (tk::r) i d best=root v r (i+1) d' best:=by
 subst e;rw [root];split
 ·rw [h]
 ·rfl
theorem Hv {tk:Tk α β} {r:List (Tk α β)} {i:Nat} {best} {o:α} (e:tk.turn=0) (h:tk.op?=some o):root v (tk::r) i 0 best=root v r (i+1) 0 (better v best (i,o)):=by
 rw [root,e,if_pos (by omega),h];rfl
theorem Zij (t:Tr α β):∀ (rest:List (Tk α β)) (i:Nat) (d:Int) best,0<d→root v (t.yield++rest) i d best=root v rest (i+t.yield.length) d best:=by
 induction t with
 |leaf b=>
  intro rest i d best h
  simp only [Tr.yield,List.cons_append,List.nil_append,List.length_cons,List.length_nil]
  rw [Uc v (d':=d) (by simp [Tk.turn]) (by omega)]
 |grp t ih=>
  intro rest i d best h
  simp only [Tr.yield,List.cons_append,List.append_assoc,List.nil_append,List.length_cons,List.length_append,List.length_nil]
  rw [Uc v (d':=d+1) (by simp [Tk.turn]) (by omega),ih _ _ _ _ (by omega),Uc v (d':=d) (by simp [Tk.turn];omega) (by omega)]
  rw [show i+1+t.yield.length+1=i+(t.yield.length+(0+1)+1) by omega]
 |pre o t ih=>
  intro rest i d best h
  simp only [Tr.yield,List.cons_append,List.length_cons]
  rw [Uc v (d':=d) (by simp [Tk.turn]) (by omega),ih _ _ _ _ (by omega)]
  rw [show i+1+t.yield.length=i+(t.yield.length+1) by omega]
 |post o t ih=>
  intro rest i d best h
  simp only [Tr.yield,List.append_assoc,List.cons_append,List.nil_append,List.length_append,List.length_cons,List.length_nil]
  rw [ih _ _ _ _ h,Uc v (d':=d) (by simp [Tk.turn]) (by omega)]
  rw [show i+t.yield.length+1=i+(t.yield.length+(0+1)) by omega]
 |inf o l r ihl ihr=>
  intro rest i d best h
  simp only [Tr.yield,List.append_assoc,List.cons_append,List.length_append,List.length_cons]
  rw [ihl _ _ _ _ h,Uc v (d':=d) (by simp [Tk.turn]) (by omega),ihr _ _ _ _ (by omega)]
  rw [show i+l.yield.length+1+r.yield.length=i+(l.yield.length+(r.yield.length+1)) by omega]
theorem Zii (t:Tr α β):∀ (rest:List (Tk α β)) (i:Nat) best,root v (t.yield++rest) i 0 best=root v rest (i+t.yield.length) 0 ((t.tops i).foldl (better v) best):=by
 induction t with
 |leaf b=>
  intro rest i best
  simp only [Tr.yield,List.cons_append,List.nil_append,List.length_cons,List.length_nil,Tr.tops,List.foldl_nil]
  rw [K4 v (d':=0) (by simp [Tk.turn]) rfl]
 |grp t ih=>
  intro rest i best
  simp only [Tr.yield,List.cons_append,List.append_assoc,List.nil_append,List.length_cons,List.length_append,List.length_nil,Tr.tops,List.foldl_nil]
  rw [K4 v (d':=1) (by simp [Tk.turn]) rfl,Zij v t _ _ _ _ (by omega),K4 v (d':=0) (by simp [Tk.turn]) rfl]
  rw [show i+1+t.yield.length+1=i+(t.yield.length+(0+1)+1) by omega]
 |pre o t ih=>
  intro rest i best
  simp only [Tr.yield,List.cons_append,List.length_cons,Tr.tops,List.foldl_cons]
  rw [Hv v (o:=o) rfl rfl,ih]
  rw [show i+1+t.yield.length=i+(t.yield.length+1) by omega]
 |post o t ih=>
  intro rest i best
  simp only [Tr.yield,List.append_assoc,List.cons_append,List.nil_append,List.length_append,List.length_cons,List.length_nil,Tr.tops,List.foldl_append,List.foldl_cons,List.foldl_nil]
  rw [ih,Hv v (o:=o) rfl rfl]
  rw [show i+t.yield.length+1=i+(t.yield.length+(0+1)) by omega]
 |inf o l r ihl ihr=>
  intro rest i best
  simp only [Tr.yield,List.append_assoc,List.cons_append,List.length_append,List.length_cons,Tr.tops,List.foldl_append,List.foldl_cons]
  rw [ihl,Hv v (o:=o) rfl rfl,ihr]
  rw [show i+l.yield.length+1+r.yield.length=i+(l.yield.length+(r.yield.length+1)) by omega]
theorem Vo (t:Tr α β):root v t.yield 0 0 none=(t.tops 0).foldl (better v) none:=by
 have:=Zii v t [] 0 none
 rw [List.append_nil] at this
 rw [this];rfl
theorem Zel {p:α→Prop} (t:Tr α β):∀ i,t.All v p→∀ x∈t.tops i,p x.2:=by
 induction t with
 |leaf b=>intro i _ x h;simp [Tr.tops] at h
 |grp t _=>intro i _ x h;simp [Tr.tops] at h
 |pre o t ih=>
  intro i hp x h
  simp only [Tr.tops,List.mem_cons] at h
  rcases h with rfl|h
  ·exact hp.1
  ·exact ih _ hp.2.2 x h
 |post o t ih=>
  intro i hp x h
  simp only [Tr.tops,List.mem_append,List.mem_cons,List.not_mem_nil,or_false] at h
  rcases h with h|rfl
  ·exact ih _ hp.2.2 x h
  ·exact hp.1
 |inf o l r ihl ihr=>
  intro i hp x h
  simp only [Tr.tops,List.mem_append,List.mem_cons] at h
  rcases h with h|rfl|h
  ·exact ihl _ hp.2.1 x h
  ·exact hp.1
  ·exact ihr _ hp.2.2 x h
theorem Ki (t:Tr α β):∀ i,t.Adm v→∀ x∈t.tops i,t.level v≤(v x.2).lev:=by
 have le1:∀ o,(v o).lev≤(v o).h1:=by intro o;unfold Lv.h1;split<;>omega
 have le2:∀ o,(v o).lev≤(v o).h2:=by intro o;unfold Lv.h2;split<;>omega
 induction t with
 |leaf b=>intro i _ x h;simp [Tr.tops] at h
 |grp t _=>intro i _ x h;simp [Tr.tops] at h
 |pre o t ih=>
  intro i ha x h
  simp only [Tr.tops,List.mem_cons] at h
  simp only [Tr.level]
  rcases h with rfl|h
  ·exact Int.le_refl _
  ·have:=ih _ ha.2 x h;have:=ha.1;have:=le2 o;omega
 |post o t ih=>
  intro i ha x h
  simp only [Tr.tops,List.mem_append,List.mem_cons,List.not_mem_nil,or_false] at h
  simp only [Tr.level]
  rcases h with h|rfl
  ·have:=ih _ ha.2 x h;have:=ha.1;have:=le1 o;omega
  ·exact Int.le_refl _
 |inf o l r ihl ihr=>
  intro i ha x h
  simp only [Tr.tops,List.mem_append,List.mem_cons] at h
  simp only [Tr.level]
  rcases h with h|rfl|h
  ·have:=ihl _ ha.2.2.1 x h;have:=ha.1;have:=le1 o;omega
  ·exact Int.le_refl _
  ·have:=ihr _ ha.2.2.2 x h;have:=ha.2.1;have:=le2 o;omega
theorem fold_mem (l:List (Nat×α)):∀ best,(l.foldl (better v) best=best)∨∃ x∈l,l.foldl (better v) best=some x:=by
 induction l with
 |nil=>intro best;exact .inl rfl
 |cons y l ih=>
  intro best
  simp only [List.foldl_cons]
  have hb:better v best y=best∨better v best y=some y:=by
   unfold better
   cases best with
   |none=>exact .inr rfl
   |some b=>simp only;split;exact .inr rfl;exact .inl rfl
  rcases ih (better v best y) with h|⟨x,hx,h⟩
  ·rcases hb with hb|hb
   ·rw [hb] at h;rw [hb];exact .inl h
   ·rw [h];exact .inr ⟨y,List.mem_cons_self,hb⟩
  ·exact .inr ⟨x,List.mem_cons_of_mem _ hx,h⟩
theorem ZgJ (l:List (Nat×α)) (b:Nat×α) (h:∀ x∈l,¬((v x.2).lev<(v b.2).lev∨((v x.2).lev=(v b.2).lev∧(v x.2).srt≠2))):l.foldl (better v) (some b)=some b:=by
 induction l with
 |nil=>rfl
 |cons y l ih=>
  simp only [List.foldl_cons]
  have:better v (some b) y=some b:=by
   unfold better;simp only;rw [if_neg (h y List.mem_cons_self)]
  rw [this]
  exact ih fun x hx=>h x (List.mem_cons_of_mem _ hx)
theorem Za9 (l:List (Nat×α)) (y:Nat×α) (h:∀ x∈l,(v y.2).h1≤(v x.2).lev):better v (l.foldl (better v) none) y=some y:=by
 rcases fold_mem v l none with e|⟨x,hx,e⟩
 ·rw [e];rfl
 ·rw [e];unfold better;simp only
  have:=h x hx
  rw [if_pos]
  unfold Lv.h1 at this
  split at this
  ·rename_i hs
   by_cases he:(v y.2).lev=(v x.2).lev
   ·exact .inr ⟨he,by omega⟩
   ·exact .inl (by omega)
  ·exact .inl (by omega)
theorem Za8 {p:α→Prop} (hg:Good v p) (l:List (Nat×α)) (y:Nat×α) (hy:p y.2) (hl:∀ x∈l,p x.2) (h:∀ x∈l,(v y.2).h2≤(v x.2).lev):l.foldl (better v) (some y)=some y:=by
 refine ZgJ v l y fun x hx=>?_
 have h1:=h x hx
 have h2:=hg.one x.2 y.2 (hl x hx) hy
 unfold Lv.h2 at h1
 split at h1<;>omega
theorem Zkb {p:α→Prop} (hg:Good v p) (o:α) (t:Tr α β) (hp:(Tr.pre o t).All v p) (ha:(Tr.pre o t).Adm v):root v (Tr.pre o t).yield 0 0 none=some (0,o):=by
 rw [Vo]
 simp only [Tr.tops,List.foldl_cons]
 refine Za8 v hg _ (0,o) hp.1 (Zel v t _ hp.2.2) fun x hx=>?_
 have:=Ki v t _ ha.2 x hx
 have:=ha.1
 simp only;omega
theorem Zih (o:α) (t:Tr α β) (ha:(Tr.post o t).Adm v):root v (Tr.post o t).yield 0 0 none=some (t.yield.length,o):=by
 rw [Vo]
 simp only [Tr.tops,List.foldl_append,List.foldl_cons,List.foldl_nil,Nat.zero_add]
 refine Za9 v _ (t.yield.length,o) fun x hx=>?_
 have:=Ki v t _ ha.2 x hx
 have:=ha.1
 simp only;omega
theorem Zkc {p:α→Prop} (hg:Good v p) (o:α) (l r:Tr α β) (hp:(Tr.inf o l r).All v p) (ha:(Tr.inf o l r).Adm v):root v (Tr.inf o l r).yield 0 0 none=some (l.yield.length,o):=by
 rw [Vo]
 simp only [Tr.tops,List.foldl_append,List.foldl_cons,Nat.zero_add]
 rw [Za9 v _ (l.yield.length,o) fun x hx=>?_]
 ·refine Za8 v hg _ (l.yield.length,o) hp.1 (Zel v r _ hp.2.2) fun x hx=>?_
  have:=Ki v r _ ha.2.2.2 x hx
  have:=ha.2.1
  simp only;omega
 ·have:=Ki v l _ ha.2.2.1 x hx
  have:=ha.1
  simp only;omega
theorem yield_pos (t:Tr α β):0<t.yield.length:=by cases t<;>simp [Tr.yield]<;>omega
theorem Zbw {p:α→Prop} (hg:Good v p) (t:Tr α β):∀ n,t.yield.length≤n→t.All v p→t.Adm v→build v n t.yield=some t:=by
 induction t with
 |leaf b=>
  intro n hn _ _
  obtain ⟨n,rfl⟩:∃ m,n=m+1:=⟨n-1,by simp [Tr.yield] at hn;omega⟩
  rw [build];unfold buildF;rw [Vo];rfl
 |grp t ih=>
  intro n hn hp ha
  obtain ⟨n,rfl⟩:∃ m,n=m+1:=⟨n-1,by simp [Tr.yield] at hn;omega⟩
  rw [build];unfold buildF;rw [Vo]
  show (build v n (t.yield++[Tk.cls]).dropLast).map Tr.grp=_
  rw [List.dropLast_concat,ih n (by simp [Tr.yield] at hn;omega) hp ha];rfl
 |pre o t ih=>
  intro n hn hp ha
  obtain ⟨n,rfl⟩:∃ m,n=m+1:=⟨n-1,by simp [Tr.yield] at hn;omega⟩
  rw [build];unfold buildF;rw [Zkb v hg o t hp ha]
  simp only [Tr.yield,List.getElem?_cons_zero,List.drop_succ_cons,List.drop_zero]
  rw [ih n (by simp [Tr.yield] at hn;omega) hp.2.2 ha.2]
  simp only [ne_eq,not_true_eq_false,if_false]
  rw [if_pos ha.1]
 |post o t ih=>
  intro n hn hp ha
  have:=yield_pos t
  obtain ⟨n,rfl⟩:∃ m,n=m+1:=⟨n-1,by simp [Tr.yield] at hn;omega⟩
  rw [build];unfold buildF;rw [Zih v o t ha]
  simp only [Tr.yield]
  rw [List.getElem?_append_right (Nat.le_refl _),Nat.sub_self,List.take_left]
  simp only [List.getElem?_cons_zero,List.length_append,List.length_cons,List.length_nil]
  rw [ih n (by simp [Tr.yield] at hn;omega) hp.2.2 ha.2]
  simp only
  rw [if_neg (by omega),if_pos ha.1]
 |inf o l r ihl ihr=>
  intro n hn hp ha
  have:=yield_pos l
  have:=yield_pos r
  obtain ⟨n,rfl⟩:∃ m,n=m+1:=⟨n-1,by simp [Tr.yield] at hn;omega⟩
  rw [build];unfold buildF;rw [Zkc v hg o l r hp ha]
  simp only [Tr.yield]
  rw [List.getElem?_append_right (Nat.le_refl _),Nat.sub_self,List.take_left]
  simp only [List.getElem?_cons_zero]
  rw [show l.yield++Tk.inf o::r.yield=(l.yield++[Tk.inf o])++r.yield by simp,List.drop_left' (by simp)]
  rw [ihl n (by simp [Tr.yield] at hn;omega) hp.2.1 ha.2.2.1,ihr n (by simp [Tr.yield] at hn;omega) hp.2.2 ha.2.2.2]
  simp only
  rw [if_pos ⟨ha.1,ha.2.1⟩]
def OF (s:List (Tk α β)):Prop:=∃ t:Tr α β,t.yield=s
theorem of_pre {o:α} {w:List (Tk α β)} (h:OF (.pre o::w)):OF w:=by
 obtain ⟨t,ht⟩:=h
 induction t generalizing w with
 |leaf b=>simp [Tr.yield] at ht
 |grp t=>simp [Tr.yield] at ht
 |pre p t=>simp only [Tr.yield,List.cons.injEq] at ht;exact ⟨t,ht.2⟩
 |post p t ih=>
  simp only [Tr.yield] at ht
  rcases List.append_eq_cons_iff.1 ht with ⟨h1,_⟩|⟨w1,h1,h2⟩
  ·have:=yield_pos t;rw [h1] at this;simp at this
  ·obtain ⟨t',ht'⟩:=ih h1
   exact ⟨.post p t',by rw [h2];simp [Tr.yield,ht']⟩
 |inf p l r ih _=>
  simp only [Tr.yield] at ht
  rcases List.append_eq_cons_iff.1 ht with ⟨h1,_⟩|⟨w1,h1,h2⟩
  ·have:=yield_pos l;rw [h1] at this;simp at this
  ·obtain ⟨t',ht'⟩:=ih h1
   exact ⟨.inf p t' r,by rw [h2];simp [Tr.yield,ht']⟩
theorem of_post {o:α} {u:List (Tk α β)} (h:OF (u++[.post o])):OF u:=by
 obtain ⟨t,ht⟩:=h
 induction t generalizing u with
 |leaf b=>
  have h2:=congrArg List.getLast? ht
  simp [Tr.yield] at h2
 |grp t=>
  have h2:=congrArg List.getLast? ht
  simp only [Tr.yield,←List.cons_append,List.getLast?_append,List.getLast?_singleton,Option.some_or] at h2
  simp at h2
 |post p t=>
  simp only [Tr.yield] at ht
  exact ⟨t,(List.append_inj' ht rfl).1⟩
 |pre p t ih=>
  simp only [Tr.yield] at ht
  cases u with
  |nil=>
   simp at ht
  |cons x u=>
   simp only [List.cons_append,List.cons.injEq] at ht
   obtain ⟨t',ht'⟩:=ih ht.2
   exact ⟨.pre p t',by rw [←ht.1];simp [Tr.yield,ht']⟩
 |inf p l r _ ih=>
  simp only [Tr.yield] at ht
  rw [show l.yield++Tk.inf p::r.yield=(l.yield++[Tk.inf p])++r.yield by simp] at ht
  rcases List.append_eq_append_iff.1 ht with ⟨a',h1,h2⟩|⟨c',h1,h2⟩
  ·obtain ⟨t',ht'⟩:=ih h2
   exact ⟨.inf p l t',by rw [h1];simp [Tr.yield,ht']⟩
  ·have:=yield_pos r
   cases c' with
   |nil=>
    simp only [List.append_nil,List.nil_append] at h1 h2
    obtain ⟨t',ht'⟩:=ih (u:=[]) (by simpa using h2.symm)
    have:=yield_pos t'
    rw [ht'] at this;simp at this
   |cons x c'=>
    have h3:=congrArg List.length h2
    simp only [List.length_append,List.length_cons,List.length_nil] at h3
    omega
def depth (s:List (Tk α β)):Int:=(s.map Tk.turn).sum
theorem X4 (a b:List (Tk α β)):depth (a++b)=depth a+depth b:=by unfold depth;rw [List.map_append,List.sum_append_int]
theorem Xo (a:Tk α β) (b:List (Tk α β)):depth (a::b)=a.turn+depth b:=by simp [depth]
theorem UO (t:Tr α β):depth t.yield=0:=by
 induction t with
 |leaf b=>simp [Tr.yield,depth,Tk.turn]
 |grp t ih=>simp only [Tr.yield,Xo,X4,ih,Tk.turn];simp [depth]
 |pre o t ih=>simp only [Tr.yield,Xo,ih,Tk.turn];rfl
 |post o t ih=>simp only [Tr.yield,X4,Xo,ih,Tk.turn];rfl
 |inf o l r ihl ihr=>simp only [Tr.yield,X4,Xo,ihl,ihr,Tk.turn];rfl
theorem Zfc (t:Tr α β):∀ u w,t.yield=u++w→0≤depth u:=by
 induction t with
 |leaf b=>
  intro u w h
  rcases u with _|⟨x,u⟩
  ·simp [depth]
  ·simp only [Tr.yield,List.cons_append,List.cons.injEq] at h
   obtain ⟨rfl,h⟩:=h
   have:u=[]:=by simpa using (List.append_eq_nil_iff.1 h.symm).1
   subst this;simp [depth,Tk.turn]
 |grp t ih=>
  intro u w h
  rcases u with _|⟨x,u⟩
  ·simp [depth]
  ·simp only [Tr.yield,List.cons_append,List.cons.injEq] at h
   obtain ⟨rfl,h⟩:=h
   rw [Xo]
   rcases List.append_eq_append_iff.1 h with ⟨a',h1,h2⟩|⟨c',h1,h2⟩
   ·rw [h1,X4,UO]
    have:a'=[]∨a'=[.cls]:=by
     rcases a' with _|⟨y,a'⟩
     ·exact .inl rfl
     ·simp only [List.cons_append,List.cons.injEq] at h2
      obtain ⟨rfl,h2⟩:=h2
      have:a'=[]:=by simpa using (List.append_eq_nil_iff.1 h2.symm).1
      subst this;exact .inr rfl
    rcases this with rfl|rfl<;>simp [depth,Tk.turn]
   ·have:=ih u c' h1
    simp only [Tk.turn];omega
 |pre o t ih=>
  intro u w h
  rcases u with _|⟨x,u⟩
  ·simp [depth]
  ·simp only [Tr.yield,List.cons_append,List.cons.injEq] at h
   obtain ⟨rfl,h⟩:=h
   rw [Xo]
   have:=ih u w h
   simp only [Tk.turn];omega
 |post o t ih=>
  intro u w h
  simp only [Tr.yield] at h
  rcases List.append_eq_append_iff.1 h with ⟨a',h1,h2⟩|⟨c',h1,h2⟩
  ·rw [h1,X4,UO]
   rcases a' with _|⟨y,a'⟩
   ·simp [depth]
   ·simp only [List.cons_append,List.cons.injEq] at h2
    obtain ⟨rfl,h2⟩:=h2
    have:a'=[]:=by simpa using (List.append_eq_nil_iff.1 h2.symm).1
    subst this;simp [depth,Tk.turn]
  ·exact ih u c' h1
 |inf o l r ihl ihr=>
  intro u w h
  simp only [Tr.yield] at h
  rcases List.append_eq_append_iff.1 h with ⟨a',h1,h2⟩|⟨c',h1,h2⟩
  ·rw [h1,X4,UO]
   rcases a' with _|⟨y,a'⟩
   ·simp [depth]
   ·simp only [List.cons_append,List.cons.injEq] at h2
    obtain ⟨rfl,h2⟩:=h2
    rw [Xo]
    have:=ihr a' w h2
    simp only [Tk.turn];omega
  ·exact ihl u c' h1
theorem of_inf {o:α} {u w:List (Tk α β)} (h:OF (u++.inf o::w)) (hd:depth u=0):OF u∧OF w:=by
 obtain ⟨t,ht⟩:=h
 induction t generalizing u w with
 |leaf b=>
  exfalso
  rcases u with _|⟨x,u⟩
  ·simp [Tr.yield] at ht
  ·simp [Tr.yield] at ht
 |grp t ih=>
  exfalso
  rcases u with _|⟨x,u⟩
  ·simp [Tr.yield] at ht
  ·simp only [Tr.yield,List.cons_append,List.cons.injEq] at ht
   obtain ⟨rfl,h⟩:=ht
   rw [Xo] at hd
   rcases List.append_eq_append_iff.1 h with ⟨a',h1,h2⟩|⟨c',h1,h2⟩
   ·rcases a' with _|⟨y,a'⟩
    ·simp at h2
    ·simp only [List.cons_append,List.cons.injEq] at h2
     have:=(List.append_eq_nil_iff.1 h2.2.symm).2
     simp at this
   ·have:=Zfc t u c' h1
    simp only [Tk.turn] at hd;omega
 |pre p t ih=>
  rcases u with _|⟨x,u⟩
  ·simp [Tr.yield] at ht
  ·simp only [Tr.yield,List.cons_append,List.cons.injEq] at ht
   obtain ⟨rfl,h⟩:=ht
   rw [Xo] at hd
   obtain ⟨⟨t1,e1⟩,h2⟩:=ih (by simp only [Tk.turn] at hd;omega) h
   exact ⟨⟨.pre p t1,by simp [Tr.yield,e1]⟩,h2⟩
 |post p t ih=>
  simp only [Tr.yield] at ht
  rcases List.append_eq_append_iff.1 ht with ⟨a',h1,h2⟩|⟨c',h1,h2⟩
  ·exfalso
   rcases a' with _|⟨y,a'⟩
   ·simp at h2
   ·simp only [List.cons_append,List.cons.injEq] at h2
    have:=(List.append_eq_nil_iff.1 h2.2.symm).2
    simp at this
  ·rcases c' with _|⟨y,c'⟩
   ·simp at h2
   ·simp only [List.cons_append,List.cons.injEq] at h2
    obtain ⟨rfl,h2⟩:=h2
    obtain ⟨h3,⟨t1,e1⟩⟩:=ih hd h1
    exact ⟨h3,⟨.post p t1,by rw [h2];simp [Tr.yield,e1]⟩⟩
 |inf p l r ihl ihr=>
  simp only [Tr.yield] at ht
  rcases List.append_eq_append_iff.1 ht with ⟨a',h1,h2⟩|⟨c',h1,h2⟩
  ·rcases a' with _|⟨y,a'⟩
   ·simp only [List.append_nil,List.nil_append,List.cons.injEq] at h1 h2
    exact ⟨⟨l,h1.symm⟩,⟨r,h2.2⟩⟩
   ·simp only [List.cons_append,List.cons.injEq] at h2
    obtain ⟨rfl,h2⟩:=h2
    rw [h1,X4,UO,Xo] at hd
    obtain ⟨⟨t1,e1⟩,h4⟩:=ihr (by simp only [Tk.turn] at hd;omega) h2
    exact ⟨⟨.inf p l t1,by rw [h1];simp [Tr.yield,e1]⟩,h4⟩
  ·rcases c' with _|⟨y,c'⟩
   ·simp only [List.append_nil,List.nil_append,List.cons.injEq] at h1 h2
    exact ⟨⟨l,h1⟩,⟨r,h2.2.symm⟩⟩
   ·simp only [List.cons_append,List.cons.injEq] at h2
    obtain ⟨rfl,h2⟩:=h2
    obtain ⟨h3,⟨t1,e1⟩⟩:=ihl hd h1
    exact ⟨h3,⟨.inf p t1 r,by rw [h2];simp [Tr.yield,e1]⟩⟩
theorem root_at (s:List (Tk α β)):∀ (i:Nat) (d:Int) best (j:Nat) (o:α),root v s i d best=some (j,o)→best=some (j,o)∨∃ u tk w,s=u++tk::w∧tk.op?=some o∧d+depth u=0∧j=i+u.length:=by
 induction s with
 |nil=>intro i d best j o h;exact .inl h
 |cons tk r ih=>
  intro i d best j o h
  rw [root] at h
  have go:∀ best',root v r (i+1) (d+tk.turn) best'=some (j,o)→best'=some (j,o)∨∃ u t w,tk::r=u++t::w∧t.op?=some o∧d+depth u=0∧j=i+u.length:=by
   intro best' h'
   rcases ih _ _ _ _ _ h' with h'|⟨u,t,w,h1,h2,h3,h4⟩
   ·exact .inl h'
   ·exact .inr ⟨tk::u,t,w,by rw [h1];rfl,h2,by rw [Xo];omega,by rw [List.length_cons];omega⟩
  split at h
  rotate_left
  ·exact go _ h
  ·rename_i hd
   split at h
   ·exact go _ h
   ·rename_i o' ho
    rcases go _ h with h|h
    ·have:better v best (i,o')=best∨better v best (i,o')=some (i,o'):=by
      unfold better
      cases best with
      |none=>exact .inr rfl
      |some b=>simp only;split;exact .inr rfl;exact .inl rfl
     rcases this with e|e
     ·rw [e] at h;exact .inl h
     ·rw [e] at h
      simp only [Option.some.injEq,Prod.mk.injEq] at h
      obtain ⟨rfl,rfl⟩:=h
      refine .inr ⟨[],tk,r,rfl,ho,?_,by simp⟩
      have:tk.turn=0:=by cases tk<;>simp [Tk.op?] at ho<;>rfl
      rw [this] at hd
      simp [depth];omega
    ·exact .inr h
theorem UR (best:Option (Nat×α)) (x:Nat×α):∃ y,better v best x=some y:=by
 unfold better
 cases best with
 |none=>exact ⟨_,rfl⟩
 |some b=>simp only;split;exact ⟨_,rfl⟩;exact ⟨_,rfl⟩
theorem ZcA (l:List (Nat×α)):∀ x,∃ y,l.foldl (better v) (some x)=some y:=by
 induction l with
 |nil=>intro x;exact ⟨x,rfl⟩
 |cons z l ih=>
  intro x
  obtain ⟨y,hy⟩:=UR v (some x) z
  simp only [List.foldl_cons,hy]
  exact ih y
theorem root_none (t:Tr α β) (h:root v t.yield 0 0 none=none):(∃ b,t=.leaf b)∨∃ t',t=.grp t':=by
 rw [Vo] at h
 cases t with
 |leaf b=>exact .inl ⟨b,rfl⟩
 |grp t=>exact .inr ⟨t,rfl⟩
 |pre o t=>
  simp only [Tr.tops,List.foldl_cons] at h
  obtain ⟨y,hy⟩:=UR v none (0,o)
  rw [hy] at h
  obtain ⟨z,hz⟩:=ZcA v (t.tops (0+1)) y
  rw [hz] at h;simp at h
 |post o t=>
  simp only [Tr.tops,List.foldl_append,List.foldl_cons,List.foldl_nil] at h
  obtain ⟨y,hy⟩:=UR v (List.foldl (better v) none (t.tops 0)) (0+t.yield.length,o)
  rw [hy] at h;simp at h
 |inf o l r=>
  simp only [Tr.tops,List.foldl_append,List.foldl_cons] at h
  obtain ⟨y,hy⟩:=UR v (List.foldl (better v) none (l.tops 0)) (0+l.yield.length,o)
  rw [hy] at h
  obtain ⟨z,hz⟩:=ZcA v (r.tops (0+l.yield.length+1)) y
  rw [hz] at h;simp at h
theorem build_sound (n:Nat):∀ (s:List (Tk α β)) (t:Tr α β),OF s→build v n s=some t→t.Adm v∧t.yield=s:=by
 induction n with
 |zero=>intro s t _ h;simp [build] at h
 |succ n ih=>
  intro s t hof h
  rw [build] at h;unfold buildF at h
  cases hr:root v s 0 0 none with
  |none=>
   rw [hr] at h;simp only at h
   obtain ⟨t0,rfl⟩:=hof
   rcases root_none v t0 hr with ⟨b,rfl⟩|⟨t1,rfl⟩
   ·simp only [Tr.yield,Option.some.injEq] at h
    subst h;exact ⟨trivial,rfl⟩
   ·simp only [Tr.yield,List.dropLast_concat] at h
    cases hb:build v n t1.yield with
    |none=>rw [hb] at h;simp at h
    |some t2=>
     rw [hb] at h
     simp only [Option.map_some,Option.some.injEq] at h
     subst h
     obtain ⟨h1,h2⟩:=ih _ _ ⟨t1,rfl⟩ hb
     exact ⟨h1,by simp [Tr.yield,h2]⟩
  |some x=>
   obtain ⟨i,o⟩:=x
   rw [hr] at h;simp only at h
   rcases root_at v s _ _ _ _ _ hr with h0|⟨u,tk,w,rfl,ho,hd,rfl⟩
   ·simp at h0
   ·rw [List.getElem?_append_right (by omega)] at h
    simp only [Nat.zero_add,Nat.sub_self,List.getElem?_cons_zero] at h
    rw [Int.zero_add] at hd
    have hdr:(u++tk::w).drop (u.length+1)=w:=by
     rw [show u++tk::w=(u++[tk])++w by simp,List.drop_left' (by simp)]
    rw [List.take_left,hdr] at h
    split at h
    ·rename_i p hp
     simp only [Option.some.injEq] at hp
     subst hp
     split at h
     ·simp at h
     ·rename_i hu
      have hu':u=[]:=List.eq_nil_of_length_eq_zero (by omega)
      subst hu'
      simp only [List.nil_append,List.drop_succ_cons,List.drop_zero] at h hof ⊢
      cases hb:build v n w with
      |none=>rw [hb] at h;simp at h
      |some t2=>
       rw [hb] at h;simp only at h
       split at h
       ·rename_i hc
        simp only [Option.some.injEq] at h
        subst h
        obtain ⟨h1,h2⟩:=ih _ _ (of_pre hof) hb
        exact ⟨⟨hc,h1⟩,by simp [Tr.yield,h2]⟩
       ·simp at h
    ·rename_i p hp
     simp only [Option.some.injEq] at hp
     subst hp
     split at h
     ·simp at h
     ·rename_i hw
      have hw':w=[]:=List.eq_nil_of_length_eq_zero (by simp only [List.length_append,List.length_cons] at hw;omega)
      subst hw'
      cases hb:build v n u with
      |none=>rw [hb] at h;simp at h
      |some t2=>
       rw [hb] at h;simp only at h
       split at h
       ·rename_i hc
        simp only [Option.some.injEq] at h
        subst h
        obtain ⟨h1,h2⟩:=ih _ _ (of_post hof) hb
        exact ⟨⟨hc,h1⟩,by simp [Tr.yield,h2]⟩
       ·simp at h
    ·rename_i p hp
     simp only [Option.some.injEq] at hp
     subst hp
     obtain ⟨ofu,ofw⟩:=of_inf hof hd
     cases hb:build v n u with
     |none=>rw [hb] at h;simp at h
     |some t2=>
      rw [hb] at h;simp only at h
      cases hb':build v n w with
      |none=>rw [hb'] at h;simp at h
      |some t3=>
       rw [hb'] at h;simp only at h
       split at h
       ·rename_i hc
        simp only [Option.some.injEq] at h
        subst h
        obtain ⟨h1,h2⟩:=ih _ _ ofu hb
        obtain ⟨h3,h4⟩:=ih _ _ ofw hb'
        exact ⟨⟨hc.1,hc.2,h1,h3⟩,by simp [Tr.yield,h2,h4]⟩
       ·simp at h
    ·rename_i h1 h2 h3
     cases tk with
     |pre p=>exact absurd rfl (h1 p)
     |post p=>exact absurd rfl (h2 p)
     |inf p=>exact absurd rfl (h3 p)
     |leaf b=>simp [Tk.op?] at ho
     |opn=>simp [Tk.op?] at ho
     |cls=>simp [Tk.op?] at ho
def Fit:Bool→Nat→List (Tk α β)→Prop
 |false,d,[]=>d=0
 |true,_,[]=>False
 |true,d,.leaf _::r=>Fit false d r
 |true,d,.opn::r=>Fit true (d+1) r
 |true,d,.pre _::r=>Fit true d r
 |false,d,.inf _::r=>Fit true d r
 |false,d,.post _::r=>Fit false d r
 |false,d+1,.cls::r=>Fit false d r
 | _,_,_=>False
theorem ZmN (n:Nat) :
  (∀ d (ts:List (Tk α β)),ts.length<n→Fit true d ts→∃ t:Tr α β,∃ rest,ts=t.yield++rest∧((rest=[]∧d=0)∨∃ r d',rest=.cls::r∧d=d'+1∧Fit false d' r))∧
  (∀ d (t0:Tr α β) (ts:List (Tk α β)),ts.length<n→Fit false d ts→∃ t:Tr α β,∃ rest,t0.yield++ts=t.yield++rest∧((rest=[]∧d=0)∨∃ r d',rest=.cls::r∧d=d'+1∧Fit false d' r)):=by
 induction n with
 |zero=>exact ⟨fun _ _ h=>by omega,fun _ _ _ h=>by omega⟩
 |succ n ih=>
  obtain ⟨ih1,ih2⟩:=ih
  refine ⟨fun d ts hl h=>?_,fun d t0 ts hl h=>?_⟩
  ·rcases ts with _|⟨tk,r⟩
   ·simp [Fit] at h
   ·simp only [List.length_cons] at hl
    cases tk with
    |leaf b=>
     simp only [Fit] at h
     exact ih2 d (.leaf b) r (by omega) h
    |opn=>
     simp only [Fit] at h
     obtain ⟨t1,rest,e,hr⟩:=ih1 _ _ (by omega) h
     rcases hr with ⟨_,h0⟩|⟨r',d',h1,h2,h3⟩
     ·omega
     ·obtain rfl:d'=d:=by omega
      obtain ⟨t,rest',e',hr'⟩:=ih2 _ (.grp t1) r' (by
       have:=congrArg List.length e
       rw [h1] at this
       simp at this;omega) h3
      refine ⟨t,rest',?_,hr'⟩
      rw [←e',e,h1];simp [Tr.yield]
    |pre o=>
     simp only [Fit] at h
     obtain ⟨t1,rest,e,hr⟩:=ih1 _ _ (by omega) h
     exact ⟨.pre o t1,rest,by rw [e];simp [Tr.yield],hr⟩
    |inf o=>simp [Fit] at h
    |post o=>simp [Fit] at h
    |cls=>simp [Fit] at h
  ·rcases ts with _|⟨tk,r⟩
   ·simp only [Fit] at h
    exact ⟨t0,[],rfl,.inl ⟨rfl,h⟩⟩
   ·simp only [List.length_cons] at hl
    cases tk with
    |leaf b=>simp [Fit] at h
    |opn=>simp [Fit] at h
    |pre o=>simp [Fit] at h
    |inf o=>
     simp only [Fit] at h
     obtain ⟨t1,rest,e,hr⟩:=ih1 _ _ (by omega) h
     exact ⟨.inf o t0 t1,rest,by rw [e];simp [Tr.yield],hr⟩
    |post o=>
     simp only [Fit] at h
     obtain ⟨t,rest,e,hr⟩:=ih2 _ (.post o t0) r (by omega) h
     exact ⟨t,rest,by rw [←e];simp [Tr.yield],hr⟩
    |cls=>
     cases d with
     |zero=>simp [Fit] at h
     |succ d=>
      simp only [Fit] at h
      exact ⟨t0,_,rfl,.inr ⟨r,d,rfl,rfl,h⟩⟩
theorem OF.of_fit {ts:List (Tk α β)} (h:Fit true 0 ts):OF ts:=by
 obtain ⟨t,rest,e,hr⟩:=(ZmN (ts.length+1)).1 0 ts (by omega) h
 rcases hr with ⟨rfl,_⟩|⟨_,_,_,h0,_⟩
 ·exact ⟨t,by rw [e,List.append_nil]⟩
 ·omega
theorem build_eq_operand {p:α→Prop} (hg:Good v p) (s:List (Tk α β)) (hs:OF s) (hall:∀ t:Tr α β,t.yield=s→t.All v p) (t:Tr α β) :
  build v s.length s=some t↔operand v (2*s.length+2) 0 s=some (some (t,[])):=by
 constructor
 ·intro h
  obtain ⟨h1,h2⟩:=build_sound v _ s t hs h
  exact (Zm0 v hg t (hall t h2) s).2 ⟨h1,h2⟩
 ·intro h
  obtain ⟨h1,h2,_⟩:=(sound_all v _).1 _ _ _ _ h
  have h2':t.yield=s:=by rw [h1];simp
  rw [←h2']
  exact Zbw v hg t _ (by omega) (hall t h2') h2
end Go.Proofs.YtadghlfkddkelaaGreatDoor.Ops
namespace Go.Proofs.YtadghlfkddkelaaGreatDoor.V
open Go.RowKit
open Go.Maps (Keyed)
open Go.Proofs.YtadghlfkddkelaaGreatDoor.Ops (Tr Tk)
abbrev PT:=Tr POp (Int×ByteArray)
def Z6:PT→Int
 | .leaf _=>1
 | .grp e=>1+Z6 e
 | .pre _ e=>1+Z6 e
 | .post _ e=>1+Z6 e
 | .inf _ x y=>1+max (Z6 x) (Z6 y)
def Wg:PT→Value
 | .leaf b=>.iface 237 (.agg #[.int .i64 b.1,.string b.2,.int .i64 0,.int .i64 0])
 | .grp e=>.iface 239 (.agg #[Wg e,.int .i64 (1+Z6 e)])
 | .pre o e=>.iface 197 (.agg #[.string o.text,.int .i64 o.kind,.int .i64 o.level,.int .i64 o.side,.nilIface,Wg e,.int .i64 (1+Z6 e)])
 | .post o e=>.iface 197 (.agg #[.string o.text,.int .i64 o.kind,.int .i64 o.level,.int .i64 o.side,Wg e,.nilIface,.int .i64 (1+Z6 e)])
 | .inf o x y=>.iface 197 (.agg #[.string o.text,.int .i64 o.kind,.int .i64 o.level,.int .i64 o.side,Wg x,Wg y,.int .i64 (1+max (Z6 x) (Z6 y))])
def ZlL:PT→Int
 | .leaf _=>1001
 | .grp _=>1001
 | .pre o _=>o.level
 | .post o _=>o.level
 | .inf o _ _=>o.level
theorem Wy:∀ e:PT,1≤Z6 e
 | .leaf _=>by simp [Z6]
 | .grp e=>by have:=Wy e;simp only [Z6];omega
 | .pre _ e=>by have:=Wy e;simp only [Z6];omega
 | .post _ e=>by have:=Wy e;simp only [Z6];omega
 | .inf _ x y=>by have:=Wy x;simp only [Z6];omega
theorem Xh:∀ e:PT,Z6 e≤e.yield.length
 | .leaf _=>by simp [Z6,Tr.yield]
 | .grp e=>by have:=Xh e;simp [Z6,Tr.yield];omega
 | .pre _ e=>by have:=Xh e;simp [Z6,Tr.yield];omega
 | .post _ e=>by have:=Xh e;simp [Z6,Tr.yield];omega
 | .inf _ x y=>by have:=Xh x;have:=Xh y;simp [Z6,Tr.yield];omega
def ZmY (v:Value) (lv hi:Int):Prop:=∃ T u,v=.iface T u∧(∃ f,XI Tryz.prog T "loop.example/s0059/impl.level"=some f∧VFun Tryz.prog f [.lit u] (fun av obs=>obs=[]∧av=.lit (.int .i64 lv)))∧∃ f,XI Tryz.prog T "loop.example/s0059/impl.height"=some f∧VFun Tryz.prog f [.lit u] (fun av obs=>obs=[]∧av=.lit (.int .i64 hi))
theorem Gg (e:PT):∃ T u,Wg e=.iface T u:=by cases e<;>exact ⟨_,_,rfl⟩
def Za4 (v:Value):Prop:=v=.nilIface∨∃ t u,v=.iface t u
theorem ZbX (a c d:Int) (b:ByteArray):VFun Tryz.prog 242 [.lit (.agg #[.int .i64 a,.string b,.int .i64 c,.int .i64 d])] (fun av obs=>obs=[]∧av=.lit (.int .i64 1001)):=by
 refine Zd Tryz.func242 (by kernel_rfl) rfl (by simp [Tryz.ntmps242]) ?_;simp only [Tryz.ntmps242,Tryz.results242];simp [go_sem]
theorem Zbn (a c d:Int) (b:ByteArray):VFun Tryz.prog 241 [.lit (.agg #[.int .i64 a,.string b,.int .i64 c,.int .i64 d])] (fun av obs=>obs=[]∧av=.lit (.int .i64 1)):=by
 refine Zd Tryz.func241 (by kernel_rfl) rfl (by simp [Tryz.ntmps241]) ?_;simp only [Tryz.ntmps241,Tryz.results241];simp [go_sem]
theorem Zbu (a:Value) (ha:Za4 a) (c:Int):VFun Tryz.prog 245 [.lit (.agg #[a,.int .i64 c])] (fun av obs=>obs=[]∧av=.lit (.int .i64 1001)):=by
 refine Zd Tryz.func245 (by kernel_rfl) rfl (by simp [Tryz.ntmps245]) ?_;simp only [Tryz.ntmps245,Tryz.results245];simp [go_sem]
 rcases ha with rfl|⟨_,_,rfl⟩<;>rfl
theorem GQ (a:Value) (ha:Za4 a) (c:Int):VFun Tryz.prog 244 [.lit (.agg #[a,.int .i64 c])] (fun av obs=>obs=[]∧av=.lit (.int .i64 c)):=by
 refine Zd Tryz.func244 (by kernel_rfl) rfl (by simp [Tryz.ntmps244]) ?_;simp only [Tryz.ntmps244,Tryz.results244];simp [go_sem]
 rcases ha with rfl|⟨_,_,rfl⟩<;>rfl
theorem Vy (o:POp) (a b:Value) (ha:Za4 a) (hb:Za4 b) (c:Int):VFun Tryz.prog 239 [.lit (.agg #[.string o.text,.int .i64 o.kind,.int .i64 o.level,.int .i64 o.side,a,b,.int .i64 c])] (fun av obs=>obs=[]∧av=.lit (.int .i64 o.level)):=by
 refine Zd Tryz.func239 (by kernel_rfl) rfl (by simp [Tryz.ntmps239]) ?_;simp only [Tryz.ntmps239,Tryz.results239];simp [go_sem]
 constructor
 ·rcases ha with rfl|⟨_,_,rfl⟩<;>rfl
 ·rcases hb with rfl|⟨_,_,rfl⟩<;>rfl
theorem Ve (o:POp) (a b:Value) (ha:Za4 a) (hb:Za4 b) (c:Int):VFun Tryz.prog 238 [.lit (.agg #[.string o.text,.int .i64 o.kind,.int .i64 o.level,.int .i64 o.side,a,b,.int .i64 c])] (fun av obs=>obs=[]∧av=.lit (.int .i64 c)):=by
 refine Zd Tryz.func238 (by kernel_rfl) rfl (by simp [Tryz.ntmps238]) ?_;simp only [Tryz.ntmps238,Tryz.results238];simp [go_sem]
 constructor
 ·rcases ha with rfl|⟨_,_,rfl⟩<;>rfl
 ·rcases hb with rfl|⟨_,_,rfl⟩<;>rfl
theorem Ziu:XI Tryz.prog 237 "loop.example/s0059/impl.level"=some 242:=by kernel_rfl
theorem Ziv:XI Tryz.prog 237 "loop.example/s0059/impl.height"=some 241:=by kernel_rfl
theorem Zgz:XI Tryz.prog 239 "loop.example/s0059/impl.level"=some 245:=by kernel_rfl
theorem ZgA:XI Tryz.prog 239 "loop.example/s0059/impl.height"=some 244:=by kernel_rfl
theorem Qr:XI Tryz.prog 197 "loop.example/s0059/impl.level"=some 239:=by kernel_rfl
theorem Qs:XI Tryz.prog 197 "loop.example/s0059/impl.height"=some 238:=by kernel_rfl
theorem Uo (e:PT):ZmY (Wg e) (ZlL e) (Z6 e):=by
 have hi:∀ e:PT,Za4 (Wg e):=fun e=>.inr (Gg e)
 cases e with
 |leaf b=>exact ⟨_,_,rfl,⟨_,Ziu,ZbX _ _ _ _⟩,_,Ziv,Zbn _ _ _ _⟩
 |grp e=>exact ⟨_,_,rfl,⟨_,Zgz,Zbu _ (hi e) _⟩,_,ZgA,GQ _ (hi e) _⟩
 |pre o e=>exact ⟨_,_,rfl,⟨_,Qr,Vy o _ _ (.inl rfl) (hi e) _⟩,_,Qs,Ve o _ _ (.inl rfl) (hi e) _⟩
 |post o e=>exact ⟨_,_,rfl,⟨_,Qr,Vy o _ _ (hi e) (.inl rfl) _⟩,_,Qs,Ve o _ _ (hi e) (.inl rfl) _⟩
 |inf o x y=>exact ⟨_,_,rfl,⟨_,Qr,Vy o _ _ (hi x) (hi y) _⟩,_,Qs,Ve o _ _ (hi x) (hi y) _⟩
def pOb (b1 b2 b3 b4:Nat) (t:List PTok) (i:Nat):Option Ob:=some ⟨194,6,1,fun _=>[.lit (.map (some b1)),.lit (.map (some b2)),.sl 3 t.length (Zk t),.lit (.int .i64 i),.lit (.map (some b3)),.lit (.map (some b4))]⟩
theorem Zki {idx:Nat→Nat} {ks:List Nat} {b1 b2 b3 b4 n ty:Nat} {t:List PTok} {i:Int}:WN idx ks ⟨ty,6,1,fun _=>[.lit (.map (some b1)),.lit (.map (some b2)),.sl 3 n (Zk t),.lit (.int .i64 i),.lit (.map (some b3)),.lit (.map (some b4))]⟩ (some (some ⟨ty,6,1,fun _=>[.lit (.map (some b1)),.lit (.map (some b2)),.sl 3 n (Zk t),.lit (.int .i64 i),.lit (.map (some b3)),.lit (.map (some b4))]⟩)):=
 ⟨rfl,rfl,rfl,fun i hi=>⟨rfl,fun c hc=>by
  simp at hc
  rcases hc with rfl|rfl|rfl|rfl|rfl|rfl
  ·exact .inl rfl
  ·exact .inl rfl
  ·exact .inr ⟨⟨_,_,_,rfl⟩,.sl _ _ _ fun i c _ h=>Zm t i c h⟩
  ·exact .inl rfl
  ·exact .inl rfl
  ·exact .inl rfl,fun c hc q hq=>by
  simp at hc
  rcases hc with rfl|rfl|rfl|rfl|rfl|rfl<;>simp [WI] at hq⟩⟩
theorem UP (b1 b2 b3 b4:Nat) (t:List PTok) (ht:t.length≤1048576) (i:Nat) (hi:i<t.length):VProc Tryz.prog 181 [.ptr 0 6 0 0] [pOb b1 b2 b3 b4 t i] [] (fun av mem maps=>av=.agg (Zf t i).cells∧mem=[pOb b1 b2 b3 b4 t (i+1)]∧maps=[]):=by
 have ew:IntKind.i64.wrap ((i:Int)+1)=((i+1:Nat):Int):=Zj (by omega)
 simp only [pOb,PTok.cells]
 refine Zu Tryz.func181 (by kernel_rfl) rfl (by simp [Tryz.ntmps181]) ?_;simp only [Tryz.ntmps181,Tryz.results181];simp [go_sem]
 refine Zn [11] (.q 0 <| .q 1 <| .q 2 <| .q 3 <| .q 4 <| .q 5 <| .q 6 <| .q 7 <| .q 8 <| .q 9 <| .or 10 (.or 11 (.done) (.nil)) (.nil)) (by kernel_rfl) ?_
 simp [go_sem,Zg,hi,ew]
 refine ⟨rfl,[],[pOb b1 b2 b3 b4 t (i+1)],by simp,by simp,by simp [go_sem],?_,by simp [go_sem],?_⟩
 ·simp [go_sem,pOb]
  exact Zki
 ·simp [go_sem,pOb]
theorem ZfI (l:List POp) (b1 b2 b3 b4:Nat) (t:List PTok) (i:Nat) (hu:W6 l) (es:List (Value×Value)) (h:GU l l.length es) (j:Nat) (hj:j<l.length) (hk:(Zl l j).kind≠1) (hz:(Zl l j).text.size≤maxLen) :
  VProc Tryz.prog 161 [.ptr 0 6 0 0,.lit (.string (Zl l j).text)] [pOb b1 b2 b3 b4 t i] [(b1,⟨109,es⟩)] (fun av mem maps=>av=.agg (Zl l j).cells∧mem=[pOb b1 b2 b3 b4 t i]∧maps=[(b1,⟨109,es⟩)]):=by
 have hget:mget es (.agg #[.string (Zl l j).text,.bool false])=some (opV (Zl l j)):=by
  rcases ZfL h (Zl l j).text false with ⟨_,h2⟩|⟨j',hj',h1,h2,h3⟩
  ·exact absurd ⟨rfl,by simpa using hk⟩ (h2 j hj)
  ·rw [h1,hu j' j hj' hj h2 (by rw [h3];simpa using hk)]
 simp only [pOb,POp.cells]
 refine Zu Tryz.func161 (by kernel_rfl) rfl (by simp [Tryz.ntmps161]) ?_;simp only [Tryz.ntmps161,Tryz.results161];simp [go_sem]
 refine Yj Uv (Q4 hz) _ Zhd ?_
 rw [hget]
 simp [go_sem,opV]
 refine ⟨rfl,[],[pOb b1 b2 b3 b4 t i],by simp,by simp,by simp [go_sem],?_,by simp [go_sem],?_⟩
 ·simp [go_sem,pOb]
  exact Zki
 ·simp [go_sem,pOb]
end Go.Proofs.YtadghlfkddkelaaGreatDoor.V
namespace Go.Proofs.YtadghlfkddkelaaGreatDoor.V
open Go.RowKit
open Go.Maps (Keyed)
open Go.Proofs.YtadghlfkddkelaaGreatDoor.Ops (Tr Tk Lv Res)
abbrev TkP:=Tk POp (Int×ByteArray)
def lvO (o:POp):Lv:=⟨o.level,WA o⟩
theorem Ko (e:PT):ZlL e=e.level lvO:=by cases e<;>rfl
theorem G6 {o:POp} (h:Xx o=true) (hk:o.kind≠1):Q6 o false=(lvO o).h1:=by
 unfold Q6 Lv.h1 lvO WA
 rw [h]
 simp only [Bool.true_eq_false,Bool.false_eq_true,false_and,or_self,if_false,if_neg hk]
 have h3:o.kind=2∨o.kind=3:=by simp [Xx] at h;omega
 rcases h3 with h3|h3
 ·have hs:1≤o.side∧o.side≤3:=by simp [Xx] at h;omega
  rw [h3]
  by_cases h1:o.side=1
  ·simp [h1]
  ·simp [h1]
 ·rw [h3];simp
theorem Ze4 {o:POp} (h:Xx o=true) (hk:o.kind=1):Q6 o false=(lvO o).h2:=by
 unfold Q6 Lv.h2 lvO WA
 rw [h,hk]
 simp
theorem J0 {o:POp} (h:Xx o=true) (hk:o.kind=2):Q6 o true=(lvO o).h2:=by
 unfold Q6 Lv.h2 lvO WA
 rw [h,hk]
 have hs:1≤o.side∧o.side≤3:=by simp [Xx] at h;omega
 rcases (by omega:o.side=1∨o.side=2∨o.side=3) with h1|h1|h1<;>simp [h1]
def UT (l:List POp) (k:PTok):TkP→Prop
 | .leaf b=>(k.kind=1∨k.kind=2)∧b=(k.kind,k.text)
 | .opn=>k.kind=4
 | .cls=>k.kind=5
 | .pre o=>k.kind=3∧o.text=k.text∧o.kind=1∧∃ j,j<l.length∧Zl l j=o
 | .inf o=>k.kind=3∧o.text=k.text∧o.kind=2∧∃ j,j<l.length∧Zl l j=o
 | .post o=>k.kind=3∧o.text=k.text∧o.kind=3∧∃ j,j<l.length∧Zl l j=o
def Yv (l:List POp) (t:List PTok):Nat→List TkP→Prop
 |i,[]=>i+1=t.length∧(Zf t i).kind=7
 |i,tk::r=>UT l (Zf t i) tk∧Yv l t (i+1) r
theorem XX {l:List POp} {t:List PTok}:∀ {ts:List TkP} {i:Nat},Yv l t i ts→i+ts.length+1=t.length
 |[],i,h=>by simpa using h.1
 |tk::r,i,h=>by
  have:=XX h.2
  simp only [List.length_cons];omega
theorem JA {l:List POp} {t:List PTok}:∀ {u ts:List TkP} {i:Nat},Yv l t i (u++ts)→Yv l t (i+u.length) ts
 |[],ts,i,h=>by simpa using h
 |tk::u,ts,i,h=>by
  have:=JA (u:=u) h.2
  simp only [List.length_cons]
  rw [show i+(u.length+1)=i+1+u.length by omega];exact this
theorem W8 {l:List POp} {t:List PTok} {u ts:List TkP} {i:Nat} (h:Yv l t i (u++ts)):Yv l t (t.length-1-ts.length) ts:=by
 have h1:=JA h
 have h2:=XX h
 simp only [List.length_append] at h2
 rw [show t.length-1-ts.length=i+u.length by omega];exact h1
open Go.Proofs.YtadghlfkddkelaaGreatDoor.Ops (Fit) in
theorem W3:∀ (e:PT) (d:Nat) (rest:List TkP),Fit true d (e.yield++rest)→Fit false d rest
 | .leaf b,d,rest,h=>by simpa [Tr.yield,Fit] using h
 | .grp e,d,rest,h=>by
  simp only [Tr.yield,List.cons_append,List.append_assoc,List.nil_append,Fit] at h
  have:=W3 e (d+1) _ h
  simpa [Fit] using this
 | .pre o e,d,rest,h=>by
  simp only [Tr.yield,List.cons_append,Fit] at h
  exact W3 e d rest h
 | .post o e,d,rest,h=>by
  simp only [Tr.yield,List.append_assoc,List.cons_append,List.nil_append] at h
  have:=W3 e d _ h
  simpa [Fit] using this
 | .inf o x y,d,rest,h=>by
  simp only [Tr.yield,List.append_assoc,List.cons_append,List.nil_append] at h
  have:=W3 x d _ h
  simp only [Fit] at this
  exact W3 y d rest this
def vsP (bp:Nat) (bo:Nat→Nat):Nat→Value
 |0=>.pointer (some ⟨bp,0,none⟩)
 |j+1=>.pointer (some ⟨bo j,0,none⟩)
def asP (lo:List POp):Nat→AV
 |0=>.bptr [.ptr 0 6 0 0]
 |j+1=>.bptr (Zl lo j).cells
theorem rnP (lo:List POp) (i:Nat):Rn (fun j=>[0].getD j 0) 1 (asP lo i) (asP lo i):=by
 cases i with
 |zero=>
  refine .bptr _ _ rfl fun j a b h1 h2=>?_
  match j with
  |0=>
   simp only [List.getElem?_cons_zero,Option.some.injEq] at h1 h2
   subst h1;subst h2
   exact .ptr 0 6 0 0 (by omega)
  |j+1=>simp at h1
 |succ j=>exact .closed _ (.bptr _ fun c hc=>by
   simp [POp.cells] at hc
   rcases hc with rfl|rfl|rfl|rfl<;>exact .lit _)
structure PMaps (l lo:List POp) (bp:Nat) (bo:Nat→Nat) (esA esN esL:List (Value×Value)):Prop where
 uniq:W6 l
 ok:∀ j,j<l.length→Xx (Zl l j)=true
 wf:XD l
 at_:GU l l.length esA
 nud:∀ j,j<l.length→(Zl l j).kind=1→∃ q,q<lo.length∧Zl lo q=Zl l j∧mget esN (.string (Zl l j).text)=some (.func (.func 139) #[] #[vsP bp bo 0,vsP bp bo (q+1)])
 led2:∀ j,j<l.length→(Zl l j).kind=2→mget esL (.string (Zl l j).text)=some (.func (.func 142) #[] #[vsP bp bo 0])
 led3:∀ j,j<l.length→(Zl l j).kind=3→mget esL (.string (Zl l j).text)=some (.func (.func 143) #[] #[])
def Y2 (b1 b3 b4:Nat) (esA esN esL:List (Value×Value)):List (Nat×Mp):=[(b1,⟨109,esA⟩),(b3,⟨9,esN⟩),(b4,⟨9,esL⟩)]
def G2:Value:=.iface 201 (.agg #[])
theorem VProcG.maps {P:Program} {f:FuncId} {args:List AV} {N:Nat} {vs0:Nat→Value} {as0:Nat→AV} {mem0:List (Option Ob)} {maps0:List (Nat×Mp)} {R:AV→List (Option Ob)→Prop} (h:VProcG P f args N vs0 as0 mem0 maps0 (fun av mem maps=>R av mem∧Yc maps maps0)):VProcG P f args N vs0 as0 mem0 maps0 (fun av mem maps=>R av mem∧maps=maps0):=
 ⟨h.1,fun w vs hd0 hl hv hg hm hmp ht=>(h.2 w vs hd0 hl hv hg hm hmp ht).mono fun e w' ⟨v,e1,g,hd,av,mem,maps,⟨r,hle⟩,po,hf,hmr,hmap,hrep⟩=>⟨v,e1,g,hd,av,mem,maps0,⟨r,rfl⟩,⟨po.len,po.flat,po.cells,fun b hb=>hb⟩,hf,hmr,fun b mp hb=>hmap b mp (Z7 hle (b,mp) (Xt hb)),hrep⟩⟩
end Go.Proofs.YtadghlfkddkelaaGreatDoor.V
namespace Go.Proofs.YtadghlfkddkelaaGreatDoor.V
open Go.RowKit
open Go.Maps (Keyed)
open Go.Proofs.YtadghlfkddkelaaGreatDoor.Ops (Tr Tk Lv Res)
structure PEnv where
 l:List POp
 lo:List POp
 t:List PTok
 bp:Nat
 bo:Nat→Nat
 b1:Nat
 b2:Nat
 b3:Nat
 b4:Nat
 esA:List (Value×Value)
 esN:List (Value×Value)
 esL:List (Value×Value)
 maps:PMaps l lo bp bo esA esN esL
 len:t.length≤1048576
 txt:∀ i,i<t.length→(Zf t i).text.size≤maxLen
 n13:b1≠b3
 n14:b1≠b4
 n34:b3≠b4
namespace PEnv
variable (E:PEnv)
def ob (i:Nat):Option Ob:=pOb E.b1 E.b2 E.b3 E.b4 E.t i
def mps:List (Nat×Mp):=Y2 E.b1 E.b3 E.b4 E.esA E.esN E.esL
def at_ (rest:List TkP):Nat:=E.t.length-1-rest.length
def Rt (u:Value) (j:Nat) (av:AV) (mem:List (Option Ob)) (maps:List (Nat×Mp)):Prop:=(av=.lit u∧mem=[E.ob j])∧Yc maps E.mps
def Ans (f:FuncId) (args:List AV) (i:Nat):Option (PT×List TkP)→Prop
 |some (e,rest)=>VProcG Tryz.prog f args (E.lo.length+1) (vsP E.bp E.bo) (asP E.lo) [E.ob i] E.mps (fun av mem maps=>(av=.lit (Wg e)∧mem=[E.ob (E.at_ rest)])∧maps=E.mps)
 |none=>ZcN Tryz.prog f G2 args (E.lo.length+1) (vsP E.bp E.bo) (asP E.lo) [E.ob i] E.mps
theorem Ans.mk {E:PEnv} {f:FuncId} {args:List AV} {i:Nat} {e:PT} {rest:List TkP} (h:VProcG Tryz.prog f args (E.lo.length+1) (vsP E.bp E.bo) (asP E.lo) [E.ob i] E.mps (E.Rt (Wg e) (E.at_ rest))):E.Ans f args i (some (e,rest)):=VProcG.maps h
theorem mpsLe (M:List (Nat×Mp)):Yc (E.mps++M) E.mps:=by
 have h1:=E.n13
 have h2:=E.n14
 have h3:=E.n34
 simp [mps,Y2,Yc,lkm,h1,h2,h3,Ne.symm h1,Ne.symm h2,Ne.symm h3]
theorem fin_ {u v:Value} {i j:Nat} (M:List (Nat×Mp)) {r:List (Option Ob)} {tm:List (Nat×AV)} (hv:v=u) (hij:i=j):VJ E.mps (E.Rt u j) ⟨tm,E.ob i::r,E.mps++M,1⟩ (.lit v):=by
 subst hv;subst hij
 refine ⟨rfl,[],[E.ob i],by simp,by simp,by simp [go_sem],?_,fun b hb=>?_,⟨⟨rfl,rfl⟩,E.mpsLe M⟩⟩
 ·simp only [ob,pOb]
  simp [go_sem]
  exact Zki
 ·cases hq:lkm E.mps b with
  |none=>rw [hq] at hb;simp at hb
  |some mp=>rw [Z7 (E.mpsLe M) (b,mp) (Xt hq)];rfl
end PEnv
theorem ZhW (E:PEnv) (e:PT) (o:POp) (rest:List TkP) (hl:Z6 e<2^62):E.Ans 143 [.lit (Wg e),.agg o.cells] (E.at_ rest) (some (.post o e,rest)):=by
 refine .mk ?_
 obtain ⟨T,u,hT,_,fh,hh,ch⟩:=Uo e
 have ew:IntKind.i64.wrap (1+Z6 e)=1+Z6 e:=wrap_i64 (by have:=Wy e;omega)
 simp only [PEnv.ob,pOb,PEnv.mps,Y2,POp.cells]
 refine XA Tryz.func143 (by kernel_rfl) rfl (by simp [Tryz.ntmps143]) ?_;simp only [Tryz.ntmps143,Tryz.results143];simp [go_sem]
 refine Zn [] (.q 0 <| .q 1 <| .q 2 <| .or 3 (.q 4 <| .q 5 <| .q 6 <| .q 7 <| .done) (.nil)) (by kernel_rfl) ?_
 simp [go_sem]
 rw [hT]
 simp [go_sem,hh]
 refine Zv ch ?_ ?_
 ·simp [go_sem]
 ·simp [go_sem,ew]
  exact E.fin_ [] (by simp only [Wg,hT]) rfl
theorem ZmV (E:PEnv) (k:PTok) (q:Nat) (hq:q<E.lo.length) (hw:(Zl E.lo q).wf) (i:Nat) (e:PT) (rest:List TkP) (hl:Z6 e<2^62) (ho:E.Ans 140 [.ptr 0 6 0 0,.lit (.int .i64 (Q6 (Zl E.lo q) false))] i (some (e,rest))):E.Ans 139 [.agg k.cells,.lit (vsP E.bp E.bo 0),.lit (vsP E.bp E.bo (q+1))] i (some (.pre (Zl E.lo q) e,rest)):=by
 refine .mk ?_
 obtain ⟨T,u,hT,_,fh,hh,ch⟩:=Uo e
 have ew:IntKind.i64.wrap (1+Z6 e)=1+Z6 e:=wrap_i64 (by have:=Wy e;omega)
 have cH:=HY _ hw false
 simp only [PEnv.ob,pOb,PEnv.mps,Y2,PTok.cells,vsP,POp.cells] at cH ⊢
 refine XA Tryz.func139 (by kernel_rfl) rfl (by simp [Tryz.ntmps139]) ?_;simp only [Tryz.ntmps139,Tryz.results139];simp [go_sem]
 refine Zn [3] (.q 0 <| .q 1 <| .or 2 (.or 3 (.q 4 <| .done) (.nil)) (.nil)) (by kernel_rfl) ?_
 simp [go_sem]
 refine Vk 17 0 rfl (by omega) rfl rfl ?_
 simp [go_sem]
 refine Vk 17 (q+1) rfl (by omega) rfl rfl ?_
 simp [go_sem,POp.cells]
 refine Zv cH ?_ ?_
 ·simp [go_sem]
 ·simp [go_sem]
  refine Yr [0] 17 ho (by simp) rfl (fun i _=>rnP E.lo i) ?_ ?_ ?_ ?_
  ·simp [go_sem]
  ·simp [go_sem,PEnv.ob,pOb]
   exact fun i c _ h=>Zm E.t i c h
  ·exact E.mpsLe []
  ·rintro av mem maps ⟨⟨rfl,rfl⟩,rfl⟩
   simp only [PEnv.ob,pOb,PEnv.mps,Y2]
   simp [go_sem]
   refine Zn [] (.q 0 <| .q 1 <| .q 2 <| .or 3 (.q 4 <| .q 5 <| .q 6 <| .q 7 <| .done) (.nil)) (by kernel_rfl) ?_
   simp [go_sem]
   refine Vk 17 (q+1) rfl (by omega) rfl rfl ?_
   simp [go_sem,POp.cells]
   rw [hT]
   simp [go_sem,hh]
   refine Zv ch ?_ ?_
   ·simp [go_sem]
   ·simp [go_sem,ew]
    exact E.fin_ E.mps (by simp only [Wg,hT]) rfl
theorem ZfP (E:PEnv) (k:PTok) (q:Nat) (hq:q<E.lo.length) (hw:(Zl E.lo q).wf) (i:Nat) (ho:E.Ans 140 [.ptr 0 6 0 0,.lit (.int .i64 (Q6 (Zl E.lo q) false))] i none):E.Ans 139 [.agg k.cells,.lit (vsP E.bp E.bo 0),.lit (vsP E.bp E.bo (q+1))] i none:=by
 have cH:=HY _ hw false
 simp only [PEnv.Ans,PEnv.ob,pOb,PEnv.mps,Y2,PTok.cells,vsP,POp.cells] at cH ho ⊢
 refine XW Tryz.func139 (by kernel_rfl) rfl (by simp [Tryz.ntmps139]) ?_;simp only [Tryz.ntmps139,VV,X1,List.length_cons,List.length_nil,List.length_singleton]
 refine Yx ?_
 simp [go_sem]
 refine Qj (Jy [3] (.q 0 <| .q 1 <| .or 2 (.or 3 (.q 4 <| .done) (.nil)) (.nil)) (by kernel_rfl) ?_)
 simp [go_sem]
 refine Vk 17 0 rfl (by omega) rfl rfl ?_
 simp [go_sem]
 refine Vk 17 (q+1) rfl (by omega) rfl rfl ?_
 simp [go_sem,POp.cells]
 refine Zv cH ?_ ?_
 ·simp [go_sem]
 ·simp [go_sem]
  refine WY [0] 17 ho (by simp) rfl (fun i _=>rnP E.lo i) ?_ ?_ (E.mpsLe []) (E.mpsLe [])
  ·simp [go_sem]
  ·simp [go_sem,PEnv.ob,pOb]
   exact fun i c _ h=>Zm E.t i c h
theorem Zld (E:PEnv) (o:POp) (hw:o.wf) (i:Nat) (x e:PT) (rest:List TkP) (hlx:Z6 x<2^61) (hl:Z6 e<2^61) (ho:E.Ans 140 [.ptr 0 6 0 0,.lit (.int .i64 (Q6 o true))] i (some (e,rest))):E.Ans 142 [.lit (Wg x),.agg o.cells,.lit (vsP E.bp E.bo 0)] i (some (.inf o x e,rest)):=by
 refine .mk ?_
 obtain ⟨T,u,hT,_,fh,hh,ch⟩:=Uo e
 obtain ⟨T',u',hT',_,fh',hh',ch'⟩:=Uo x
 have ew:IntKind.i64.wrap (1+max (Z6 x) (Z6 e))=1+max (Z6 x) (Z6 e):=wrap_i64 (by have:=Wy e;have:=Wy x;omega)
 have cH:=HY _ hw true
 simp only [PEnv.ob,pOb,PEnv.mps,Y2,vsP,POp.cells] at cH ⊢
 refine XA Tryz.func142 (by kernel_rfl) rfl (by simp [Tryz.ntmps142]) ?_;simp only [Tryz.ntmps142,Tryz.results142];simp [go_sem]
 refine Zn [3] (.q 0 <| .q 1 <| .or 2 (.or 3 (.q 4 <| .done) (.nil)) (.nil)) (by kernel_rfl) ?_
 simp [go_sem]
 refine Vk 22 0 rfl (by omega) rfl rfl ?_
 simp [go_sem]
 refine Zv cH ?_ ?_
 ·simp [go_sem]
 ·simp [go_sem]
  refine Yr [0] 22 ho (by simp) rfl (fun i _=>rnP E.lo i) ?_ ?_ ?_ ?_
  ·simp [go_sem]
  ·simp [go_sem,PEnv.ob,pOb]
   exact fun i c _ h=>Zm E.t i c h
  ·exact E.mpsLe []
  ·rintro av mem maps ⟨⟨rfl,rfl⟩,rfl⟩
   simp only [PEnv.ob,pOb,PEnv.mps,Y2]
   simp [go_sem]
   refine Zn [] (.q 0 <| .q 1 <| .q 2 <| .q 3 <| .q 5 <| .or 4 (.or 6 (.q 7 <| .q 8 <| .q 9 <| .q 10 <| .q 11 <| .done) (.nil)) (.nil)) (by kernel_rfl) ?_
   simp [go_sem]
   rw [hT,hT']
   simp [go_sem,hh,hh']
   refine Zv ch' ?_ ?_
   ·simp [go_sem]
   ·simp [go_sem,hh]
    refine Zv ch ?_ ?_
    ·simp [go_sem]
    ·simp [go_sem,ew]
     have em:(if Z6 x<Z6 e then Z6 e else Z6 x)=max (Z6 x) (Z6 e):=by split<;>omega
     exact E.fin_ E.mps (by simp only [Wg,hT,hT',em,ew]) rfl
theorem ZfQ (E:PEnv) (o:POp) (hw:o.wf) (i:Nat) (x:PT) (ho:E.Ans 140 [.ptr 0 6 0 0,.lit (.int .i64 (Q6 o true))] i none):E.Ans 142 [.lit (Wg x),.agg o.cells,.lit (vsP E.bp E.bo 0)] i none:=by
 have cH:=HY _ hw true
 simp only [PEnv.Ans,PEnv.ob,pOb,PEnv.mps,Y2,vsP,POp.cells] at cH ho ⊢
 refine XW Tryz.func142 (by kernel_rfl) rfl (by simp [Tryz.ntmps142]) ?_;simp only [Tryz.ntmps142,VV,X1,List.length_cons,List.length_nil,List.length_singleton]
 refine Yx ?_
 simp [go_sem]
 refine Qj (Jy [3] (.q 0 <| .q 1 <| .or 2 (.or 3 (.q 4 <| .done) (.nil)) (.nil)) (by kernel_rfl) ?_)
 simp [go_sem]
 refine Vk 22 0 rfl (by omega) rfl rfl ?_
 simp [go_sem]
 refine Zv cH ?_ ?_
 ·simp [go_sem]
 ·simp [go_sem]
  refine WY [0] 22 ho (by simp) rfl (fun i _=>rnP E.lo i) ?_ ?_ (E.mpsLe []) (E.mpsLe [])
  ·simp [go_sem]
  ·simp [go_sem,PEnv.ob,pOb]
   exact fun i c _ h=>Zm E.t i c h
end Go.Proofs.YtadghlfkddkelaaGreatDoor.V
namespace Go.Proofs.YtadghlfkddkelaaGreatDoor.V
open Go.RowKit
open Go.Maps (Keyed)
open Go.ChangeMaps (setBlock)
def asN (lo:List POp):Nat→AV
 |0=>.ptr 1 1 0 0
 |j+1=>.bptr (Zl lo j).cells
structure NP where
 lo:List POp
 bo:Nat→Nat
 esN:List (Value×Value)
 esL:List (Value×Value)
 seen:Array Nat
def npS (b1 b2 b3 b4 bp bi:Nat) (t:List PTok) (x:NP):VS:=⟨[(50,.fam (x.lo.length+1) (vsP bp x.bo) (asN x.lo)),(5,.ptr 1 1 0 0),(16,.lit (.pointer (some ⟨bi,0,none⟩)))],[pOb b1 b2 b3 b4 t 0,some ⟨160,1,1,fun _=>[.ptr 0 6 0 0]⟩],[(b3,⟨9,x.esN⟩),(b4,⟨9,x.esL⟩)],0⟩
structure NPDone (bp:Nat) (x:NP) (o:POp):Prop where
 k1:o.kind=1→∃ q,q<x.lo.length∧Zl x.lo q=o∧mget x.esN (.string o.text)=some (.func (.func 139) #[] #[vsP bp x.bo 0,vsP bp x.bo (q+1)])
 k2:o.kind=2→mget x.esL (.string o.text)=some (.func (.func 142) #[] #[vsP bp x.bo 0])
 k3:o.kind=3→mget x.esL (.string o.text)=some (.func (.func 143) #[] #[])
def ZhZ (l:List POp) (es:Array MapEntry) (bp:Nat) (x:NP):Prop:=∀ e,e∈es.toList→x.seen.contains e.born=true→∃ j,j<l.length∧e.val=opV (Zl l j)∧NPDone bp x (Zl l j)
def npR (b1 b2 b3 b4:Nat) (t:List PTok) (esA:List (Value×Value)) (tm:List (Nat×AV)):VS:=⟨tm++[(5,.ptr 1 1 0 0),(2,.ptr 2 2 0 0)],[pOb b1 b2 b3 b4 t 0,some ⟨160,1,1,fun _=>[.ptr 0 6 0 0]⟩,some ⟨164,2,1,fun _=>[.lit (.map (some b1)),.lit (.map (some b2))]⟩],[(b1,⟨109,esA⟩),(b3,⟨9,[]⟩),(b4,⟨9,[]⟩)],0⟩
theorem H3 {P:Program} {n:Nat} {base:Fr} {w0 w:World} {hd:Nat→Value} {s:VS} {a:Act} {all:Array Oper} {o:Oper} {rest:List Oper} {Q:Exit→Act→World→Prop} {k:VS→Prop} (h:RelH n base w0 hd s a w) (hP:base.P=P) (hg:o.guard=none) (hv:ZR P n o s k) (hK:∀ hd' s' a' w',RelH n base w0 hd' s' a' w'→k s'→wpList P all Q rest a' w'):wpList P all Q (o::rest) a w:=by
 unfold wpList
 rw [if_pos (by simp [Region.wanted,hg])]
 exact .inl (VH h hP hv hK)
theorem WQ {P:Program} {a:Act} {w w':World} {all:Array Oper} {o:Oper} {rest:List Oper} {Q:Exit→Act→World→Prop} {v:Value} (hg:o.guard=none) (hr:(execOp a.eval o).run P w=.ok (.value v) w') (hK:wpList P all Q rest (a.put o.dst v) w'):wpList P all Q (o::rest) a w:=by
 unfold wpList
 rw [if_pos (by simp [Region.wanted,hg])]
 refine .inl ?_
 unfold Oper.wp
 rw [hr]
 exact hK
def ZmJ (l:List POp) (t:List PTok) (b1 b2:Nat) (esA:List (Value×Value)) (av:AV) (mem:List (Option Ob)) (maps:List (Nat×Mp)) (N:Nat) (vs:Nat→Value) (as':Nat→AV):Prop:=
 ∃ lo bp bo b3 b4 esN esL,(b1≠b3∧b1≠b4∧b3≠b4)∧av=.ptr 0 6 0 0∧mem=[pOb b1 b2 b3 b4 t 0,none]∧maps=Y2 b1 b3 b4 esA esN esL∧N=lo.length+1∧vs=vsP bp bo∧as'=asP lo∧PMaps l lo bp bo esA esN esL
theorem ZmH {l:List POp} {t:List PTok} {b1 b2 b3 b4 bp bi:Nat} {esA:List (Value×Value)} {x:NP} {w0 w:World} {hd0 hd:Nat→Value} {a:Act} {es:Array MapEntry} {clock:Nat} (hb:b1≠b3∧b1≠b4∧b3≠b4)
  (h:RelH 50 ⟨Tryz.prog,Sh w0 hd0 [] [(b1,⟨109,esA⟩)],hd0,[]⟩ w0 hd { npS b1 b2 b3 b4 bp bi t x with tmps:=(4,.ptr 0 6 0 0)::(npS b1 b2 b3 b4 bp bi t x).tmps } a w) (hes:w.heap[b1]?=some (.map es clock)) (hmi:MapIs Tryz.prog ⟨109,esA⟩ es clock) (hP:PMaps l x.lo bp x.bo esA x.esN x.esL) :
  ∃ v,(results Tryz.f106 a.tmps).run Tryz.prog w=.ok v w∧Bel (Sh w0 hd0 [] [(b1,⟨109,esA⟩)]) w0 w∧∃ hd av mem maps N vs1 as1,(ZmJ l t b1 b2 esA av mem maps N vs1 as1∧∀ i,i<N→Zh2 (as1 i)∧Rep w (Zw mem hd) hd mem.length (as1 i) (vs1 i))∧PostOk [] [(b1,⟨109,esA⟩)] av mem maps∧
   ((∀ k,k<([]:List (Option Ob)).length→hd k=hd0 k)∧TailEq hd0 hd)∧MemRel (Sh w0 hd0 [] [(b1,⟨109,esA⟩)]) w hd mem∧MapRel Tryz.prog (Sh w0 hd0 [] [(b1,⟨109,esA⟩)]) w maps∧Rep w (Zw mem hd) hd mem.length av v:=by
 have hf:=h.free 1
 have hm:=(h.again_map hes hmi (.inr (.inr (by simp [lkm])))).mp
 have h4:=hf.tm 4
 have t0:=h.told (t:=50) (i:=0) rfl (by omega)
 have f0:=h.freed (k:=1) (ob:=⟨160,1,1,fun _=>[.ptr 0 6 0 0]⟩) rfl (by simp) t0
 refine ⟨a.tmps.getD 4 undef,?_,h.below,hd,.ptr 0 6 0 0,[pOb b1 b2 b3 b4 t 0,none],Y2 b1 b3 b4 esA x.esN x.esL,x.lo.length+1,vsP bp x.bo,asP x.lo,⟨⟨x.lo,bp,x.bo,b3,b4,x.esN,x.esL,hb,rfl,rfl,rfl,rfl,rfl,rfl,hP⟩,fun i hi=>?_⟩,⟨by simp,.inl rfl,fun k ob hk i hi c hc=>?_,fun b hb'=>?_⟩,⟨fun k hk=>by simp at hk,h.fix.2.1⟩,hf.me,hm,h4⟩
 ·simp [results,Tryz.results106,go_sem]
 ·cases i with
  |zero=>exact ⟨⟨_,rfl,rfl⟩,f0⟩
  |succ j=>
   refine ⟨⟨_,rfl,rfl⟩,?_⟩
   have tj:=hf.told (t:=50) (i:=j+1) rfl (by omega)
   exact tj
 ·match k,hk with
  |0,hk=>
   simp only [List.getElem?_cons_zero,Option.some.injEq,pOb] at hk
   subst hk
   simp at hc
   rcases hc with rfl|rfl|rfl|rfl|rfl|rfl
   ·exact .inl rfl
   ·exact .inl rfl
   ·exact .inr ⟨⟨_,_,_,rfl⟩,.sl _ _ _ fun i c _ h=>Zm t i c h⟩
   ·exact .inl rfl
   ·exact .inl rfl
   ·exact .inl rfl
  |1,hk=>simp at hk
  |k+2,hk=>simp at hk
 ·simp only [lkm] at hb'
  split at hb'
  ·rename_i e
   subst e
   simp [Y2,lkm]
  ·simp at hb'
end Go.Proofs.YtadghlfkddkelaaGreatDoor.V
namespace Go.Proofs.YtadghlfkddkelaaGreatDoor.V
open Go.RowKit
theorem ZeW:∀ {es:List (Value×Value)} {x v:Value},mget es x=some v→(x,v)∈es
 |[],x,v,h=>by simp [mget] at h
 |p::r,x,v,h=>by
  simp only [mget] at h
  split at h
  ·rename_i e
   simp only [Option.some.injEq] at h
   subst h;subst e
   exact List.mem_cons_self
  ·exact List.mem_cons_of_mem _ (ZeW h)
theorem ZlH {a b:POp} (h:opV a=opV b):a=b:=by
 cases a;cases b
 simp [opV] at h
 obtain ⟨rfl,rfl,rfl,rfl⟩:=h
 rfl
theorem ZmI {l:List POp} {es:Array MapEntry} {clock bp:Nat} {x:NP} {esA:List (Value×Value)} (hu:W6 l) (hok:∀ j,j<l.length→Xx (Zl l j)=true) (hw:XD l) (hat:GU l l.length esA) (hmi:MapIs Tryz.prog ⟨109,esA⟩ es clock) (hinv:ZhZ l es bp x) (hleft:(leftOf es x.seen).size=0):PMaps l x.lo bp x.bo esA x.esN x.esL:=by
 have done:∀ j,j<l.length→NPDone bp x (Zl l j):=fun j hj=>by
  have h1:=hat.1 j hj
  cases hg:mget esA (Wp (Zl l j)) with
  |none=>rw [hg] at h1;simp at h1
  |some v=>
   obtain ⟨j',hj',hp,hv⟩:=hat.2 _ _ hg
   have hmem:=ZeW hg
   have heq:es.toList.map (fun e=>(e.key,e.val))=esA:=hmi.eq
   rw [←heq,List.mem_map] at hmem
   obtain ⟨e,he,hee⟩:=hmem
   obtain ⟨j'',hj'',hv2,hd⟩:=hinv e he (all_seen es x.seen hleft e he)
   have e1:Zl l j=Zl l j':=by
    simp [Wp] at hp
    exact hu j j' hj hj' hp.1 hp.2
   have e2:Zl l j''=Zl l j':=ZlH (by rw [←hv2,←hv];simp at hee;exact hee.2)
   rw [e1,←e2]
   exact hd
 exact ⟨hu,hok,hw,hat,fun j hj hk=>(done j hj).k1 hk,fun j hj hk=>(done j hj).k2 hk,fun j hj hk=>(done j hj).k3 hk⟩
noncomputable def npNext (bp b7:Nat) (x:NP) (o:POp) (born:Nat):NP:=
 ⟨x.lo++[o],fun j=>if j=x.lo.length then b7 else x.bo j,
  if o.kind=1 then mput x.esN (.string o.text) (.func (.func 139) #[] #[.pointer (some ⟨bp,0,none⟩),.pointer (some ⟨b7,0,none⟩)]) else x.esN,
  if o.kind=2 then mput x.esL (.string o.text) (.func (.func 142) #[] #[.pointer (some ⟨bp,0,none⟩)]) else if o.kind=3 then mput x.esL (.string o.text) (.func (.func 143) #[] #[]) else x.esL,x.seen.push born⟩
theorem HC {l:List POp} {o:POp} {q:Nat} (h:q<l.length):Zl (l++[o]) q=Zl l q:=by
 simp [Zl,List.getD_eq_getElem?_getD,List.getElem?_append_left h]
theorem HE {l:List POp} {o:POp}:Zl (l++[o]) l.length=o:=by
 simp [Zl,List.getD_eq_getElem?_getD]
theorem ZlJ {l:List POp} {es:Array MapEntry} {clock bp b7:Nat} {x:NP} {esA:List (Value×Value)} (hu:W6 l) (hmi:MapIs Tryz.prog ⟨109,esA⟩ es clock) (hinv:ZhZ l es bp x) {e:MapEntry} (he:e∈es.toList) {j:Nat} (hj:j<l.length) (hv:e.val=opV (Zl l j)):ZhZ l es bp (npNext bp b7 x (Zl l j) e.born):=by
 generalize ho:Zl l j=o at *
 intro e' he' hs
 have hcase:x.seen.contains e'.born=true∨e'=e:=by
  simp [npNext] at hs
  rcases hs with hs|hs
  ·exact .inl (by simpa using hs)
  ·refine .inr ?_
   have h1:=find_born e es.toList hmi.born he
   have h2:=find_born e' es.toList hmi.born he'
   rw [←hs,h2] at h1
   simpa using h1
 rcases hcase with hc|rfl
 ·obtain ⟨j1,hj1,hv1,hd⟩:=hinv e' he' hc
  refine ⟨j1,hj1,hv1,?_,?_,?_⟩
  ·intro hk
   obtain ⟨q,hq,hq1,hq2⟩:=hd.k1 hk
   by_cases ho1:o.kind=1
   ·by_cases htx:o.text=(Zl l j1).text
    ·have eo:o=Zl l j1:=by
      rw [←ho]
      exact hu j j1 hj hj1 (by rw [ho];exact htx) (by rw [ho,ho1,hk])
     refine ⟨x.lo.length,by simp [npNext],by simp only [npNext];rw [HE,eo],?_⟩
     simp only [npNext,if_pos ho1,Yi,htx,if_true,vsP]
    ·refine ⟨q,by simp [npNext];omega,by simp only [npNext];rw [HC hq,hq1],?_⟩
     simp only [npNext,if_pos ho1,Yi,vsP,if_neg (show q≠x.lo.length by omega)]
     rw [if_neg (by simpa using htx)]
     exact hq2
   ·refine ⟨q,by simp [npNext];omega,by simp only [npNext];rw [HC hq,hq1],?_⟩
    simp only [npNext,if_neg ho1,vsP,if_neg (show q≠x.lo.length by omega)]
    exact hq2
  ·intro hk
   have h2:=hd.k2 hk
   by_cases ho2:o.kind=2
   ·simp only [npNext,if_pos ho2,Yi,vsP]
    split
    ·rfl
    ·exact h2
   ·by_cases ho3:o.kind=3
    ·simp only [npNext,if_neg ho2,if_pos ho3,Yi]
     split
     ·rename_i htx
      exfalso
      simp at htx
      have eo:o=Zl l j1:=by
       rw [←ho]
       exact hu j j1 hj hj1 (by rw [ho];exact htx) (by rw [ho,ho3,hk];rfl)
      rw [←eo] at hk;omega
     ·exact h2
    ·simp only [npNext,if_neg ho2,if_neg ho3];exact h2
  ·intro hk
   have h2:=hd.k3 hk
   by_cases ho2:o.kind=2
   ·simp only [npNext,if_pos ho2,Yi]
    split
    ·rename_i htx
     exfalso
     simp at htx
     have eo:o=Zl l j1:=by
      rw [←ho]
      exact hu j j1 hj hj1 (by rw [ho];exact htx) (by rw [ho,ho2,hk];rfl)
     rw [←eo] at hk;omega
    ·exact h2
   ·by_cases ho3:o.kind=3
    ·simp only [npNext,if_neg ho2,if_pos ho3,Yi]
     split
     ·rfl
     ·exact h2
    ·simp only [npNext,if_neg ho2,if_neg ho3];exact h2
 ·refine ⟨j,hj,by rw [ho];exact hv,?_⟩
  rw [ho]
  refine ⟨fun hk=>⟨x.lo.length,by simp [npNext],by simp only [npNext];rw [HE],?_⟩,fun hk=>?_,fun hk=>?_⟩
  ·simp only [npNext,if_pos hk,Yi,if_true,vsP]
  ·simp only [npNext,if_pos hk,Yi,if_true,vsP]
  ·simp only [npNext,if_pos hk,if_neg (show ¬o.kind=2 by omega),Yi,if_true]
open Go.Maps (Keyed)
open Go.ChangeMaps (setBlock)
set_option maxRecDepth 20000 in
theorem Zku (l:List POp) (t:List PTok) (b1 b2:Nat) (esA:List (Value×Value)) {w:World} {vs:List Value} {hd0:Nat→Value} (hlen:GS Tryz.prog w (Sh w hd0 [] [(b1,⟨109,esA⟩)]) [AV.agg [.lit (.map (some b1)),.lit (.map (some b2))],.sl 3 t.length (Zk t)] vs)
  (hrep:∀ (j:Nat) a u,[AV.agg [.lit (.map (some b1)),.lit (.map (some b2))],.sl 3 t.length (Zk t)][j]?=some a→vs[j]?=some u→Rep w (Zw [] hd0) hd0 0 a u) (hm:MemRel (fun _=>True) w hd0 []) (hmp:MapRel Tryz.prog (fun _=>True) w [(b1,⟨109,esA⟩)]) (htl:WP hd0 (Sh w hd0 [] [(b1,⟨109,esA⟩)]))
  (hu:W6 l) (hok:∀ j,j<l.length→Xx (Zl l j)=true) (hw:XD l) (hat:GU l l.length esA)
  (R:Ending→World→Prop) (hR:∀ v w',(Bel (Sh w hd0 [] [(b1,⟨109,esA⟩)]) w w'∧∃ hd av mem maps N vs1 as1,(ZmJ l t b1 b2 esA av mem maps N vs1 as1∧∀ i,i<N→Zh2 (as1 i)∧Rep w' (Zw mem hd) hd mem.length (as1 i) (vs1 i))∧PostOk [] [(b1,⟨109,esA⟩)] av mem maps∧
   ((∀ k,k<([]:List (Option Ob)).length→hd k=hd0 k)∧TailEq hd0 hd)∧MemRel (Sh w hd0 [] [(b1,⟨109,esA⟩)]) w' hd mem∧MapRel Tryz.prog (Sh w hd0 [] [(b1,⟨109,esA⟩)]) w' maps∧Rep w' (Zw mem hd) hd mem.length av v)→R (.returned v) w'):Calls Tryz.prog 106 vs.toArray w R:=by
 have hrel:=Vm (P:=Tryz.prog) (fn:=Tryz.f106) (by simp [Tryz.ntmps106]) hlen hrep hm hmp htl
 refine calls_of_wp Tryz.func106 rfl ?_
 refine wp_seq (X6 rfl _ hrel (K:=fun e s=>e=.normal∧s=⟨[(4,.lit (.pointer none)),(2,.ptr 0 2 0 0),(0,AV.agg [.lit (.map (some b1)),.lit (.map (some b2))]),(1,.sl 3 t.length (Zk t))],[some ⟨164,2,1,fun _=>[.lit (.map (some b1)),.lit (.map (some b2))]⟩],[(b1,⟨109,esA⟩)],0⟩) ?_ fun x hd' s' a' w' h' hk=>?_)
 ·simp only [Tryz.ntmps106,X1]
  simp [go_sem]
 ·obtain ⟨rfl,rfl⟩:=hk
  simp only [VX.out,Exit.then]
  refine wp_seq (X6 rfl _ h' (K:=fun e s=>e=.normal∧∃ b3 b4,(b1≠b3∧b1≠b4∧b3≠b4)∧Ent s ⟨[(5,.ptr 1 1 0 0),(2,.ptr 2 2 0 0)],[pOb b1 b2 b3 b4 t 0,some ⟨160,1,1,fun _=>[.ptr 0 6 0 0]⟩,some ⟨164,2,1,fun _=>[.lit (.map (some b1)),.lit (.map (some b2))]⟩],[(b1,⟨109,esA⟩),(b3,⟨9,[]⟩),(b4,⟨9,[]⟩)],0⟩) ?_ fun x hd' s' a' w' h' hk=>?_)
  ·simp [go_sem]
   intro b3 h13 b4 h4
   have h34:b3≠b4:=fun e=>by rw [if_pos e] at h4;simp at h4
   have h14:b1≠b4:=fun e=>by
    by_cases e2:b3=b4
    ·exact h34 e2
    ·rw [if_neg e2,if_pos e] at h4;simp at h4
   refine ⟨b3,b4,⟨h13,h14,h34⟩,ZU [1,2,0] (by simp) (by simp) (by simp) (by simp) ?_ ?_ ?_⟩
   ·simp [Yc,lkm,h13,h14,h34,Ne.symm h13,Ne.symm h14,Ne.symm h34]
   ·simp [go_sem]
   ·simp [go_sem,pOb]
    exact fun i c _ h=>Zm t i c h
  ·obtain ⟨rfl,b3,b4,⟨h13,h14,h34⟩,hent⟩:=hk
   obtain ⟨hd1,h1⟩:=hent _ _ _ _ _ _ h'
   simp only [VX.out,Exit.then]
   refine wp_seq (wp_seq (wp_region_list ?_))
   refine H3 h1 rfl rfl (k:=fun s=>s=npR b1 b2 b3 b4 t esA [(14,.ptr 2 2 0 0)]) (by simp only [npR,pOb];simp [go_sem]) fun hd2 s2 a2 w2 h2 hk2=>?_
   subst hk2
   refine H3 h2 rfl rfl (k:=fun s=>s=npR b1 b2 b3 b4 t esA [(15,.lit (.map (some b1))),(14,.ptr 2 2 0 0)]) (by simp only [npR,pOb];simp [go_sem]) fun hd3 s3 a3 w3 h3 hk3=>?_
   subst hk3
   obtain ⟨hmay1,es,clock,hes,hmi⟩:=h3.mp b1 ⟨109,esA⟩ (by simp [npR,lkm])
   have hr:=run_range_map (P:=Tryz.prog) w3 162 109 73 b1 es clock (by kernel_rfl) hes
   refine WQ (v:=.pointer (some ⟨w3.heap.size,0,none⟩)) (w':=w3.alloc (.mapIter (some b1) clock #[] clock)) rfl ?_ ?_
   ·have e15:a3.eval (.tmp 15)=.map (some b1):=(h3.ev_ (.tmp 15)).val_ rfl
    unfold execOp
    simp only [e15]
    exact ZM hr
   ·simp only [wpList,Exit.then]
    have h4:=(h3.grown (World.grownBy_alloc w3 (.mapIter (some b1) clock #[] clock) none)).put (t:=16) (by rw [Tryz.ntmps106];omega) (.lit (.pointer (some ⟨w3.heap.size,0,none⟩)))
    have hes4:(w3.alloc (.mapIter (some b1) clock #[] clock)).heap[b1]?=some (.map es clock):=(Below.heap_alloc _ _ _ (Array.getElem?_eq_some_iff.1 hes).1).trans hes
    have hit4:(w3.alloc (.mapIter (some b1) clock #[] clock)).heap[w3.heap.size]?=some (.mapIter (some b1) clock #[] clock):=heap_alloc_new _ _
    have hbi:Sh w hd0 [] [(b1,⟨109,esA⟩)] w3.heap.size:=h3.le _ h3.below.size
    have hlt1:b1<w3.heap.size:=(Array.getElem?_eq_some_iff.1 hes).1
    generalize hbi':w3.heap.size=bi at *
    generalize w3.alloc (.mapIter (some b1) clock #[] clock)=w4 at *
    generalize a3.put (some 16) (.pointer (some ⟨bi,0,none⟩))=a4 at *
    obtain ⟨hd5,h5⟩:∃ hd,RelH 50 ⟨Tryz.prog,Sh w hd0 [] [(b1,⟨109,esA⟩)],hd0,[]⟩ w hd ⟨[(5,.ptr 1 1 0 0),(16,.lit (.pointer (some ⟨bi,0,none⟩)))],[pOb b1 b2 b3 b4 t 0,some ⟨160,1,1,fun _=>[.ptr 0 6 0 0]⟩],[(b3,⟨9,[]⟩),(b4,⟨9,[]⟩)],0⟩ a4 w4:=by
     refine (ZU [0,1] (by simp) (by simp [npR]) (by simp) (by simp) ?_ ?_ ?_:Ent _ _) _ _ _ _ _ _ h4
     ·simp [Yc,npR,lkm,h13,h14,h34,Ne.symm h13,Ne.symm h14,Ne.symm h34]
     ·simp [go_sem,npR]
     ·simp [go_sem,pOb,npR]
      exact fun i c _ h=>Zm t i c h
    obtain ⟨bp,_,_,hbp,hp5⟩:=UL (h5.tm 5)
    have h6:RelH 50 ⟨Tryz.prog,Sh w hd0 [] [(b1,⟨109,esA⟩)],hd0,[]⟩ w hd5 (npS b1 b2 b3 b4 bp bi t ⟨[],fun _=>0,[],[],#[]⟩) a4 w4:=h5.tell 50 fun i hi=>by
     have e0:i=0:=by simp at hi;omega
     subst e0
     have:=h5.tm 5
     rw [hp5] at this
     exact this
    refine wp_block (KQ (ι:=NP) (fun x a w'=>∃ hd,RelH 50 ⟨Tryz.prog,Sh w hd0 [] [(b1,⟨109,esA⟩)],hd0,[]⟩ w hd (npS b1 b2 b3 b4 bp bi t x) a w'∧w'.heap[b1]?=some (.map es clock)∧(∃ c0,clock≤c0∧w'.heap[bi]?=some (.mapIter (some b1) clock x.seen c0))∧ZhZ l es bp x) (fun x=>(leftOf es x.seen).size) (fun x a w' hI=>?_) (i:=⟨[],fun _=>0,[],[],#[]⟩) ⟨hd5,h6,hes4,⟨clock,Nat.le_refl _,hit4⟩,fun e he hs=>by simp at hs⟩)
    obtain ⟨hd7,h7,hes7,⟨c0,hc0,hit7⟩,hinv⟩:=hI
    refine wp_seq (wp_region_list ?_)
    have e16:a.eval (.tmp 16)=.pointer (some ⟨bi,0,none⟩):=(h7.ev_ (.tmp 16)).val_ rfl
    rcases run_next_at (P:=Tryz.prog) w' 0 bi b1 clock c0 x.seen es clock hit7 hes7 hmi.young hc0 with ⟨hleft,hrun⟩|⟨e,he,w8,hw8,hrun⟩
    ·refine WQ (v:=.tuple #[.bool false]) (w':=w') rfl ?_ ?_
     ·unfold execOp
      simp only [e16]
      exact ZM hrun
     ·have h8:=h7.put (t:=17) (by omega) (av:=.tup [.lit (.bool false)]) (v:=.tuple #[.bool false]) (.tup _ [.bool false] rfl fun j a q g1 g2=>by
       rcases j with _|j
       ·simp at g1 g2;subst g1;subst g2;exact .lit _
       ·simp at g1)
      have e17:(a.put (some 17) (.tuple #[.bool false])).eval (.tmp 17)=.tuple #[.bool false]:=by
       show (a.put (some 17) (.tuple #[.bool false])).tmps.getD 17 undef=_
       rw [JL _ _ _ (by rw [h7.size];omega),if_pos rfl]
      refine WQ (v:=.bool false) (w':=w') rfl (by unfold execOp;simp only [e17];exact ZM (by simp [Instr.extract])) ?_
      have h9:=h8.put (t:=18) (by omega) (av:=.lit (.bool false)) (v:=.bool false) (.lit _)
      simp only [wpList,Exit.then]
      refine wp_seq (wp_cond_false ((h9.ev_ (.tmp 18)).val_ rfl) (wp_exit ?_))
      simp only [Exit.then,Exit.inBlock,if_true]
      refine Zhl h9 rfl (fun b=>b=b1) (fun b hb=>by subst hb;exact (Array.getElem?_eq_some_iff.1 hes7).1) (fun b hb mp=>by subst hb;simp [npS,lkm,Ne.symm h13,Ne.symm h14]) (fun b hb k ob hk=>by subst hb;exact h9.own_ne hes7 (by simp) k ob hk) (K:=fun e s=>e=.ret∧s={ npS b1 b2 b3 b4 bp bi t x with tmps:=(4,.ptr 0 6 0 0)::(49,.ptr 0 6 0 0)::(18,.lit (.bool false))::(17,.tup [.lit (.bool false)])::(npS b1 b2 b3 b4 bp bi t x).tmps }) (by simp only [npS,pOb];simp [go_sem]) fun y hd10 s10 a10 w10 h10 hb10 hk10=>?_
      obtain ⟨rfl,rfl⟩:=hk10
      have h11:RelH 50 ⟨Tryz.prog,Sh w hd0 [] [(b1,⟨109,esA⟩)],hd0,[]⟩ w hd10 { npS b1 b2 b3 b4 bp bi t x with tmps:=(4,.ptr 0 6 0 0)::(npS b1 b2 b3 b4 bp bi t x).tmps } a10 w10:=by
       refine ⟨h10.defers,h10.size,h10.below,h10.le,h10.fixl,h10.fix,h10.mp,fun u=>?_,h10.me⟩
       have:=h10.tm u
       simp only [lk] at this ⊢
       by_cases e4:4=u
       ·rw [if_pos e4] at this ⊢;exact this
       ·rw [if_neg e4] at this ⊢
        by_cases e49:49=u
        ·subst e49;exact .undef _
        ·rw [if_neg e49] at this
         by_cases e18:18=u
         ·subst e18;exact .undef _
         ·rw [if_neg e18] at this
          by_cases e17:17=u
          ·subst e17;exact .undef _
          ·rw [if_neg e17] at this;exact this
      obtain ⟨v,q1,q2⟩:=ZmH ⟨h13,h14,h34⟩ h11 ((hb10 b1 rfl).trans hes7) hmi (ZmI hu hok hw hat hmi hinv hleft)
      exact ⟨h10.defers,v,q1,hR v w10 q2⟩
    ·obtain ⟨he1,he2⟩:=mem_left he
     obtain ⟨j,hj,hkey,hval⟩:∃ j,j<l.length∧e.key=Wp (Zl l j)∧e.val=opV (Zl l j):=by
      have heq:es.toList.map (fun e=>(e.key,e.val))=esA:=hmi.eq
      have hmem:(e.key,e.val)∈esA:=by rw [←heq];exact List.mem_map.2 ⟨e,he1,rfl⟩
      obtain ⟨q,hq⟩:=List.getElem?_of_mem hmem
      have hg:mget esA e.key=some e.val:=JU hq (Ja hmi.apart hq)
      exact hat.2 _ _ hg
     have hne:b1≠bi:=by omega
     have hinv':=fun b7=>ZlJ (b7:=b7) hu hmi hinv he1 hj hval
     have hko:(Zl l j).kind=1∨(Zl l j).kind=2∨(Zl l j).kind=3:=by
      have:=hok j hj
      simp [Xx] at this;omega
     have hzo:(Zl l j).text.size≤maxLen:=hw j hj
     generalize ho:Zl l j=o at *
     have h8:RelH 50 ⟨Tryz.prog,Sh w hd0 [] [(b1,⟨109,esA⟩)],hd0,[]⟩ w hd7 (npS b1 b2 b3 b4 bp bi t x) a w8:=by
      rcases hw8 with rfl|rfl
      ·exact h7
      ·exact h7.grown ⟨rfl,rfl,rfl,Nat.le_refl _,fun _ _ _=>rfl⟩
     have hp8:w8.heap=w'.heap:=by rcases hw8 with rfl|rfl<;>rfl
     have h9:=h8.iterTurn (b:=bi) (o:=.mapIter (some b1) clock x.seen c0) (by rw [hp8];exact hit7) (by simp) (by simp) (fun ad u e hc=>by
      unfold World.cell? at hc
      rw [e,hp8,hit7] at hc
      simp at hc) hbi (.mapIter (some b1) clock (x.seen.push e.born) clock)
     have hes9:(setBlock w8 bi (.mapIter (some b1) clock (x.seen.push e.born) clock)).heap[b1]?=some (.map es clock):=by
      simp only [setBlock]
      rw [Array.getElem?_setIfInBounds_ne (fun e=>hne e.symm),hp8];exact hes7
     have hit9:(setBlock w8 bi (.mapIter (some b1) clock (x.seen.push e.born) clock)).heap[bi]?=some (.mapIter (some b1) clock (x.seen.push e.born) clock):=by
      have:bi<w8.heap.size:=by rw [hp8];exact (Array.getElem?_eq_some_iff.1 hit7).1
      simp [setBlock,this]
     refine WQ (v:=.tuple #[.bool true,e.key,e.val]) (w':=setBlock w8 bi (.mapIter (some b1) clock (x.seen.push e.born) clock)) rfl ?_ ?_
     ·unfold execOp
      simp only [e16]
      exact ZM hrun
     ·generalize setBlock w8 bi (.mapIter (some b1) clock (x.seen.push e.born) clock)=w9 at *
      have h10:=h9.put (t:=17) (by omega) (.undef (.tuple #[.bool true,e.key,e.val]))
      have e17:(a.put (some 17) (.tuple #[.bool true,e.key,e.val])).eval (.tmp 17)=.tuple #[.bool true,e.key,e.val]:=by
       show (a.put (some 17) _).tmps.getD 17 undef=_
       rw [JL _ _ _ (by rw [h7.size];omega),if_pos rfl]
      refine WQ (v:=.bool true) (w':=w9) rfl (by unfold execOp;simp only [e17];exact ZM (by simp [Instr.extract])) ?_
      have h11:=h10.put (t:=18) (by omega) (av:=.lit (.bool true)) (v:=.bool true) (.lit _)
      simp only [wpList,Exit.then]
      refine wp_seq (wp_cond_true ((h11.ev_ (.tmp 18)).val_ rfl) (wp_skip ?_))
      generalize ((a.put (some 17) (.tuple #[.bool true,e.key,e.val])).put (some 18) (.bool true))=a11 at *
      simp only [Exit.then]
      refine wp_block (wp_seq (wp_region_list ?_))
      have hrun2:=run_entry_at (P:=Tryz.prog) w9 bi b1 clock x.seen es clock e hit9 hes9 he1 hmi.born
      have e16b:a11.eval (.tmp 16)=.pointer (some ⟨bi,0,none⟩):=(h11.ev_ (.tmp 16)).val_ rfl
      refine WQ (v:=.tuple #[e.key,e.val]) (w':=w9) rfl (by unfold execOp;simp only [e16b];exact ZM hrun2) ?_
      have h12:=h11.put (t:=19) (by omega) (.undef (.tuple #[e.key,e.val]))
      have e19:(a11.put (some 19) (.tuple #[e.key,e.val])).eval (.tmp 19)=.tuple #[e.key,e.val]:=by
       show (a11.put (some 19) _).tmps.getD 19 undef=_
       rw [JL _ _ _ (by rw [h11.size];omega),if_pos rfl]
      refine WQ (v:=e.val) (w':=w9) rfl (by unfold execOp;simp only [e19];exact ZM (by simp [Instr.extract])) ?_
      have h13':=h12.put (t:=20) (by omega) (av:=.agg o.cells) (v:=e.val) (by
       rw [hval]
       exact .agg _ [.string o.text,.int .i64 o.kind,.int .i64 o.level,.int .i64 o.side] rfl fun j a q g1 g2=>by
        rcases j with _ | _ | _ | _|j<;>simp [POp.cells] at g1 g2<;>subst g1<;>subst g2<;>exact .lit _)
      generalize ((a11.put (some 19) (.tuple #[e.key,e.val])).put (some 20) e.val)=a13 at *
      have tail3:∀ {s:VS} {a:Act} {w2:World} {hd:Nat→Value},RelH 50 ⟨Tryz.prog,Sh w hd0 [] [(b1,⟨109,esA⟩)],hd0,[]⟩ w hd s a w2→w2.heap[b1]?=some (.map es clock)→w2.heap[bi]?=some (.mapIter (some b1) clock (x.seen.push e.born) clock)→(∀ mp,lkm s.maps b1≠some mp)→(∀ b,b=b1∨b=bi→b<w2.heap.size)∧(∀ b,b=b1∨b=bi→∀ mp,lkm s.maps b≠some mp)∧(∀ b,b=b1∨b=bi→∀ k ob,s.mem[k]?=some (some ob)→(hd k).ownBlock≠some b):=fun h g1 g2 g3=>by
       refine ⟨fun b hb=>?_,fun b hb mp hq=>?_,fun b hb=>?_⟩
       ·rcases hb with rfl|rfl
        ·exact (Array.getElem?_eq_some_iff.1 g1).1
        ·exact (Array.getElem?_eq_some_iff.1 g2).1
       ·rcases hb with rfl|rfl
        ·exact g3 mp hq
        ·obtain ⟨_,es',clock',h3,_⟩:=h.mp _ mp hq
         rw [g2] at h3;simp at h3
       ·rcases hb with rfl|rfl
        ·exact h.own_ne g1 (by simp)
        ·exact h.own_ne g2 (by simp)
      obtain ⟨p1,p2,p3⟩:=tail3 h13' hes9 hit9 (fun mp=>by simp [npS,lkm,Ne.symm h13,Ne.symm h14])
      refine H4 h13' rfl (fun b=>b=b1∨b=bi) p1 p2 p3 rfl (k:=fun s=>s=⟨(7,.ptr 2 4 0 0)::(20,.agg o.cells)::(19,.undef)::(18,.lit (.bool true))::(17,.undef)::(npS b1 b2 b3 b4 bp bi t x).tmps,(npS b1 b2 b3 b4 bp bi t x).mem++[some ⟨73,4,1,fun _=>ZfV⟩],(npS b1 b2 b3 b4 bp bi t x).maps,0⟩) (by simp only [npS,pOb];simp [go_sem,ZfV]) fun hd14 s14 a14 w14 h14' hb14 hk14=>?_
      subst hk14
      obtain ⟨p4,p5,p6⟩:=tail3 h14' ((hb14 b1 (.inl rfl)).trans hes9) ((hb14 bi (.inr rfl)).trans hit9) (fun mp=>by simp [npS,lkm,Ne.symm h13,Ne.symm h14])
      refine H4 h14' rfl (fun b=>b=b1∨b=bi) p4 p5 p6 rfl (k:=fun s=>s=⟨(7,.ptr 2 4 0 0)::(20,.agg o.cells)::(19,.undef)::(18,.lit (.bool true))::(17,.undef)::(npS b1 b2 b3 b4 bp bi t x).tmps,(npS b1 b2 b3 b4 bp bi t x).mem++[some ⟨73,4,1,fun _=>o.cells⟩],(npS b1 b2 b3 b4 bp bi t x).maps,0⟩) (by simp only [npS,pOb,POp.cells,ZfV];simp [go_sem]) fun hd15 s15 a15 w15 h15 hb15 hk15=>?_
      subst hk15
      simp only [wpList,Exit.then]
      obtain ⟨b7,_,_,hb7,hp7⟩:=UL (h15.tm 7)
      have hes15:w15.heap[b1]?=some (.map es clock):=((hb15 b1 (.inl rfl)).trans (hb14 b1 (.inl rfl))).trans hes9
      have hit15:w15.heap[bi]?=some (.mapIter (some b1) clock (x.seen.push e.born) clock):=((hb15 bi (.inr rfl)).trans (hb14 bi (.inr rfl))).trans hit9
      have h16:=h15.tell 50 (N:=x.lo.length+2) (vs:=vsP bp fun j=>if j=x.lo.length then b7 else x.bo j) («as»:=fun i=>if i=x.lo.length+1 then .ptr 2 4 0 0 else asN x.lo i) (fun i hi=>by
       by_cases hq:i=x.lo.length+1
       ·subst hq
        have:=h15.tm 7
        rw [hp7] at this
        simp only [if_true,vsP]
        exact this
       ·simp only [if_neg hq]
        have:=h15.told (t:=50) (i:=i) rfl (by omega)
        cases i with
        |zero=>exact this
        |succ j=>simp only [vsP,if_neg (show j≠x.lo.length by omega)];exact this)
      obtain ⟨p7,p8,p9⟩:=tail3 h16 hes15 hit15 (fun mp=>by simp [npS,lkm,Ne.symm h13,Ne.symm h14])
      refine Zhl h16 rfl (fun b=>b=b1∨b=bi) p7 p8 p9 (K:=fun e' s=>e'=.normal∧Ent s ⟨[(50,.fam (x.lo.length+2) (vsP bp fun j=>if j=x.lo.length then b7 else x.bo j) (fun i=>if i=x.lo.length+1 then .ptr 2 4 0 0 else asN x.lo i)),(5,.ptr 1 1 0 0),(16,.lit (.pointer (some ⟨bi,0,none⟩)))],[pOb b1 b2 b3 b4 t 0,some ⟨160,1,1,fun _=>[.ptr 0 6 0 0]⟩,some ⟨73,4,1,fun _=>o.cells⟩],[(b3,⟨9,(npNext bp b7 x o e.born).esN⟩),(b4,⟨9,(npNext bp b7 x o e.born).esL⟩)],0⟩) ?_ fun y hd17 s17 a17 w17 h17 hb17 hk17=>?_
      ·simp only [npS,pOb,POp.cells]
       rcases hko with hk1|hk1|hk1
       ·simp [go_sem,hk1]
        refine Zn [7] (.q 0 <| .q 1 <| .q 2 <| .q 3 <| .q 4 <| .q 5 <| .q 6 <| .or 7 (.done) (.nil)) (by kernel_rfl) ?_
        simp [go_sem]
        refine Zal [.pointer (some ⟨bp,0,none⟩),.pointer (some ⟨b7,0,none⟩)] ⟨Jm 50 0 rfl (by omega) rfl (by simp [asN]) rfl,Jm 50 (x.lo.length+1) rfl (by omega) (by simp [vsP]) (by simp) rfl,trivial⟩ ?_
        simp [go_sem,h34]
        refine Y0 ZS (YJ hzo) ?_
        simp [go_sem]
        refine ZU [0,1,2] (by simp) (by simp) (by simp) (by simp) ?_ ?_ ?_
        ·simp [Yc,lkm,h34,Ne.symm h34,npNext,hk1]
        ·simp [go_sem]
         exact .fam _ _ _ _ fun i hi=>by
          by_cases hq:i=x.lo.length+1
          ·simp only [if_pos hq];exact .ptr 2 4 0 0 (by omega)
          ·simp only [if_neg hq]
           cases i with
           |zero=>exact .ptr 1 1 0 0 (by omega)
           |succ j=>exact .closed _ (.bptr _ fun c hc=>by
             simp [POp.cells] at hc
             rcases hc with rfl|rfl|rfl|rfl<;>exact .lit _)
        ·simp [go_sem]
         exact fun i c _ h=>Zm t i c h
       ·simp [go_sem,hk1]
        refine Zn [7] (.q 0 <| .q 1 <| .q 2 <| .q 3 <| .q 4 <| .q 5 <| .q 6 <| .or 7 (.done) (.nil)) (by kernel_rfl) ?_
        simp [go_sem]
        refine Zal [.pointer (some ⟨bp,0,none⟩)] ⟨Jm 50 0 rfl (by omega) rfl (by simp [asN]) rfl,trivial⟩ ?_
        simp [go_sem,h34,Ne.symm h34]
        refine Y0 ZS (YJ hzo) ?_
        simp [go_sem]
        refine ZU [0,1,2] (by simp) (by simp) (by simp) (by simp) ?_ ?_ ?_
        ·simp [Yc,lkm,h34,Ne.symm h34,npNext,hk1]
        ·simp [go_sem]
         exact .fam _ _ _ _ fun i hi=>by
          by_cases hq:i=x.lo.length+1
          ·simp only [if_pos hq];exact .ptr 2 4 0 0 (by omega)
          ·simp only [if_neg hq]
           cases i with
           |zero=>exact .ptr 1 1 0 0 (by omega)
           |succ j=>exact .closed _ (.bptr _ fun c hc=>by
             simp [POp.cells] at hc
             rcases hc with rfl|rfl|rfl|rfl<;>exact .lit _)
        ·simp [go_sem]
         exact fun i c _ h=>Zm t i c h
       ·simp [go_sem,hk1]
        refine Zn [6] (.q 0 <| .q 1 <| .q 2 <| .q 3 <| .q 4 <| .q 5 <| .or 6 (.done) (.nil)) (by kernel_rfl) ?_
        simp [go_sem,h34,Ne.symm h34]
        refine Y0 ZS (YJ hzo) ?_
        simp [go_sem]
        refine ZU [0,1,2] (by simp) (by simp) (by simp) (by simp) ?_ ?_ ?_
        ·simp [Yc,lkm,h34,Ne.symm h34,npNext,hk1]
        ·simp [go_sem]
         exact .fam _ _ _ _ fun i hi=>by
          by_cases hq:i=x.lo.length+1
          ·simp only [if_pos hq];exact .ptr 2 4 0 0 (by omega)
          ·simp only [if_neg hq]
           cases i with
           |zero=>exact .ptr 1 1 0 0 (by omega)
           |succ j=>exact .closed _ (.bptr _ fun c hc=>by
             simp [POp.cells] at hc
             rcases hc with rfl|rfl|rfl|rfl<;>exact .lit _)
        ·simp [go_sem]
         exact fun i c _ h=>Zm t i c h
      ·obtain ⟨rfl,hent⟩:=hk17
       obtain ⟨hd18,h18⟩:=hent _ _ _ _ _ _ h17
       simp only [VX.out,Exit.inBlock,Exit.then]
       have fo:=h18.freed (k:=2) (ob:=⟨73,4,1,fun _=>o.cells⟩) (v:=.pointer (some ⟨b7,0,none⟩)) rfl (by simp) (by
        have:=h18.told (t:=50) (i:=x.lo.length+1) rfl (by omega)
        simp only [if_true,vsP] at this
        exact this)
       have h19:=(h18.free 2).tell 50 (N:=x.lo.length+2) (vs:=vsP bp fun j=>if j=x.lo.length then b7 else x.bo j) («as»:=asN (x.lo++[o])) (fun i hi=>by
        by_cases hq:i=x.lo.length+1
        ·subst hq
         simp only [asN,HE,vsP,if_true]
         exact fo
        ·have:=(h18.free 2).told (t:=50) (i:=i) rfl (by omega)
         simp only [if_neg hq] at this
         cases i with
         |zero=>exact this
         |succ j=>
          simp only [asN] at this ⊢
          rw [HC (by omega)];exact this)
       obtain ⟨hd20,h20⟩:∃ hd,RelH 50 ⟨Tryz.prog,Sh w hd0 [] [(b1,⟨109,esA⟩)],hd0,[]⟩ w hd (npS b1 b2 b3 b4 bp bi t (npNext bp b7 x o e.born)) a17 w17:=by
        refine (ZU [0,1] (by simp) (by simp) (by simp) (by simp) ?_ ?_ ?_:Ent _ _) _ _ _ _ _ _ h19
        ·simp [Yc,lkm,h34,Ne.symm h34]
        ·simp [go_sem,npNext]
         exact .fam _ _ _ _ fun i hi=>by
          cases i with
          |zero=>exact .ptr 1 1 0 0 (by omega)
          |succ j=>exact .closed _ (.bptr _ fun c hc=>by
            simp [POp.cells] at hc
            rcases hc with rfl|rfl|rfl|rfl<;>exact .lit _)
        ·simp [go_sem,pOb]
         exact fun i c _ h=>Zm t i c h
       exact ⟨npNext bp b7 x o e.born,⟨hd20,h20,(hb17 b1 (.inl rfl)).trans hes15,⟨clock,Nat.le_refl _,(hb17 bi (.inr rfl)).trans hit15⟩,hinv' b7⟩,left_shrinks es x.seen e he⟩
theorem Zfq (l:List POp) (t:List PTok) (b1 b2:Nat) (esA:List (Value×Value)) (hu:W6 l) (hok:∀ j,j<l.length→Xx (Zl l j)=true) (hw:XD l) (hat:GU l l.length esA) :
  VProcT Tryz.prog 106 [.agg [.lit (.map (some b1)),.lit (.map (some b2))],.sl 3 t.length (Zk t)] [] [(b1,⟨109,esA⟩)] (ZmJ l t b1 b2 esA):=
 ⟨⟨_,Tryz.func106,by kernel_rfl,rfl⟩,fun w vs hd0 hlen hrep hm hmp htl=>Zku l t b1 b2 esA hlen hrep hm hmp htl hu hok hw hat _ fun v w' h=>⟨v,rfl,h⟩⟩
end Go.Proofs.YtadghlfkddkelaaGreatDoor.V
namespace Go.Proofs.YtadghlfkddkelaaGreatDoor.V
open Go.RowKit
theorem Ze2 (k:Int):Xv k=0∨Xv k=1∨Xv k=2:=by
 unfold Xv;split<;>(try split)<;>simp
open Go.Proofs.YtadghlfkddkelaaGreatDoor.Ops (Tr)
abbrev ET:=Tr POp (Int×ByteArray)
def lay:ET→List PNode→List PNode
 | .leaf b,out=>out++[⟨b.2,b.1,0,0⟩]
 | .grp e,out=>lay e out++[⟨⟨#[]⟩,6,(lay e out).length-1,0⟩]
 | .pre o e,out=>lay e out++[⟨o.text,o.kind+2,(lay e out).length-1,0⟩]
 | .post o e,out=>lay e out++[⟨o.text,o.kind+2,(lay e out).length-1,0⟩]
 | .inf o x y,out=>lay y (lay x out)++[⟨o.text,o.kind+2,(lay x out).length-1,(lay y (lay x out)).length-1⟩]
def Zi (t:List PNode):Option Ob:=some ⟨137,4,t.length,ZE t⟩
theorem Xf (t:List PNode) (o:PNode) (j:Nat) (h:j<t.length+1):ZH t.length (ZE t) (fun i=>[o.cells][i]?.getD []) j=ZE (t++[o]) j:=by
 unfold ZH ZE
 by_cases hj:j<t.length
 ·rw [if_pos hj,List.getD_eq_getElem?_getD,List.getD_eq_getElem?_getD,List.getElem?_append_left hj]
 ·have:j=t.length:=by omega
  subst this
  rw [if_neg (by omega),List.getD_eq_getElem?_getD,List.getElem?_append_right (by omega)]
  simp
theorem YT {idx:Nat→Nat} {ks:List Nat} {ty:Nat} {l T:List PNode} {o:PNode} {f:Nat→List AV} (h:T=l++[o]) (hf:∀ j,j<l.length+1→f j=ZE (l++[o]) j):WN idx ks ⟨ty,4,T.length,ZE T⟩ (some (some ⟨ty,4,l.length+1,f⟩)):=by
 subst h
 rw [show (l++[o]).length=l.length+1 by simp]
 exact Wr hf (fun j _=>Xc _ j)
theorem XG {idx:Nat→Nat} {ks:List Nat} {ty:Nat} {l T:List PNode} {f:Nat→List AV} (h:T=l) (hf:∀ j,j<l.length→f j=ZE l j):WN idx ks ⟨ty,4,T.length,ZE T⟩ (some (some ⟨ty,4,l.length,f⟩)):=by
 subst h
 exact Wr hf (fun j _=>Xc _ j)
def Wu (e:PT) (out:List PNode):Prop:=∃ T u,Wg e=.iface T u∧∃ f,XI Tryz.prog T "loop.example/s0059/impl.nodes"=some f∧VProc Tryz.prog f [.lit u,.own 0] [Zi out] [] (fun av mem maps=>av=.own 1∧mem=[none,Zi (lay e out)]∧maps=[])
theorem Zit:XI Tryz.prog 237 "loop.example/s0059/impl.nodes"=some 243:=by kernel_rfl
theorem Zgy:XI Tryz.prog 239 "loop.example/s0059/impl.nodes"=some 246:=by kernel_rfl
theorem Qq:XI Tryz.prog 197 "loop.example/s0059/impl.nodes"=some 240:=by kernel_rfl
theorem Zgv (b:Int×ByteArray) (out:List PNode) (hl:out.length≤3000000):Wu (.leaf b) out:=by
 refine ⟨_,_,rfl,_,Zit,?_⟩
 simp only [Zi]
 refine Zu Tryz.func243 (by kernel_rfl) rfl (by simp [Tryz.ntmps243]) ?_;simp only [Tryz.ntmps243,Tryz.results243];simp [go_sem]
 refine ⟨by omega,by omega,?_⟩
 refine ⟨rfl,[3],[none,Zi (lay (.leaf b) out)],by simp,by simp [go_sem],by simp [go_sem],?_,by simp [go_sem],?_⟩
 ·simp [go_sem,Zi]
  refine YT (o:=⟨b.2,b.1,0,0⟩) (by simp [lay]) fun j hj=>?_
  exact Xf out ⟨b.2,b.1,0,0⟩ j hj
 ·simp [go_sem,Zi]
theorem ZeN (e:PT) (out:List PNode) (ih:Wu e out) (h0:0<(lay e out).length) (hl:(lay e out).length≤3000000):Wu (.grp e) out:=by
 refine ⟨_,_,rfl,_,Zgy,?_⟩
 obtain ⟨T,u,hT,f,hm,hc⟩:=ih
 have ew:IntKind.i64.wrap (((lay e out).length:Int)-1)=((lay e out).length:Int)-1:=wrap_i64 (by omega)
 rw [hT]
 simp only [Zi] at hc ⊢
 refine Zu Tryz.func246 (by kernel_rfl) rfl (by simp [Tryz.ntmps246]) ?_;simp only [Tryz.ntmps246,Tryz.results246];simp [go_sem]
 simp [go_sem,hm]
 refine Zx [0] hc (by simp) ?_ ?_ trivial ?_
 ·simp [go_sem]
 ·simp [go_sem]
  exact fun i _=>ZK (Xc _ i)
 ·rintro av mem maps ⟨rfl,rfl,rfl⟩
  simp [go_sem,ew]
  refine ⟨by omega,by omega,by omega,?_⟩
  refine ⟨rfl,[4],[none,Zi (lay (.grp e) out)],by simp,by simp [go_sem],by simp [go_sem],?_,by simp [go_sem],?_⟩
  ·simp [go_sem,Zi]
   refine YT (o:=⟨⟨#[]⟩,6,((lay e out).length:Int)-1,0⟩) (by simp [lay]) fun j hj=>?_
   exact Xf (lay e out) ⟨⟨#[]⟩,6,((lay e out).length:Int)-1,0⟩ j hj
  ·simp [go_sem,Zi]
theorem Zio (o:POp) (hk:o.kind=1) (e:PT) (out:List PNode) (ih:Wu e out) (h0:0<(lay e out).length) (hl:(lay e out).length≤3000000):Wu (.pre o e) out:=by
 refine ⟨_,_,rfl,_,Qq,?_⟩
 obtain ⟨T,u,hT,f,hm,hc⟩:=ih
 have ew:IntKind.i64.wrap (((lay e out).length:Int)-1)=((lay e out).length:Int)-1:=wrap_i64 (by omega)
 have ek:IntKind.i64.wrap (o.kind+2)=o.kind+2:=wrap_i64 (by omega)
 rw [hT]
 simp only [Zi] at hc ⊢
 refine Zu Tryz.func240 (by kernel_rfl) rfl (by simp [Tryz.ntmps240]) ?_;simp only [Tryz.ntmps240,Tryz.results240];simp [go_sem]
 simp [go_sem,hm,ek]
 refine Zx [0] hc (by simp) ?_ ?_ trivial ?_
 ·simp [go_sem]
 ·simp [go_sem]
  exact fun i _=>ZK (Xc _ i)
 ·rintro av mem maps ⟨rfl,rfl,rfl⟩
  simp [go_sem,ew]
  refine ⟨by omega,by omega,by omega,?_⟩
  refine ⟨rfl,[5],[none,Zi (lay (.pre o e) out)],by simp,by simp [go_sem],by simp [go_sem],?_,by simp [go_sem],?_⟩
  ·simp [go_sem,Zi]
   refine YT (o:=⟨o.text,o.kind+2,((lay e out).length:Int)-1,0⟩) (by simp [lay]) fun j hj=>?_
   exact Xf (lay e out) ⟨o.text,o.kind+2,((lay e out).length:Int)-1,0⟩ j hj
  ·simp [go_sem,Zi]
theorem Zgu (o:POp) (hk:o.kind=3) (e:PT) (out:List PNode) (ih:Wu e out) (h0:0<(lay e out).length) (hl:(lay e out).length≤3000000):Wu (.post o e) out:=by
 refine ⟨_,_,rfl,_,Qq,?_⟩
 obtain ⟨T,u,hT,f,hm,hc⟩:=ih
 have ew:IntKind.i64.wrap (((lay e out).length:Int)-1)=((lay e out).length:Int)-1:=wrap_i64 (by omega)
 have ek:IntKind.i64.wrap (o.kind+2)=o.kind+2:=wrap_i64 (by omega)
 rw [hT]
 simp only [Zi] at hc ⊢
 refine Zu Tryz.func240 (by kernel_rfl) rfl (by simp [Tryz.ntmps240]) ?_;simp only [Tryz.ntmps240,Tryz.results240];simp [go_sem]
 simp [go_sem,hm,ek]
 refine Zx [0] hc (by simp) ?_ ?_ trivial ?_
 ·simp [go_sem]
 ·simp [go_sem]
  exact fun i _=>ZK (Xc _ i)
 ·rintro av mem maps ⟨rfl,rfl,rfl⟩
  simp [go_sem,ew]
  refine ⟨by omega,by omega,by omega,?_⟩
  refine ⟨rfl,[5],[none,Zi (lay (.post o e) out)],by simp,by simp [go_sem],by simp [go_sem],?_,by simp [go_sem],?_⟩
  ·simp [go_sem,Zi]
   refine YT (o:=⟨o.text,o.kind+2,((lay e out).length:Int)-1,0⟩) (by simp [lay]) fun j hj=>?_
   exact Xf (lay e out) ⟨o.text,o.kind+2,((lay e out).length:Int)-1,0⟩ j hj
  ·simp [go_sem,Zi]
theorem Zip (o:POp) (hk:o.kind=2) (x y:PT) (out:List PNode) (ih:Wu x out) (ih2:Wu y (lay x out)) (h0:0<(lay x out).length) (h1:0<(lay y (lay x out)).length) (hl:(lay x out).length≤3000000) (hl2:(lay y (lay x out)).length≤3000000):Wu (.inf o x y) out:=by
 refine ⟨_,_,rfl,_,Qq,?_⟩
 obtain ⟨T,u,hT,f,hm,hc⟩:=ih
 obtain ⟨T',u',hT',f',hm',hc'⟩:=ih2
 have ew:IntKind.i64.wrap (((lay x out).length:Int)-1)=((lay x out).length:Int)-1:=wrap_i64 (by omega)
 have ew':IntKind.i64.wrap (((lay y (lay x out)).length:Int)-1)=((lay y (lay x out)).length:Int)-1:=wrap_i64 (by omega)
 have ek:IntKind.i64.wrap (o.kind+2)=o.kind+2:=wrap_i64 (by omega)
 rw [hT,hT']
 simp only [Zi] at hc hc' ⊢
 refine Zu Tryz.func240 (by kernel_rfl) rfl (by simp [Tryz.ntmps240]) ?_;simp only [Tryz.ntmps240,Tryz.results240];simp [go_sem]
 simp [go_sem,hm,ek]
 refine Zx [0] hc (by simp) ?_ ?_ trivial ?_
 ·simp [go_sem]
 ·simp [go_sem]
  exact fun i _=>ZK (Xc _ i)
 ·rintro av mem maps ⟨rfl,rfl,rfl⟩
  simp [go_sem,ew,hm']
  refine ⟨by omega,?_⟩
  refine Zx [3] hc' (by simp) ?_ ?_ trivial ?_
  ·simp [go_sem]
  ·simp [go_sem]
   exact fun i _=>ZK (Xc _ i)
  ·rintro av mem maps ⟨rfl,rfl,rfl⟩
   simp [go_sem,ew']
   refine ⟨by omega,by omega,by omega,?_⟩
   refine ⟨rfl,[6],[none,Zi (lay (.inf o x y) out)],by simp,by simp [go_sem],by simp [go_sem],?_,by simp [go_sem],?_⟩
   ·simp [go_sem,Zi]
    refine YT (o:=⟨o.text,o.kind+2,((lay x out).length:Int)-1,((lay y (lay x out)).length:Int)-1⟩) (by simp [lay]) fun j hj=>?_
    exact Xf (lay y (lay x out)) ⟨o.text,o.kind+2,((lay x out).length:Int)-1,((lay y (lay x out)).length:Int)-1⟩ j hj
   ·simp [go_sem,Zi]
theorem ZV:∀ (e:PT) (out:List PNode),out.length<(lay e out).length
 | .leaf _,out=>by simp [lay]
 | .grp e,out=>by have:=ZV e out;simp [lay];omega
 | .pre _ e,out=>by have:=ZV e out;simp [lay];omega
 | .post _ e,out=>by have:=ZV e out;simp [lay];omega
 | .inf _ x y,out=>by have:=ZV x out;have:=ZV y (lay x out);simp [lay];omega
def Xb:PT→Prop
 | .leaf _=>True
 | .grp e=>Xb e
 | .pre o e=>o.kind=1∧Xb e
 | .post o e=>o.kind=3∧Xb e
 | .inf o x y=>o.kind=2∧Xb x∧Xb y
theorem U8:∀ (e:PT) (out:List PNode),Xb e→(lay e out).length≤3000000→Wu e out
 | .leaf b,out,_,hl=>Zgv b out (by have:=ZV (.leaf b) out;omega)
 | .grp e,out,hk,hl=>by
  have h1:=ZV e out
  have h2:(lay e out).length<(lay (.grp e) out).length:=by simp [lay]
  exact ZeN e out (U8 e out hk (by omega)) (by omega) (by omega)
 | .pre o e,out,hk,hl=>by
  have h1:=ZV e out
  have h2:(lay e out).length<(lay (.pre o e) out).length:=by simp [lay]
  exact Zio o hk.1 e out (U8 e out hk.2 (by omega)) (by omega) (by omega)
 | .post o e,out,hk,hl=>by
  have h1:=ZV e out
  have h2:(lay e out).length<(lay (.post o e) out).length:=by simp [lay]
  exact Zgu o hk.1 e out (U8 e out hk.2 (by omega)) (by omega) (by omega)
 | .inf o x y,out,hk,hl=>by
  have h1:=ZV x out
  have h2:=ZV y (lay x out)
  have h3:(lay y (lay x out)).length<(lay (.inf o x y) out).length:=by simp [lay]
  exact Zip o hk.1 x y out (U8 x out hk.2.1 (by omega)) (U8 y (lay x out) hk.2.2 (by omega)) (by omega) (by omega) (by omega) (by omega)
end Go.Proofs.YtadghlfkddkelaaGreatDoor.V
namespace Go.Proofs.YtadghlfkddkelaaGreatDoor.V
open Go.RowKit
open Go.Proofs.YtadghlfkddkelaaGreatDoor.Ops (Tr Tk Lv Res Fit)
theorem Zgh {l:List POp} {t:List PTok} {n:Nat} (hu:W6 l) (hn:t.length=n+1) (h:∀ j,j<t.length→0≤ZB l t j (Yf l t j)) (hk7:(Zf t n).kind=7):∀ (m i d:Nat),i+m=n→(d:Int)=ZG t i→∃ ts:List TkP,Yv l t i ts∧Fit (!Yf l t i) d ts:=by
 intro m
 induction m with
 |zero=>
  intro i d hi hd
  obtain rfl:i=n:=by omega
  have hr:=h i (by omega)
  refine ⟨[],⟨by omega,hk7⟩,?_⟩
  cases hs:Yf l t i with
  |false=>rw [hs] at hr;simp [ZB,hk7] at hr
  |true=>
   rw [hs] at hr
   simp only [ZB,hk7] at hr
   simp at hr
   simp only [Bool.not_true,Fit]
   split at hr
   ·omega
   ·omega
 |succ m ih=>
  intro i d hi hd
  have hr:=h i (by omega)
  have nxt:∀ (st:Bool) (d':Nat),Yf l t (i+1)=st→(d':Int)=ZG t (i+1)→∃ ts:List TkP,Yv l t (i+1) ts∧Fit (!st) d' ts:=fun st d' h1 h2=>by
   obtain ⟨ts,g1,g2⟩:=ih (i+1) d' (by omega) h2
   rw [h1] at g2
   exact ⟨ts,g1,g2⟩
  cases hs:Yf l t i with
  |false=>
   rw [hs] at hr
   by_cases k12:(Zf t i).kind=1∨(Zf t i).kind=2
   ·obtain ⟨ts,g1,g2⟩:=nxt true d (by rcases k12 with e|e<;>simp [Yf,e]) (by rcases k12 with e|e<;>simp [ZG,e,hd])
    exact ⟨.leaf ((Zf t i).kind,(Zf t i).text)::ts,⟨⟨k12,rfl⟩,g1⟩,g2⟩
   ·by_cases k4:(Zf t i).kind=4
    ·obtain ⟨ts,g1,g2⟩:=nxt false (d+1) (by simp [Yf,k4]) (by simp [ZG,k4];omega)
     exact ⟨.opn::ts,⟨k4,g1⟩,g2⟩
    ·simp only [ZB,if_true] at hr
     rw [if_neg (by omega)] at hr
     split at hr
     ·rename_i h3
      obtain ⟨j,hj,e1,e2⟩:=(Xl l _ _).1 h3.2
      obtain ⟨ts,g1,g2⟩:=nxt false d (by simp [Yf,h3.1,hs]) (by simp [ZG,h3.1,hd])
      exact ⟨.pre (Zl l j)::ts,⟨⟨h3.1,e1,e2,j,hj,rfl⟩,g1⟩,g2⟩
     ·omega
  |true=>
   rw [hs] at hr
   simp only [ZB,Bool.true_eq_false,if_false] at hr
   split at hr
   ·rename_i h3
    obtain ⟨j,hj,e1,e2⟩:=(Xl l _ _).1 h3.2
    have no3:Z5 l (Zf t i).text 3=false:=by
     cases e:Z5 l (Zf t i).text 3 with
     |false=>rfl
     |true=>
      obtain ⟨j',hj',e1',e2'⟩:=(Xl l _ _).1 e
      have:=hu j j' hj hj' (by rw [e1,e1']) (by rw [e2,e2'];rfl)
      rw [this,e2'] at e2;omega
    obtain ⟨ts,g1,g2⟩:=nxt false d (by simp [Yf,h3.1,no3]) (by simp [ZG,h3.1,hd])
    exact ⟨.inf (Zl l j)::ts,⟨⟨h3.1,e1,e2,j,hj,rfl⟩,g1⟩,g2⟩
   ·split at hr
    ·rename_i h3
     obtain ⟨j,hj,e1,e2⟩:=(Xl l _ _).1 h3.2
     obtain ⟨ts,g1,g2⟩:=nxt true d (by simp [Yf,h3.1,hs,h3.2]) (by simp [ZG,h3.1,hd])
     exact ⟨.post (Zl l j)::ts,⟨⟨h3.1,e1,e2,j,hj,rfl⟩,g1⟩,g2⟩
    ·split at hr
     ·rename_i h5
      obtain ⟨ts,g1,g2⟩:=nxt true (d-1) (by simp [Yf,h5.1]) (by simp [ZG,h5.1];omega)
      refine ⟨.cls::ts,⟨h5.1,g1⟩,?_⟩
      obtain ⟨d',rfl⟩:∃ d',d=d'+1:=⟨d-1,by omega⟩
      simpa [Fit] using g2
     ·split at hr
      ·rename_i h7
       exfalso;omega
      ·exfalso;omega
theorem Zls {l:List POp} {t:List PTok} (hu:W6 l) (hr:(ZW l t).2=-1):∃ ts:List TkP,Yv l t 0 ts∧Fit true 0 ts:=by
 unfold ZW at hr
 split at hr
 ·simp at hr
 ·split at hr
  ·simp at hr
  ·rename_i hb
   split at hr
   ·rename_i he
    simp [V0] at he
    obtain ⟨n,hn⟩:∃ n,t.length=n+1:=⟨t.length-1,by have:t.length≠0:=fun e=>he.1 (List.eq_nil_of_length_eq_zero e);omega⟩
    have h0:∀ j,j<t.length→0≤ZB l t j (Yf l t j):=fun j hj=>by
     unfold Uz at hb
     rw [List.find?_eq_none] at hb
     have:=hb j (by simpa using hj)
     simp at this;exact this
    exact Zgh hu hn h0 (by have:=he.2;rw [hn] at this;simpa using this) n 0 0 (by omega) (by simp [ZG])
   ·simp at hr
theorem JP {l:List POp} (h:XM l=0) (j:Nat) (hj:j<l.length):Xx (Zl l j)=true:=by
 have:=Zcd h
 unfold Wc at this
 rw [List.all_eq_true] at this
 exact this j (by simpa using hj)
def InL (l:List POp) (o:POp):Prop:=∃ j,j<l.length∧Zl l j=o
theorem ZgH {l:List POp} (h:XM l=0):Ops.Good lvO (InL l):=by
 have hc:YN l 4=false:=by
  unfold XM at h
  cases hh:YN l 4
  ·rfl
  ·rw [hh] at h
   split at h
   ·cases h
   ·split at h
    ·cases h
    ·split at h
     ·cases h
     ·simp at h
 have no:∀ i j,i<l.length→j<i→XP (Zl l i) (Zl l j) 4=true→False:=fun i j hi hj hcl=>by
  have:=(XC l 4).2 ⟨i,hi,j,hj,hcl⟩
  rw [hc] at this
  cases this
 refine ⟨fun a ⟨j,hj,e⟩=>?_,fun a ⟨j,hj,e⟩=>?_,fun a b ⟨i,hi,e⟩ ⟨j,hj,e2⟩ hl=>?_⟩
 ·have:=JP h j hj
  rw [e] at this
  exact (Up this).1
 ·have:=JP h j hj
  rw [e] at this
  exact (Up this).2
 ·subst e;subst e2
  have hl':(Zl l i).level=(Zl l j).level:=hl
  show WA (Zl l i)=WA (Zl l j)
  rcases Nat.lt_trichotomy i j with hlt|rfl|hlt
  ·by_cases hs:WA (Zl l i)=WA (Zl l j)
   ·exact hs
   ·exact (no j i hj hlt (by simp [XP,hl',Ne.symm hs])).elim
  ·rfl
  ·by_cases hs:WA (Zl l i)=WA (Zl l j)
   ·exact hs
   ·exact (no i j hi hlt (by simp [XP,hl',hs])).elim
end Go.Proofs.YtadghlfkddkelaaGreatDoor.V
namespace Go.Proofs.YtadghlfkddkelaaGreatDoor.V
open Go.RowKit
open Go.Maps (Keyed)
def Kz (z:ByteArray) (k:Int) (o:POp):Bool:=decide (o.text=z)&&decide (o.kind=k)
def Zdj (l:List POp) (z:ByteArray) (k:Int):POp:=(l.find? (Kz z k)).getD noOp
theorem ZlR {l:List POp} {z:ByteArray} {k:Int}:∀ {i:Nat},i<l.length→Kz z k (Zl l i)=true→(∀ j,j<i→Kz z k (Zl l j)=false)→l.find? (Kz z k)=some (Zl l i):=by
 induction l with
 |nil=>intro i h;simp at h
 |cons a r ih=>
  intro i h h1 h2
  cases i with
  |zero=>
   have e:Zl (a::r) 0=a:=rfl
   rw [e] at h1 ⊢
   simp [List.find?_cons,h1]
  |succ i=>
   have e0:=h2 0 (by omega)
   have e:Zl (a::r) 0=a:=rfl
   have es:∀ j,Zl (a::r) (j+1)=Zl r j:=fun j=>rfl
   rw [e] at e0
   rw [List.find?_cons,e0]
   simp only [es] at h1 ⊢
   exact ih (by simpa using h) h1 fun j hj=>by
    have:=h2 (j+1) (by omega)
    rw [es] at this;exact this
theorem ZhB {l:List POp} {z:ByteArray} {k:Int} {i:Nat} (h:i<l.length) (h1:Kz z k (Zl l i)=true) (h2:∀ j,j<i→Kz z k (Zl l j)=false):Zdj l z k=Zl l i:=by
 unfold Zdj;rw [ZlR h h1 h2];rfl
theorem Zcs {l:List POp} {z:ByteArray} {k:Int} (h:Z5 l z k=true):∃ i,i<l.length∧Zdj l z k=Zl l i∧(Zl l i).text=z∧(Zl l i).kind=k:=by
 obtain ⟨j,hj,e1,e2⟩:=(Xl l z k).1 h
 have key:∀ n,(∃ j,j<n∧j<l.length∧Kz z k (Zl l j)=true)→∃ i,i<l.length∧Kz z k (Zl l i)=true∧∀ j,j<i→Kz z k (Zl l j)=false:=by
  intro n
  induction n with
  |zero=>rintro ⟨j,hj,_⟩;omega
  |succ n ih=>
   rintro ⟨j,hj,hl,h⟩
   by_cases hx:∃ j,j<n∧j<l.length∧Kz z k (Zl l j)=true
   ·exact ih hx
   ·refine ⟨j,hl,h,fun q hq=>?_⟩
    cases e:Kz z k (Zl l q) with
    |false=>rfl
    |true=>exact absurd ⟨q,by omega,by omega,e⟩ hx
 obtain ⟨i,hi,g1,g2⟩:=key (j+1) ⟨j,by omega,hj,by simp [Kz,e1,e2]⟩
 simp only [Kz,Bool.and_eq_true,decide_eq_true_eq] at g1
 exact ⟨i,hi,ZhB hi (by simp [Kz,g1]) g2,g1.1,g1.2⟩
theorem ZcH (l:List POp) (hl:l.length≤9223372036854775807) (z:ByteArray) (kd:Int):VFun Tryz.prog 130 [.agg [.sl 4 l.length (Za l)],.lit (.string z),.lit (.int .i64 kd)] (fun av obs=>obs=[]∧((av=.lit (.int .i64 (-1))∧Z5 l z kd=false)∨∃ i:Nat,av=.lit (.int .i64 i)∧i<l.length∧Z5 l z kd=true∧Zdj l z kd=Zl l i)):=by
 have cl:∀ (i:Nat) (c:AV),i<l.length→c∈Za l i→Closed c:=fun i c _ h=>Zo l i c h
 refine Zd Tryz.func130 (by kernel_rfl) rfl (by simp [Tryz.ntmps130]) ?_;simp only [Tryz.ntmps130,Tryz.results130];simp [go_sem]
 refine ZN (fun i:Nat=>i≤l.length∧∀ j,j<i→¬((Zl l j).text=z∧(Zl l j).kind=kd)) (fun i=>l.length-i) (fun i=>.of [(1,.lit (.string z)),(2,.lit (.int .i64 kd)),(3,.ptr 0 1 0 0),(7,.lit (.int .i64 i))] [some ⟨55,1,1,fun _=>[.sl 4 l.length (Za l)]⟩]) ⟨0,⟨by omega,by simp⟩,?_⟩ (fun i hi=>?_)
 ·simp [go_sem]
  exact cl
 ·simp [go_sem,YF,XQ]
  have step:¬((Zl l i).text=z∧(Zl l i).kind=kd)→∀ j,j<i+1→¬((Zl l j).text=z∧(Zl l j).kind=kd):=fun e j hj=>by
   rcases Nat.lt_succ_iff_lt_or_eq.mp hj with hj|rfl
   ·exact hi.2 j hj
   ·exact e
  refine ⟨by omega,fun h=>?_,fun h=>?_⟩
  ·have cl2:∀ (i:Nat) (c:AV),i<l.length→c=AV.lit (Value.string (Zl l i).text)∨c=AV.lit (Value.int IntKind.i64 (Zl l i).kind)∨c=AV.lit (Value.int IntKind.i64 (Zl l i).level)∨c=AV.lit (Value.int IntKind.i64 (Zl l i).side)→Closed c:=by
    rintro i c _ (rfl|rfl|rfl|rfl)<;>exact .lit _
   refine ⟨h,fun e1=>⟨h,fun e2=>?_,fun e2=>⟨i+1,⟨by omega,fun j hj e3 e4=>step (fun e5=>e2 e5.2) j hj ⟨e3,e4⟩⟩,by omega,Zj (by omega),cl2⟩⟩,fun e1=>⟨i+1,⟨by omega,fun j hj e3 e4=>step (fun e5=>e1 e5.1) j hj ⟨e3,e4⟩⟩,by omega,Zj (by omega),cl2⟩⟩
   refine ⟨i,rfl,h,(Xl l z kd).2 ⟨i,h,e1,e2⟩,ZhB h (by simp [Kz,e1,e2]) fun j hj=>?_⟩
   have:=hi.2 j hj
   simpa [Kz] using this
  ·simp only [Z5,List.any_eq_false,List.mem_range]
   exact fun j hj=>by
    have:=hi.2 j (by omega)
    simp only [Bool.and_eq_true,decide_eq_true_eq]
    exact this
def Wt (o:PNode):Bool:=decide (3≤o.kind∧o.kind≤5)
def JR (l:List POp) (n:PNode):POp:=Zdj l n.text (n.kind-2)
def ZbQ (l:List POp) (n:PNode):Int:=if Wt n then (JR l n).level else 1001
def UM (l:List POp) (t:List PNode) (i:Nat):Bool:=!Wt (Zz t i)||(decide (Q6 (JR l (Zz t i)) false≤ZbQ l (Zz t (Zz t i).a.toNat))&&(decide (Xv (Zz t i).kind=1)||decide (Q6 (JR l (Zz t i)) true≤ZbQ l (Zz t (Zz t i).b.toNat))))
theorem ZlI {l:List POp} (hw:XD l) {z:ByteArray} {k:Int} (h:Z5 l z k=true):(Zdj l z k).wf:=by
 obtain ⟨i,hi,e,_⟩:=Zcs h
 rw [e];exact hw i hi
theorem Zfw (o:PNode):VFun Tryz.prog 133 [.agg o.cells] (fun av obs=>obs=[]∧av=.lit (.bool (Wt o))):=by
 obtain ⟨z,k,x,y⟩:=o
 simp only [PNode.cells]
 refine Zd Tryz.func133 (by kernel_rfl) rfl (by simp [Tryz.ntmps133]) ?_;simp only [Tryz.ntmps133,Tryz.results133];simp [go_sem]
 simp [Wt]
 omega
theorem Zfv (l:List POp) (hl:l.length≤9223372036854775807) (n:PNode) (hk:Wt n=true) (h:Z5 l n.text (n.kind-2)=true):VFun Tryz.prog 134 [.agg [.sl 4 l.length (Za l)],.agg n.cells] (fun av obs=>obs=[]∧av=.agg (JR l n).cells):=by
 have cl:∀ (i:Nat) (c:AV),i<l.length→c∈Za l i→Closed c:=fun i c _ h=>Zo l i c h
 obtain ⟨z,k,x,y⟩:=n
 simp only [Wt,decide_eq_true_eq] at hk
 simp only [PNode.cells] at h ⊢
 have e1:IntKind.i64.wrap (k-2)=k-2:=wrap_i64 (by omega)
 refine Zd Tryz.func134 (by kernel_rfl) rfl (by simp [Tryz.ntmps134]) ?_;simp only [Tryz.ntmps134,Tryz.results134];simp [go_sem]
 refine Zn [11] (.q 0 <| .q 1 <| .q 2 <| .q 3 <| .q 4 <| .q 5 <| .q 6 <| .q 7 <| .or 8 (.q 9 <| .q 10 <| .or 11 (.done) (.nil)) (.nil)) (by kernel_rfl) ?_
 simp [go_sem,e1]
 refine Yk (ZcH l hl z (k-2)) ?_ ?_
 ·simp [go_sem]
  exact Zb (by omega) cl
 ·rintro av obs ⟨rfl,⟨rfl,hn⟩|⟨i,rfl,hi,_,he⟩⟩
  ·rw [h] at hn;cases hn
  ·simp [go_sem,YF]
   refine ⟨hi,?_⟩
   simp [JR,he,POp.cells]
theorem ZcG (l:List POp) (hl:l.length≤9223372036854775807) (n:PNode) (h:Wt n=true→Z5 l n.text (n.kind-2)=true):VFun Tryz.prog 135 [.agg [.sl 4 l.length (Za l)],.agg n.cells] (fun av obs=>obs=[]∧av=.lit (.int .i64 (ZbQ l n))):=by
 have cl:∀ (i:Nat) (c:AV),i<l.length→c∈Za l i→Closed c:=fun i c _ h=>Zo l i c h
 have c1:=Zfw n
 have c2:=Zfv l hl n
 simp only [PNode.cells,POp.cells] at c1 c2 ⊢
 refine Zd Tryz.func135 (by kernel_rfl) rfl (by simp [Tryz.ntmps135]) ?_;simp only [Tryz.ntmps135,Tryz.results135];simp [go_sem]
 refine Zc c1 ?_ ?_
 ·simp [go_sem]
 ·cases hk:Wt n with
  |true=>
   simp [go_sem]
   refine Ua (c2 hk (h hk)) ?_ ?_ ?_
   ·simp [go_sem]
    exact Zb (by omega) cl
   ·simp [go_sem]
   ·simp [go_sem,ZbQ,hk]
  |false=>simp [go_sem,ZbQ,hk]
theorem Zbq (l:List POp) (hl:l.length≤9223372036854775807) (hw:XD l) (t:List PNode) (ht:t.length≤9223372036854775807) (i:Nat) (hi:i<t.length) (ha:Wt (Zz t i)=true→Z5 l (Zz t i).text ((Zz t i).kind-2)=true∧(0≤(Zz t i).a∧(Zz t i).a<t.length)∧(Wt (Zz t (Zz t i).a.toNat)=true→Z5 l (Zz t (Zz t i).a.toNat).text ((Zz t (Zz t i).a.toNat).kind-2)=true)∧
  (Xv (Zz t i).kind≠1→(0≤(Zz t i).b∧(Zz t i).b<t.length)∧(Wt (Zz t (Zz t i).b.toNat)=true→Z5 l (Zz t (Zz t i).b.toNat).text ((Zz t (Zz t i).b.toNat).kind-2)=true))) :
  VFun Tryz.prog 102 [.agg [.sl 4 l.length (Za l)],.sl 4 t.length (ZE t),.lit (.int .i64 i)] (fun av obs=>obs=[]∧av=.lit (.bool (UM l t i))):=by
 have cl:∀ (i:Nat) (c:AV),i<l.length→c∈Za l i→Closed c:=fun i c _ h=>Zo l i c h
 have c1:=Zfw (Zz t i)
 have c2:=Zfv l hl (Zz t i)
 simp only [PNode.cells,POp.cells] at c1 c2
 refine Zd Tryz.func102 (by kernel_rfl) rfl (by simp [Tryz.ntmps102]) ?_;simp only [Tryz.ntmps102,Tryz.results102];simp [go_sem]
 simp [go_sem,W0]
 refine ⟨hi,Zc c1 ?_ ?_⟩
 ·simp [go_sem]
 ·cases hk:Wt (Zz t i) with
  |false=>simp [go_sem,UM,hk]
  |true=>
   obtain ⟨h1,h2,h3,h4⟩:=ha hk
   have howf:(JR l (Zz t i)).wf:=ZlI hw h1
   simp [go_sem]
   refine Ua (c2 hk h1) ?_ ?_ ?_
   ·simp [go_sem]
    exact Zb (by omega) cl
   ·simp [go_sem]
   ·simp [go_sem]
    refine Zn [] (.q 0 <| .q 1 <| .q 2 <| .q 3 <| .q 4 <| .q 5 <| .q 7 <| .or 6 (.or 8 (.q 9 <| .done) (.nil)) (.nil)) (by kernel_rfl) ?_
    simp [go_sem,W0]
    have c3:=ZcG l hl (Zz t (Zz t i).a.toNat) h3
    have c4:=Zk1 (JR l (Zz t i)) howf
    simp only [PNode.cells,POp.cells] at c3 c4
    refine ⟨h2.1,h2.2,Zv c3 ?_ ?_⟩
    ·simp [go_sem]
     exact Zb (by omega) cl
    ·simp [go_sem]
     refine Zv (c4 false) ?_ ?_
     ·simp [go_sem]
     ·simp [go_sem]
      refine ⟨fun h5=>by simp [UM,hk];omega,fun h5=>Zn [] (.q 0 <| .q 1 <| .or 2 (.q 3 <| .q 4 <| .q 5 <| .q 6 <| .q 7 <| .q 8 <| .q 9 <| .q 10 <| .q 12 <| .or 11 (.or 13 (.q 14 <| .q 15 <| .q 16 <| .done) (.nil)) (.nil)) (.nil)) (by kernel_rfl) ?_⟩
      simp [go_sem]
      refine Zv (Ka (Zz t i).kind) ?_ ?_
      ·simp [go_sem]
      ·by_cases hk1:Xv (Zz t i).kind=1
       ·simp [go_sem,hk1,UM,hk,h5]
       ·obtain ⟨h6,h7⟩:=h4 hk1
        have c5:=ZcG l hl (Zz t (Zz t i).b.toNat) h7
        simp only [PNode.cells] at c5
        simp [go_sem,hk1,W0]
        refine ⟨h6.1,h6.2,Zv c5 ?_ ?_⟩
        ·simp [go_sem]
         exact Zb (by omega) cl
        ·simp [go_sem]
         refine Zv (c4 true) ?_ ?_
         ·simp [go_sem]
         ·simp [go_sem,UM,hk,h5,hk1]
end Go.Proofs.YtadghlfkddkelaaGreatDoor.V
namespace Go.Proofs.YtadghlfkddkelaaGreatDoor.V
open Go.RowKit
open Go.Proofs.YtadghlfkddkelaaGreatDoor.Ops (Tr Tk Lv Res Fit)
theorem ZkY (l:List POp) (hl:l.length≤9223372036854775807) (t:List PTok) (ht:t.length≤1048576) (rs:List Int) (i:Nat) (hi:i<t.length) (hr:i<rs.length) (h:Z5 l (Zf t i).text (YA rs i)=true) :
  VFun Tryz.prog 132 [.agg [.sl 4 l.length (Za l)],.sl 3 t.length (Zk t),.sl 1 rs.length (Zy rs),.lit (.int .i64 i)] (fun av obs=>obs=[]∧av=.agg (Zdj l (Zf t i).text (YA rs i)).cells):=by
 have cl:∀ (i:Nat) (c:AV),i<l.length→c∈Za l i→Closed c:=fun i c _ h=>Zo l i c h
 have cf:=ZcH l hl (Zf t i).text (YA rs i)
 refine Zd Tryz.func132 (by kernel_rfl) rfl (by simp [Tryz.ntmps132]) ?_;simp only [Tryz.ntmps132,Tryz.results132];simp [go_sem]
 refine Zn [15] (.q 0 <| .q 1 <| .q 2 <| .q 3 <| .q 4 <| .q 5 <| .q 6 <| .q 7 <| .q 8 <| .q 9 <| .q 10 <| .q 11 <| .or 12 (.q 13 <| .q 14 <| .or 15 (.done) (.nil)) (.nil)) (by kernel_rfl) ?_
 simp [go_sem,Zg,ZT,hi,hr]
 refine Yk cf ?_ ?_
 ·simp [go_sem]
  exact Zb (by omega) cl
 ·rintro av obs ⟨rfl,⟨rfl,hn⟩|⟨q,rfl,hq,_,he⟩⟩
  ·rw [h] at hn;cases hn
  ·simp [go_sem,YF]
   refine ⟨hq,?_⟩
   simp [he,POp.cells]
def X7:TkP→Int
 | .pre _=>1
 | .inf _=>2
 | .post _=>3
 | _=>0
theorem XN {l:List POp} {o:POp} {z:ByteArray} (hu:W6 l) (h1:o.text=z) (hj:∃ j,j<l.length∧Zl l j=o):Z5 l z o.kind=true∧Zdj l z o.kind=o:=by
 obtain ⟨j,hj,rfl⟩:=hj
 have hh:Z5 l z (Zl l j).kind=true:=(Xl l z _).2 ⟨j,hj,h1,rfl⟩
 obtain ⟨i,hi,e1,e2,e3⟩:=Zcs hh
 exact ⟨hh,e1.trans (hu i j hi hj (by rw [e2,h1]) (by rw [e3]))⟩
def Xi (l:List POp) (t:List PTok) (rs:List Int):Nat→List TkP→Prop
 | _,[]=>True
 |i,tk::r=>UT l (Zf t i) tk∧YA rs i=X7 tk∧Xi l t rs (i+1) r
theorem UX {l:List POp} {t:List PTok} {rs:List Int}:∀ {s:List TkP} {i k:Nat} {tk:TkP},Xi l t rs i s→s[k]?=some tk→UT l (Zf t (i+k)) tk∧YA rs (i+k)=X7 tk
 |[],i,k,tk,_,h=>by simp at h
 |x::r,i,0,tk,hs,h=>by
  simp at h;subst h
  exact ⟨hs.1,hs.2.1⟩
 |x::r,i,k+1,tk,hs,h=>by
  have:=UX hs.2.2 (by simpa using h)
  rw [show i+(k+1)=i+1+k by omega];exact this
theorem Zj6 {l:List POp} {t:List PTok} {rs:List Int} (hu:W6 l) {s:List TkP} {i k:Nat} {tk:TkP} {o:POp} (hs:Xi l t rs i s) (h:s[k]?=some tk) (ho:tk.op?=some o):Z5 l (Zf t (i+k)).text (YA rs (i+k))=true∧Zdj l (Zf t (i+k)).text (YA rs (i+k))=o:=by
 obtain ⟨h1,h2⟩:=UX hs h
 rw [h2]
 cases tk with
 |pre o'=>
  simp [Tk.op?] at ho;subst ho
  have:=XN hu h1.2.1 h1.2.2.2
  rw [h1.2.2.1] at this;exact this
 |inf o'=>
  simp [Tk.op?] at ho;subst ho
  have:=XN hu h1.2.1 h1.2.2.2
  rw [h1.2.2.1] at this;exact this
 |post o'=>
  simp [Tk.op?] at ho;subst ho
  have:=XN hu h1.2.1 h1.2.2.2
  rw [h1.2.2.1] at this;exact this
 | _=>simp [Tk.op?] at ho
def VR (a:Nat):Option (Nat×POp)→Int
 |none=>-1
 |some x=>(a+x.1:Nat)
structure AtRoot (s:List TkP) (i:Nat) (d:Int) (best:Option (Nat×POp)):Prop where
 le:i≤s.length
 dle : -(i:Int)≤d∧d≤i
 run:Ops.root lvO s 0 0 none=Ops.root lvO (s.drop i) i d best
 has:∀ k o,best=some (k,o)→k<i∧∃ tk,s[k]?=some tk∧tk.op?=some o
theorem Zhr (tk:TkP) : -1≤tk.turn∧tk.turn≤1:=by cases tk<;>simp [Tk.turn]
theorem ZbD {s:List TkP} {i:Nat} {d:Int} {best:Option (Nat×POp)} {tk:TkP} (hk:s[i]?=some tk):Ops.root lvO (s.drop i) i d best=Ops.root lvO (tk::s.drop (i+1)) i d best:=by
 obtain ⟨hl,e⟩:=List.getElem?_eq_some_iff.1 hk
 rw [List.drop_eq_getElem_cons hl,e]
theorem ZfN {s:List TkP} {i:Nat} {d:Int} {best:Option (Nat×POp)} {tk:TkP} (h:AtRoot s i d best) (hk:s[i]?=some tk) (hc:d+tk.turn≠0∨tk.op?=none):AtRoot s (i+1) (d+tk.turn) best:=by
 have hl:=(List.getElem?_eq_some_iff.1 hk).1
 have ht:=Zhr tk
 have hd:=h.dle
 refine ⟨by omega,by omega,?_,fun k o e=>⟨by have:=(h.has k o e).1;omega,(h.has k o e).2⟩⟩
 rw [h.run,ZbD hk,Ops.root]
 split
 ·rename_i h0
  rcases hc with hc|hc
  ·exact absurd h0 hc
  ·rw [hc]
 ·rfl
theorem ZfM {s:List TkP} {i:Nat} {d:Int} {best:Option (Nat×POp)} {tk:TkP} {o:POp} (h:AtRoot s i d best) (hk:s[i]?=some tk) (h0:d+tk.turn=0) (ho:tk.op?=some o):AtRoot s (i+1) (d+tk.turn) (Ops.better lvO best (i,o)):=by
 have hl:=(List.getElem?_eq_some_iff.1 hk).1
 have ht:=Zhr tk
 have hd:=h.dle
 refine ⟨by omega,by omega,?_,fun k o' e=>?_⟩
 ·rw [h.run,ZbD hk,Ops.root,if_pos h0,ho]
 ·have new:∀ {k o'},some (i,o)=some (k,o')→k<i+1∧∃ tk,s[k]?=some tk∧tk.op?=some o':=fun e=>by
   simp at e
   obtain ⟨rfl,rfl⟩:=e
   exact ⟨by omega,tk,hk,ho⟩
  unfold Ops.better at e
  split at e
  ·exact new e
  ·rename_i b
   split at e
   ·exact new e
   ·have:=h.has k o' e
    exact ⟨by omega,this.2⟩
set_option maxRecDepth 100000 in
theorem Vd (l:List POp) (hl:l.length≤9223372036854775807) (hu:W6 l) (t:List PTok) (ht:t.length≤1048576) (rs:List Int) (hrs:rs.length=t.length) (a b:Nat) (s:List TkP) (hab:a+s.length=b) (hb:b≤t.length) (hs:Xi l t rs a s) :
  VFun Tryz.prog 101 [.agg [.sl 4 l.length (Za l)],.sl 3 t.length (Zk t),.sl 1 rs.length (Zy rs),.lit (.int .i64 a),.lit (.int .i64 b)] (fun av obs=>obs=[]∧av=.lit (.int .i64 (VR a (Ops.root lvO s 0 0 none)))):=by
 have cl:∀ (i:Nat) (c:AV),i<l.length→c∈Za l i→Closed c:=fun i c _ h=>Zo l i c h
 have clt:∀ (i:Nat) (c:AV),i<t.length→c∈Zk t i→Closed c:=fun i c _ h=>Zm t i c h
 have cli:∀ (i:Nat) (c:AV),i<rs.length→c∈Zy rs i→Closed c:=fun i c _ h=>Z8 rs i c h
 refine Zd Tryz.func101 (by kernel_rfl) rfl (by simp [Tryz.ntmps101]) ?_;simp only [Tryz.ntmps101,Tryz.results101];simp [go_sem]
 refine ZN (fun x:Nat×Int×Option (Nat×POp)=>a≤x.1∧AtRoot s (x.1-a) x.2.1 x.2.2) (fun x=>b-x.1) (fun x=>.of [(1,.sl 3 t.length (Zk t)),(2,.sl 1 rs.length (Zy rs)),(4,.lit (.int .i64 b)),(5,.ptr 0 1 0 0),(11,.lit (.int .i64 (VR a x.2.2))),(12,.lit (.int .i64 x.2.1)),(13,.lit (.int .i64 x.1))] [some ⟨55,1,1,fun _=>[.sl 4 l.length (Za l)]⟩]) ⟨(a,0,none),⟨Nat.le_refl _,by simp,by simp,by simp,fun k o h=>by cases h⟩,?_⟩ (fun x hx=>?_)
 ·simp [go_sem,VR]
  exact ⟨⟨clt,cli⟩,cl⟩
 ·obtain ⟨q,d,best⟩:=x
  obtain ⟨haq,hx⟩:=hx
  simp only at haq hx
  obtain ⟨i,hqi⟩:∃ i,q-a=i:=⟨_,rfl⟩
  rw [hqi] at hx
  have hle:=hx.le
  have hd:=hx.dle
  by_cases hlt:q<b
  ·obtain ⟨tk,htk⟩:∃ tk,s[i]?=some tk:=⟨_,List.getElem?_eq_getElem (by omega)⟩
   obtain ⟨hT,hR⟩:=UX hs htk
   rw [show a+i=q by omega] at hT hR
   have skip:=fun hc=>ZfN hx htk hc
   have take:=fun o h0 ho=>ZfM (o:=o) hx htk h0 ho
   have hqt:q<t.length:=by omega
   have ew:IntKind.i64.wrap ((q:Int)+1)=((q+1:Nat):Int):=Zj (by omega)
   have clt2:∀ (i:Nat) (c:AV),i<t.length→c=AV.lit (Value.int IntKind.i64 (Zf t i).kind)∨c=AV.lit (Value.string (Zf t i).gap)∨c=AV.lit (Value.string (Zf t i).text)→Closed c:=by
    rintro i c _ (rfl|rfl|rfl)<;>exact .lit _
   have out:∀ {best':Option (Nat×POp)} {d':Int},AtRoot s (i+1) d' best'→a≤q+1∧AtRoot s (q+1-a) d' best':=fun h=>⟨by omega,by rw [show q+1-a=i+1 by omega];exact h⟩
   have hcl:(∃ bb,tk=.leaf bb)∨tk=.opn∨tk=.cls∨∃ o,tk.op?=some o∧tk.turn=0∧(Zf t q).kind=3∧X7 tk≠0:=by
    cases tk with
    |leaf bb=>exact .inl ⟨bb,rfl⟩
    |opn=>exact .inr (.inl rfl)
    |cls=>exact .inr (.inr (.inl rfl))
    |pre o=>exact .inr (.inr (.inr ⟨o,rfl,rfl,hT.1,by simp [X7]⟩))
    |inf o=>exact .inr (.inr (.inr ⟨o,rfl,rfl,hT.1,by simp [X7]⟩))
    |post o=>exact .inr (.inr (.inr ⟨o,rfl,rfl,hT.1,by simp [X7]⟩))
   rcases hcl with ⟨bb,rfl⟩|rfl|rfl|⟨o,hop,htu,hk3,hr0⟩
   ·have k4:(Zf t q).kind≠4:=by have:=hT.1;omega
    have k5:(Zf t q).kind≠5:=by have:=hT.1;omega
    simp only [X7] at hR
    have sk:=out (skip (.inr rfl))
    simp only [Tk.turn,Int.add_zero] at sk
    by_cases h0:d=0
    ·subst h0
     simp [go_sem,Zg,ZT,hqt,hlt,k4,k5,hrs,hR]
     exact ⟨q+1,0,best,sk,by omega,⟨clt2,rfl,rfl,ew⟩,cl⟩
    ·simp [go_sem,Zg,ZT,hqt,hlt,k4,k5,h0,hrs,hR]
     exact ⟨q+1,d,best,sk,by omega,⟨clt2,rfl,rfl,ew⟩,cl⟩
   ·have k4:(Zf t q).kind=4:=hT
    simp only [X7] at hR
    have sk:=out (skip (.inr rfl))
    simp only [Tk.turn] at sk
    have wd:IntKind.i64.wrap (d+1)=d+1:=wrap_i64 (by omega)
    by_cases h0:d+1=0
    ·simp [go_sem,Zg,ZT,hqt,hlt,k4,wd,h0,hrs,hR]
     exact ⟨q+1,d+1,best,sk,by omega,⟨clt2,rfl,h0.symm,ew⟩,cl⟩
    ·simp [go_sem,Zg,ZT,hqt,hlt,k4,wd,h0,hrs,hR]
     exact ⟨q+1,d+1,best,sk,by omega,⟨clt2,rfl,rfl,ew⟩,cl⟩
   ·have k5:(Zf t q).kind=5:=hT
    simp only [X7] at hR
    have sk:=out (skip (.inr rfl))
    simp only [Tk.turn] at sk
    have wd:IntKind.i64.wrap (d-1)=d-1:=wrap_i64 (by omega)
    by_cases h0:d-1=0
    ·simp [go_sem,Zg,ZT,hqt,hlt,k5,wd,h0,hrs,hR]
     refine ⟨q+1,d+-1,best,sk,by omega,⟨clt2,rfl,?_,ew⟩,cl⟩
     first|omega|(rw [show IntKind.i64.wrap 0=0 by decide];omega)
    ·simp [go_sem,Zg,ZT,hqt,hlt,k5,wd,h0,hrs,hR]
     refine ⟨q+1,d+-1,best,sk,by omega,⟨clt2,rfl,?_,ew⟩,cl⟩
     first|omega|(rw [show IntKind.i64.wrap 0=0 by decide];omega)
   ·by_cases h0:d=0
    ·subst h0
     have tk1:=out (take o (by omega) hop)
     rw [htu,Int.add_zero] at tk1
     obtain ⟨ho1,ho2⟩:=Zj6 hu hs htk hop
     rw [show a+i=q by omega] at ho1 ho2
     have c1:=ZkY l hl t ht rs q hqt (by omega) ho1
     rw [ho2] at c1
     have c2:=Zbs o
     simp only [POp.cells] at c1 c2
     simp [go_sem,Zg,ZT,hqt,hlt,hk3,hrs,hR,hr0]
     refine Ua c1 ?_ ?_ ?_
     ·simp [go_sem,hrs]
      exact ⟨Zb (by omega) cl,Zb (by omega) clt,Zb (by omega) (fun i c hi h=>cli i c (by omega) h)⟩
     ·simp [go_sem]
     ·simp [go_sem]
      refine Zn [] (.q 0 <| .q 1 <| .q 2 <| .q 3 <| .q 4 <| .q 5 <| .q 6 <| .q 7 <| .q 8 <| .or 9 (.q 10 <| .q 11 <| .q 12 <| .q 13 <| .q 14 <| .q 15 <| .q 16 <| .q 17 <| .q 18 <| .q 19 <| .or 20 (.q 21 <| .q 22 <| .q 23 <| .q 24 <| .or 25 (.q 26 <| .q 27 <| .q 28 <| .done) (.nil)) (.nil)) (.nil)) (by kernel_rfl) ?_
      cases best with
      |none=>
       simp [go_sem,VR]
       exact ⟨q+1,0,some (i,o),tk1,by omega,⟨clt,fun i c hi h=>cli i c (by omega) h,by simp only;omega,rfl,ew⟩,cl⟩
      |some x=>
       obtain ⟨k,ob⟩:=x
       obtain ⟨hk1,tkb,hkb,hob⟩:=hx.has k ob rfl
       obtain ⟨hb1,hb2⟩:=Zj6 hu hs hkb hob
       have c3:=ZkY l hl t ht rs (a+k) (by omega) (by omega) hb1
       rw [hb2] at c3
       have eb:VR a (some (k,ob))=((a+k:Nat):Int):=rfl
       rw [eb]
       have hp1:a+k<t.length:=by omega
       generalize hp:a+k=p at *
       simp only [POp.cells] at c3
       have hp0:¬((p:Int)<0):=by omega
       have hp2:(0:Int)≤p:=by omega
       simp [go_sem,hp0,hp2]
       refine KX c3 ?_ ?_ ?_
       ·simp [go_sem,hrs]
        exact ⟨Zb (by omega) cl,Zb (by omega) clt,Zb (by omega) (fun i c hi h=>cli i c (by omega) h)⟩
       ·simp [go_sem]
       ·have stay:Ops.better lvO (some (k,ob)) (i,o)=some (k,ob)→a≤q+1∧AtRoot s (q+1-a) 0 (some (k,ob)):=fun e=>by rw [e] at tk1;exact tk1
        have turn:Ops.better lvO (some (k,ob)) (i,o)=some (i,o)→a≤q+1∧AtRoot s (q+1-a) 0 (some (i,o)):=fun e=>by rw [e] at tk1;exact tk1
        have eb2:VR a (some (i,o))=(q:Int):=by show ((a+i:Nat):Int)=_;omega
        have cli2:∀ (i:Nat) (c:AV),i<t.length→c∈Zy rs i→Closed c:=fun i c hi h=>cli i c (by omega) h
        by_cases hll:o.level<ob.level
        ·simp [go_sem,hll]
         exact ⟨q+1,0,some (i,o),turn (by unfold Ops.better;exact if_pos (.inl hll)),by omega,⟨clt,cli2,eb2.symm,rfl,ew⟩,cl⟩
        ·simp [go_sem,hll]
         refine KX c3 ?_ ?_ ?_
         ·simp [go_sem,hrs]
          exact ⟨Zb (by omega) cl,Zb (by omega) clt,Zb (by omega) cli2⟩
         ·simp [go_sem]
         ·by_cases he:o.level=ob.level
          ·simp [go_sem,he]
           refine Zv c2 ?_ ?_
           ·simp [go_sem,he]
           ·by_cases hs2:WA o=2
            ·simp [go_sem,hs2]
             exact ⟨q+1,0,some (k,ob),stay (by unfold Ops.better;exact if_neg (by rintro (h|⟨_,h⟩);exact hll h;exact h hs2)),by omega,⟨clt,cli2,eb.symm,rfl,ew⟩,cl⟩
            ·simp [go_sem,hs2]
             exact ⟨q+1,0,some (i,o),turn (by unfold Ops.better;exact if_pos (.inr ⟨he,hs2⟩)),by omega,⟨clt,cli2,eb2.symm,rfl,ew⟩,cl⟩
          ·simp [go_sem,he]
           exact ⟨q+1,0,some (k,ob),stay (by unfold Ops.better;exact if_neg (by rintro (h|⟨h,_⟩);exact hll h;exact he h)),by omega,⟨clt,cli2,eb.symm,rfl,ew⟩,cl⟩
    ·have sk:=out (skip (.inl (by rw [htu];omega)))
     rw [htu,Int.add_zero] at sk
     simp [go_sem,Zg,ZT,hqt,hlt,hk3,h0,hrs,hR]
     exact ⟨q+1,d,best,sk,by omega,⟨clt2,rfl,rfl,ew⟩,cl⟩
  ·simp [go_sem,hlt]
   have hi:i=s.length:=by omega
   have:=hx.run
   rw [hi,List.drop_length] at this
   rw [this]
   simp [Ops.root]
theorem Zkd {l:List POp} {t:List PTok} {n i:Nat} (h:i<n):YA (Yp l t n) i=ZB l t i (Yf l t i):=by
 simp [YA,Yp,List.getD_eq_getElem?_getD,List.getElem?_map,List.getElem?_range h]
theorem Zj7 {l:List POp} {t:List PTok} (hu:W6 l):∀ (ts:List TkP) (i d:Nat),Yv l t i ts→Fit (!Yf l t i) d ts→(d:Int)=ZG t i→Xi l t (Yp l t t.length) i ts
 |[],_,_,_,_,_=>trivial
 |tk::r,i,d,ht,hf,hd=>by
  have hi:i<t.length:=by have:=XX ht;simp only [List.length_cons] at this;omega
  obtain ⟨h1,h2⟩:=ht
  have nxt:∀ (st:Bool) (d':Nat),ZB l t i (Yf l t i)=X7 tk→Yf l t (i+1)=st→(d':Int)=ZG t (i+1)→Fit (!st) d' r→Xi l t (Yp l t t.length) i (tk::r):=fun st d' hr e1 e2 e3=>
   ⟨h1,by rw [Zkd hi];exact hr,Zj7 hu r (i+1) d' h2 (by rw [e1];exact e3) e2⟩
  have has:∀ {o:POp},o.text=(Zf t i).text→(∃ j,j<l.length∧Zl l j=o)→Z5 l (Zf t i).text o.kind=true:=fun {o} e ⟨j,hj,e2⟩=>(Xl l _ _).2 ⟨j,hj,by rw [e2];exact e,by rw [e2]⟩
  have hasno:∀ {o:POp} {k:Int},o.text=(Zf t i).text→(∃ j,j<l.length∧Zl l j=o)→o.kind≠1→k≠1→o.kind≠k→Z5 l (Zf t i).text k=false:=fun {o k} e ⟨j,hj,e2⟩ n1 n2 n3=>by
   cases hh:Z5 l (Zf t i).text k with
   |false=>rfl
   |true=>
    obtain ⟨j',hj',g1,g2⟩:=(Xl l _ _).1 hh
    have:=hu j j' hj hj' (by rw [e2,e,g1]) (by
     rw [e2,g2]
     have a1:(o.kind==1)=false:=by simpa using n1
     have a2:(k==1)=false:=by simpa using n2
     rw [a1,a2])
    rw [e2] at this
    rw [←this] at g2
    exact absurd g2 n3
  cases hs:Yf l t i with
  |false=>
   rw [hs] at hf
   cases tk with
   |leaf b=>
    refine nxt true d ?_ ?_ ?_ (by simpa [Fit] using hf)
    ·rw [hs];rcases h1.1 with e|e<;>simp [ZB,X7,e]
    ·rcases h1.1 with e|e<;>simp [Yf,e]
    ·rcases h1.1 with e|e<;>simp [ZG,e,hd]
   |opn=>
    have k4:(Zf t i).kind=4:=h1
    exact nxt false (d+1) (by rw [hs];simp [ZB,X7,k4]) (by simp [Yf,k4]) (by simp [ZG,k4];omega) (by simpa [Fit] using hf)
   |pre o=>
    have hh:=has h1.2.1 h1.2.2.2
    rw [h1.2.2.1] at hh
    exact nxt false d (by rw [hs];simp [ZB,X7,h1.1,hh]) (by simp [Yf,h1.1,hs]) (by simp [ZG,h1.1,hd]) (by simpa [Fit] using hf)
   |cls=>simp [Fit] at hf
   |inf o=>simp [Fit] at hf
   |post o=>simp [Fit] at hf
  |true=>
   rw [hs] at hf
   cases tk with
   |leaf b=>simp [Fit] at hf
   |opn=>simp [Fit] at hf
   |pre o=>simp [Fit] at hf
   |inf o=>
    have hh:=has h1.2.1 h1.2.2.2
    rw [h1.2.2.1] at hh
    have no:=hasno (k:=3) h1.2.1 h1.2.2.2 (by rw [h1.2.2.1];omega) (by omega) (by rw [h1.2.2.1];omega)
    exact nxt false d (by rw [hs];simp [ZB,X7,h1.1,hh]) (by simp [Yf,h1.1,hs,no]) (by simp [ZG,h1.1,hd]) (by simpa [Fit] using hf)
   |post o=>
    have hh:=has h1.2.1 h1.2.2.2
    rw [h1.2.2.1] at hh
    have no:=hasno (k:=2) h1.2.1 h1.2.2.2 (by rw [h1.2.2.1];omega) (by omega) (by rw [h1.2.2.1];omega)
    exact nxt true d (by rw [hs];simp [ZB,X7,h1.1,hh,no]) (by simp [Yf,h1.1,hs,hh]) (by simp [ZG,h1.1,hd]) (by simpa [Fit] using hf)
   |cls=>
    have k5:(Zf t i).kind=5:=h1
    cases d with
    |zero=>simp [Fit] at hf
    |succ d=>
     exact nxt true d (by rw [hs];simp [ZB,X7,k5];omega) (by simp [Yf,k5]) (by simp [ZG,k5];omega) (by simpa [Fit] using hf)
def YK:PT→Prop
 | .leaf b=>b.1=1∨b.1=2
 | .grp e=>YK e
 | .pre _ e=>YK e
 | .post _ e=>YK e
 | .inf _ x y=>YK x∧YK y
theorem Wa {T:List PNode} {nd:PNode}:Zz (T++[nd]) ((T++[nd]).length-1)=nd:=by
 simp [Zz,List.getD_eq_getElem?_getD]
theorem ZgD {l:List POp} (hu:W6 l) {o:POp} (hj:InL l o) (hk:1≤o.kind∧o.kind≤3) {nd:PNode} (h1:nd.text=o.text) (h2:nd.kind=o.kind+2):ZbQ l nd=o.level:=by
 obtain ⟨g1,g2⟩:=XN hu (z:=nd.text) h1.symm hj
 have e:nd.kind-2=o.kind:=by omega
 unfold ZbQ
 have hop:Wt nd=true:=by simp [Wt];omega
 rw [if_pos hop,JR,e,g2]
theorem JW {l:List POp} (hu:W6 l) (e:PT) (out:List PNode) (h1:YK e) (h2:e.All lvO (InL l)) (h3:Xb e):ZbQ l (Zz (lay e out) ((lay e out).length-1))=e.level lvO:=by
 cases e with
 |leaf b=>
  simp only [lay,Wa,Tr.level]
  have:Wt (⟨b.2,b.1,0,0⟩:PNode)=false:=by
   have h1':b.1=1∨b.1=2:=h1
   simp [Wt];omega
  unfold ZbQ
  rw [if_neg (by rw [this];simp)]
 |grp e=>
  simp only [lay,Wa,Tr.level]
  unfold ZbQ
  rw [if_neg (by simp [Wt])]
 |pre o e=>
  simp only [lay,Wa,Tr.level]
  exact ZgD hu h2.1 (by have:=h3.1;omega) rfl rfl
 |post o e=>
  simp only [lay,Wa,Tr.level]
  exact ZgD hu h2.1 (by have:=h3.1;omega) rfl rfl
 |inf o x y=>
  simp only [lay,Wa,Tr.level]
  exact ZgD hu h2.1 (by have:=h3.1;omega) rfl rfl
def Y7 (m:Nat) (out:List PNode) (r:Option PT) (av:AV) (mem:List (Option Ob)) (maps:List (Nat×Mp)):Prop:=match r with
 |some e=>av=.tup [.own 1,.lit (.bool true)]∧mem=[none,Zi (lay e out)]∧maps=[]
 |none=>∃ T:List PNode,T.length≤out.length+m∧((av=.tup [.own 1,.lit (.bool false)]∧mem=[none,Zi T]∧maps=[])∨(av=.tup [.own 0,.lit (.bool false)]∧mem=[Zi T]∧maps=[]))
theorem ZdU (l:List POp) (hl:l.length≤9223372036854775807) (hu:W6 l) (t:List PTok) (ht:t.length≤1048576) (rs:List Int) (hrs:rs.length=t.length) (a:Nat) (ha:a+1≤t.length) (b:Int×ByteArray) (hs:Xi l t rs a [.leaf b]) (out:List PNode) (ho:out.length≤2000000) :
  VProc Tryz.prog 73 [.agg [.sl 4 l.length (Za l)],.sl 3 t.length (Zk t),.sl 1 rs.length (Zy rs),.lit (.int .i64 a),.lit (.int .i64 (a+1:Nat)),.own 0] [Zi out] [] (Y7 1 out (some (.leaf b))):=by
 have cl:∀ (i:Nat) (c:AV),i<l.length→c∈Za l i→Closed c:=fun i c _ h=>Zo l i c h
 have clt:∀ (i:Nat) (c:AV),i<t.length→c∈Zk t i→Closed c:=fun i c _ h=>Zm t i c h
 have cli:∀ (i:Nat) (c:AV),i<rs.length→c∈Zy rs i→Closed c:=fun i c _ h=>Z8 rs i c h
 have cr:=Vd l hl hu t ht rs hrs a (a+1) [.leaf b] rfl ha hs
 have er:Ops.root lvO ([.leaf b]:List TkP) 0 0 none=none:=by simp [Ops.root,Tk.turn,Tk.op?]
 rw [er] at cr
 simp only [VR] at cr
 obtain ⟨⟨hk,hb⟩,_,_⟩:=hs
 have hat:a<t.length:=by omega
 refine Zu Tryz.func73 (by kernel_rfl) rfl (by simp [Tryz.ntmps73]) ?_;simp only [Tryz.ntmps73,Tryz.results73];simp [go_sem]
 refine Zc cr ?_ ?_
 ·simp [go_sem]
  exact ⟨Zb (by omega) cl,Zb (by omega) clt,Zb (by omega) cli⟩
 ·have k4:(Zf t a).kind≠4:=by omega
  rcases hk with hk|hk
  ·simp [go_sem,Zg,hat,hk,Zi]
   refine ⟨by omega,by omega,?_⟩
   refine ⟨rfl,[4],[none,Zi (lay (.leaf b) out)],by simp,by simp [go_sem],by simp [go_sem],?_,by simp [go_sem],?_⟩
   ·simp [go_sem,Zi]
    refine YT (o:=⟨(Zf t a).text,1,0,0⟩) (by rw [hb,hk];simp [lay]) fun j hj=>?_
    exact Xf out ⟨(Zf t a).text,1,0,0⟩ j hj
   ·simp [go_sem,Y7,Zi]
  ·simp [go_sem,Zg,hat,hk,Zi]
   refine ⟨by omega,by omega,?_⟩
   refine ⟨rfl,[4],[none,Zi (lay (.leaf b) out)],by simp,by simp [go_sem],by simp [go_sem],?_,by simp [go_sem],?_⟩
   ·simp [go_sem,Zi]
    refine YT (o:=⟨(Zf t a).text,2,0,0⟩) (by rw [hb,hk];simp [lay]) fun j hj=>?_
    exact Xf out ⟨(Zf t a).text,2,0,0⟩ j hj
   ·simp [go_sem,Y7,Zi]
theorem ZfH (l:List POp) (hl:l.length≤9223372036854775807) (hu:W6 l) (t:List PTok) (ht:t.length≤1048576) (rs:List Int) (hrs:rs.length=t.length) (a b:Nat) (s:List TkP) (hab:a+s.length=b) (hb:b≤t.length) (hs:Xi l t rs a s) (u:List TkP) (hsu:s=.opn::(u++[.cls])) (er:Ops.root lvO s 0 0 none=none) (out:List PNode) (ho:out.length≤2000000) (r:Option PT) (hr:∀ e,r=some e→(lay e out).length≤3000000)
  (ih:VProc Tryz.prog 73 [.agg [.sl 4 l.length (Za l)],.sl 3 t.length (Zk t),.sl 1 rs.length (Zy rs),.lit (.int .i64 (a+1:Nat)),.lit (.int .i64 (b-1:Nat)),.own 0] [Zi out] [] (Y7 u.length out r)) :
  VProc Tryz.prog 73 [.agg [.sl 4 l.length (Za l)],.sl 3 t.length (Zk t),.sl 1 rs.length (Zy rs),.lit (.int .i64 a),.lit (.int .i64 b),.own 0] [Zi out] [] (Y7 s.length out (r.map .grp)):=by
 have cl:∀ (i:Nat) (c:AV),i<l.length→c∈Za l i→Closed c:=fun i c _ h=>Zo l i c h
 have clt:∀ (i:Nat) (c:AV),i<t.length→c∈Zk t i→Closed c:=fun i c _ h=>Zm t i c h
 have cli:∀ (i:Nat) (c:AV),i<rs.length→c∈Zy rs i→Closed c:=fun i c _ h=>Z8 rs i c h
 have cr:=Vd l hl hu t ht rs hrs a b s hab hb hs
 rw [er] at cr
 simp only [VR] at cr
 have hlen:2≤s.length:=by rw [hsu];simp
 have hk:(Zf t a).kind=4:=by rw [hsu] at hs;exact hs.1
 have hat:a<t.length:=by omega
 have ew1:IntKind.i64.wrap ((a:Int)+1)=((a+1:Nat):Int):=Zj (by omega)
 have ew2:IntKind.i64.wrap ((b:Int)-1)=((b-1:Nat):Int):=by rw [wrap_i64 (by omega)];omega
 refine Zu Tryz.func73 (by kernel_rfl) rfl (by simp [Tryz.ntmps73]) ?_;simp only [Tryz.ntmps73,Tryz.results73];simp [go_sem]
 refine Zc cr ?_ ?_
 ·simp [go_sem]
  exact ⟨Zb (by omega) cl,Zb (by omega) clt,Zb (by omega) cli⟩
 ·simp [go_sem,Zg,hat,hk,ew1,ew2]
  refine Zx [0] ih (by simp) ?_ ?_ trivial ?_
  ·simp [go_sem]
   exact ⟨cl,clt,cli⟩
  ·simp [go_sem,Zi]
   exact fun i _=>ZK (Xc _ i)
  ·intro av mem maps hB
   cases r with
   |some e=>
    obtain ⟨rfl,rfl,rfl⟩:=hB
    have h1:=hr e rfl
    have h0:=ZV e out
    have ew:IntKind.i64.wrap (((lay e out).length:Int)-1)=((lay e out).length:Int)-1:=wrap_i64 (by omega)
    simp [go_sem,Zi,ew]
    refine ⟨by omega,by omega,by omega,?_⟩
    refine ⟨rfl,[4],[none,Zi (lay (.grp e) out)],by simp,by simp [go_sem],by simp [go_sem],?_,by simp [go_sem],?_⟩
    ·simp [go_sem,Zi]
     refine YT (o:=⟨⟨#[]⟩,6,((lay e out).length:Int)-1,0⟩) (by simp [lay]) fun j hj=>?_
     exact Xf (lay e out) ⟨⟨#[]⟩,6,((lay e out).length:Int)-1,0⟩ j hj
    ·simp [go_sem,Y7,Zi]
   |none=>
    have hsl:s.length=u.length+2:=by rw [hsu];simp
    obtain ⟨T,hT,hB⟩:=hB
    have ew:IntKind.i64.wrap ((T.length:Int)-1)=(T.length:Int)-1:=wrap_i64 (by omega)
    rcases hB with ⟨rfl,rfl,rfl⟩|⟨rfl,rfl,rfl⟩
    ·simp [go_sem,Zi,ew]
     refine ⟨by omega,by omega,by omega,?_⟩
     obtain ⟨T2,hT2⟩:∃ T2,T2=T++[(⟨⟨#[]⟩,6,(T.length:Int)-1,0⟩:PNode)]:=⟨_,rfl⟩
     have hl2:T2.length=T.length+1:=by rw [hT2];simp
     refine ⟨rfl,[4],[none,Zi T2],by simp,by simp [go_sem],by simp [go_sem],?_,by simp [go_sem],?_⟩
     ·simp [go_sem,Zi]
      refine YT (o:=⟨⟨#[]⟩,6,(T.length:Int)-1,0⟩) hT2 fun j hj=>?_
      exact Xf T ⟨⟨#[]⟩,6,(T.length:Int)-1,0⟩ j hj
     ·simp [go_sem]
      exact ⟨T2,by omega,.inl ⟨rfl,rfl,rfl⟩⟩
    ·simp [go_sem,Zi,ew]
     refine ⟨by omega,by omega,by omega,?_⟩
     obtain ⟨T2,hT2⟩:∃ T2,T2=T++[(⟨⟨#[]⟩,6,(T.length:Int)-1,0⟩:PNode)]:=⟨_,rfl⟩
     have hl2:T2.length=T.length+1:=by rw [hT2];simp
     refine ⟨rfl,[3],[none,Zi T2],by simp,by simp [go_sem],by simp [go_sem],?_,by simp [go_sem],?_⟩
     ·simp [go_sem,Zi]
      refine YT (o:=⟨⟨#[]⟩,6,(T.length:Int)-1,0⟩) hT2 fun j hj=>?_
      exact Xf T ⟨⟨#[]⟩,6,(T.length:Int)-1,0⟩ j hj
     ·simp [go_sem]
      exact ⟨T2,by omega,.inl ⟨rfl,rfl,rfl⟩⟩
theorem GE (l:List POp) (hl:l.length≤9223372036854775807) (hu:W6 l) (t:List PTok) (ht:t.length≤1048576) (rs:List Int) (hrs:rs.length=t.length) (a b:Nat) (s:List TkP) (hab:a+s.length=b) (hb:b≤t.length) (hs:Xi l t rs a s) (k:Nat) (o:POp) (er:Ops.root lvO s 0 0 none=some (k,o)) (tk:TkP) (hk:s[k]?=some tk) (hbad:(tk=.pre o∧k≠0)∨(tk=.post o∧k+1≠s.length)) (out:List PNode) (ho:out.length≤2000000) :
  VProc Tryz.prog 73 [.agg [.sl 4 l.length (Za l)],.sl 3 t.length (Zk t),.sl 1 rs.length (Zy rs),.lit (.int .i64 a),.lit (.int .i64 b),.own 0] [Zi out] [] (Y7 s.length out none):=by
 have cl:∀ (i:Nat) (c:AV),i<l.length→c∈Za l i→Closed c:=fun i c _ h=>Zo l i c h
 have clt:∀ (i:Nat) (c:AV),i<t.length→c∈Zk t i→Closed c:=fun i c _ h=>Zm t i c h
 have cli:∀ (i:Nat) (c:AV),i<rs.length→c∈Zy rs i→Closed c:=fun i c _ h=>Z8 rs i c h
 have cr:=Vd l hl hu t ht rs hrs a b s hab hb hs
 rw [er] at cr
 have eb:VR a (some (k,o))=((a+k:Nat):Int):=rfl
 rw [eb] at cr
 have hlt:=(List.getElem?_eq_some_iff.1 hk).1
 obtain ⟨_,hr⟩:=UX hs hk
 have hp:a+k<t.length:=by omega
 obtain ⟨p,hp'⟩:∃ p,a+k=p:=⟨_,rfl⟩
 rw [hp'] at cr hr hp
 have hp0:¬((p:Int)<0):=by omega
 have hp2:p<rs.length:=by omega
 refine Zu Tryz.func73 (by kernel_rfl) rfl (by simp [Tryz.ntmps73]) ?_;simp only [Tryz.ntmps73,Tryz.results73];simp [go_sem]
 refine Zc cr ?_ ?_
 ·simp [go_sem]
  exact ⟨Zb (by omega) cl,Zb (by omega) clt,Zb (by omega) cli⟩
 ·simp [go_sem,hp0]
  refine Zn [12] (.q 0 <| .q 1 <| .q 2 <| .q 3 <| .q 4 <| .q 5 <| .q 6 <| .q 7 <| .q 8 <| .q 9 <| .q 10 <| .or 11 (.or 12 (.done) (.nil)) (.nil)) (by kernel_rfl) ?_
  rcases hbad with ⟨rfl,hk0⟩|⟨rfl,hk0⟩
  ·have w:IntKind.i64.wrap 3=3:=by decide
   have hne:¬(p:Int)=(a:Int):=by omega
   have hbn:((p:Int) != (a:Int))=true:=by simp;omega
   simp only [X7] at hr
   simp [go_sem,Zg,ZT,hp,hp2,hr,w,hne,hbn,Zi]
   refine ⟨rfl,[],[Zi out],by simp,by simp [go_sem],by simp [go_sem],?_,by simp [go_sem],?_⟩
   ·simp [go_sem,Zi]
    exact XG rfl fun j _=>rfl
   ·simp [go_sem]
    exact ⟨out,by omega,.inr ⟨rfl,rfl,rfl⟩⟩
  ·have w:IntKind.i64.wrap 5=5:=by decide
   have wb:IntKind.i64.wrap ((b:Int)-1)=(b:Int)-1:=wrap_i64 (by omega)
   have hne:¬(p:Int)=(b:Int)-1:=by omega
   have hbn:((p:Int) != (b:Int)-1)=true:=by simp;omega
   simp only [X7] at hr
   simp [go_sem,Zg,ZT,hp,hp2,hr,w,wb,hne,hbn,Zi]
   refine ⟨rfl,[],[Zi out],by simp,by simp [go_sem],by simp [go_sem],?_,by simp [go_sem],?_⟩
   ·simp [go_sem,Zi]
    exact XG rfl fun j _=>rfl
   ·simp [go_sem]
    exact ⟨out,by omega,.inr ⟨rfl,rfl,rfl⟩⟩
theorem HV (l:List POp) (hl:l.length≤9223372036854775807) (hu:W6 l) (t:List PTok) (ht:t.length≤1048576) (rs:List Int) (hrs:rs.length=t.length) (a b:Nat) (s:List TkP) (hab:a+s.length=b) (hb:b≤t.length) (hs:Xi l t rs a s) (o:POp) (er:Ops.root lvO s 0 0 none=some (0,o)) (hk:s[0]?=some (.pre o)) (out:List PNode) (ho:out.length≤2000000)
  (ih:VProc Tryz.prog 73 [.agg [.sl 4 l.length (Za l)],.sl 3 t.length (Zk t),.sl 1 rs.length (Zy rs),.lit (.int .i64 (a+1:Nat)),.lit (.int .i64 b),.own 0] [Zi out] [] (Y7 (s.length-1) out none)) :
  VProc Tryz.prog 73 [.agg [.sl 4 l.length (Za l)],.sl 3 t.length (Zk t),.sl 1 rs.length (Zy rs),.lit (.int .i64 a),.lit (.int .i64 b),.own 0] [Zi out] [] (Y7 s.length out none):=by
 have cl:∀ (i:Nat) (c:AV),i<l.length→c∈Za l i→Closed c:=fun i c _ h=>Zo l i c h
 have clt:∀ (i:Nat) (c:AV),i<t.length→c∈Zk t i→Closed c:=fun i c _ h=>Zm t i c h
 have cli:∀ (i:Nat) (c:AV),i<rs.length→c∈Zy rs i→Closed c:=fun i c _ h=>Z8 rs i c h
 have cr:=Vd l hl hu t ht rs hrs a b s hab hb hs
 rw [er] at cr
 have eb:VR a (some (0,o))=(a:Int):=by simp [VR]
 rw [eb] at cr
 have hlt:=(List.getElem?_eq_some_iff.1 hk).1
 obtain ⟨_,hr⟩:=UX hs hk
 simp only [Nat.add_zero,X7] at hr
 have hp:a<t.length:=by omega
 have hp0:¬((a:Int)<0):=by omega
 have hp2:a<rs.length:=by omega
 have w:IntKind.i64.wrap 3=3:=by decide
 have ew1:IntKind.i64.wrap ((a:Int)+1)=((a+1:Nat):Int):=Zj (by omega)
 refine Zu Tryz.func73 (by kernel_rfl) rfl (by simp [Tryz.ntmps73]) ?_;simp only [Tryz.ntmps73,Tryz.results73];simp [go_sem]
 refine Zc cr ?_ ?_
 ·simp [go_sem]
  exact ⟨Zb (by omega) cl,Zb (by omega) clt,Zb (by omega) cli⟩
 ·simp [go_sem,hp0]
  refine Zn [12] (.q 0 <| .q 1 <| .q 2 <| .q 3 <| .q 4 <| .q 5 <| .q 6 <| .q 7 <| .q 8 <| .q 9 <| .q 10 <| .or 11 (.or 12 (.done) (.nil)) (.nil)) (by kernel_rfl) ?_
  simp [go_sem,Zg,ZT,hp,hp2,hr,w,ew1,Zi]
  refine Zx [0] ih (by simp) ?_ ?_ trivial ?_
  ·simp [go_sem]
   exact ⟨cl,clt,cli⟩
  ·simp [go_sem,Zi]
   exact fun i _=>ZK (Xc _ i)
  ·rintro av mem maps ⟨T,hT,hB⟩
   rcases hB with ⟨rfl,rfl,rfl⟩|⟨rfl,rfl,rfl⟩
   ·simp [go_sem,Zi]
    refine ⟨rfl,[3],[none,Zi T],by simp,by simp [go_sem],by simp [go_sem],?_,by simp [go_sem],?_⟩
    ·simp [go_sem,Zi]
     exact XG rfl fun j _=>rfl
    ·simp [go_sem]
     exact ⟨T,by omega,.inl ⟨rfl,rfl,rfl⟩⟩
   ·simp [go_sem,Zi]
    refine ⟨rfl,[],[Zi T],by simp,by simp [go_sem],by simp [go_sem],?_,by simp [go_sem],?_⟩
    ·simp [go_sem,Zi]
     exact XG rfl fun j _=>rfl
    ·simp [go_sem]
     exact ⟨T,by omega,.inr ⟨rfl,rfl,rfl⟩⟩
theorem YU {T:List PNode} {nd:PNode} {i:Nat} (h:i<T.length):Zz (T++[nd]) i=Zz T i:=by
 simp [Zz,List.getD_eq_getElem?_getD,List.getElem?_append_left h]
theorem Vs {T:List PNode} {nd:PNode}:Zz (T++[nd]) T.length=nd:=by
 simp [Zz,List.getD_eq_getElem?_getD]
theorem ZkM {l:List POp} (hu:W6 l) {o:POp} (hj:InL l o) (hok:Xx o=true) (hk:o.kind=1) (e:PT) (out:List PNode) (h1:YK e) (h2:e.All lvO (InL l)) (h3:Xb e) :
  UM l (lay e out++[⟨o.text,3,((lay e out).length:Int)-1,0⟩]) (lay e out).length=decide ((lvO o).h2≤e.level lvO):=by
 have hg:=ZV e out
 have hl:=JW hu e out h1 h2 h3
 obtain ⟨g1,g2⟩:=XN hu (z:=o.text) rfl hj
 rw [hk] at g2
 have hn:Zz (lay e out++[(⟨o.text,3,((lay e out).length:Int)-1,0⟩:PNode)]) (lay e out).length=⟨o.text,3,((lay e out).length:Int)-1,0⟩:=Vs
 have ha:(((lay e out).length:Int)-1).toNat=(lay e out).length-1:=by omega
 unfold UM
 rw [hn]
 simp only [ha]
 rw [YU (by omega),hl]
 have hd:JR l ⟨o.text,3,((lay e out).length:Int)-1,0⟩=o:=by simp only [JR];exact g2
 rw [hd,Ze4 hok hk]
 simp [Wt,Xv]
theorem ZiP {l:List POp} (hu:W6 l) {o:POp} (hj:InL l o) (hok:Xx o=true) (hk:o.kind=3) (e:PT) (out:List PNode) (h1:YK e) (h2:e.All lvO (InL l)) (h3:Xb e) :
  UM l (lay e out++[⟨o.text,5,((lay e out).length:Int)-1,0⟩]) (lay e out).length=decide ((lvO o).h1≤e.level lvO):=by
 have hg:=ZV e out
 have hl:=JW hu e out h1 h2 h3
 obtain ⟨g1,g2⟩:=XN hu (z:=o.text) rfl hj
 rw [hk] at g2
 have hn:Zz (lay e out++[(⟨o.text,5,((lay e out).length:Int)-1,0⟩:PNode)]) (lay e out).length=⟨o.text,5,((lay e out).length:Int)-1,0⟩:=Vs
 have ha:(((lay e out).length:Int)-1).toNat=(lay e out).length-1:=by omega
 unfold UM
 rw [hn]
 simp only [ha]
 rw [YU (by omega),hl]
 have hd:JR l ⟨o.text,5,((lay e out).length:Int)-1,0⟩=o:=by simp only [JR];exact g2
 rw [hd,G6 hok (by omega)]
 simp [Wt,Xv]
theorem Qv:∀ (e:PT) (out:List PNode) (i:Nat),i<out.length→Zz (lay e out) i=Zz out i
 | .leaf b,out,i,h=>by simp only [lay];exact YU h
 | .grp e,out,i,h=>by
  have:=ZV e out
  simp only [lay];rw [YU (by omega)];exact Qv e out i h
 | .pre o e,out,i,h=>by
  have:=ZV e out
  simp only [lay];rw [YU (by omega)];exact Qv e out i h
 | .post o e,out,i,h=>by
  have:=ZV e out
  simp only [lay];rw [YU (by omega)];exact Qv e out i h
 | .inf o x y,out,i,h=>by
  have:=ZV x out
  have:=ZV y (lay x out)
  simp only [lay];rw [YU (by omega),Qv y (lay x out) i (by omega)];exact Qv x out i h
theorem ZkN {l:List POp} (hu:W6 l) {o:POp} (hj:InL l o) (hok:Xx o=true) (hk:o.kind=2) (x y:PT) (out:List PNode) (h1:YK x) (h2:x.All lvO (InL l)) (h3:Xb x) (q1:YK y) (q2:y.All lvO (InL l)) (q3:Xb y) :
  UM l (lay y (lay x out)++[⟨o.text,4,((lay x out).length:Int)-1,((lay y (lay x out)).length:Int)-1⟩]) (lay y (lay x out)).length=decide ((lvO o).h1≤x.level lvO∧(lvO o).h2≤y.level lvO):=by
 have hg:=ZV x out
 have hg2:=ZV y (lay x out)
 have hl:=JW hu x out h1 h2 h3
 have hl2:=JW hu y (lay x out) q1 q2 q3
 obtain ⟨g1,g2⟩:=XN hu (z:=o.text) rfl hj
 rw [hk] at g2
 have hn:Zz (lay y (lay x out)++[(⟨o.text,4,((lay x out).length:Int)-1,((lay y (lay x out)).length:Int)-1⟩:PNode)]) (lay y (lay x out)).length=⟨o.text,4,((lay x out).length:Int)-1,((lay y (lay x out)).length:Int)-1⟩:=Vs
 have ha:(((lay x out).length:Int)-1).toNat=(lay x out).length-1:=by omega
 have hb:(((lay y (lay x out)).length:Int)-1).toNat=(lay y (lay x out)).length-1:=by omega
 unfold UM
 rw [hn]
 simp only [ha,hb]
 rw [YU (by omega),YU (by omega),hl2,Qv y (lay x out) _ (by omega),hl]
 have hd:JR l ⟨o.text,4,((lay x out).length:Int)-1,((lay y (lay x out)).length:Int)-1⟩=o:=by simp only [JR];exact g2
 rw [hd,G6 hok (by omega),J0 hok hk]
 simp [Wt,Xv]
theorem UQ (l:List POp) (hl:l.length≤9223372036854775807) (hu:W6 l) (t:List PTok) (ht:t.length≤1048576) (rs:List Int) (hrs:rs.length=t.length) (a b:Nat) (s:List TkP) (hab:a+s.length=b) (hb:b≤t.length) (hs:Xi l t rs a s) (k:Nat) (o:POp) (er:Ops.root lvO s 0 0 none=some (k,o)) (tk:TkP) (hk:s[k]?=some tk) (htk:tk=.inf o∨(tk=.post o∧k+1=s.length)) (out:List PNode) (ho:out.length≤2000000)
  (ih:VProc Tryz.prog 73 [.agg [.sl 4 l.length (Za l)],.sl 3 t.length (Zk t),.sl 1 rs.length (Zy rs),.lit (.int .i64 a),.lit (.int .i64 (a+k:Nat)),.own 0] [Zi out] [] (Y7 k out none)) :
  VProc Tryz.prog 73 [.agg [.sl 4 l.length (Za l)],.sl 3 t.length (Zk t),.sl 1 rs.length (Zy rs),.lit (.int .i64 a),.lit (.int .i64 b),.own 0] [Zi out] [] (Y7 s.length out none):=by
 have cl:∀ (i:Nat) (c:AV),i<l.length→c∈Za l i→Closed c:=fun i c _ h=>Zo l i c h
 have clt:∀ (i:Nat) (c:AV),i<t.length→c∈Zk t i→Closed c:=fun i c _ h=>Zm t i c h
 have cli:∀ (i:Nat) (c:AV),i<rs.length→c∈Zy rs i→Closed c:=fun i c _ h=>Z8 rs i c h
 have cr:=Vd l hl hu t ht rs hrs a b s hab hb hs
 rw [er] at cr
 have eb:VR a (some (k,o))=((a+k:Nat):Int):=rfl
 rw [eb] at cr
 have hlt:=(List.getElem?_eq_some_iff.1 hk).1
 obtain ⟨_,hr⟩:=UX hs hk
 have hp:a+k<t.length:=by omega
 obtain ⟨p,hp'⟩:∃ p,a+k=p:=⟨_,rfl⟩
 rw [hp'] at cr hr hp ih
 have hp0:¬((p:Int)<0):=by omega
 have hp2:p<rs.length:=by omega
 have w4:IntKind.i64.wrap 4=4:=by decide
 have w5:IntKind.i64.wrap 5=5:=by decide
 have wb:IntKind.i64.wrap ((b:Int)-1)=(b:Int)-1:=wrap_i64 (by omega)
 refine Zu Tryz.func73 (by kernel_rfl) rfl (by simp [Tryz.ntmps73]) ?_;simp only [Tryz.ntmps73,Tryz.results73];simp [go_sem]
 refine Zc cr ?_ ?_
 ·simp [go_sem]
  exact ⟨Zb (by omega) cl,Zb (by omega) clt,Zb (by omega) cli⟩
 ·simp [go_sem,hp0]
  refine Zn [12] (.q 0 <| .q 1 <| .q 2 <| .q 3 <| .q 4 <| .q 5 <| .q 6 <| .q 7 <| .q 8 <| .q 9 <| .q 10 <| .or 11 (.or 12 (.done) (.nil)) (.nil)) (by kernel_rfl) ?_
  rcases htk with rfl|⟨rfl,hke⟩
  ·simp only [X7] at hr
   simp [go_sem,Zg,ZT,hp,hp2,hr,w4,Zi]
   refine Zx [0] ih (by simp) ?_ ?_ trivial ?_
   ·simp [go_sem]
    exact ⟨cl,clt,cli⟩
   ·simp [go_sem,Zi]
    exact fun i _=>ZK (Xc _ i)
   ·rintro av mem maps ⟨T,hT,hB⟩
    rcases hB with ⟨rfl,rfl,rfl⟩|⟨rfl,rfl,rfl⟩
    ·simp [go_sem,Zi]
     refine ⟨rfl,[3],[none,Zi T],by simp,by simp [go_sem],by simp [go_sem],?_,by simp [go_sem],?_⟩
     ·simp [go_sem,Zi]
      exact XG rfl fun j _=>rfl
     ·simp [go_sem]
      exact ⟨T,by omega,.inl ⟨rfl,rfl,rfl⟩⟩
    ·simp [go_sem,Zi]
     refine ⟨rfl,[],[Zi T],by simp,by simp [go_sem],by simp [go_sem],?_,by simp [go_sem],?_⟩
     ·simp [go_sem,Zi]
      exact XG rfl fun j _=>rfl
     ·simp [go_sem]
      exact ⟨T,by omega,.inr ⟨rfl,rfl,rfl⟩⟩
  ·simp only [X7] at hr
   have hpb:IntKind.i64.wrap ((b:Int)-1)=(p:Int):=by rw [wb];omega
   simp [go_sem,Zg,ZT,hp,hp2,hr,w5,hpb,Zi]
   refine Zx [0] ih (by simp) ?_ ?_ trivial ?_
   ·simp [go_sem]
    exact ⟨cl,clt,cli⟩
   ·simp [go_sem,Zi]
    exact fun i _=>ZK (Xc _ i)
   ·rintro av mem maps ⟨T,hT,hB⟩
    rcases hB with ⟨rfl,rfl,rfl⟩|⟨rfl,rfl,rfl⟩
    ·simp [go_sem,Zi]
     refine ⟨rfl,[3],[none,Zi T],by simp,by simp [go_sem],by simp [go_sem],?_,by simp [go_sem],?_⟩
     ·simp [go_sem,Zi]
      exact XG rfl fun j _=>rfl
     ·simp [go_sem]
      exact ⟨T,by omega,.inl ⟨rfl,rfl,rfl⟩⟩
    ·simp [go_sem,Zi]
     refine ⟨rfl,[],[Zi T],by simp,by simp [go_sem],by simp [go_sem],?_,by simp [go_sem],?_⟩
     ·simp [go_sem,Zi]
      exact XG rfl fun j _=>rfl
     ·simp [go_sem]
      exact ⟨T,by omega,.inr ⟨rfl,rfl,rfl⟩⟩
theorem J1 {l:List POp} (hu:W6 l) (e:PT) (out:List PNode) (h1:YK e) (h2:e.All lvO (InL l)) (h3:Xb e) (h:Wt (Zz (lay e out) ((lay e out).length-1))=true):Z5 l (Zz (lay e out) ((lay e out).length-1)).text ((Zz (lay e out) ((lay e out).length-1)).kind-2)=true:=by
 have one:∀ {o:POp},InL l o→Z5 l o.text (o.kind+2-2)=true:=fun {o} hj=>by
  rw [show o.kind+2-2=o.kind by omega]
  exact (XN hu rfl hj).1
 cases e with
 |leaf b=>
  simp only [lay,Wa] at h
  have h1':b.1=1∨b.1=2:=h1
  simp [Wt] at h;omega
 |grp e=>simp only [lay,Wa] at h;simp [Wt] at h
 |pre o e=>simp only [lay,Wa];exact one h2.1
 |post o e=>simp only [lay,Wa];exact one h2.1
 |inf o x y=>simp only [lay,Wa];exact one h2.1
theorem Jp {mem:List (Option Ob)} {k sz n N ty:Nat} {f f':Nat→List AV} (hk:mem[k]?=some (some ⟨ty,sz,N,f⟩)) (hsz:0<sz) (hn:N=n) (h:∀ i,i<n→f i=f' i) (hc:∀ (i:Nat) c,i<n→c∈f' i→Closed c):QI mem (.own k) sz n f':=
 ⟨hsz,f,by simp [ZY,hk,hn],fun i hi=>⟨h i hi,fun c hc'=>hc i c hi hc'⟩⟩
theorem HU (l:List POp) (hl:l.length≤9223372036854775807) (hu:W6 l) (t:List PTok) (ht:t.length≤1048576) (rs:List Int) (hrs:rs.length=t.length) (a b:Nat) (s:List TkP) (hab:a+s.length=b) (hb:b≤t.length) (hs:Xi l t rs a s) (o:POp) (er:Ops.root lvO s 0 0 none=some (0,o)) (hk:s[0]?=some (.pre o)) (hw:XD l) (hj:InL l o) (hok:Xx o=true) (hk1:o.kind=1) (e:PT) (h1:YK e) (h2:e.All lvO (InL l)) (h3:Xb e) (out:List PNode) (ho:out.length≤2000000) (hle:(lay e out).length≤3000000) (hsz:(lay e out).length≤out.length+(s.length-1))
  (ih:VProc Tryz.prog 73 [.agg [.sl 4 l.length (Za l)],.sl 3 t.length (Zk t),.sl 1 rs.length (Zy rs),.lit (.int .i64 (a+1:Nat)),.lit (.int .i64 b),.own 0] [Zi out] [] (Y7 (s.length-1) out (some e))) :
  VProc Tryz.prog 73 [.agg [.sl 4 l.length (Za l)],.sl 3 t.length (Zk t),.sl 1 rs.length (Zy rs),.lit (.int .i64 a),.lit (.int .i64 b),.own 0] [Zi out] [] (Y7 s.length out (if (lvO o).h2≤e.level lvO then some (.pre o e) else none)):=by
 have cl:∀ (i:Nat) (c:AV),i<l.length→c∈Za l i→Closed c:=fun i c _ h=>Zo l i c h
 have clt:∀ (i:Nat) (c:AV),i<t.length→c∈Zk t i→Closed c:=fun i c _ h=>Zm t i c h
 have cli:∀ (i:Nat) (c:AV),i<rs.length→c∈Zy rs i→Closed c:=fun i c _ h=>Z8 rs i c h
 have cr:=Vd l hl hu t ht rs hrs a b s hab hb hs
 rw [er] at cr
 have eb:VR a (some (0,o))=(a:Int):=by simp [VR]
 rw [eb] at cr
 have hlt:=(List.getElem?_eq_some_iff.1 hk).1
 obtain ⟨hTk,hr⟩:=UX hs hk
 have htx:o.text=(Zf t a).text:=hTk.2.1
 simp only [Nat.add_zero,X7] at hr
 have hp:a<t.length:=by omega
 have hp0:¬((a:Int)<0):=by omega
 have hp2:a<rs.length:=by omega
 have w:IntKind.i64.wrap 3=3:=by decide
 have ew1:IntKind.i64.wrap ((a:Int)+1)=((a+1:Nat):Int):=Zj (by omega)
 refine Zu Tryz.func73 (by kernel_rfl) rfl (by simp [Tryz.ntmps73]) ?_;simp only [Tryz.ntmps73,Tryz.results73];simp [go_sem]
 refine Zc cr ?_ ?_
 ·simp [go_sem]
  exact ⟨Zb (by omega) cl,Zb (by omega) clt,Zb (by omega) cli⟩
 ·simp [go_sem,hp0]
  refine Zn [12] (.q 0 <| .q 1 <| .q 2 <| .q 3 <| .q 4 <| .q 5 <| .q 6 <| .q 7 <| .q 8 <| .q 9 <| .q 10 <| .or 11 (.or 12 (.done) (.nil)) (.nil)) (by kernel_rfl) ?_
  simp [go_sem,Zg,ZT,hp,hp2,hr,w,ew1,Zi]
  refine Zx [0] ih (by simp) ?_ ?_ trivial ?_
  ·simp [go_sem]
   exact ⟨cl,clt,cli⟩
  ·simp [go_sem,Zi]
   exact fun i _=>ZK (Xc _ i)
  ·rintro av mem maps ⟨rfl,rfl,rfl⟩
   have hg:=ZV e out
   have ew:IntKind.i64.wrap (((lay e out).length:Int)-1)=((lay e out).length:Int)-1:=wrap_i64 (by omega)
   simp [go_sem,Zi,ew]
   have ew0:IntKind.i64.wrap ((lay e out).length:Int)=(lay e out).length:=wrap_i64 (by omega)
   obtain ⟨T2,hT2⟩:∃ T2,T2=lay e out++[(⟨o.text,3,((lay e out).length:Int)-1,0⟩:PNode)]:=⟨_,rfl⟩
   have hl2:T2.length=(lay e out).length+1:=by rw [hT2];simp
   have hn:Zz T2 (lay e out).length=⟨o.text,3,((lay e out).length:Int)-1,0⟩:=by rw [hT2];exact Vs
   have hf:UM l T2 (lay e out).length=decide ((lvO o).h2≤e.level lvO):=by rw [hT2];exact ZkM hu hj hok hk1 e out h1 h2 h3
   have cf:=Zbq l hl hw T2 (by omega) (lay e out).length (by omega) (fun _=>by
    rw [hn]
    have ha:(((lay e out).length:Int)-1).toNat=(lay e out).length-1:=by omega
    simp only [ha]
    rw [show Zz T2 ((lay e out).length-1)=Zz (lay e out) ((lay e out).length-1) by rw [hT2];exact YU (by omega)]
    refine ⟨by have:=(XN hu (z:=o.text) rfl hj).1;rw [hk1] at this;exact this,by omega,J1 hu e out h1 h2 h3,fun hh=>absurd rfl hh⟩)
   rw [hf] at cf
   rw [ew0]
   refine ⟨by omega,by omega,by omega,by omega,Zc cf ?_ ?_⟩
   ·simp [go_sem]
    exact ⟨Zb (by omega) cl,Jp (k:=5) rfl (by omega) hl2.symm (fun i hi=>by rw [hT2,htx];exact Xf (lay e out) ⟨(Zf t a).text,3,((lay e out).length:Int)-1,0⟩ i (by omega)) (fun i c _ h=>ZQ T2 i c h)⟩
   ·simp [go_sem]
    by_cases hc:(lvO o).h2≤e.level lvO
    ·simp only [if_pos hc,hc,decide_true,if_true]
     refine ⟨rfl,[5],[none,Zi (lay (.pre o e) out)],by simp,by simp [go_sem],by simp [go_sem],?_,by simp [go_sem],?_⟩
     ·simp [go_sem,Zi]
      refine YT (o:=⟨(Zf t a).text,3,((lay e out).length:Int)-1,0⟩) (by rw [←htx];simp [lay,hk1]) fun j hj=>?_
      exact Xf (lay e out) ⟨(Zf t a).text,3,((lay e out).length:Int)-1,0⟩ j hj
     ·simp [go_sem,Y7,Zi]
    ·simp only [if_neg hc,hc,decide_false]
     refine ⟨rfl,[5],[none,Zi T2],by simp,by simp [go_sem],by simp [go_sem],?_,by simp [go_sem],?_⟩
     ·simp [go_sem,Zi]
      refine YT (o:=⟨(Zf t a).text,3,((lay e out).length:Int)-1,0⟩) (by rw [←htx];exact hT2) fun j hj=>?_
      exact Xf (lay e out) ⟨(Zf t a).text,3,((lay e out).length:Int)-1,0⟩ j hj
     ·simp [go_sem]
      exact ⟨T2,by omega,.inl ⟨rfl,rfl,rfl⟩⟩
theorem Hg (l:List POp) (hl:l.length≤9223372036854775807) (hu:W6 l) (t:List PTok) (ht:t.length≤1048576) (rs:List Int) (hrs:rs.length=t.length) (a b:Nat) (s:List TkP) (hab:a+s.length=b) (hb:b≤t.length) (hs:Xi l t rs a s) (k:Nat) (o:POp) (er:Ops.root lvO s 0 0 none=some (k,o)) (hk:s[k]?=some (.post o)) (hke:k+1=s.length) (hw:XD l) (hj:InL l o) (hok:Xx o=true) (hk1:o.kind=3) (e:PT) (h1:YK e) (h2:e.All lvO (InL l)) (h3:Xb e) (out:List PNode) (ho:out.length≤2000000) (hle:(lay e out).length≤3000000) (hsz:(lay e out).length≤out.length+(s.length-1))
  (ih:VProc Tryz.prog 73 [.agg [.sl 4 l.length (Za l)],.sl 3 t.length (Zk t),.sl 1 rs.length (Zy rs),.lit (.int .i64 a),.lit (.int .i64 (a+k:Nat)),.own 0] [Zi out] [] (Y7 k out (some e))) :
  VProc Tryz.prog 73 [.agg [.sl 4 l.length (Za l)],.sl 3 t.length (Zk t),.sl 1 rs.length (Zy rs),.lit (.int .i64 a),.lit (.int .i64 b),.own 0] [Zi out] [] (Y7 s.length out (if (lvO o).h1≤e.level lvO then some (.post o e) else none)):=by
 have cl:∀ (i:Nat) (c:AV),i<l.length→c∈Za l i→Closed c:=fun i c _ h=>Zo l i c h
 have clt:∀ (i:Nat) (c:AV),i<t.length→c∈Zk t i→Closed c:=fun i c _ h=>Zm t i c h
 have cli:∀ (i:Nat) (c:AV),i<rs.length→c∈Zy rs i→Closed c:=fun i c _ h=>Z8 rs i c h
 have cr:=Vd l hl hu t ht rs hrs a b s hab hb hs
 rw [er] at cr
 have eb:VR a (some (k,o))=((a+k:Nat):Int):=rfl
 rw [eb] at cr
 have hlt:=(List.getElem?_eq_some_iff.1 hk).1
 obtain ⟨hTk,hr⟩:=UX hs hk
 simp only [X7] at hr
 have hp:a+k<t.length:=by omega
 obtain ⟨p,hp'⟩:∃ p,a+k=p:=⟨_,rfl⟩
 rw [hp'] at cr hr hp ih hTk
 have htx:o.text=(Zf t p).text:=hTk.2.1
 have hp0:¬((p:Int)<0):=by omega
 have hp2:p<rs.length:=by omega
 have w5:IntKind.i64.wrap 5=5:=by decide
 have hpb:IntKind.i64.wrap ((b:Int)-1)=(p:Int):=by rw [wrap_i64 (by omega)];omega
 refine Zu Tryz.func73 (by kernel_rfl) rfl (by simp [Tryz.ntmps73]) ?_;simp only [Tryz.ntmps73,Tryz.results73];simp [go_sem]
 refine Zc cr ?_ ?_
 ·simp [go_sem]
  exact ⟨Zb (by omega) cl,Zb (by omega) clt,Zb (by omega) cli⟩
 ·simp [go_sem,hp0]
  refine Zn [12] (.q 0 <| .q 1 <| .q 2 <| .q 3 <| .q 4 <| .q 5 <| .q 6 <| .q 7 <| .q 8 <| .q 9 <| .q 10 <| .or 11 (.or 12 (.done) (.nil)) (.nil)) (by kernel_rfl) ?_
  simp [go_sem,Zg,ZT,hp,hp2,hr,w5,hpb,Zi]
  refine Zx [0] ih (by simp) ?_ ?_ trivial ?_
  ·simp [go_sem]
   exact ⟨cl,clt,cli⟩
  ·simp [go_sem,Zi]
   exact fun i _=>ZK (Xc _ i)
  ·rintro av mem maps ⟨rfl,rfl,rfl⟩
   have hg:=ZV e out
   have ew:IntKind.i64.wrap (((lay e out).length:Int)-1)=((lay e out).length:Int)-1:=wrap_i64 (by omega)
   simp [go_sem,Zi,ew]
   have ew0:IntKind.i64.wrap ((lay e out).length:Int)=(lay e out).length:=wrap_i64 (by omega)
   obtain ⟨T2,hT2⟩:∃ T2,T2=lay e out++[(⟨o.text,5,((lay e out).length:Int)-1,0⟩:PNode)]:=⟨_,rfl⟩
   have hl2:T2.length=(lay e out).length+1:=by rw [hT2];simp
   have hn:Zz T2 (lay e out).length=⟨o.text,5,((lay e out).length:Int)-1,0⟩:=by rw [hT2];exact Vs
   have hf:UM l T2 (lay e out).length=decide ((lvO o).h1≤e.level lvO):=by rw [hT2];exact ZiP hu hj hok hk1 e out h1 h2 h3
   have cf:=Zbq l hl hw T2 (by omega) (lay e out).length (by omega) (fun _=>by
    rw [hn]
    have ha:(((lay e out).length:Int)-1).toNat=(lay e out).length-1:=by omega
    simp only [ha]
    rw [show Zz T2 ((lay e out).length-1)=Zz (lay e out) ((lay e out).length-1) by rw [hT2];exact YU (by omega)]
    refine ⟨by have:=(XN hu (z:=o.text) rfl hj).1;rw [hk1] at this;exact this,by omega,J1 hu e out h1 h2 h3,fun hh=>absurd rfl hh⟩)
   rw [hf] at cf
   rw [ew0]
   refine ⟨by omega,by omega,by omega,by omega,Zc cf ?_ ?_⟩
   ·simp [go_sem]
    exact ⟨Zb (by omega) cl,Jp (k:=5) rfl (by omega) hl2.symm (fun i hi=>by rw [hT2,htx];exact Xf (lay e out) ⟨(Zf t p).text,5,((lay e out).length:Int)-1,0⟩ i (by omega)) (fun i c _ h=>ZQ T2 i c h)⟩
   ·simp [go_sem]
    by_cases hc:(lvO o).h1≤e.level lvO
    ·simp only [if_pos hc,hc,decide_true,if_true]
     refine ⟨rfl,[5],[none,Zi (lay (.post o e) out)],by simp,by simp [go_sem],by simp [go_sem],?_,by simp [go_sem],?_⟩
     ·simp [go_sem,Zi]
      refine YT (o:=⟨(Zf t p).text,5,((lay e out).length:Int)-1,0⟩) (by rw [←htx];simp [lay,hk1]) fun j hj=>?_
      exact Xf (lay e out) ⟨(Zf t p).text,5,((lay e out).length:Int)-1,0⟩ j hj
     ·simp [go_sem,Y7,Zi]
    ·simp only [if_neg hc,hc,decide_false]
     refine ⟨rfl,[5],[none,Zi T2],by simp,by simp [go_sem],by simp [go_sem],?_,by simp [go_sem],?_⟩
     ·simp [go_sem,Zi]
      refine YT (o:=⟨(Zf t p).text,5,((lay e out).length:Int)-1,0⟩) (by rw [←htx];exact hT2) fun j hj=>?_
      exact Xf (lay e out) ⟨(Zf t p).text,5,((lay e out).length:Int)-1,0⟩ j hj
     ·simp [go_sem]
      exact ⟨T2,by omega,.inl ⟨rfl,rfl,rfl⟩⟩
theorem HX (l:List POp) (hl:l.length≤9223372036854775807) (hu:W6 l) (t:List PTok) (ht:t.length≤1048576) (rs:List Int) (hrs:rs.length=t.length) (a b:Nat) (s:List TkP) (hab:a+s.length=b) (hb:b≤t.length) (hs:Xi l t rs a s) (k:Nat) (o:POp) (er:Ops.root lvO s 0 0 none=some (k,o)) (hk:s[k]?=some (.inf o)) (hw:XD l) (hj:InL l o) (e:PT) (out:List PNode) (ho:out.length≤2000000) (hle:(lay e out).length≤3000000) (hsz:(lay e out).length≤out.length+k)
  (ih:VProc Tryz.prog 73 [.agg [.sl 4 l.length (Za l)],.sl 3 t.length (Zk t),.sl 1 rs.length (Zy rs),.lit (.int .i64 a),.lit (.int .i64 (a+k:Nat)),.own 0] [Zi out] [] (Y7 k out (some e)))
  (ih2:VProc Tryz.prog 73 [.agg [.sl 4 l.length (Za l)],.sl 3 t.length (Zk t),.sl 1 rs.length (Zy rs),.lit (.int .i64 (a+k+1:Nat)),.lit (.int .i64 b),.own 0] [Zi (lay e out)] [] (Y7 (s.length-k-1) (lay e out) none)) :
  VProc Tryz.prog 73 [.agg [.sl 4 l.length (Za l)],.sl 3 t.length (Zk t),.sl 1 rs.length (Zy rs),.lit (.int .i64 a),.lit (.int .i64 b),.own 0] [Zi out] [] (Y7 s.length out none):=by
 have cl:∀ (i:Nat) (c:AV),i<l.length→c∈Za l i→Closed c:=fun i c _ h=>Zo l i c h
 have clt:∀ (i:Nat) (c:AV),i<t.length→c∈Zk t i→Closed c:=fun i c _ h=>Zm t i c h
 have cli:∀ (i:Nat) (c:AV),i<rs.length→c∈Zy rs i→Closed c:=fun i c _ h=>Z8 rs i c h
 have cr:=Vd l hl hu t ht rs hrs a b s hab hb hs
 rw [er] at cr
 have eb:VR a (some (k,o))=((a+k:Nat):Int):=rfl
 rw [eb] at cr
 have hlt:=(List.getElem?_eq_some_iff.1 hk).1
 obtain ⟨hTk,hr⟩:=UX hs hk
 simp only [X7] at hr
 have hp:a+k<t.length:=by omega
 obtain ⟨p,hp'⟩:∃ p,a+k=p:=⟨_,rfl⟩
 rw [hp'] at cr hr hp ih ih2 hTk
 have htx:o.text=(Zf t p).text:=hTk.2.1
 have hp0:¬((p:Int)<0):=by omega
 have hp2:p<rs.length:=by omega
 have w4:IntKind.i64.wrap 4=4:=by decide
 have ew1:IntKind.i64.wrap ((p:Int)+1)=((p+1:Nat):Int):=Zj (by omega)
 refine Zu Tryz.func73 (by kernel_rfl) rfl (by simp [Tryz.ntmps73]) ?_;simp only [Tryz.ntmps73,Tryz.results73];simp [go_sem]
 refine Zc cr ?_ ?_
 ·simp [go_sem]
  exact ⟨Zb (by omega) cl,Zb (by omega) clt,Zb (by omega) cli⟩
 ·simp [go_sem,hp0]
  refine Zn [12] (.q 0 <| .q 1 <| .q 2 <| .q 3 <| .q 4 <| .q 5 <| .q 6 <| .q 7 <| .q 8 <| .q 9 <| .q 10 <| .or 11 (.or 12 (.done) (.nil)) (.nil)) (by kernel_rfl) ?_
  simp [go_sem,Zg,ZT,hp,hp2,hr,w4,Zi]
  refine Zx [0] ih (by simp) ?_ ?_ trivial ?_
  ·simp [go_sem]
   exact ⟨cl,clt,cli⟩
  ·simp [go_sem,Zi]
   exact fun i _=>ZK (Xc _ i)
  ·rintro av mem maps ⟨rfl,rfl,rfl⟩
   have hg:=ZV e out
   have ew:IntKind.i64.wrap (((lay e out).length:Int)-1)=((lay e out).length:Int)-1:=wrap_i64 (by omega)
   simp [go_sem,Zi,ew,ew1]
   refine ⟨by omega,?_⟩
   refine Zx [3] ih2 (by simp) ?_ ?_ trivial ?_
   ·simp [go_sem]
    exact ⟨cl,clt,cli⟩
   ·simp [go_sem,Zi]
    exact fun i _=>ZK (Xc _ i)
   ·rintro av mem maps ⟨T,hT,hB⟩
    rcases hB with ⟨rfl,rfl,rfl⟩|⟨rfl,rfl,rfl⟩
    ·simp [go_sem,Zi]
     refine ⟨rfl,[4],[none,Zi T],by simp,by simp [go_sem],by simp [go_sem],?_,by simp [go_sem],?_⟩
     ·simp [go_sem,Zi]
      exact XG rfl fun j _=>rfl
     ·simp [go_sem]
      exact ⟨T,by omega,.inl ⟨rfl,rfl,rfl⟩⟩
    ·simp [go_sem,Zi]
     refine ⟨rfl,[3],[none,Zi T],by simp,by simp [go_sem],by simp [go_sem],?_,by simp [go_sem],?_⟩
     ·simp [go_sem,Zi]
      exact XG rfl fun j _=>rfl
     ·simp [go_sem]
      exact ⟨T,by omega,.inl ⟨rfl,rfl,rfl⟩⟩
theorem HW (l:List POp) (hl:l.length≤9223372036854775807) (hu:W6 l) (t:List PTok) (ht:t.length≤1048576) (rs:List Int) (hrs:rs.length=t.length) (a b:Nat) (s:List TkP) (hab:a+s.length=b) (hb:b≤t.length) (hs:Xi l t rs a s) (k:Nat) (o:POp) (er:Ops.root lvO s 0 0 none=some (k,o)) (hk:s[k]?=some (.inf o)) (hw:XD l) (hj:InL l o) (hok:Xx o=true) (hk1:o.kind=2) (e e':PT) (h1:YK e) (h2:e.All lvO (InL l)) (h3:Xb e) (q1:YK e') (q2:e'.All lvO (InL l)) (q3:Xb e') (out:List PNode) (ho:out.length≤2000000) (hle:(lay e out).length≤3000000) (hle2:(lay e' (lay e out)).length≤3000000) (hsz:(lay e out).length≤out.length+k) (hsz2:(lay e' (lay e out)).length≤(lay e out).length+(s.length-k-1))
  (ih:VProc Tryz.prog 73 [.agg [.sl 4 l.length (Za l)],.sl 3 t.length (Zk t),.sl 1 rs.length (Zy rs),.lit (.int .i64 a),.lit (.int .i64 (a+k:Nat)),.own 0] [Zi out] [] (Y7 k out (some e)))
  (ih2:VProc Tryz.prog 73 [.agg [.sl 4 l.length (Za l)],.sl 3 t.length (Zk t),.sl 1 rs.length (Zy rs),.lit (.int .i64 (a+k+1:Nat)),.lit (.int .i64 b),.own 0] [Zi (lay e out)] [] (Y7 (s.length-k-1) (lay e out) (some e'))) :
  VProc Tryz.prog 73 [.agg [.sl 4 l.length (Za l)],.sl 3 t.length (Zk t),.sl 1 rs.length (Zy rs),.lit (.int .i64 a),.lit (.int .i64 b),.own 0] [Zi out] [] (Y7 s.length out (if (lvO o).h1≤e.level lvO∧(lvO o).h2≤e'.level lvO then some (.inf o e e') else none)):=by
 have cl:∀ (i:Nat) (c:AV),i<l.length→c∈Za l i→Closed c:=fun i c _ h=>Zo l i c h
 have clt:∀ (i:Nat) (c:AV),i<t.length→c∈Zk t i→Closed c:=fun i c _ h=>Zm t i c h
 have cli:∀ (i:Nat) (c:AV),i<rs.length→c∈Zy rs i→Closed c:=fun i c _ h=>Z8 rs i c h
 have cr:=Vd l hl hu t ht rs hrs a b s hab hb hs
 rw [er] at cr
 have eb:VR a (some (k,o))=((a+k:Nat):Int):=rfl
 rw [eb] at cr
 have hlt:=(List.getElem?_eq_some_iff.1 hk).1
 obtain ⟨hTk,hr⟩:=UX hs hk
 simp only [X7] at hr
 have hp:a+k<t.length:=by omega
 obtain ⟨p,hp'⟩:∃ p,a+k=p:=⟨_,rfl⟩
 rw [hp'] at cr hr hp ih ih2 hTk
 have htx:o.text=(Zf t p).text:=hTk.2.1
 have hp0:¬((p:Int)<0):=by omega
 have hp2:p<rs.length:=by omega
 have w4:IntKind.i64.wrap 4=4:=by decide
 have ew1:IntKind.i64.wrap ((p:Int)+1)=((p+1:Nat):Int):=Zj (by omega)
 refine Zu Tryz.func73 (by kernel_rfl) rfl (by simp [Tryz.ntmps73]) ?_;simp only [Tryz.ntmps73,Tryz.results73];simp [go_sem]
 refine Zc cr ?_ ?_
 ·simp [go_sem]
  exact ⟨Zb (by omega) cl,Zb (by omega) clt,Zb (by omega) cli⟩
 ·simp [go_sem,hp0]
  refine Zn [12] (.q 0 <| .q 1 <| .q 2 <| .q 3 <| .q 4 <| .q 5 <| .q 6 <| .q 7 <| .q 8 <| .q 9 <| .q 10 <| .or 11 (.or 12 (.done) (.nil)) (.nil)) (by kernel_rfl) ?_
  simp [go_sem,Zg,ZT,hp,hp2,hr,w4,Zi]
  refine Zx [0] ih (by simp) ?_ ?_ trivial ?_
  ·simp [go_sem]
   exact ⟨cl,clt,cli⟩
  ·simp [go_sem,Zi]
   exact fun i _=>ZK (Xc _ i)
  ·rintro av mem maps ⟨rfl,rfl,rfl⟩
   have hg:=ZV e out
   have ew:IntKind.i64.wrap (((lay e out).length:Int)-1)=((lay e out).length:Int)-1:=wrap_i64 (by omega)
   simp [go_sem,Zi,ew,ew1]
   refine ⟨by omega,?_⟩
   refine Zx [3] ih2 (by simp) ?_ ?_ trivial ?_
   ·simp [go_sem]
    exact ⟨cl,clt,cli⟩
   ·simp [go_sem,Zi]
    exact fun i _=>ZK (Xc _ i)
   ·rintro av mem maps ⟨rfl,rfl,rfl⟩
    have hg2:=ZV e' (lay e out)
    have ew':IntKind.i64.wrap (((lay e' (lay e out)).length:Int)-1)=((lay e' (lay e out)).length:Int)-1:=wrap_i64 (by omega)
    simp [go_sem,Zi,ew']
    have ew0:IntKind.i64.wrap ((lay e' (lay e out)).length:Int)=(lay e' (lay e out)).length:=wrap_i64 (by omega)
    obtain ⟨nd,hnd⟩:∃ nd,nd=(⟨o.text,4,((lay e out).length:Int)-1,((lay e' (lay e out)).length:Int)-1⟩:PNode):=⟨_,rfl⟩
    obtain ⟨T2,hT2⟩:∃ T2,T2=lay e' (lay e out)++[nd]:=⟨_,rfl⟩
    have hl2:T2.length=(lay e' (lay e out)).length+1:=by rw [hT2];simp
    have hn:Zz T2 (lay e' (lay e out)).length=nd:=by rw [hT2];exact Vs
    have hf:UM l T2 (lay e' (lay e out)).length=decide ((lvO o).h1≤e.level lvO∧(lvO o).h2≤e'.level lvO):=by rw [hT2,hnd];exact ZkN hu hj hok hk1 e e' out h1 h2 h3 q1 q2 q3
    have cf:=Zbq l hl hw T2 (by omega) (lay e' (lay e out)).length (by omega) (fun _=>by
     rw [hn,hnd]
     have ha:(((lay e out).length:Int)-1).toNat=(lay e out).length-1:=by omega
     have hb':(((lay e' (lay e out)).length:Int)-1).toNat=(lay e' (lay e out)).length-1:=by omega
     simp only [ha,hb']
     rw [show Zz T2 ((lay e out).length-1)=Zz (lay e out) ((lay e out).length-1) by rw [hT2,YU (by omega)];exact Qv e' (lay e out) _ (by omega)]
     rw [show Zz T2 ((lay e' (lay e out)).length-1)=Zz (lay e' (lay e out)) ((lay e' (lay e out)).length-1) by rw [hT2];exact YU (by omega)]
     refine ⟨by have:=(XN hu (z:=o.text) rfl hj).1;rw [hk1] at this;exact this,by omega,J1 hu e out h1 h2 h3,fun hh=>⟨by omega,J1 hu e' (lay e out) q1 q2 q3⟩⟩)
    rw [hf] at cf
    rw [ew0]
    rw [htx] at hnd
    refine ⟨by omega,by omega,by omega,by omega,Zc cf ?_ ?_⟩
    ·simp [go_sem]
     exact ⟨Zb (by omega) cl,Jp (k:=6) rfl (by omega) hl2.symm (fun i hi=>by rw [hT2,hnd];exact Xf (lay e' (lay e out)) ⟨(Zf t p).text,4,((lay e out).length:Int)-1,((lay e' (lay e out)).length:Int)-1⟩ i (by omega)) (fun i c _ h=>ZQ T2 i c h)⟩
    ·simp [go_sem]
     by_cases hc:(lvO o).h1≤e.level lvO∧(lvO o).h2≤e'.level lvO
     ·simp only [if_pos hc,hc,decide_true,if_true,and_self]
      refine ⟨rfl,[6],[none,Zi (lay (.inf o e e') out)],by simp,by simp [go_sem],by simp [go_sem],?_,by simp [go_sem],?_⟩
      ·simp [go_sem,Zi]
       refine YT (o:=⟨(Zf t p).text,4,((lay e out).length:Int)-1,((lay e' (lay e out)).length:Int)-1⟩) (by rw [←htx];simp [lay,hk1]) fun j hj=>?_
       exact Xf (lay e' (lay e out)) ⟨(Zf t p).text,4,((lay e out).length:Int)-1,((lay e' (lay e out)).length:Int)-1⟩ j hj
      ·simp [go_sem,Y7,Zi]
     ·have hdc:decide ((lvO o).h1≤e.level lvO∧(lvO o).h2≤e'.level lvO)=false:=decide_eq_false hc
      simp only [if_neg hc]
      refine ⟨rfl,[6],[none,Zi T2],by simp,by simp [go_sem],by simp [go_sem],?_,by simp [go_sem],?_⟩
      ·simp [go_sem,Zi]
       refine YT (o:=⟨(Zf t p).text,4,((lay e out).length:Int)-1,((lay e' (lay e out)).length:Int)-1⟩) (by rw [←hnd];exact hT2) fun j hj=>?_
       exact Xf (lay e' (lay e out)) ⟨(Zf t p).text,4,((lay e out).length:Int)-1,((lay e' (lay e out)).length:Int)-1⟩ j hj
      ·simp [go_sem]
       exact ⟨T2,by omega,.inl ⟨by simpa using hc,rfl,rfl⟩⟩
end Go.Proofs.YtadghlfkddkelaaGreatDoor.V
namespace Go.Proofs.YtadghlfkddkelaaGreatDoor.V
open Go.RowKit
open Go.Proofs.YtadghlfkddkelaaGreatDoor.Ops (Tr Tk Lv Res Fit OF)
theorem seg_append {l:List POp} {t:List PTok} {rs:List Int}:∀ {u w:List TkP} {i:Nat},Xi l t rs i (u++w)↔Xi l t rs i u∧Xi l t rs (i+u.length) w
 |[],w,i=>by simp [Xi]
 |x::u,w,i=>by
  simp only [List.cons_append,Xi,List.length_cons,seg_append (u:=u),and_assoc]
  rw [show i+(u.length+1)=i+1+u.length by omega]
theorem QR {l:List POp} {t:List PTok} {rs:List Int}:∀ (e:PT) (i:Nat),Xi l t rs i e.yield→YK e∧e.All lvO (InL l)∧Xb e
 | .leaf b,i,h=>by
  simp only [Tr.yield,Xi,UT] at h
  refine ⟨?_,trivial,trivial⟩
  have:=h.1
  simp only [YK]
  rw [this.2];exact this.1
 | .grp e,i,h=>by
  simp only [Tr.yield,Xi] at h
  exact QR e _ (seg_append.1 h.2.2).1
 | .pre o e,i,h=>by
  simp only [Tr.yield,Xi,UT] at h
  obtain ⟨⟨_,_,hk,hj⟩,_,h2⟩:=h
  obtain ⟨g0,g1,g2⟩:=QR e _ h2
  exact ⟨g0,⟨hj,by simp [lvO,WA,hk],g1⟩,hk,g2⟩
 | .post o e,i,h=>by
  simp only [Tr.yield] at h
  obtain ⟨h1,h3⟩:=seg_append.1 h
  obtain ⟨g0,g1,g2⟩:=QR e _ h1
  simp only [Xi,UT] at h3
  obtain ⟨⟨_,_,hk,hj⟩,_⟩:=h3
  exact ⟨g0,⟨hj,by simp [lvO,WA,hk],g1⟩,hk,g2⟩
 | .inf o x y,i,h=>by
  simp only [Tr.yield] at h
  obtain ⟨h1,h3⟩:=seg_append.1 h
  obtain ⟨g0,g1,g2⟩:=QR x _ h1
  simp only [Xi,UT] at h3
  obtain ⟨⟨_,_,hk,hj⟩,_,h4⟩:=h3
  obtain ⟨q0,q1,q2⟩:=QR y _ h4
  exact ⟨⟨g0,q0⟩,⟨hj,g1,q1⟩,hk,g2,q2⟩
theorem Wx:∀ (e:PT) (out:List PNode),(lay e out).length≤out.length+e.yield.length
 | .leaf _,out=>by simp [lay,Tr.yield]
 | .grp e,out=>by have:=Wx e out;simp [lay,Tr.yield];omega
 | .pre _ e,out=>by have:=Wx e out;simp [lay,Tr.yield];omega
 | .post _ e,out=>by have:=Wx e out;simp [lay,Tr.yield];omega
 | .inf _ x y,out=>by have:=Wx x out;have:=Wx y (lay x out);simp [lay,Tr.yield];omega
theorem Zl7 (l:List POp) (hl:l.length≤9223372036854775807) (hu:W6 l) (hw:XD l) (hok:∀ j,j<l.length→Xx (Zl l j)=true) (t:List PTok) (ht:t.length≤1048576) (rs:List Int) (hrs:rs.length=t.length):∀ (n:Nat) (s:List TkP) (a b:Nat) (out:List PNode),s.length≤n→OF s→a+s.length=b→b≤t.length→Xi l t rs a s→out.length+s.length≤2000000→
  VProc Tryz.prog 73 [.agg [.sl 4 l.length (Za l)],.sl 3 t.length (Zk t),.sl 1 rs.length (Zy rs),.lit (.int .i64 a),.lit (.int .i64 b),.own 0] [Zi out] [] (Y7 s.length out (Ops.build lvO n s)):=by
 have okL:∀ {o},InL l o→Xx o=true:=fun ⟨j,hj,e⟩=>e▸hok j hj
 intro n
 induction n with
 |zero=>
  intro s a b out hn ⟨t0,h0⟩
  have:=Ops.yield_pos t0
  rw [h0] at this;omega
 |succ n ih=>
  intro s a b out hn hof hab hb hs ho
  have good:∀ {s':List TkP} {e:PT} {a':Nat},Xi l t rs a' s'→OF s'→Ops.build lvO n s'=some e→YK e∧e.All lvO (InL l)∧Xb e∧∀ out,(lay e out).length≤out.length+s'.length:=fun h1 h2 h3=>by
   obtain ⟨_,hy⟩:=Ops.build_sound lvO n _ _ h2 h3
   rw [←hy] at h1 ⊢
   obtain ⟨g0,g1,g2⟩:=QR _ _ h1
   exact ⟨g0,g1,g2,Wx _⟩
  rw [Ops.build]
  unfold Ops.buildF
  cases hr:Ops.root lvO s 0 0 none with
  |none=>
   obtain ⟨t0,h0⟩:=id hof
   rw [←h0] at hr
   rcases Ops.root_none lvO t0 hr with ⟨bb,rfl⟩|⟨t1,rfl⟩
   ·simp only [Tr.yield] at h0
    subst h0
    simp only [List.length_singleton] at hab
    subst hab
    exact ZdU l hl hu t ht rs hrs a hb bb hs out (by omega)
   ·simp only [Tr.yield] at h0 hr
    rw [h0] at hr
    have hlen:s.length=t1.yield.length+2:=by rw [←h0];simp
    have hs1:Xi l t rs (a+1) t1.yield:=by
     rw [←h0] at hs
     exact (seg_append.1 hs.2.2).1
    have h1:=ih t1.yield (a+1) (b-1) out (by omega) ⟨t1,rfl⟩ (by omega) (by omega) hs1 (by omega)
    have:=ZfH l hl hu t ht rs hrs a b s hab hb hs t1.yield h0.symm hr out (by omega) (Ops.build lvO n t1.yield) (fun e he=>by
     have:=(good hs1 ⟨t1,rfl⟩ he).2.2.2 out;omega) h1
    subst h0
    simpa using this
  |some x=>
   obtain ⟨k,o⟩:=x
   rcases Ops.root_at lvO s 0 0 none k o hr with h|⟨u,tk,w,hsu,hop,hd,hk⟩
   ·cases h
   ·simp only [Int.zero_add,Nat.zero_add] at hd hk
    have hsk:s[k]?=some tk:=by rw [hsu,hk];simp
    have hlen:s.length=u.length+w.length+1:=by rw [hsu];simp;omega
    have hseg:=hs
    rw [hsu] at hseg
    obtain ⟨hsl,hsr⟩:=seg_append.1 hseg
    have hTk:=hsr.1
    have hsq:=hsr.2.2
    simp only [hsk]
    cases tk with
    |leaf bb=>simp [Tk.op?] at hop
    |opn=>simp [Tk.op?] at hop
    |cls=>simp [Tk.op?] at hop
    |pre o'=>
     simp only [Tk.op?,Option.some.injEq] at hop
     subst hop
     simp only
     by_cases hk0:k=0
     ·obtain rfl:u=[]:=List.eq_nil_of_length_eq_zero (by omega)
      subst hk0
      simp only [List.nil_append] at hsu
      rw [if_neg (by simp)]
      have hdr:s.drop 1=w:=by rw [hsu];rfl
      rw [hdr]
      have hofw:OF w:=Ops.of_pre (o:=o') (by rw [←hsu];exact hof)
      have hsw:Xi l t rs (a+1) w:=by simpa using hsq
      have h1:=ih w (a+1) b out (by omega) hofw (by simp at hlen;omega) hb hsw (by omega)
      have hl1:w.length=s.length-1:=by omega
      rw [hl1] at h1
      cases he:Ops.build lvO n w with
      |none=>
       rw [he] at h1
       exact HV l hl hu t ht rs hrs a b s hab hb hs o' hr hsk out (by omega) h1
      |some e=>
       rw [he] at h1
       obtain ⟨g0,g1,g2,g3⟩:=good hsw hofw he
       have g3:=g3 out
       exact HU l hl hu t ht rs hrs a b s hab hb hs o' hr hsk hw hTk.2.2.2 (okL hTk.2.2.2) hTk.2.2.1 e g0 g1 g2 out (by omega) (by omega) (by omega) h1
     ·rw [if_pos hk0]
      exact GE l hl hu t ht rs hrs a b s hab hb hs k o' hr _ hsk (.inl ⟨rfl,hk0⟩) out (by omega)
    |post o'=>
     simp only [Tk.op?,Option.some.injEq] at hop
     subst hop
     simp only
     by_cases hk0:k+1=s.length
     ·obtain rfl:w=[]:=List.eq_nil_of_length_eq_zero (by omega)
      rw [if_neg (by omega)]
      have hdr:s.take k=u:=by rw [hsu,hk];simp
      rw [hdr]
      have hofw:OF u:=Ops.of_post (o:=o') (by rw [←hsu];exact hof)
      have h1:=ih u a (a+k) out (by omega) hofw (by omega) (by omega) hsl (by omega)
      rw [←hk] at h1
      cases he:Ops.build lvO n u with
      |none=>
       rw [he] at h1
       exact UQ l hl hu t ht rs hrs a b s hab hb hs k o' hr _ hsk (.inr ⟨rfl,hk0⟩) out (by omega) h1
      |some e=>
       rw [he] at h1
       obtain ⟨g0,g1,g2,g3⟩:=good hsl hofw he
       have g3:=g3 out
       exact Hg l hl hu t ht rs hrs a b s hab hb hs k o' hr hsk hk0 hw hTk.2.2.2 (okL hTk.2.2.2) hTk.2.2.1 e g0 g1 g2 out (by omega) (by omega) (by omega) h1
     ·rw [if_pos hk0]
      exact GE l hl hu t ht rs hrs a b s hab hb hs k o' hr _ hsk (.inr ⟨rfl,hk0⟩) out (by omega)
    |inf o'=>
     simp only [Tk.op?,Option.some.injEq] at hop
     subst hop
     simp only
     have hdr:s.take k=u:=by rw [hsu,hk];simp
     have hdr2:s.drop (k+1)=w:=by rw [hsu,hk];simp
     rw [hdr,hdr2]
     obtain ⟨hofu,hofw⟩:=Ops.of_inf (o:=o') (by rw [←hsu];exact hof) hd
     have h1:=ih u a (a+k) out (by omega) hofu (by omega) (by omega) hsl (by omega)
     rw [←hk] at h1
     cases he:Ops.build lvO n u with
     |none=>
      rw [he] at h1
      exact UQ l hl hu t ht rs hrs a b s hab hb hs k o' hr _ hsk (.inl rfl) out (by omega) h1
     |some e=>
      rw [he] at h1
      obtain ⟨g0,g1,g2,g3⟩:=good hsl hofu he
      have g3:=g3 out
      have hsw:Xi l t rs (a+k+1) w:=by rw [hk];exact hsq
      have h2:=ih w (a+k+1) b (lay e out) (by omega) hofw (by omega) hb hsw (by omega)
      have hl1:w.length=s.length-k-1:=by omega
      rw [hl1] at h2
      simp only
      cases he2:Ops.build lvO n w with
      |none=>
       rw [he2] at h2
       exact HX l hl hu t ht rs hrs a b s hab hb hs k o' hr hsk hw hTk.2.2.2 e out (by omega) (by omega) (by omega) h1 h2
      |some e2=>
       rw [he2] at h2
       obtain ⟨q0,q1,q2,q3⟩:=good hsw hofw he2
       have q3:=q3 (lay e out)
       exact HW l hl hu t ht rs hrs a b s hab hb hs k o' hr hsk hw hTk.2.2.2 (okL hTk.2.2.2) hTk.2.2.1 e e2 g0 g1 g2 q0 q1 q2 out (by omega) (by omega) (by omega) (by omega) (by omega) h1 h2
def below (T:List PNode) (H:List Int) (i:Nat):Int:=
 if Xv (Zz T i).kind=0 then 0 else if Xv (Zz T i).kind=1 then YA H (Zz T i).a.toNat else max (YA H (Zz T i).a.toNat) (YA H (Zz T i).b.toNat)
structure HStep (T:List PNode) (H:List Int) (i:Nat):Prop where
 a:Xv (Zz T i).kind≠0→0≤(Zz T i).a∧(Zz T i).a<i
 b:Xv (Zz T i).kind=2→0≤(Zz T i).b∧(Zz T i).b<i
 h:YA H i=below T H i+1
 lo:1≤YA H i∧YA H i≤i+1
def HOk (T:List PNode) (H:List Int):Prop:=H.length=T.length∧∀ i,i<T.length→HStep T H i
theorem Xm {H:List Int} {h:Int} {i:Nat} (hi:i<H.length):YA (H++[h]) i=YA H i:=by
 simp [YA,List.getD_eq_getElem?_getD,List.getElem?_append_left hi]
theorem HN {H:List Int} {h:Int} {i:Nat} (hi:i=H.length):YA (H++[h]) i=h:=by
 subst hi;simp [YA,List.getD_eq_getElem?_getD]
theorem Zks:((1:Int)=0)=False:=by simp
theorem ZmA:((2:Int)=0)=False:=by simp
theorem Zmz:((2:Int)=1)=False:=by simp
theorem JX (k:Int):Xv k=0∨Xv k=1∨Xv k=2:=Ze2 k
theorem Zje {T:List PNode} {H:List Int} {n:PNode} {h:Int} {i:Nat} (hl:H.length=T.length) (hi:i<T.length) (s:HStep T H i):below (T++[n]) (H++[h]) i=below T H i:=by
 unfold below
 rw [YU hi]
 rcases JX (Zz T i).kind with e|e|e
 ·rw [if_pos e,if_pos e]
 ·have:=s.a (by omega)
  simp only [e,Zks,if_false,if_true]
  rw [Xm (by omega)]
 ·have:=s.a (by omega)
  have:=s.b e
  simp only [e,ZmA,Zmz,if_false]
  rw [Xm (by omega),Xm (by omega)]
theorem J2 {T:List PNode} {H:List Int} {n:PNode} {h:Int} (ok:HOk T H) (ha:Xv n.kind≠0→0≤n.a∧n.a<T.length) (hb:Xv n.kind=2→0≤n.b∧n.b<T.length)
  (hh:h=(if Xv n.kind=0 then 0 else if Xv n.kind=1 then YA H n.a.toNat else max (YA H n.a.toNat) (YA H n.b.toNat))+1):HOk (T++[n]) (H++[h]):=by
 obtain ⟨hl,hs⟩:=ok
 refine ⟨by simp [hl],fun i hi=>?_⟩
 simp only [List.length_append,List.length_singleton] at hi
 by_cases e:i<T.length
 ·have s:=hs i e
  refine ⟨?_,?_,?_,?_⟩
  ·rw [YU e];exact s.a
  ·rw [YU e];exact s.b
  ·rw [Zje hl e s,Xm (by omega)];exact s.h
  ·rw [Xm (by omega)];exact s.lo
 ·obtain rfl:i=T.length:=by omega
  have hn:Zz (T++[n]) T.length=n:=Vs
  have hb':below (T++[n]) (H++[h]) T.length+1=h:=by
   unfold below
   rw [hn,hh]
   rcases JX n.kind with e|e|e
   ·rw [if_pos e,if_pos e]
   ·have:=ha (by omega)
    simp only [e,Zks,if_false,if_true]
    rw [Xm (by omega)]
   ·have:=ha (by omega)
    have:=hb e
    simp only [e,ZmA,Zmz,if_false]
    rw [Xm (by omega),Xm (by omega)]
  refine ⟨?_,?_,?_,?_⟩
  ·rw [hn];exact ha
  ·rw [hn];exact hb
  ·rw [hb',HN hl.symm]
  ·rw [HN hl.symm,hh]
   rcases JX n.kind with e|e|e
   ·rw [if_pos e];omega
   ·have:=ha (by omega)
    have:=(hs n.a.toNat (by omega)).lo
    rw [if_neg (by omega),if_pos e];omega
   ·have:=ha (by omega)
    have:=hb e
    have:=(hs n.a.toNat (by omega)).lo
    have:=(hs n.b.toNat (by omega)).lo
    rw [if_neg (by omega),if_neg (by omega)];omega
def his:PT→List Int→List Int
 | .leaf _,hs=>hs++[1]
 | .grp e,hs=>his e hs++[1+Z6 e]
 | .pre _ e,hs=>his e hs++[1+Z6 e]
 | .post _ e,hs=>his e hs++[1+Z6 e]
 | .inf _ x y,hs=>his y (his x hs)++[1+max (Z6 x) (Z6 y)]
theorem Qc (e:PT) (hs:List Int):YA (his e hs) ((his e hs).length-1)=Z6 e:=by
 cases e<;>simp only [his,Z6]<;>rw [HN (by simp)]
theorem VF (e:PT) (hs:List Int):hs.length<(his e hs).length:=by
 induction e generalizing hs with
 |leaf _=>simp [his]
 |grp e ih=>have:=ih hs;simp [his];omega
 |pre _ e ih=>have:=ih hs;simp [his];omega
 |post _ e ih=>have:=ih hs;simp [his];omega
 |inf _ x y ihx ihy=>have:=ihx hs;have:=ihy (his x hs);simp [his];omega
theorem ZlQ (e:PT):∀ (hs:List Int) (i:Nat),i<hs.length→YA (his e hs) i=YA hs i:=by
 induction e with
 |leaf _=>intro hs i h;simp only [his];exact Xm h
 |grp e ih=>intro hs i h;have:=VF e hs;simp only [his];rw [Xm (by omega),ih hs i h]
 |pre _ e ih=>intro hs i h;have:=VF e hs;simp only [his];rw [Xm (by omega),ih hs i h]
 |post _ e ih=>intro hs i h;have:=VF e hs;simp only [his];rw [Xm (by omega),ih hs i h]
 |inf _ x y ihx ihy=>intro hs i h;have:=VF x hs;have:=VF y (his x hs);simp only [his];rw [Xm (by omega),ihy _ i (by omega),ihx hs i h]
theorem Kr:∀ (e:PT) (out:List PNode) (hs:List Int),YK e→Xb e→HOk out hs→HOk (lay e out) (his e hs)
 | .leaf b,out,hs,h1,h2,ok=>by
  have k0:Xv b.1=0:=by have h:b.1=1∨b.1=2:=h1;rcases h with e|e<;>simp [Xv,e]
  simp only [lay,his]
  exact J2 ok (fun h=>absurd k0 h) (fun h=>by simp only at h;omega) (by simp [k0])
 | .grp e,out,hs,h1,h2,ok=>by
  have:=Kr e out hs h1 h2 ok
  have hl:=this.1
  have hp:=VF e hs
  have hlast:=Qc e hs
  have k1:Xv 6=1:=rfl
  simp only [lay,his]
  refine J2 this (fun _=>by simp only;omega) (fun h=>by simp only at h;omega) ?_
  simp only [k1,Zks,if_false,if_true]
  rw [show (((lay e out).length:Int)-1).toNat=(his e hs).length-1 by omega,hlast]
  omega
 | .pre o e,out,hs,h1,h2,ok=>by
  have:=Kr e out hs h1 h2.2 ok
  have hl:=this.1
  have hp:=VF e hs
  have hlast:=Qc e hs
  have k1:Xv (o.kind+2)=1:=by rw [h2.1];rfl
  simp only [lay,his]
  refine J2 this (fun _=>by simp only;omega) (fun h=>by simp only at h;omega) ?_
  simp only [k1,Zks,if_false,if_true]
  rw [show (((lay e out).length:Int)-1).toNat=(his e hs).length-1 by omega,hlast]
  omega
 | .post o e,out,hs,h1,h2,ok=>by
  have:=Kr e out hs h1 h2.2 ok
  have hl:=this.1
  have hp:=VF e hs
  have hlast:=Qc e hs
  have k1:Xv (o.kind+2)=1:=by rw [h2.1];rfl
  simp only [lay,his]
  refine J2 this (fun _=>by simp only;omega) (fun h=>by simp only at h;omega) ?_
  simp only [k1,Zks,if_false,if_true]
  rw [show (((lay e out).length:Int)-1).toNat=(his e hs).length-1 by omega,hlast]
  omega
 | .inf o x y,out,hs,h1,h2,ok=>by
  have okx:=Kr x out hs h1.1 h2.2.1 ok
  have:=Kr y _ _ h1.2 h2.2.2 okx
  have hl:=this.1
  have hlx:=okx.1
  have hp:=VF y (his x hs)
  have hpx:=VF x hs
  have hlast:=Qc y (his x hs)
  have hlastx:=Qc x hs
  have k2:Xv (o.kind+2)=2:=by rw [h2.1];rfl
  simp only [lay,his]
  refine J2 this (fun _=>by simp only;omega) (fun h=>by simp only;omega) ?_
  simp only [k2,ZmA,Zmz,if_false]
  rw [show (((lay y (lay x out)).length:Int)-1).toNat=(his y (his x hs)).length-1 by omega,hlast,show (((lay x out).length:Int)-1).toNat=(his x hs).length-1 by omega,ZlQ y _ _ (by omega),hlastx]
  omega
end Go.Proofs.YtadghlfkddkelaaGreatDoor.V
namespace Go.Proofs.YtadghlfkddkelaaGreatDoor.V
open Go.RowKit
theorem Zgl {H:List Int} {i:Nat} (h:i<H.length):H.take (i+1)=H.take i++[YA H i]:=by
 rw [List.take_add_one]
 simp [YA,List.getD_eq_getElem?_getD,h]
theorem Qw {H:List Int} {i j:Nat} (h:j<i):YA (H.take i) j=YA H j:=by
 simp [YA,List.getD_eq_getElem?_getD,h]
set_option maxRecDepth 100000 in
theorem ZgX (T:List PNode) (H:List Int) (hT:0<T.length∧T.length≤3000000) (ok:HOk T H):VFun Tryz.prog 74 [.agg [.sl 4 T.length (ZE T)]] (fun av obs=>obs=[]∧av=.lit (.int .i64 (YA H (T.length-1)))):=by
 have clt:∀ (i:Nat) (c:AV),i<T.length→c∈ZE T i→Closed c:=fun i c _ h=>ZQ T i c h
 obtain ⟨hl,hs⟩:=ok
 refine Zd Tryz.func74 (by kernel_rfl) rfl (by simp [Tryz.ntmps74]) ?_;simp only [Tryz.ntmps74,Tryz.results74];simp [go_sem]
 refine ZC (fun i:Nat=>i≤T.length) (fun i=>T.length-i) (fun i=>.of [(1,.ptr 0 1 0 0),(3,.own 1),(4,.lit (.int .i64 i))] [some ⟨80,1,1,fun _=>[.sl 4 T.length (ZE T)]⟩,some ⟨3,1,i,Zy (H.take i)⟩]) ⟨0,by omega,?_⟩ (fun i hi=>?_)
 ·refine ZU [0,1] (by simp) (by simp) (by simp) (by simp) trivial ?_ ?_
  ·simp [go_sem]
  ·simp [go_sem]
   exact clt
 ·have hlen:(H.take i).length=i:=by simp;omega
  simp [go_sem,W0]
  refine ⟨by omega,fun h=>⟨h,Zc (Ka (Zz T i).kind) ?_ ?_⟩,fun h=>?_⟩
  ·simp [go_sem]
  ·obtain ⟨sa,sb,sh,slo⟩:=hs i h
   have next:∀ (mm:Int) (f:Nat→List AV),mm=below T H i→(f 0=[.lit (.int .i64 (IntKind.i64.wrap (mm+1)))])→∀ j,j<i+1→ZH i (Zy (H.take i)) f j=Zy (H.take (i+1)) j:=fun mm f h1 h2 j hj=>by
    rw [Zgl (by omega),←Za5 (H.take i) (YA H i) j (by omega),hlen]
    unfold ZH
    split
    ·rfl
    ·have:j-i=0:=by omega
     rw [this,h2,h1,sh]
     rw [wrap_i64 (by omega)]
     rfl
   rcases JX (Zz T i).kind with e|e|e
   ·simp [go_sem,e]
    refine Zc (Ka (Zz T i).kind) ?_ ?_
    ·simp [go_sem]
    ·simp [go_sem,e]
     refine ⟨by omega,by omega,i+1,by omega,by omega,?_⟩
     ·refine ZU [0,4] (by simp) (by simp) (by simp) (by simp) trivial ?_ ?_
      ·simp [go_sem]
       exact Zj (by omega)
      ·simp [go_sem]
       exact ⟨clt,.inl fun j hj=>⟨next 0 _ (by simp [below,e]) rfl j hj,Z8 _ _⟩⟩
   ·have ha:=sa (by omega)
    have ia:YA (H.take i) (Zz T i).a.toNat=YA H (Zz T i).a.toNat:=Qw (by omega)
    simp [go_sem,e,ZT]
    refine ⟨ha.1,ha.2,by omega,Zc (Ka (Zz T i).kind) ?_ ?_⟩
    ·simp [go_sem]
    ·simp [go_sem,e]
     refine ⟨by omega,by omega,i+1,by omega,by omega,?_⟩
     ·refine ZU [0,4] (by simp) (by simp) (by simp) (by simp) trivial ?_ ?_
      ·simp [go_sem]
       exact Zj (by omega)
      ·simp [go_sem]
       exact ⟨clt,.inl fun j hj=>⟨next _ _ (by simp [below,e,ia]) rfl j hj,Z8 _ _⟩⟩
   ·have ha:=sa (by omega)
    have hb:=sb e
    have ia:YA (H.take i) (Zz T i).a.toNat=YA H (Zz T i).a.toNat:=Qw (by omega)
    have ib:YA (H.take i) (Zz T i).b.toNat=YA H (Zz T i).b.toNat:=Qw (by omega)
    simp [go_sem,e,ZT]
    refine ⟨ha.1,ha.2,by omega,Zc (Ka (Zz T i).kind) ?_ ?_⟩
    ·simp [go_sem]
    ·simp [go_sem,e,ZT]
     refine ⟨hb.1,hb.2,by omega,fun hc=>⟨hb.1,hb.2,by omega,by omega,by omega,i+1,by omega,by omega,?_⟩,fun hc=>⟨by omega,by omega,i+1,by omega,by omega,?_⟩⟩
     ·refine ZU [0,4] (by simp) (by simp) (by simp) (by simp) trivial ?_ ?_
      ·simp [go_sem]
       exact Zj (by omega)
      ·simp [go_sem]
       exact ⟨clt,.inl fun j hj=>⟨next _ _ (by rw [ia,ib] at hc;simp [below,e,ib];omega) rfl j hj,Z8 _ _⟩⟩
     ·refine ZU [0,4] (by simp) (by simp) (by simp) (by simp) trivial ?_ ?_
      ·simp [go_sem]
       exact Zj (by omega)
      ·simp [go_sem]
       exact ⟨clt,.inl fun j hj=>⟨next _ _ (by rw [ia,ib] at hc;simp [below,e,ia];omega) rfl j hj,Z8 _ _⟩⟩
  ·obtain rfl:i=T.length:=by omega
   have w:IntKind.i64.wrap ((T.length:Int)-1)=((T.length-1:Nat):Int):=by rw [wrap_i64 (by omega)];omega
   rw [w]
   simp only [Int.toNat_natCast]
   simp [go_sem,ZT,Qw (H:=H) (i:=T.length) (j:=T.length-1) (by omega)]
   omega
theorem ZhO (z:ByteArray) {f i k:Nat} (h1:f≤i) (h2:i≤k):z.extract f i++z.extract i k=z.extract f k:=by
 apply ByteArray.ext
 simp only [ByteArray.data_append,ByteArray.data_extract]
 rw [Array.extract_append_extract]
 congr 1<;>omega
theorem Zcj (o:PTok) (l:List PTok):Ky (o::l)=o.gap++o.text++Ky l:=by
 have gen:∀ (l:List PTok) (b:ByteArray),l.foldl (fun b o=>b++o.gap++o.text) b=b++l.foldl (fun b o=>b++o.gap++o.text) ByteArray.empty:=by
  intro l
  induction l with
  |nil=>intro b;simp
  |cons o l ih=>
   intro b
   simp only [List.foldl_cons]
   rw [ih (b++o.gap++o.text),ih (ByteArray.empty++o.gap++o.text)]
   simp [ByteArray.append_assoc]
 unfold Ky
 simp only [List.foldl_cons]
 rw [gen]
 simp
theorem Zdf (l:List POp) (z:ByteArray) (f:Nat) (hf:f≤z.size):Ky (YY l z f)=z.extract f z.size:=by
 generalize hn:z.size-f=n
 induction n using Nat.strongRecOn generalizing f with
 |ind n ih=>
  have hr:=Zdd Xd z f hf
  by_cases h:f+run Xd z f<z.size
  ·rw [Uu rfl h,Zcj]
   have hg:=Vv l z (f+run Xd z f)
   have hl:=Ur l z (f+run Xd z f) h
   obtain ⟨i,hi⟩:∃ i,i=f+run Xd z f:=⟨_,rfl⟩
   rw [←hi] at hg hl h hr ⊢
   have hfi:f≤i:=by omega
   obtain ⟨j,hj⟩:∃ j,j=i+ZL l z i:=⟨_,rfl⟩
   rw [←hj] at hl ⊢
   simp only
   rw [ih (z.size-j) (by omega) j hl rfl,ZhO z hfi (by omega),ZhO z (by omega) hl]
  ·have e:f+run Xd z f=z.size:=by omega
   rw [VN rfl h,Zcj,e]
   simp only [Ky,List.foldl_nil]
   rw [show (⟨#[]⟩:ByteArray)=ByteArray.empty from rfl,ByteArray.append_empty,ByteArray.append_empty]
theorem ZdI (z:ByteArray) (a b:Nat):(z.extract a b).size≤z.size:=by
 rw [ByteArray.size_extract];omega
theorem Jf {l:List POp} {z:ByteArray} (hz:z.size≤200000):(UD l z).length≤200001∧Xn (UD l z)≤200000:=by
 unfold UD
 split
 ·rename_i h
  have h1:=Gr l z 0 (by omega)
  have h2:=Zdf l z 0 (by omega)
  have h3:=Hx (YY l z 0)
  rw [h2] at h3
  have h4:=ZdI z 0 z.size
  exact ⟨by omega,by omega⟩
 ·exact ⟨by simp,by simp [Xn]⟩
theorem Zgi {l:List PTok} {i:Nat} (hi:i<l.length):V7 (Zf l i)≤Xn l:=by
 induction l generalizing i with
 |nil=>simp at hi
 |cons o l ih=>
  unfold Xn at *
  cases i with
  |zero=>simp [Zf]
  |succ i=>
   have:=ih (i:=i) (by simpa using hi)
   simp only [List.map_cons,List.sum_cons]
   have e:Zf (o::l) (i+1)=Zf l i:=by simp [Zf]
   rw [e]
   omega
def GL (t:List PTok) (i:Nat):Int:=(Xn (t.take i)+(Zf t i).gap.size:Nat)
theorem Zlc {mem:List (Option Ob)} {sz n:Nat} {f f':Nat→List AV} (hsz:0<sz) (h:∀ i,i<n→f i=f' i∧∀ c,c∈f' i→Closed c):QI mem (.sl sz n f) sz n f':=
 ⟨hsz,f,by simp [ZY],h⟩
theorem Zgj {t:List PTok} {i j:Nat} (h:j<i):Zf (t.take i) j=Zf t j:=by
 simp [Zf,List.getD_eq_getElem?_getD,h]
theorem Zbp (t:List PTok) (ht:t.length+Xn t≤1048576) (i:Nat) (hi:i<t.length):VFun Tryz.prog 71 [.sl 3 t.length (Zk t),.lit (.int .i64 i)] (fun av obs=>obs=[]∧av=.lit (.int .i64 (GL t i))):=by
 have clt:∀ (i:Nat) (c:AV),i<t.length→c∈Zk t i→Closed c:=fun i c _ h=>Zm t i c h
 have hle:=Ul t i
 have hsz:=Hx (t.take i)
 have htl:(t.take i).length=i:=by simp;omega
 have hg:=Zgi hi
 have cr:=ZdP (t.take i) (by omega)
 rw [htl] at cr
 unfold V7 at hg
 refine Zd Tryz.func71 (by kernel_rfl) rfl (by simp [Tryz.ntmps71]) ?_;simp only [Tryz.ntmps71,Tryz.results71];simp [go_sem]
 refine Zn [] (.q 0 <| .q 1 <| .q 2 <| .q 5 <| .q 6 <| .q 7 <| .q 8 <| .q 9 <| .q 10 <| .or 3 (.q 4 <| .q 11 <| .q 12 <| .done) (.nil)) (by kernel_rfl) ?_
 simp [go_sem,Zg]
 refine ⟨by omega,hi,Zv cr ?_ ?_⟩
 ·simp [go_sem]
  exact Zlc (by omega) fun j hj=>⟨by rw [Zg,Zgj hj],fun c hc=>Zm _ _ c hc⟩
 ·simp [go_sem,hsz]
  rw [wrap_i64 (by omega)]
  simp [GL]
open Go.Proofs.YtadghlfkddkelaaGreatDoor.Ops (Tr Tk Lv Res Fit OF)
def Kc (t:List PTok):Option Nat:=(List.range t.length).find? fun i=>decide ((Zf t i).kind=6)
theorem Zby {t:List PTok} {i:Nat} (hi:i<t.length) (h:∀ j,j<i→(Zf t j).kind≠6) (hb:(Zf t i).kind=6):Kc t=some i:=by
 unfold Kc
 rw [List.find?_range_eq_some]
 refine ⟨by simpa using hb,by simpa using hi,fun j hj=>?_⟩
 simpa using h j hj
theorem Zbz {t:List PTok} (h:∀ j,j<t.length→(Zf t j).kind≠6):Kc t=none:=by
 unfold Kc
 rw [List.find?_eq_none]
 intro j hj
 simpa using h j (by simpa using hj)
open Classical in
noncomputable def toksZ (l:List POp) (t:List PTok):List TkP:=if h:∃ ts:List TkP,Yv l t 0 ts∧Fit true 0 ts then Classical.choose h else []
theorem ZjZ {l:List POp} {t:List PTok} (h:∃ ts:List TkP,Yv l t 0 ts∧Fit true 0 ts):Yv l t 0 (toksZ l t)∧Fit true 0 (toksZ l t):=by
 unfold toksZ
 rw [dif_pos h]
 exact Classical.choose_spec h
noncomputable def partT (l:List POp) (t:List PTok):Option PT:=Ops.build lvO (toksZ l t).length (toksZ l t)
noncomputable def parK (l:List POp) (t:List PTok):List PNode×Int×Int:=match Kc t with
 |some i=>([],3,GL t i)
 |none=>if 0≤(ZW l t).2 then ([],4,GL t (ZW l t).2.toNat) else match partT l t with
  |none=>([],5,0)
  |some e=>if Z6 e≤1000 then (lay e [],0,0) else ([],6,0)
noncomputable def parZ (l:List POp) (z:ByteArray):List PNode×Int×Int:=
 if XM l≠0 then ([],1,0) else if ¬z.size≤20000 then ([],2,0) else parK l (UD l z)
theorem ZaH {l:List POp} {t:List PTok} {i:Nat} (h:Kc t=some i):parK l t=([],3,GL t i):=by unfold parK;rw [h]
theorem K9 {l:List POp} {t:List PTok} (h:Kc t=none) (hr:0≤(ZW l t).2):parK l t=([],4,GL t (ZW l t).2.toNat):=by unfold parK;rw [h];simp only;rw [if_pos hr]
theorem Kk {l:List POp} {t:List PTok} (h:Kc t=none) (hr:(ZW l t).2=-1) (hp:partT l t=none):parK l t=([],5,0):=by unfold parK;rw [h];simp only;rw [if_neg (by omega),hp]
theorem Hz {l:List POp} {t:List PTok} {e:PT} (h:Kc t=none) (hr:(ZW l t).2=-1) (hp:partT l t=some e) (he:¬Z6 e≤1000):parK l t=([],6,0):=by unfold parK;rw [h];simp only;rw [if_neg (by omega),hp];simp only;rw [if_neg he]
theorem Zdi {l:List POp} {t:List PTok} {e:PT} (h:Kc t=none) (hr:(ZW l t).2=-1) (hp:partT l t=some e) (he:Z6 e≤1000):parK l t=(lay e [],0,0):=by unfold parK;rw [h];simp only;rw [if_neg (by omega),hp];simp only;rw [if_pos he]
theorem Zdv {l:List POp} {z:ByteArray} (f:Nat) (hf:f≤z.size):(YY l z f).length≠0∧(Zf (YY l z f) ((YY l z f).length-1)).kind=7:=by
 generalize hn:z.size-f=n
 induction n using Nat.strongRecOn generalizing f with
 |ind n ih=>
  have hr:=Zdd Xd z f hf
  by_cases h:f+run Xd z f<z.size
  ·have hg:=Vv l z (f+run Xd z f)
   have hl:=Ur l z (f+run Xd z f) h
   obtain ⟨h1,h2⟩:=ih (z.size-(f+run Xd z f+ZL l z (f+run Xd z f))) (by omega) (f+run Xd z f+ZL l z (f+run Xd z f)) hl rfl
   rw [Uu rfl h]
   refine ⟨by simp,?_⟩
   obtain ⟨q,hq⟩:∃ q,q=YY l z (f+run Xd z f+ZL l z (f+run Xd z f)):=⟨_,rfl⟩
   rw [←hq] at h1 h2 ⊢
   rw [←h2]
   simp only [Zf,List.getD_eq_getElem?_getD,List.length_cons,Nat.add_sub_cancel]
   rw [show q.length=(q.length-1)+1 by omega,List.getElem?_cons_succ]
   simp
  ·rw [VN rfl h]
   simp [Zf]
theorem HM {l:List POp} {z:ByteArray} (h:WJ l z=true):V0 (UD l z)=true:=by
 obtain ⟨h1,h2⟩:=Zdv (l:=l) (z:=z) 0 (by omega)
 rw [UD,if_pos h]
 simp only [V0,h1,h2,ne_eq,not_false_eq_true,decide_true,Bool.and_self]
theorem Hw {l:List POp} {t:List PTok} (h0:XM l=0) (he:V0 t=true):((ZW l t).2=-1∧(ZW l t).1=Yp l t t.length)∨(0≤(ZW l t).2∧(ZW l t).2<t.length):=by
 unfold ZW
 rw [if_neg (by omega)]
 split
 ·rename_i i hb
  unfold Uz at hb
  rw [List.find?_range_eq_some] at hb
  have:=hb.2.1
  simp only [List.mem_range] at this
  exact .inr ⟨by simp,by simp;omega⟩
 ·rw [if_pos he]
  exact .inl ⟨rfl,rfl⟩
structure Fits (l:List POp) (t:List PTok):Prop where
 len:(toksZ l t).length+1=t.length
 toks:Yv l t 0 (toksZ l t)
 fit:Fit true 0 (toksZ l t)
 seg:Xi l t (Yp l t t.length) 0 (toksZ l t)
 all:∀ e:PT,e.yield=toksZ l t→e.All lvO (InL l)
theorem ZdG {l:List POp} {t:List PTok} (h0:XM l=0) (hr:(ZW l t).2=-1):Fits l t:=by
 have hu:=Qk h0
 obtain ⟨h1,h2⟩:=ZjZ (Zls hu hr)
 have hl:=XX h1
 have hs:=Zj7 hu _ 0 0 h1 h2 rfl
 exact ⟨by omega,h1,h2,hs,fun e he=>by rw [←he] at hs;exact (QR e 0 hs).2.1⟩
theorem ZaG {l:List POp} {t:List PTok} {e:PT} (F:Fits l t) (h:partT l t=some e):e.Adm lvO∧e.yield=toksZ l t∧YK e∧e.All lvO (InL l)∧Xb e:=by
 obtain ⟨h1,h2⟩:=Ops.build_sound lvO _ _ _ (OF.of_fit F.fit) h
 have hs:=F.seg
 rw [←h2] at hs
 exact ⟨h1,h2,QR e 0 hs⟩
theorem Zkh (l:List POp) (z:ByteArray):(parZ l z).1.length≤300000:=by
 unfold parZ
 split
 ·simp
 ·rename_i h0
  have h0:XM l=0:=Decidable.byContradiction h0
  split
  ·simp
  ·rename_i h1
   have h1:z.size≤20000:=Decidable.byContradiction h1
   have hok:WJ l z=true:=by simp [WJ,h0,h1]
   obtain ⟨hq1,hq2⟩:=Jf (l:=l) (z:=z) (by omega)
   cases hb:Kc (UD l z) with
   |some i=>rw [ZaH hb];simp
   |none=>
    rcases Hw h0 (HM hok) with ⟨hr,_⟩|⟨hr,_⟩
    ·have F:=ZdG h0 hr
     cases hp:partT l (UD l z) with
     |none=>rw [Kk hb hr hp];simp
     |some e=>
      obtain ⟨e1,e2,e3,e4,e5⟩:=ZaG F hp
      by_cases he:Z6 e≤1000
      ·rw [Zdi hb hr hp he]
       have:=Wx e []
       have:=F.len
       rw [e2] at *
       simp only [List.length_nil] at *
       omega
      ·rw [Hz hb hr hp he];simp
    ·rw [K9 hb hr];simp
theorem ZmF {l:List POp} {t:List PTok} (h0:XM l=0) (F:Fits l t):∃ r:Option (PT×List TkP),Ops.operand lvO (2*(toksZ l t).length+2) 0 (toksZ l t)=some r∧
  (match r with
  |none=>partT l t=none
  |some (e,rest)=>t.length-1-rest.length<t.length∧((partT l t=some e∧(Zf t (t.length-1-rest.length)).kind=7)∨(partT l t=none∧(Zf t (t.length-1-rest.length)).kind≠7))):=by
 have hof:=OF.of_fit F.fit
 have hbe:=Ops.build_eq_operand lvO (ZgH h0) (toksZ l t) hof F.all
 have hlen:=F.len
 obtain ⟨r,hr⟩:=(Ops.fuel_all lvO (2*(toksZ l t).length+2)).1 0 (toksZ l t) (by omega)
 refine ⟨r,hr,?_⟩
 have hno:(∀ e,r≠some (e,[]))→partT l t=none:=fun h=>by
  cases hp:partT l t with
  |none=>rfl
  |some e=>
   have:=(hbe e).1 hp
   rw [hr] at this
   exact absurd (Option.some.inj this) (h e)
 cases r with
 |none=>exact hno fun e=>by simp
 |some x=>
  obtain ⟨e,rest⟩:=x
  obtain ⟨h1,h2,_⟩:=(Ops.sound_all lvO _).1 _ _ _ _ hr
  have htk:=F.toks
  rw [h1] at htk
  have hl:=XX htk
  have hrest:=W8 htk
  refine ⟨by omega,?_⟩
  cases rest with
  |nil=>
   refine .inl ⟨(hbe e).2 hr,?_⟩
   exact hrest.2
  |cons tk r=>
   refine .inr ⟨hno fun e'=>by simp,?_⟩
   have:=hrest.1
   cases tk with
   |leaf b=>have h:=this.1;omega
   |opn=>have h : _=_:=this;omega
   |cls=>have h : _=_:=this;omega
   |pre o=>have h:=this.1;omega
   |inf o=>have h:=this.1;omega
   |post o=>have h:=this.1;omega
theorem Zkw {ty sz n:Nat} {f:Nat→List AV} (h:∀ i,(f i).all X8=true):Zlg [some ⟨ty,sz,n,f⟩]:=fun k ob hk i _=>by
 cases k with
 |zero=>
  simp only [List.getElem?_cons_zero,Option.some.injEq] at hk
  subst hk
  exact h i
 |succ k=>simp at hk
def paR (l:List POp) (z:ByteArray) (av:AV) (obs:List Ob):Prop:=(av=.tup [.agg [.own 0],.lit (.int .i64 (parZ l z).2.1),.lit (.int .i64 (parZ l z).2.2)]∧obs=[⟨137,4,(parZ l z).1.length,ZE (parZ l z).1⟩])∨∃ x y:Int,parZ l z=([],x,y)∧av=.tup [.agg [.lit (.slice none 0 0)],.lit (.int .i64 x),.lit (.int .i64 y)]∧obs=[]
theorem Wh {l:List POp} {z:ByteArray} {x y:Int} (h:parZ l z=([],x,y)):paR l z (.tup [.agg [.lit (.slice none 0 0)],.lit (.int .i64 x),.lit (.int .i64 y)]) []:=.inr ⟨x,y,h,rfl,rfl⟩
theorem Zhy {l:List POp} {z:ByteArray} {av:AV} {obs:List Ob} (h:paR l z av obs):(av=.tup [.agg [.own 0],.lit (.int .i64 (parZ l z).2.1),.lit (.int .i64 (parZ l z).2.2)]∧obs=[⟨137,4,(parZ l z).1.length,ZE (parZ l z).1⟩])∨∃ xs:List Value,av=.tup (.agg [.lit (.slice none 0 0)]::xs.map .lit)∧obs=[]∧
  (AV.tup (.agg [.own 0]::xs.map .lit)=.tup [.agg [.own 0],.lit (.int .i64 (parZ l z).2.1),.lit (.int .i64 (parZ l z).2.2)]∧[(⟨137,4,0,ZE []⟩:Ob)]=[⟨137,4,(parZ l z).1.length,ZE (parZ l z).1⟩]):=by
 rcases h with h|⟨x,y,h1,rfl,rfl⟩
 ·exact .inl h
 ·refine .inr ⟨[.int .i64 x,.int .i64 y],rfl,rfl,?_⟩
  rw [h1]
  exact ⟨rfl,rfl⟩
set_option maxRecDepth 100000 in
theorem ZdQ (l:List POp) (hl:l.length≤9223372036854775807) (hw:XD l) (z:ByteArray) (hz:z.size≤1048576):VFun Tryz.prog 45 [.agg [.sl 4 l.length (Za l)],.lit (.string z)] (paR l z):=by
 have cl:∀ (i:Nat) (c:AV),i<l.length→c∈Za l i→Closed c:=fun i c _ h=>Zo l i c h
 refine Zd Tryz.func45 (by kernel_rfl) rfl (by simp [Tryz.ntmps45]) ?_;simp only [Tryz.ntmps45,Tryz.results45];simp [go_sem]
 refine Zc (VG l hl hw) ?_ ?_
 ·simp [go_sem]
  exact Zb (by omega) cl
 ·simp [go_sem]
  refine ⟨fun h0=>Wh (by simp [parZ,h0]),fun h0=>?_⟩
  have hu:=Qk h0
  refine ZP (ZiW l hl hw z hz) ?_ ?_
  ·simp [go_sem]
   exact Zb (by omega) cl
  ·rintro av obs ⟨rfl,rfl⟩
   simp [go_sem]
   refine ⟨fun h1=>Wh ?_,fun h1=>?_⟩
   ·have:¬z.size≤20000:=fun e=>by simp [WJ,h0,e] at h1
    simp [parZ,h0,this]
   have hz2:z.size≤20000:=by simp [WJ] at h1;exact h1.2
   have hends:=HM h1
   obtain ⟨hq1,hq2⟩:=Jf (l:=l) (z:=z) (by omega)
   obtain ⟨t,ht⟩:∃ t,t=UD l z:=⟨_,rfl⟩
   have hpar:parZ l z=parK l t:=by rw [parZ,if_neg (by omega),if_neg (by omega),←ht]
   rw [←ht] at hends hq1 hq2 ⊢
   have clt:∀ (i:Nat) (c:AV),i<t.length→c∈Zk t i→Closed c:=fun i c _ h=>Zm t i c h
   have hto:t.length+Xn t≤1048576:=by omega
   refine ZN (fun i:Nat=>i≤t.length∧∀ j,j<i→(Zf t j).kind≠6) (fun i=>t.length-i) (fun i=>.of [(2,.ptr 0 1 0 0),(4,.ptr 1 1 0 0),(5,.lit (.int .i64 0)),(6,.lit (.int .i64 0)),(7,.own 2),(9,.lit (.int .i64 i))] [some ⟨55,1,1,fun _=>[.sl 4 l.length (Za l)]⟩,some ⟨80,1,1,fun _=>[.lit (.slice none 0 0)]⟩,some ⟨127,3,t.length,Zk t⟩]) ⟨0,⟨by omega,by simp⟩,?_⟩ (fun i hi=>?_)
   ·simp [go_sem]
    exact ⟨cl,fun i hi c hc=>.closed _ (clt i c hi hc)⟩
   ·simp [go_sem,Zg]
    refine ⟨by omega,fun h=>⟨h,fun hk=>?_,fun hk=>?_⟩,fun h=>?_⟩
    ·have hb:=Zby h hi.2 hk
     refine Zc (Zbp t hto i h) ?_ ?_
     ·simp [go_sem]
      exact Vz (k:=2) rfl (by omega) clt
     ·simp [go_sem]
      exact Wh (by rw [hpar,ZaH hb])
    ·refine ⟨i+1,⟨by omega,fun j hj=>?_⟩,by omega,Zj (by omega),cl⟩
     rcases Nat.lt_succ_iff_lt_or_eq.mp hj with hj|rfl
     ·exact hi.2 j hj
     ·exact hk
    ·obtain rfl:i=t.length:=by omega
     have hnb:=Zbz hi.2
     refine ZP (Zfm l hl hw t (by omega)) ?_ ?_
     ·simp [go_sem]
      exact ⟨Zb (by omega) cl,Vz (k:=2) rfl (by omega) clt⟩
     ·rintro av obs ⟨rfl,rfl⟩
      simp [go_sem]
      rcases Hw h0 hends with ⟨hr,hR⟩|⟨hr,hlt⟩
      ·rw [hr,hR]
       simp [go_sem]
       have F:=ZdG h0 hr
       have hpos:0<t.length:=by have:=F.len;omega
       have w1:IntKind.i64.wrap ((t.length:Int)-1)=((t.length-1:Nat):Int):=by rw [wrap_i64 (by omega)];omega
       have clr:∀ (i:Nat) (c:AV),i<(Yp l t t.length).length→c∈Zy (Yp l t t.length) i→Closed c:=fun i c _ h=>Z8 _ i c h
       have cb:=Zl7 l hl hu hw (JP h0) t (by omega) (Yp l t t.length) (UK l t t.length) (toksZ l t).length (toksZ l t) 0 (t.length-1) [] (Nat.le_refl _) (OF.of_fit F.fit) (by have:=F.len;omega) (by omega) F.seg (by have:=F.len;simp;omega)
       rw [w1]
       refine ⟨by omega,Jz [4] cb (by simp) ?_ ?_ trivial ?_ (fun av mem' maps' r=>by
        unfold Y7 at r;split at r
        ·rw [r.1];rfl
        ·obtain ⟨T,_,r|r⟩:=r<;>rw [r.1]<;>rfl)⟩
       ·simp [go_sem]
        refine ⟨.inl ?_,.inr (.inl ⟨by simp,Vz (k:=2) rfl (by omega) clt,?_⟩),.inr (.inl ⟨by simp,Vz (k:=3) rfl (by omega) clr,?_⟩),.inl (.closed _ (.lit _)),.inl (.closed _ (.lit _)),.inl ?_⟩
        ·exact .closed _ (by simp only [ZgN,List.mem_singleton];rintro c rfl;simp only [ZiT];exact cl)
        ·exact fun i hi=>ZmB _ i
        ·exact fun i hi=>rfl
        ·exact .own 0 (by simp)
       ·simp [go_sem,Zi]
       ·cases hp:partT l t with
        |none=>
         have hk:=Kk hnb hr hp
         rw [partT] at hp
         rw [hp]
         rintro av mem maps ⟨T,hT,⟨rfl,rfl,rfl⟩|⟨rfl,rfl,rfl⟩⟩
         ·refine ⟨ZeO fun i=>rfl,?_⟩
          simp [go_sem,Zi]
          exact Wh (by rw [hpar,hk])
         ·refine ⟨Zkw fun i=>rfl,?_⟩
          simp [go_sem,Zi]
          exact Wh (by rw [hpar,hk])
        |some e=>
         obtain ⟨e1,e2,e3,e4,e5⟩:=ZaG F hp
         have hp':=hp
         rw [partT] at hp
         rw [hp]
         rintro av mem maps ⟨rfl,rfl,rfl⟩
         refine ⟨ZeO fun i=>rfl,?_⟩
         simp [go_sem,Zi]
         have hly:=Wx e []
         have hgr:=ZV e []
         have hF:=F.len
         rw [←e2] at hF
         simp only [List.length_nil,Nat.zero_add] at hly hgr
         have hH:=Kr e [] [] e3 e5 ⟨rfl,fun i hi=>by simp at hi⟩
         have hlast:=Qc e []
         rw [hH.1] at hlast
         have cle:∀ (i:Nat) (c:AV),i<(lay e []).length→c∈ZE (lay e []) i→Closed c:=fun i c _ h=>ZQ _ i c h
         have ch:=ZgX (lay e []) (his e []) (by omega) hH
         rw [hlast] at ch
         refine Zc ch ?_ ?_
         ·simp [go_sem]
          exact Vz (k:=5) rfl (by omega) cle
         ·simp [go_sem]
          refine ⟨fun h6=>Wh (by rw [hpar,Hz hnb hr hp' (by omega)]),fun h6=>⟨_,obsSame_one.mpr ⟨⟨137,4,(lay e []).length,ZE (lay e [])⟩,⟨rfl,rfl,rfl,fun j hj=>⟨rfl,Xc _ j⟩⟩,rfl⟩,.inl ?_⟩⟩
          rw [hpar,Zdi hnb hr hp' h6]
          exact ⟨rfl,rfl⟩
      ·obtain ⟨q,hq⟩:∃ q:Nat,(ZW l t).2=q:=⟨(ZW l t).2.toNat,by omega⟩
       have hk:=K9 hnb hr
       rw [hq] at hr hlt hk ⊢
       simp only [Int.toNat_natCast] at hk
       simp [go_sem,hr]
       have hq':q<t.length:=by omega
       refine ⟨Zc (Zbp t hto q hq') ?_ ?_,fun h=>by omega⟩
       ·simp [go_sem]
        exact Vz (k:=2) rfl (by omega) clt
       ·simp [go_sem]
        exact Wh (by rw [hpar,hk])
theorem Zfn (l:List POp) (hl:l.length≤9223372036854775807) (hw:XD l) (z:ByteArray) (hz:z.size≤1048576):VFun Tryz.prog 45 [.agg [.sl 4 l.length (Za l)],.lit (.string z)] (fun av obs=>av=.tup [.agg [.own 0],.lit (.int .i64 (parZ l z).2.1),.lit (.int .i64 (parZ l z).2.2)]∧obs=[⟨137,4,(parZ l z).1.length,ZE (parZ l z).1⟩]):=
 (ZdQ l hl hw z hz).adoptA 137 4 (by omega) (ZE []) fun av obs h=>Zhy h
end Go.Proofs.YtadghlfkddkelaaGreatDoor.V
namespace Go.Proofs.YtadghlfkddkelaaGreatDoor.V
open Go.RowKit
noncomputable def trP (L:List PMod) (i:Nat):List PNode×Int×Int:=parZ (scL L i) (ZA L i).body
noncomputable def trL (L:List PMod) (i:Nat):List PNode:=(trP L i).1
noncomputable def badT (L:List PMod) (i:Nat):Bool:=decide (¬(trP L i).2.1=0)
noncomputable def treesC (L:List PMod):Int×Nat:=
 if (YE L).1=0 then
  match ZZ L.length (badT L) with
  |some i=>(10+(trP L i).2.1,i)
  |none=>(0,0)
 else YE L
noncomputable def treesN (L:List PMod):Nat:=if (YE L).1=0∧ZZ L.length (badT L)=none then L.length else 0
theorem Zhs {L:List PMod} (h:¬(YE L).1=0):treesC L=YE L∧treesN L=0:=by
 unfold treesC treesN
 rw [if_neg h,if_neg fun e=>h e.1]
 exact ⟨rfl,rfl⟩
theorem Zca {L:List PMod} {i:Nat} (h:(YE L).1=0) (hf:ZZ L.length (badT L)=some i):treesC L=(10+(trP L i).2.1,i)∧treesN L=0:=by
 unfold treesC treesN
 rw [if_pos h,hf,if_neg (by simp)]
 exact ⟨rfl,rfl⟩
theorem Zek {L:List PMod} (h:(YE L).1=0) (hf:ZZ L.length (badT L)=none):treesC L=(0,0)∧treesN L=L.length:=by
 unfold treesC treesN
 rw [if_pos h,hf,if_pos ⟨h,rfl⟩]
 exact ⟨rfl,rfl⟩
theorem Zlr (L:List PMod) (i:Nat):(trL L i).length≤300000:=Zkh _ _
theorem Zco (l:List POp) (z:ByteArray):0≤(parZ l z).2.1∧(parZ l z).2.1≤100:=by
 unfold parZ
 split
 ·simp
 split
 ·simp
 unfold parK
 (repeat' split)<;>simp
theorem ZcI {L:List PMod} (hz:∀ i,(Zq L i).name.size≤1048576∧(Zq L i).text.size≤1048576) (i:Nat):(ZA L i).body.size≤1048576:=by
 have h:∀ z:ByteArray,z.size≤1048576→(Z2 z).1.body.size≤1048576:=fun z hz=>by
  unfold Z2
  split
  ·exact Nat.zero_le _
  ·split
   ·split<;>exact Nat.zero_le _
   ·split
    ·simp only [ByteArray.size_extract];omega
    ·exact Nat.zero_le _
 exact h _ (hz i).2
set_option maxRecDepth 100000 in
theorem ZdO (L:List PMod) (hn:L.length≤1048576) (hz:∀ i,(Zq L i).name.size≤1048576∧(Zq L i).text.size≤1048576):VProc Tryz.prog 16 [.sl 2 L.length (Zh L)] [] []
  (fun av mem maps=>av=.tup [.own 0,.lit (.int .i64 (treesC L).1),.lit (.int .i64 (treesC L).2)]∧mem=Yz (treesN L)::Rw (fun a=>YD (trL L a)) (treesN L)∧maps=[]):=by
 have mcl:∀ (i:Nat) (c:AV),i<L.length→c∈Zh L i→Closed c:=fun i c _ h=>ZI _ i c h
 refine Zu Tryz.func16 (by kernel_rfl) rfl (by simp [Tryz.ntmps16]) ?_;simp only [Tryz.ntmps16,Tryz.results16];simp [go_sem]
 refine uS [] (ZgT L hn hz) ?_ (ha:=by simp [go_sem];exact mcl)
 rintro av mem maps ⟨rfl,rfl,rfl⟩
 simp [go_sem]
 refine ⟨fun hc=>?_,fun hc=>?_⟩
 ·obtain ⟨e1,e2⟩:=Zhs hc
  rw [e1,e2]
  exact uF [0] [Yz 0] (hm:=by simp [go_sem,KTr];exact ⟨rfl,rfl,rfl,fun i hi=>absurd hi (Nat.not_lt_zero i)⟩) (hR:=by simp [go_sem,Rw])
 have tcl:∀ (i:Nat) (c:AV),i<L.length→c∈YO (scL L) i→Closed c:=fun i c _ h=>U4 _ i c h
 have ucl:∀ (i:Nat) (c:AV),i<L.length→c∈ZF (Y8 L) i→Closed c:=fun i c _ h=>Ub _ i c h
 have hok:=Zcv hc
 have hL:=hok.few
 have hN:Ze0 L=L.length:=by unfold Ze0;rw [if_pos hc]
 rw [hN]
 refine uS [] (Zbo L hn fun i=>(hz i).2) ?_ (ha:=by simp [go_sem];exact mcl)
 rintro av mem maps ⟨rfl,rfl,rfl⟩
 simp [go_sem]
 refine ZC (fun i:Nat=>i≤L.length∧∀ j,j<i→badT L j=false) (fun i=>L.length-i) (fun i=>⟨[(0,.sl 2 L.length (Zh L)),(5,.own 0),(6,.sl 1 L.length (YO (scL L))),(9,.sl 3 L.length (ZF (Y8 L))),(10,.lit (.int .i64 i))],Yz i::Rw (fun a=>YD (trL L a)) i,[],0⟩) ⟨0,⟨Nat.zero_le _,fun j h=>absurd h (Nat.not_lt_zero j)⟩,?_⟩ (fun i hi=>?_)
 ·exact uE [0] (h1:=by simp [go_sem];exact ⟨mcl,tcl,ucl⟩) (h4:=by simp [go_sem,KTr,Rw])
 obtain ⟨hi,hb⟩:=hi
 simp [go_sem,KTr]
 refine ⟨by omega,fun h=>?_,fun h=>?_⟩
 ·have hsl:(scL L i).length≤2000100:=hok.scl_len _ _ h
  have hfit:=JH hok i h
  refine Zn [15] (.q 0 <| .q 1 <| .q 2 <| .q 3 <| .q 4 <| .q 5 <| .q 6 <| .q 7 <| .q 8 <| .or 9 (.q 10 <| .q 11 <| .or 12 (.or 13 (.or 14 (.or 15 (.q 16 <| .q 17 <| .done) (.nil)) (.nil)) (.or 14 (.or 13 (.or 15 (.q 16 <| .q 17 <| .done) (.nil)) (.or 15 (.q 13 <| .q 16 <| .q 17 <| .done) (.nil))) (.nil))) (.or 13 (.or 12 (.or 14 (.or 15 (.q 16 <| .q 17 <| .done) (.nil)) (.nil)) (.or 14 (.or 12 (.or 15 (.q 16 <| .q 17 <| .done) (.nil)) (.or 15 (.q 12 <| .q 16 <| .q 17 <| .done) (.nil))) (.nil))) (.or 14 (.or 12 (.or 13 (.or 15 (.q 16 <| .q 17 <| .done) (.nil)) (.or 15 (.q 13 <| .q 16 <| .q 17 <| .done) (.nil))) (.or 13 (.or 12 (.or 15 (.q 16 <| .q 17 <| .done) (.nil)) (.or 15 (.q 12 <| .q 16 <| .q 17 <| .done) (.nil))) (.or 15 (.q 12 <| .q 13 <| .q 16 <| .q 17 <| .done) (.nil)))) (.nil)))) (.or 14 (.or 9 (.q 10 <| .q 11 <| .or 12 (.or 13 (.or 15 (.q 16 <| .q 17 <| .done) (.nil)) (.or 15 (.q 13 <| .q 16 <| .q 17 <| .done) (.nil))) (.or 13 (.or 12 (.or 15 (.q 16 <| .q 17 <| .done) (.nil)) (.or 15 (.q 12 <| .q 16 <| .q 17 <| .done) (.nil))) (.or 15 (.q 12 <| .q 13 <| .q 16 <| .q 17 <| .done) (.nil)))) (.nil)) (.nil))) (by kernel_rfl) ?_
  simp [go_sem,KTr,YO,Y4,QP L h]
  have wri:IntKind.i64.wrap ((i:Int)+1)=(i:Int)+1:=wrap_i64 (by omega)
  have good:(parZ (scL L i) (ZA L i).body).2.1=0→badT L i=false:=fun h3=>by simp [badT,trP,h3]
  have bad:¬(parZ (scL L i) (ZA L i).body).2.1=0→∀ (t:List (Nat×AV)) (m:List (Option Ob)),m[i+2+1]?=some (some ⟨80,1,0,fun _=>[]⟩)→VJ [] (fun av mem maps=>av=.tup [.own 0,.lit (.int .i64 (treesC L).1),.lit (.int .i64 (treesC L).2)]∧mem=some ⟨80,1,treesN L,fun a=>[.own (a+1)]⟩::Rw (fun a=>YD (trL L a)) (treesN L)∧maps=[]) ⟨t,m,[],0⟩ (.tup [.own (i+2+1),.lit (.int .i64 (IntKind.i64.wrap (10+(parZ (scL L i) (ZA L i).body).2.1))),.lit (.int .i64 i)]):=fun h3 t m hm=>by
   obtain ⟨e1,e2⟩:=Zca hc (Ym h (by simp [badT,trP,h3]) hb)
   have hcd:=Zco (scL L i) (ZA L i).body
   rw [e1,e2,wrap_i64 (by omega)]
   exact uF [i+2+1] [Yz 0] (hm:=by simp [go_sem,KTr,hm];exact ⟨rfl,rfl,rfl,fun i hi=>absurd hi (Nat.not_lt_zero i)⟩) (he:=by simp;exact (List.getElem?_eq_some_iff.1 hm).1) (hR:=by simp [go_sem,Rw,KTr,trP])
  have hP:=Zfn (scL L i) (by omega) hfit.1 (ZA L i).body (ZcI hz i)
  refine ⟨h,Yk hP ?_ ?_,Yk hP ?_ ?_⟩
  ·simp [go_sem];exact Zb (by omega) fun i c _ h=>Zo _ i c h
  ·rintro av obs ⟨rfl,rfl⟩
   simp [go_sem,KTr]
   repeat' refine And.intro ?_ ?_
   all_goals intro h3
   all_goals try exact bad h3 _ _ (by rw [List.getElem?_cons_succ];exact Xr _ i 2 _)
   all_goals
    refine ⟨by omega,by omega,i+1,⟨h,XR hb (good h3)⟩,by omega,?_⟩
    refine J7 (i+3+1) (i+1) i (by simp [go_sem,wri];exact ⟨mcl,tcl,ucl⟩) (by rw [List.getElem?_cons_succ];exact Xr _ i 3 _) ?_ (by omega) (fun a ha=>⟨_,by rw [List.getElem?_cons_succ];exact Uf _ _ ha,XE (fun _ _=>rfl) fun _ _ h=>ZQ _ _ _ h⟩) ⟨_,by rw [List.getElem?_cons_succ];exact Xr _ i 0 _,XE (fun _ _=>rfl) fun _ _ h=>ZQ _ _ _ h⟩ (by simp [go_sem])
    refine ⟨rfl,rfl,rfl,fun a ha=>?_⟩
    simp only [ZH]
    have ha:a<i+1:=ha
    split
    ·rename_i h8
     simp [go_sem,Za7 h8];omega
    ·obtain rfl:a=i:=by omega
     simp [go_sem,ZdE]
  ·simp [go_sem];exact Zb (by omega) fun i c _ h=>Zo _ i c h
  ·rintro av obs ⟨rfl,rfl⟩
   simp [go_sem,KTr]
   repeat' refine And.intro ?_ ?_
   all_goals intro h3
   all_goals try exact bad h3 _ _ (by rw [List.getElem?_cons_succ];exact Xr _ i 2 _)
   all_goals
    refine ⟨by omega,by omega,i+1,⟨h,XR hb (good h3)⟩,by omega,?_⟩
    refine J7 (i+3+1) (i+1+1) i (by simp [go_sem,wri];exact ⟨mcl,tcl,ucl⟩) (by rw [List.getElem?_cons_succ];exact Xr _ i 3 _) ?_ (by omega) (fun a ha=>⟨_,by rw [List.getElem?_cons_succ];exact Uf _ _ ha,XE (fun _ _=>rfl) fun _ _ h=>ZQ _ _ _ h⟩) ⟨_,by rw [List.getElem?_cons_succ];exact Xr _ i 1 _,XE (fun _ _=>rfl) fun _ _ h=>ZQ _ _ _ h⟩ (by simp [go_sem])
    refine ⟨rfl,rfl,rfl,fun a ha=>?_⟩
    simp only [ZH]
    have ha:a<i+1:=ha
    split
    ·rename_i h8
     simp [go_sem,Za7 h8];omega
    ·obtain rfl:a=i:=by omega
     simp [go_sem,ZdE]
 ·obtain rfl:i=L.length:=by omega
  obtain ⟨e1,e2⟩:=Zek hc (Xe hb)
  rw [e1,e2]
  exact uFR 0 1 L.length 80 (fun a=>YD (trL L a)) rfl (fun a ha=>by rw [List.getElem?_cons_succ];exact Vh _ ha) (fun a _ i=>rfl) (by omega) (by simp [go_sem]) ⟨by simp [go_sem,YX,UF],rfl,rfl⟩
end Go.Proofs.YtadghlfkddkelaaGreatDoor.V
