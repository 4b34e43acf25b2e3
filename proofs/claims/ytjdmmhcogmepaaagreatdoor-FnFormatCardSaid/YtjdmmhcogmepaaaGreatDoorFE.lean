import Derived.Test.YtjdmmhcogmepaaaGreatDoorFD
import Derived.Test.YtjdmmhcogmepaaaGreatDoorFC
set_option linter.unusedVariables false
set_option linter.unusedSimpArgs false
set_option linter.constructorNameAsVariable false
namespace Go.Proofs.YtjdmmhcogmepaaaGreatDoor.V
open Go.RowKit
open Go.Proofs.YtjdmmhcogmepaaaGreatDoor.Ops (Tr)
def Yl (n:Int):PNode:=⟨⟨#[]⟩,6,n,0⟩
def WN (b:Bool) (T:List PNode):List PNode:=if b then T++[Yl (T.length-1)] else T
theorem Zit {l:List POp} {t:List PNode} {i:Nat} (h:NodesOk l t) (hi:i<t.length) (k:(Za t i).kind=1∨(Za t i).kind=2) (m:Int) (out:List PNode) :
  lay (Zw (Yr l t i) m) out=WN (decide (Uk l (Za t i)<m)) (out++[⟨(Za t i).text,(Za t i).kind,0,0⟩]):=by
 have hl:Uk l (Za t i)=1001:=by
  have:ZO (Za t i)=false:=by simp [ZO];omega
  simp [Uk,this]
 rw [Wj (h.ord i hi) (h.kind hi),if_neg (by omega),if_neg (by omega),if_neg (by omega),if_neg (by omega),hl]
 by_cases hm:(1001:Int)<m
 ·simp only [Zw,if_pos hm,lay,WN,hm,decide_true,if_true,Yl]
 ·simp only [Zw,if_neg hm,lay,WN,hm,decide_false,Bool.false_eq_true,if_false]
theorem Zk4 {t:List PNode} {i:Nat} (h0:0≤ZL t i):(Zv (Za t i).kind≠0→0≤(Za t i).a∧(Za t i).a<i)∧(Zv (Za t i).kind=2→0≤(Za t i).b∧(Za t i).b<i):=by
 rw [YP] at h0
 have neg:0≤ZL t ((i:Int)-1)→1≤i:=fun hf=>by
  by_cases hi:i=0
  ·subst hi;rw [Yt t (i:=((0:Nat):Int)-1) (by omega)] at hf;omega
  ·omega
 refine ⟨fun hk=>?_,fun hk=>?_⟩
 ·rw [if_neg hk] at h0
  split at h0
  ·split at h0
   ·omega
   ·have:=neg h0;omega
  ·split at h0
   ·omega
   ·split at h0
    ·omega
    ·rename_i hb hn
     have h1:=neg (by omega)
     have:=XR t (i:=(i:Int)-1) (by omega)
     omega
 ·rw [if_neg (by omega),if_neg (by omega)] at h0
  split at h0
  ·omega
  ·split at h0
   ·omega
   ·rename_i hb hn
    have h1:=neg (by omega)
    omega
theorem Zj3 {l:List POp} {t:List PNode} {i:Nat} (h:NodesOk l t) (hi:i<t.length) (k:(Za t i).kind=3∨(Za t i).kind=5) (m:Int) (out:List PNode) :
  lay (Zw (Yr l t i) m) out=WN (decide (Uk l (Za t i)<m)) (lay (Zw (Yr l t (Za t i).a.toNat) (ZH (YJ l (Za t i)) false)) out++[⟨(Za t i).text,(Za t i).kind,(lay (Zw (Yr l t (Za t i).a.toNat) (ZH (YJ l (Za t i)) false)) out).length-1,0⟩]):=by
 have ho:ZO (Za t i)=true:=by simp [ZO];omega
 have hl:Uk l (Za t i)=(YJ l (Za t i)).level:=by simp [Uk,ho]
 obtain ⟨p1,p2⟩:=HE (h.has i hi ho)
 rw [Wj (h.ord i hi) (h.kind hi),hl]
 rcases k with k|k
 ·rw [if_neg (by omega),if_pos k]
  by_cases hm:(YJ l (Za t i)).level<m
  ·simp only [Zw,if_pos hm,lay,WN,hm,decide_true,if_true,Yl,p1,p2,k];rfl
  ·simp only [Zw,if_neg hm,lay,WN,hm,decide_false,Bool.false_eq_true,if_false,p1,p2,k];rfl
 ·rw [if_neg (by omega),if_neg (by omega),if_pos k]
  by_cases hm:(YJ l (Za t i)).level<m
  ·simp only [Zw,if_pos hm,lay,WN,hm,decide_true,if_true,Yl,p1,p2,k];rfl
  ·simp only [Zw,if_neg hm,lay,WN,hm,decide_false,Bool.false_eq_true,if_false,p1,p2,k];rfl
theorem Zj2 {l:List POp} {t:List PNode} {i:Nat} (h:NodesOk l t) (hi:i<t.length) (k:(Za t i).kind=4) (m:Int) (out:List PNode) :
  lay (Zw (Yr l t i) m) out=WN (decide (Uk l (Za t i)<m)) (lay (Zw (Yr l t (Za t i).b.toNat) (ZH (YJ l (Za t i)) true)) (lay (Zw (Yr l t (Za t i).a.toNat) (ZH (YJ l (Za t i)) false)) out)++
   [⟨(Za t i).text,(Za t i).kind,(lay (Zw (Yr l t (Za t i).a.toNat) (ZH (YJ l (Za t i)) false)) out).length-1,(lay (Zw (Yr l t (Za t i).b.toNat) (ZH (YJ l (Za t i)) true)) (lay (Zw (Yr l t (Za t i).a.toNat) (ZH (YJ l (Za t i)) false)) out)).length-1⟩]):=by
 have ho:ZO (Za t i)=true:=by simp [ZO];omega
 have hl:Uk l (Za t i)=(YJ l (Za t i)).level:=by simp [Uk,ho]
 obtain ⟨p1,p2⟩:=HE (h.has i hi ho)
 rw [Wj (h.ord i hi) (h.kind hi),hl]
 rw [if_neg (by omega),if_neg (by omega),if_neg (by omega),if_pos k]
 by_cases hm:(YJ l (Za t i)).level<m
 ·simp only [Zw,if_pos hm,lay,WN,hm,decide_true,if_true,Yl,p1,p2,k];rfl
 ·simp only [Zw,if_neg hm,lay,WN,hm,decide_false,Bool.false_eq_true,if_false,p1,p2,k];rfl
theorem Xt:∀ (e:ET) (m:Int),ZF (Zw e m)≤2*ZF e
 | .leaf b,m=>by simp only [Zw];split<;>simp [ZF]
 | .grp e,m=>by have:=Xt e 0;simp only [Zw];split<;>simp [ZF]<;>omega
 | .pre o e,m=>by have:=Xt e (ZH o false);simp only [Zw];split<;>simp [ZF]<;>omega
 | .post o e,m=>by have:=Xt e (ZH o false);simp only [Zw];split<;>simp [ZF]<;>omega
 | .inf o x y,m=>by have:=Xt x (ZH o false);have:=Xt y (ZH o true);simp only [Zw];split<;>simp [ZF]<;>omega
theorem ZhY {l:List POp} {t:List PNode} (h:NodesOk l t) {i:Nat} (hi:i<t.length):ZF (Yr l t i)+(ZL t i).toNat=i+1:=by
 have:=(Zew h i hi).1
 have hl:=ZN (Yr l t i) (t.take (ZL t i).toNat)
 rw [←this] at hl
 have h0:=h.ord i hi
 have hle:=XR t (i:=(i:Int)) (by omega)
 simp at hl
 omega
def KX (l:List POp) (t:List PNode) (i:Nat) (m:Int) (out:List PNode):List PNode:=lay (Zw (Yr l t i) m) out
theorem Zfd (l:List POp) (t:List PNode) (i:Nat) (m:Int) (out:List PNode):KX l t i m out=lay (Zw (Yr l t i) m) out:=rfl
theorem Zfc {l:List POp} {t:List PNode} (h:NodesOk l t) {i:Nat} (hi:i<t.length) (m:Int) (out:List PNode):(KX l t i m out).length≤out.length+2*(i+1)-2*(ZL t i).toNat:=by
 have h1:=ZhY h hi
 have h2:=Xt (Yr l t i) m
 unfold KX
 rw [ZN]
 omega
set_option maxRecDepth 100000 in
theorem Gx (l:List POp) (hl:l.length≤9223372036854775807) (hw:YT l) (t:List PNode) (ht:t.length≤1048576) (h:NodesOk l t) (hng:∀ i,i<t.length→¬(Za t i).kind=6) (i:Nat) (hi:i<t.length) (m:Int) (out:List PNode) (ho:out.length+2*(i+1-(ZL t i).toNat)≤3000000)
  (ih:∀ j,j<i→∀ (m:Int) (out:List PNode),out.length+2*(j+1-(ZL t j).toNat)≤3000000→VProc Tryz.prog 56 [.agg [.sl 4 l.length (Zg l)],.sl 4 t.length (Zf t),.lit (.int .i64 j),.lit (.int .i64 m),.own 0] [Zb out] [] (fun av mem maps=>av=.own 1∧mem=[none,Zb (KX l t j m out)]∧maps=[])) :
  VProc Tryz.prog 56 [.agg [.sl 4 l.length (Zg l)],.sl 4 t.length (Zf t),.lit (.int .i64 i),.lit (.int .i64 m),.own 0] [Zb out] [] (fun av mem maps=>av=.own 1∧mem=[none,Zb (KX l t i m out)]∧maps=[]):=by
 have cl:∀ (i:Nat) (c:AV),i<l.length→c∈Zg l i→Closed c:=fun i c _ h=>ZK l i c h
 have clt:∀ (i:Nat) (c:AV),i<t.length→c∈Zf t i→Closed c:=fun i c _ h=>ZG t i c h
 have c1:=VJ (Za t i)
 have c2:=Gy l hl (Za t i) (h.has i hi)
 simp only [PNode.cells] at c1 c2
 refine Zl Tryz.func56 (by kernel_rfl) rfl (by simp [Tryz.ntmps56]) ?_;simp only [Tryz.ntmps56,Tryz.results56];simp [go_sem]
 have hk:=h.kind hi
 have h6:=hng i hi
 have hkids:=Zk4 (h.ord i hi)
 by_cases k0:ZO (Za t i)=true
 ·have hop':=k0
  simp only [ZO,decide_eq_true_eq] at hop'
  have hh:=h.has i hi k0
  have c3:=ZbW l hl (Za t i) k0 hh
  have c4:=ZfB (YJ l (Za t i)) (HA hw hh)
  simp only [PNode.cells,POp.cells] at c3 c4
  have hka:Zv (Za t i).kind≠0:=by
   rcases (by omega:(Za t i).kind=3∨(Za t i).kind=4∨(Za t i).kind=5) with e|e|e<;>simp [Zv,e]
  obtain ⟨ha1,ha2⟩:=hkids.1 hka
  obtain ⟨q,hq⟩:∃ q:Nat,(Za t i).a=(q:Int):=⟨(Za t i).a.toNat,by omega⟩
  have h0:=h.ord i hi
  have hfi:=XR t (i:=(i:Int)) (by omega)
  have hfq:ZL t (q:Int)=ZL t i:=by
   have hf:=YP t i
   have e0:(i:Int)-1=((i-1:Nat):Int)∨i=0:=by omega
   rw [if_neg hka] at hf
   split at hf
   ·split at hf
    ·omega
    ·rename_i hn
     rw [hf];congr 1;omega
   ·split at hf
    ·omega
    ·split at hf
     ·omega
     ·rename_i hn
      rw [hf];congr 1;omega
  have hq0:=XR t (i:=(q:Int)) (by omega)
  have iq:=ih q (by omega) (ZH (YJ l (Za t i)) false) out (by omega)
  have hlq:=Zfc h (i:=q) (by omega) (ZH (YJ l (Za t i)) false) out
  generalize hO1:KX l t q (ZH (YJ l (Za t i)) false) out=O1 at *
  have ew1:IntKind.i64.wrap ((O1.length:Int)-1)=(O1.length:Int)-1:=wrap_i64 (by omega)
  simp [go_sem,Zz,Zb]
  refine ⟨hi,Zc c1 ?_ ?_⟩
  ·simp [go_sem]
  ·simp [go_sem,k0]
   refine Vp c3 ?_ ?_ ?_
   ·simp [go_sem]
    exact Ze (by omega) cl
   ·simp [go_sem]
   ·simp [go_sem]
    refine Zq [7] (.q 0 <| .q 1 <| .q 2 <| .q 3 <| .q 4 <| .q 6 <| .or 5 (.or 7 (.q 8 <| .done) (.nil)) (.nil)) (by kernel_rfl) ?_
    simp [go_sem]
    refine Zu (c4 false) ?_ ?_
    ·simp [go_sem]
    ·simp [go_sem]
     refine Zd [0] iq (by simp) ?_ ?_ trivial ?_
     ·simp [go_sem,hq]
      exact ⟨cl,clt⟩
     ·simp [go_sem,Zb]
      exact fun i _=>Zk (Z5 _ i)
     ·rintro av mem maps ⟨rfl,rfl,rfl⟩
      simp [go_sem,Zb,ew1]
      refine ⟨by omega,Zc (Yh (Za t i).kind) ?_ ?_⟩
      ·simp [go_sem]
      ·by_cases k4:(Za t i).kind=4
       ·have kd:Zv (Za t i).kind=2:=by simp [Zv,k4]
        obtain ⟨hb1,hb2⟩:=hkids.2 kd
        obtain ⟨r,hr⟩:∃ r:Nat,(Za t i).b=(r:Int):=⟨(Za t i).b.toNat,by omega⟩
        have hfr:(ZL t (r:Int)).toNat=q+1:=by
         have h0:=h.ord i hi
         rw [YP,if_neg (by omega),if_neg (by omega)] at h0
         split at h0
         ·omega
         ·rename_i hb
          have er:(i:Int)-1=(r:Int):=by omega
          rw [er] at h0
          split at h0
          ·omega
          ·omega
        have ir:=ih r (by omega) (ZH (YJ l (Za t i)) true) O1 (by omega)
        have hlr:=Zfc h (i:=r) (by omega) (ZH (YJ l (Za t i)) true) O1
        have hG:=Zj2 h hi k4 m out
        rw [hq,hr,Int.toNat_natCast,Int.toNat_natCast] at hG
        simp only [←Zfd] at hG
        rw [hO1] at hG
        generalize hO2:KX l t r (ZH (YJ l (Za t i)) true) O1=O2 at *
        have ew2:IntKind.i64.wrap ((O2.length:Int)-1)=(O2.length:Int)-1:=wrap_i64 (by omega)
        simp [go_sem,kd]
        refine Zq [7] (.q 0 <| .q 1 <| .q 2 <| .q 3 <| .q 4 <| .q 6 <| .or 5 (.or 7 (.q 8 <| .done) (.nil)) (.nil)) (by kernel_rfl) ?_
        simp [go_sem]
        refine Zu (c4 true) ?_ ?_
        ·simp [go_sem]
        ·simp [go_sem]
         refine Zd [5] ir (by simp) ?_ ?_ trivial ?_
         ·simp [go_sem,hr]
          exact ⟨cl,clt⟩
         ·simp [go_sem,Zb]
          exact fun i _=>Zk (Z5 _ i)
         ·rintro av mem maps ⟨rfl,rfl,rfl⟩
          simp [go_sem,Zb,ew2]
          refine ⟨by omega,?_⟩
          refine ⟨by omega,by omega,Zc c2 ?_ ?_⟩
          ·simp [go_sem]
           exact Ze (by omega) cl
          ·by_cases hm:Uk l (Za t i)<m
           ·simp [hm,WN] at hG
            have ew:IntKind.i64.wrap (O2.length:Int)=O2.length:=wrap_i64 (by omega)
            simp [go_sem,hm,ew]
            refine ⟨by omega,by omega,by omega,?_⟩
            refine ⟨rfl,[10],[none,Zb (KX l t i m out)],by simp,by simp [go_sem],by simp [go_sem],?_,by simp [go_sem],?_⟩
            ·simp [go_sem,Zb]
             refine JU (T:=O2++[⟨(Za t i).text,(Za t i).kind,(O1.length:Int)-1,(O2.length:Int)-1⟩]) (o:=Yl O2.length) (by simp) (by rw [hG];simp) fun j hj=>?_
             exact Zbd (o:=Yl O2.length) (by simp) (fun j hj=>Yk O2 ⟨(Za t i).text,(Za t i).kind,(O1.length:Int)-1,(O2.length:Int)-1⟩ j hj) j hj
            ·simp [go_sem]
             rfl
           ·simp [hm,WN] at hG
            simp [go_sem,hm]
            refine ⟨rfl,[8],[none,Zb (KX l t i m out)],by simp,by simp [go_sem],by simp [go_sem],?_,by simp [go_sem],?_⟩
            ·simp [go_sem,Zb]
             exact Yo hG (fun j hj=>Yk O2 ⟨(Za t i).text,(Za t i).kind,(O1.length:Int)-1,(O2.length:Int)-1⟩ j hj)
            ·simp [go_sem]
             rfl
       ·have kk:(Za t i).kind=3∨(Za t i).kind=5:=by omega
        have kd:Zv (Za t i).kind=1:=by rcases kk with e|e<;>simp [Zv,e]
        have hG:=Zj3 h hi kk m out
        rw [hq,Int.toNat_natCast] at hG
        simp only [←Zfd] at hG
        rw [hO1] at hG
        simp [go_sem,kd]
        refine ⟨by omega,by omega,Zc c2 ?_ ?_⟩
        ·simp [go_sem]
         exact Ze (by omega) cl
        ·by_cases hm:Uk l (Za t i)<m
         ·simp [hm,WN] at hG
          have ew:IntKind.i64.wrap (O1.length:Int)=O1.length:=wrap_i64 (by omega)
          simp [go_sem,hm,ew]
          refine ⟨by omega,by omega,by omega,?_⟩
          refine ⟨rfl,[9],[none,Zb (KX l t i m out)],by simp,by simp [go_sem],by simp [go_sem],?_,by simp [go_sem],?_⟩
          ·simp [go_sem,Zb]
           refine JU (T:=O1++[⟨(Za t i).text,(Za t i).kind,(O1.length:Int)-1,0⟩]) (o:=Yl O1.length) (by simp) (by rw [hG];simp) fun j hj=>?_
           exact Zbd (o:=Yl O1.length) (by simp) (fun j hj=>Yk O1 ⟨(Za t i).text,(Za t i).kind,(O1.length:Int)-1,0⟩ j hj) j hj
          ·simp [go_sem]
           rfl
         ·simp [hm,WN] at hG
          simp [go_sem,hm]
          refine ⟨rfl,[7],[none,Zb (KX l t i m out)],by simp,by simp [go_sem],by simp [go_sem],?_,by simp [go_sem],?_⟩
          ·simp [go_sem,Zb]
           exact Yo hG (fun j hj=>Yk O1 ⟨(Za t i).text,(Za t i).kind,(O1.length:Int)-1,0⟩ j hj)
          ·simp [go_sem]
           rfl
 ·have k0':ZO (Za t i)=false:=by simpa using k0
  have kk:(Za t i).kind=1∨(Za t i).kind=2:=by simp [ZO] at k0';omega
  have hG:=Zit h hi kk m out
  simp [go_sem,Zz,Zb]
  refine ⟨hi,Zc c1 ?_ ?_⟩
  ·simp [go_sem]
  ·simp [go_sem,k0']
   refine ⟨by omega,by omega,Zc c2 ?_ ?_⟩
   ·simp [go_sem]
    exact Ze (by omega) cl
   ·by_cases hm:Uk l (Za t i)<m
    ·simp [hm,WN] at hG
     have ew:IntKind.i64.wrap (out.length:Int)=out.length:=wrap_i64 (by omega)
     simp [go_sem,hm,ew]
     refine ⟨by omega,by omega,by omega,?_⟩
     refine ⟨rfl,[7],[none,Zb (KX l t i m out)],by simp,by simp [go_sem],by simp [go_sem],?_,by simp [go_sem],?_⟩
     ·simp [go_sem,Zb]
      refine JU (T:=out++[⟨(Za t i).text,(Za t i).kind,0,0⟩]) (o:=Yl out.length) (by simp) (by unfold KX;rw [hG];simp) fun j hj=>?_
      exact Zbd (o:=Yl out.length) (by simp) (fun j hj=>Yk out ⟨(Za t i).text,(Za t i).kind,0,0⟩ j hj) j hj
     ·simp [go_sem]
      rfl
    ·simp [hm,WN] at hG
     simp [go_sem,hm]
     refine ⟨rfl,[5],[none,Zb (KX l t i m out)],by simp,by simp [go_sem],by simp [go_sem],?_,by simp [go_sem],?_⟩
     ·simp [go_sem,Zb]
      exact Yo hG (fun j hj=>Yk out ⟨(Za t i).text,(Za t i).kind,0,0⟩ j hj)
     ·simp [go_sem]
      rfl
theorem Zfu (l:List POp) (hl:l.length≤9223372036854775807) (hw:YT l) (t:List PNode) (ht:t.length≤1048576) (h:NodesOk l t) (hng:∀ i,i<t.length→¬(Za t i).kind=6):∀ (i:Nat),i<t.length→∀ (m:Int) (out:List PNode),out.length+2*(i+1-(ZL t i).toNat)≤3000000→
  VProc Tryz.prog 56 [.agg [.sl 4 l.length (Zg l)],.sl 4 t.length (Zf t),.lit (.int .i64 i),.lit (.int .i64 m),.own 0] [Zb out] [] (fun av mem maps=>av=.own 1∧mem=[none,Zb (KX l t i m out)]∧maps=[]):=by
 intro i
 induction i using Nat.strongRecOn with
 |ind i ih=>exact fun hi m out ho=>Gx l hl hw t ht h hng i hi m out ho fun j hj m out ho=>ih j hj (by omega) m out ho
theorem Wh {l:List POp}:∀ {e:ET},Xh l e→Xh l (ZD e)
 | .leaf b,h=>h
 | .grp e,h=>Wh (e:=e) h
 | .pre o e,⟨h1,h2,h3,h4⟩=>⟨h1,h2,h3,Wh h4⟩
 | .post o e,⟨h1,h2,h3,h4⟩=>⟨h1,h2,h3,Wh h4⟩
 | .inf o x y,⟨h1,h2,h3,h4,h5⟩=>⟨h1,h2,h3,Wh h4,Wh h5⟩
theorem WS {l:List POp}:∀ {e:ET} (m:Int),Xh l e→Xh l (Zw e m)
 | .leaf b,m,h=>by simp only [Zw];split<;>exact h
 | .grp e,m,h=>by have:=WS (e:=e) 0 h;simp only [Zw];split<;>exact this
 | .pre o e,m,⟨h1,h2,h3,h4⟩=>by have:=WS (ZH o false) h4;simp only [Zw];split<;>exact ⟨h1,h2,h3,this⟩
 | .post o e,m,⟨h1,h2,h3,h4⟩=>by have:=WS (ZH o false) h4;simp only [Zw];split<;>exact ⟨h1,h2,h3,this⟩
 | .inf o x y,m,⟨h1,h2,h3,h4,h5⟩=>by have:=WS (ZH o false) h4;have:=WS (ZH o true) h5;simp only [Zw];split<;>exact ⟨h1,h2,h3,by assumption,by assumption⟩
theorem ZbN (t:List PNode):∀ (i j:Nat),j<(erT t i).1.length→∃ k,k<i∧(Za (erT t i).1 j).text=(Za t k).text∧(Za (erT t i).1 j).kind=(Za t k).kind∧¬(Za t k).kind=6
 |0,j,h=>by simp [erT] at h
 |i+1,j,h=>by
  by_cases h6:(Za t i).kind=6
  ·have e:(erT t (i+1)).1=(erT t i).1:=by simp [erT,h6]
   rw [e] at h ⊢
   obtain ⟨k,h1,h2⟩:=ZbN t i j h
   exact ⟨k,by omega,h2⟩
  ·obtain ⟨x,y,e⟩:∃ x y,(erT t (i+1)).1=(erT t i).1++[⟨(Za t i).text,(Za t i).kind,x,y⟩]:=by
    simp only [erT,if_neg h6]
    exact ⟨_,_,rfl⟩
   rw [e] at h ⊢
   by_cases hj:j<(erT t i).1.length
   ·obtain ⟨k,h1,h2⟩:=ZbN t i j hj
    refine ⟨k,by omega,?_⟩
    have:Za ((erT t i).1++[⟨(Za t i).text,(Za t i).kind,x,y⟩]) j=Za (erT t i).1 j:=by
     simp only [Za,List.getD_eq_getElem?_getD]
     rw [List.getElem?_append_left hj]
    rw [this];exact h2
   ·have hj':j=(erT t i).1.length:=by simp at h;omega
    refine ⟨i,by omega,?_⟩
    rw [Wm _ _ hj']
    exact ⟨rfl,rfl,h6⟩
def Xq (l:List POp) (t:List PNode):ET:=Yr l t (t.length-1)
def ZT (l:List POp) (t:List PNode):ET:=Zw (ZD (Xq l t)) 0
def Yg (l:List POp) (t:List PNode):Bool:=XX l t&&decide (ZF (ZT l t)≤20000)
def Xm (l:List POp) (t:List PNode):List PNode:=if Yg l t then lay (ZT l t) [] else []
theorem H2 {l:List POp} {t:List PNode} (h:XX l t=true):Xd t=true∧Yv l=0:=by
 simp only [XX,Bool.and_eq_true,decide_eq_true_eq] at h
 exact ⟨h.1.2,h.1.1⟩
theorem WQ {l:List POp} {t:List PNode} (h:XX l t=true):1≤t.length∧t.length≤20000∧Xh l (Xq l t)∧t=lay (Xq l t) []∧Ya t=lay (ZD (Xq l t)) []∧NodesOk l (Ya t)∧(∀ i,i<(Ya t).length→¬(Za (Ya t) i).kind=6)∧
  1≤(Ya t).length∧ZL (Ya t) (((Ya t).length-1:Nat):Int)=0∧Yr l (Ya t) ((Ya t).length-1)=ZD (Xq l t):=by
 obtain ⟨hin,h0⟩:=H2 h
 obtain ⟨g1,g2,g3⟩:=ZbA hin
 have hok:=Zbc h
 obtain ⟨q1,q2,q3⟩:=Zew hok (t.length-1) (by omega)
 rw [g3,show t.length-1+1=t.length by omega] at q1 q3
 rw [List.take_length] at q1
 have e3:Ya t=lay (ZD (Xq l t)) []:=by
  unfold Ya
  rw [if_pos hin,q3];rfl
 have hl:=ZN (ZD (Xq l t)) []
 have hp:=Z1 (ZD (Xq l t))
 obtain ⟨f1,f2⟩:=Zbr (l:=l) (t:=Ya t) (ZD (Xq l t)) [] (Wh q2) (fun j hj=>by rw [e3])
 rw [←e3] at f1 f2 hl
 have hlen:1≤(Ya t).length:=by simp at hl;omega
 have hfrom:∀ j,j<(Ya t).length→∃ k,k<t.length∧(Za (Ya t) j).text=(Za t k).text∧(Za (Ya t) j).kind=(Za t k).kind∧¬(Za t k).kind=6:=by
  unfold Ya
  rw [if_pos hin]
  exact fun j hj=>ZbN t t.length j hj
 refine ⟨g1,g2,q2,q1,e3,⟨fun i hi=>?_,fun i hi=>?_,fun i hi e=>?_⟩,fun i hi=>?_,hlen,by simpa using f1,f2⟩
 ·exact Ji (Ya t) ((Ya t).length-1) i (by rw [f1];simp) (by rw [f1];simp) (by omega)
 ·obtain ⟨k,hk,e1,e2,_⟩:=hfrom i hi
  have:=hok.txt k hk
  unfold YL at this ⊢
  rw [e1,e2];exact this
 ·obtain ⟨k,hk,e1,e2,_⟩:=hfrom i hi
  have e':ZO (Za t k)=true:=by unfold ZO at e ⊢;rw [←e2];exact e
  rw [e1,e2]
  exact hok.has k hk e'
 ·obtain ⟨k,hk,e1,e2,e4⟩:=hfrom i hi
  rw [e2];exact e4
def grR (l:List POp) (t:List PNode) (av:AV) (obs:List Ob):Prop:=(Yg l t=true∧av=.tup [.agg [.own 0],.lit (.bool true)]∧obs=[⟨77,4,(Xm l t).length,Zf (Xm l t)⟩])∨(Yg l t=false∧av=.tup [.agg [.lit (.slice none 0 0)],.lit (.bool false)]∧obs=[])
theorem Zk8 {l:List POp} {t:List PNode} {av:AV} {obs:List Ob} (h:grR l t av obs):(av=.tup [.agg [.own 0],.lit (.bool (Yg l t))]∧obs=[⟨77,4,(Xm l t).length,Zf (Xm l t)⟩])∨∃ xs:List Value,av=.tup (.agg [.lit (.slice none 0 0)]::xs.map .lit)∧obs=[]∧
  (AV.tup (.agg [.own 0]::xs.map .lit)=.tup [.agg [.own 0],.lit (.bool (Yg l t))]∧[(⟨77,4,0,Zf []⟩:Ob)]=[⟨77,4,(Xm l t).length,Zf (Xm l t)⟩]):=by
 rcases h with ⟨h1,rfl,rfl⟩|⟨h1,rfl,rfl⟩
 ·exact .inl ⟨by rw [h1],rfl⟩
 ·refine .inr ⟨[.bool false],rfl,rfl,?_⟩
  have e:Xm l t=[]:=by simp [Xm,h1]
  rw [h1,e]
  exact ⟨rfl,rfl⟩
set_option maxRecDepth 100000 in
theorem Zd2 (l:List POp) (hl:l.length≤9223372036854775807) (hw:YT l) (t:List PNode) (ht:t.length≤1048576) (hwt:KP t):VFun Tryz.prog 22 [.agg [.sl 4 l.length (Zg l)],.agg [.sl 4 t.length (Zf t)]] (grR l t):=by
 have cl:∀ (i:Nat) (c:AV),i<l.length→c∈Zg l i→Closed c:=fun i c _ h=>ZK l i c h
 have clt:∀ (i:Nat) (c:AV),i<t.length→c∈Zf t i→Closed c:=fun i c _ h=>ZG t i c h
 have cle:∀ (i:Nat) (c:AV),i<(Ya t).length→c∈Zf (Ya t) i→Closed c:=fun i c _ h=>ZG _ i c h
 refine Zi Tryz.func22 (by kernel_rfl) rfl (by simp [Tryz.ntmps22]) ?_;simp only [Tryz.ntmps22,Tryz.results22];simp [go_sem]
 refine Zc (ZbV l hl hw t (by omega) hwt) ?_ ?_
 ·simp [go_sem]
  exact ⟨Ze (by omega) cl,Ze (by omega) clt⟩
 ·cases h1:XX l t with
  |false=>simp [go_sem,grR,Yg,h1]
  |true=>
   obtain ⟨g1,g2,g3,g4,g5,g6,g7,g8,g9,g10⟩:=WQ h1
   have hle:=ZbM t
   have c1:=Zfu l hl hw (Ya t) (by omega) g6 g7 ((Ya t).length-1) (by omega) 0 [] (by simp;omega)
   have hG:KX l (Ya t) ((Ya t).length-1) 0 []=lay (ZT l t) []:=by
    unfold KX ZT
    rw [g10]
   have hsz:(lay (ZT l t) []).length=ZF (ZT l t):=by rw [ZN];simp
   have hs2:=Xt (ZD (Xq l t)) 0
   have hs3:ZF (ZD (Xq l t))=(Ya t).length:=by rw [g5,ZN];simp
   have hs4:ZF (ZT l t)≤2*(Ya t).length:=by unfold ZT;omega
   rw [hG] at c1
   have e1:IntKind.i64.wrap (((Ya t).length:Int)-1)=(((Ya t).length-1:Nat):Int):=by rw [wrap_i64 (by omega)];omega
   simp [go_sem]
   refine ZR (G9 t ht hwt) ?_ ?_
   ·simp [go_sem]
    exact Ze (by omega) clt
   ·rintro av obs ⟨rfl,rfl⟩
    simp [go_sem,e1]
    refine ⟨by omega,?_⟩
    refine Q9 [5] c1 (by simp) ?_ ?_ trivial ?_
    ·simp [go_sem]
     refine ⟨.inl ?_,.inr (.inl ⟨by simp,Ym (k:=3) rfl (by omega) cle,?_⟩),.inl (.closed _ (.lit _)),.inl (.closed _ (.lit _)),.inl ?_⟩
     ·exact .closed _ (by simp only [ZbR,List.mem_singleton];rintro c rfl;simp only [Zc2];exact cl)
     ·exact fun i hi=>Z5 _ i
     ·exact .own 0 (by simp)
    ·simp [go_sem,Zb]
    ·rintro av mem maps ⟨rfl,rfl,rfl⟩
     refine ⟨HC fun i=>rfl,?_⟩
     simp [go_sem,Zb,hsz]
     refine ⟨by omega,fun hb=>?_,fun hb=>⟨_,obsSame_one.mpr ⟨⟨77,4,ZF (ZT l t),Zf (lay (ZT l t) [])⟩,⟨rfl,rfl,rfl,fun j hj=>⟨rfl,Z5 _ j⟩⟩,rfl⟩,?_⟩⟩
     ·exact .inr ⟨by simp only [Yg,h1,Bool.true_and,decide_eq_false_iff_not];omega,rfl,rfl⟩
     ·have e2:Yg l t=true:=by simp only [Yg,h1,Bool.true_and,decide_eq_true_eq];omega
      have e3:Xm l t=lay (ZT l t) []:=by rw [Xm,e2];rfl
      exact .inl ⟨e2,rfl,by rw [e3,hsz]⟩
theorem G8 (l:List POp) (hl:l.length≤9223372036854775807) (hw:YT l) (t:List PNode) (ht:t.length≤1048576) (hwt:KP t):VFun Tryz.prog 22 [.agg [.sl 4 l.length (Zg l)],.agg [.sl 4 t.length (Zf t)]] (fun av obs=>av=.tup [.agg [.own 0],.lit (.bool (Yg l t))]∧obs=[⟨77,4,(Xm l t).length,Zf (Xm l t)⟩]):=
 (Zd2 l hl hw t ht hwt).adoptA 77 4 (by omega) (Zf []) fun av obs h=>Zk8 h
def VQ (B:Nat) (T:List PNode):Prop:=∀ i,i<T.length→(Za T i).text.size≤B
theorem Xb {B:Nat} {T:List PNode} {n:PNode} (h:VQ B T) (hn:n.text.size≤B):VQ B (T++[n]):=fun i hi=>by
 simp only [List.length_append,List.length_singleton] at hi
 by_cases e:i<T.length
 ·rw [YV e];exact h i e
 ·obtain rfl:i=T.length:=by omega
  rw [Vr];exact hn
theorem K9 (B:Nat):VQ B []:=fun i hi=>by simp at hi
theorem nodTx_mem {B:Nat} {T:List PNode}:VQ B T↔∀ n,n∈T→n.text.size≤B:=by
 refine ⟨fun h n hn=>?_,fun h i hi=>?_⟩
 ·obtain ⟨i,hi,rfl⟩:=List.getElem_of_mem hn
  have:=h i hi
  unfold Za at this
  rwa [List.getD_eq_getElem?_getD,List.getElem?_eq_getElem hi] at this
 ·refine h _ ?_
  unfold Za
  rw [List.getD_eq_getElem?_getD,List.getElem?_eq_getElem hi]
  exact List.getElem_mem hi
def ETx (B:Nat):ET→Prop
 | .leaf b=>b.2.size≤B
 | .grp e=>ETx B e
 | .pre o e=>o.text.size≤B∧ETx B e
 | .post o e=>o.text.size≤B∧ETx B e
 | .inf o x y=>o.text.size≤B∧ETx B x∧ETx B y
theorem Jd {B:Nat}:∀ (e:ET) (out:List PNode),ETx B e→VQ B out→VQ B (lay e out)
 | .leaf b,out,h,ho=>Xb ho h
 | .grp e,out,h,ho=>Xb (Jd e out h ho) (Nat.zero_le _)
 | .pre o e,out,h,ho=>Xb (Jd e out h.2 ho) h.1
 | .post o e,out,h,ho=>Xb (Jd e out h.2 ho) h.1
 | .inf o x y,out,h,ho=>Xb (Jd y _ h.2.2 (Jd x out h.2.1 ho)) h.1
theorem Ka {B:Nat}:∀ (e:ET) (out:List PNode),VQ B (lay e out)→ETx B e∧VQ B out
 | .leaf b,out,h=>by
  simp only [lay,nodTx_mem,List.mem_append,List.mem_singleton] at h ⊢
  exact ⟨h _ (.inr rfl),fun n hn=>h n (.inl hn)⟩
 | .grp e,out,h=>by
  simp only [lay,nodTx_mem,List.mem_append,List.mem_singleton] at h
  exact Ka e out (nodTx_mem.2 fun n hn=>h n (.inl hn))
 | .pre o e,out,h=>by
  simp only [lay,nodTx_mem,List.mem_append,List.mem_singleton] at h
  obtain ⟨h1,h2⟩:=Ka e out (nodTx_mem.2 fun n hn=>h n (.inl hn))
  exact ⟨⟨h _ (.inr rfl),h1⟩,h2⟩
 | .post o e,out,h=>by
  simp only [lay,nodTx_mem,List.mem_append,List.mem_singleton] at h
  obtain ⟨h1,h2⟩:=Ka e out (nodTx_mem.2 fun n hn=>h n (.inl hn))
  exact ⟨⟨h _ (.inr rfl),h1⟩,h2⟩
 | .inf o x y,out,h=>by
  simp only [lay,nodTx_mem,List.mem_append,List.mem_singleton] at h
  obtain ⟨h1,h2⟩:=Ka y _ (nodTx_mem.2 fun n hn=>h n (.inl hn))
  obtain ⟨h3,h4⟩:=Ka x out h2
  exact ⟨⟨h _ (.inr rfl),h3,h1⟩,h4⟩
theorem Qe {B:Nat}:∀ {e:ET},ETx B e→ETx B (ZD e)
 | .leaf b,h=>h
 | .grp e,h=>Qe (e:=e) h
 | .pre o e,h=>⟨h.1,Qe h.2⟩
 | .post o e,h=>⟨h.1,Qe h.2⟩
 | .inf o x y,h=>⟨h.1,Qe h.2.1,Qe h.2.2⟩
theorem U6 {B:Nat}:∀ {e:ET} (m:Int),ETx B e→ETx B (Zw e m)
 | .leaf b,m,h=>by simp only [Zw];split<;>exact h
 | .grp e,m,h=>by simp only [Zw];split<;>exact U6 (e:=e) 0 h
 | .pre o e,m,h=>by simp only [Zw];split<;>exact ⟨h.1,U6 _ h.2⟩
 | .post o e,m,h=>by simp only [Zw];split<;>exact ⟨h.1,U6 _ h.2⟩
 | .inf o x y,m,h=>by simp only [Zw];split<;>exact ⟨h.1,U6 _ h.2.1,U6 _ h.2.2⟩
end Go.Proofs.YtjdmmhcogmepaaaGreatDoor.V
namespace Go.Proofs.YtjdmmhcogmepaaaGreatDoor.V
open Go.RowKit
theorem Jh (k:Nat):(Zal k).size≤2:=by unfold Zal;split<;>decide
theorem KY (z:ByteArray) (a b:Nat):(z.extract a b).size≤z.size:=by
 rw [ByteArray.size_extract];omega
theorem ZaD {l:List POp} (hz:∀ i,i<l.length→(Zm l i).text.size≤100) (k b:Nat):(WD l k b).size≤100:=by
 have h1:=Zbu k
 have h2:=KY ⟨#[97,49,95,98]⟩ 0 (1+k/8%4)
 have h3:=KY ⟨#[49,48,50,55]⟩ (k/8%4) 4
 have e2:(⟨#[97,49,95,98]⟩:ByteArray).size=4:=rfl
 have e3:(⟨#[49,48,50,55]⟩:ByteArray).size=4:=rfl
 have e4:(⟨#[40]⟩:ByteArray).size=1:=rfl
 have e5:(⟨#[41]⟩:ByteArray).size=1:=rfl
 have e6:(⟨#[b.toUInt8]⟩:ByteArray).size=1:=rfl
 unfold WD
 split
 ·rename_i h
  exact hz _ (Nat.mod_lt _ h.2)
 ·repeat' split
  all_goals omega
def Zny (n m j:Nat):Prop:=j=0∨n+j≤19999+m
theorem ZbP (r:Rd) (tidy:Bool):(V7 r tidy).text.size≤3:=by
 have h:=Zbu r.nx.v
 have e:(V7 r tidy).text=l1T r.nx.v:=by
  simp only [V7,ZaA,Jk,Jl]
  split<;>split<;>rfl
 rw [e];exact h
theorem JN (p:Rd):∀ i,∀ o,o∈(XI i ([],p)).1→o.text.size≤3
 |0=>fun o h=>by simp [XI] at h
 |i+1=>fun o h=>by
  simp only [XI,Kc] at h
  split at h
  ·rcases List.mem_append.1 h with h|h
   ·exact JN p i o h
   ·simp only [List.mem_singleton] at h
    rw [h];exact ZbP _ _
  ·exact JN p i o h
theorem G4 (r:Rd):∀ o,o∈(Y4 r).1→o.text.size≤3:=JN r.nx _
theorem G5 (r:Rd):(Y4 r).1.length≤10:=by
 have h:=JO r.nx (3+r.v%8)
 have:r.v%8<8:=Nat.mod_lt _ (by decide)
 unfold Y4
 omega
theorem ZbO {r:Rd} (h:r.ok):(Y4 r).2.ok:=H9 (Rd.nx_ok h) _
theorem Uj {l:List POp} {i:Nat} (h:i<l.length):Zm l i∈l:=by
 unfold Zm
 rw [List.getD_eq_getElem?_getD,List.getElem?_eq_getElem h]
 exact List.getElem_mem h
theorem Zb4 (v:Nat):∀ i o,o∈Ur v i→o.text.size=3
 |0,o,h=>by simp [Ur] at h
 |i+1,o,h=>by
  rcases List.mem_append.1 h with h|h
  ·exact Zb4 v i o h
  ·simp only [List.mem_singleton] at h
   rw [h];rfl
theorem ZeF {o:POp} (ho:o.text.size≤3) (k:Nat) (r:Rd):(Ke o k r).text.size≤17:=by
 have h1:=KY ⟨#[43,45,43,45,43,45,43,45,43,45,43,45,43,45,43,45,43]⟩ 0 (16+k/8%2)
 have e1:(⟨#[43,45,43,45,43,45,43,45,43,45,43,45,43,45,43,45,43]⟩:ByteArray).size=17:=rfl
 have e2:(⟨#[]⟩:ByteArray).size=0:=rfl
 have e3:(⟨#[UInt8.ofNat k]⟩:ByteArray).size=1:=rfl
 have h2:=ZbP r false
 unfold Ke
 repeat' split
 all_goals try simp only [ByteArray.size_append]
 all_goals omega
theorem Zdq {l:List POp} (hl:∀ o,o∈l→o.text.size≤3) (r:Rd):∀ o,o∈Ug l r→o.text.size≤17:=by
 intro o ho
 unfold Ug at ho
 split at ho
 ·have:=Zb4 _ _ o ho;omega
 ·rename_i hb
  have hne:0<l.length:=by
   simp only [Uh,decide_eq_true_eq,not_or] at hb
   omega
  rcases List.mem_or_eq_of_mem_set ho with h|h
  ·have:=hl o h;omega
  ·rw [h]
   exact ZeF (hl _ (Uj (Nat.mod_lt _ hne))) _ _
theorem Zdr {l:List POp} (hl:l.length≤10) (r:Rd):(Ug l r).length≤501:=by
 unfold Ug
 split
 ·rw [Kx]
  have:r.nx.v%2<2:=Nat.mod_lt _ (by decide)
  omega
 ·simp;omega
theorem Zj4 {l:List POp} {g:Bool} (hl:∀ o,o∈l→o.text.size≤6):∀ (d:Nat) (r:Rd) (out:List PNode),VQ 6 out→VQ 6 (Wu l g d r out).1:=by
 have hleaf:∀ k,(JB k).text.size≤6:=fun k=>by
  unfold JB
  split
  ·simp only [ByteArray.size_extract]
   have:(⟨#[97,98,99,100,95,57]⟩:ByteArray).size=6:=rfl
   omega
  ·simp only [ByteArray.size_extract]
   have:(⟨#[48,49,55,50]⟩:ByteArray).size=4:=rfl
   omega
 intro d
 induction d with
 |zero=>intro r out h;exact Xb h (hleaf _)
 |succ d ih=>
  intro r out h
  rw [Wu]
  split
  ·exact Xb h (hleaf _)
  ·rename_i hc
   have hlen:l.length≠0:=fun e=>hc (.inr (.inr e))
   have hx:r.v/8%l.length<l.length:=Nat.mod_lt _ (by omega)
   have ho:(Zm l (r.v/8%l.length)).text.size≤6:=hl _ (Uj hx)
   split
   ·exact Xb (ih _ _ h) (Nat.zero_le _)
   ·split
    ·exact Xb (ih _ _ (ih _ _ h)) ho
    ·exact Xb (ih _ _ h) ho
theorem ZaV (p:Rd):∀ i,Yv (XI i ([],p)).1=0
 |0=>by show Yv ([]:List POp)=0;decide
 |i+1=>by
  simp only [XI,Kc]
  split
  ·rename_i h;exact h
  ·exact ZaV p i
theorem Zfk (r:Rd):Yv (Y4 r).1=0:=ZaV r.nx _
theorem ZjY {l:List POp} (h:Yv l=0):H0 l:=fun i hi=>by
 have:=XZ h i hi
 simp [Yx] at this
 omega
theorem Zff (l:List POp) (t:List PNode):(Xm l t).length≤20000∧(Yg l t=true→0<(Xm l t).length):=by
 unfold Xm
 split
 ·rename_i hg
  simp only [Yg,Bool.and_eq_true,decide_eq_true_eq] at hg
  have hl:=ZN (ZT l t) []
  have hp:=Z1 (ZT l t)
  simp only [List.length_nil] at hl
  omega
 ·rename_i hg
  exact ⟨by simp,fun h=>absurd h hg⟩
def Zbm (a b:ByteArray):Bool:=
 if a=⟨#[]⟩∨b=⟨#[]⟩ then false
 else if XT (Zh a 0)=true∨XT (Zh b 0)=true then XT (Zh a 0)&&XT (Zh b 0)
 else decide (a≠⟨#[40]⟩)&&decide (a≠⟨#[41]⟩)&&decide (b≠⟨#[40]⟩)&&decide (b≠⟨#[41]⟩)
theorem Zkj (a b:ByteArray):VFun Tryz.prog 114 [.lit (.string a),.lit (.string b)] (fun av obs=>obs=[]∧av=.lit (.bool (Zbm a b))):=by
 have c1:=Ku (Zh a 0)
 have c2:=Ku (Zh b 0)
 have e0:∀ z:ByteArray,z.toList=[]↔z=⟨#[]⟩:=fun z=>by have:=X4 z ⟨#[]⟩;simpa using this
 have e40:∀ z:ByteArray,z.toList=[40]↔z=⟨#[40]⟩:=fun z=>by have:=X4 z ⟨#[40]⟩;simpa using this
 have e41:∀ z:ByteArray,z.toList=[41]↔z=⟨#[41]⟩:=fun z=>by have:=X4 z ⟨#[41]⟩;simpa using this
 have sz:∀ z:ByteArray,¬z.toList=[]→0<z.size:=fun z h=>by
  rcases Nat.eq_zero_or_pos z.size with h1|h1
  ·exact absurd ((e0 z).2 (ByteArray.ext (Array.eq_empty_of_size_eq_zero h1))) h
  ·exact h1
 refine Zi Tryz.func114 (by kernel_rfl) rfl (by simp [Tryz.ntmps114]) ?_;simp only [Tryz.ntmps114,Tryz.results114];simp [go_sem]
 refine ⟨fun ha=>⟨fun hb=>?_,fun hb=>⟨sz a ha,Zc c1 ?_ ?_⟩⟩,fun ha=>?_⟩
 ·unfold Zbm;rw [if_pos (.inr ((e0 b).1 hb))]
 ·simp [go_sem]
 ·have h0:¬(a=⟨#[]⟩∨b=⟨#[]⟩):=fun h=>h.elim (fun h=>ha ((e0 a).2 h)) (fun h=>hb ((e0 b).2 h))
  have hsz:=sz b hb
  unfold Zbm
  rw [if_neg h0]
  cases hA:XT (Zh a 0) with
  |true=>
   rw [hA] at c1
   rw [if_pos (.inl rfl)]
   simp [go_sem]
   refine ⟨sz a ha,Zc c1 ?_ ?_⟩
   ·simp [go_sem]
   simp [go_sem]
   refine ⟨hsz,Zc c2 ?_ ?_⟩
   ·simp [go_sem]
   simp [go_sem]
  |false=>
   rw [hA] at c1
   simp [go_sem]
   refine ⟨hsz,Zc c2 ?_ ?_⟩
   ·simp [go_sem]
   cases hB:XT (Zh b 0) with
   |true=>
    simp [go_sem]
    refine ⟨sz a ha,Zc c1 ?_ ?_⟩
    ·simp [go_sem]
    simp [go_sem]
   |false=>
    simp [go_sem]
    have eb:(b.toList==[41])=decide (b=⟨#[41]⟩):=by rw [Bool.eq_iff_iff];simp [e41]
    simp only [e40,e41,eb]
    by_cases h1:a=⟨#[40]⟩<;>by_cases h2:a=⟨#[41]⟩<;>by_cases h3:b=⟨#[40]⟩<;>by_cases h4:b=⟨#[41]⟩<;>simp [h1,h2,h3,h4]
 ·unfold Zbm;rw [if_pos (.inl ((e0 a).1 ha))]
def Wq (ws:List ByteArray) (i:Nat):ByteArray:=ws.getD i ByteArray.empty
def Yj (ws:List ByteArray) (i:Nat):List AV:=[.lit (.string (Wq ws i))]
theorem UQ (ws:List ByteArray) (i:Nat):Yj ws i=[.lit (.string (Wq ws i))]:=rfl
theorem UP (l:List ByteArray) (i:Nat) (c:AV) (h:c∈Yj l i):Closed c:=by
 simp [Yj] at h;subst h;exact .lit _
theorem ZaS (l:List ByteArray) (i:Nat):(Yj l i).all X1=true:=rfl
@[go_sem] theorem txCells_ren (f:Nat→Nat) (l:List ByteArray) (i:Nat):(Yj l i).map (VN f)=Yj l i:=rfl
@[go_sem] theorem txCells_one (l:List ByteArray) (i:Nat):(Yj l i).all XW=true:=rfl
def Zj5 (ws:List ByteArray) (q:Rd) (i:Nat):ByteArray:=if (0<i∧Zal q.v=⟨#[]⟩)∧Zbm (Wq ws (i-1)) (Wq ws i)=true then ⟨#[32]⟩ else Zal q.v
def Uw (ws:List ByteArray) (r:Rd):Nat→ByteArray×Rd
 |0=>(Zal r.v,r.nx)
 |i+1=>((Uw ws r i).1++Zj5 ws (Uw ws r i).2 i++Wq ws i,(Uw ws r i).2.nx)
def Kd (ws:List ByteArray) (r:Rd):ByteArray:=(Uw ws r ws.length).1++Zal (Uw ws r ws.length).2.v
def Uf (ws:List ByteArray) (r:Rd):Rd:=(Uw ws r ws.length).2.nx
theorem ZcT (ws:List ByteArray) (q:Rd) (i:Nat):(Zj5 ws q i).size≤2:=by
 unfold Zj5;split
 ·decide
 ·exact Jh _
theorem Zgq {r:Rd} (h:r.okw) (ws:List ByteArray):∀ i,(Uw ws r i).2.okw
 |0=>Rd.nx_okw h
 |i+1=>Rd.nx_okw (Zgq h ws i)
theorem ZaZ {ws:List ByteArray} {B:Nat} (hB:∀ i,(Wq ws i).size≤B) (r:Rd):∀ i,(Uw ws r i).1.size≤i*(B+2)+2
 |0=>by have:=Jh r.v;simp only [Uw];omega
 |i+1=>by
  have h1:=ZaZ hB r i
  have h2:=ZcT ws (Uw ws r i).2 i
  have h3:=hB i
  have e:(i+1)*(B+2)=i*(B+2)+(B+2):=Nat.succ_mul _ _
  simp only [Uw,ByteArray.size_append]
  omega
def XO (ws:List ByteArray):Option Ob:=some ⟨9,1,ws.length,Yj ws⟩
set_option maxRecDepth 100000 in
theorem ZgY (ws:List ByteArray) (hw:ws.length≤100000) (hB:∀ i,(Wq ws i).size≤100000) (r:Rd) (hr:r.okw):VProc Tryz.prog 71 [.ptr 0 2 0 0,.own 1] [ZB r,XO ws] [] (fun av mem maps=>av=.lit (.string (Kd ws r))∧mem=[ZB (Uf ws r),XO ws]∧maps=[]):=by
 have cr:∀ (r:Rd) (i:Nat) (c:AV),i<r.n→c∈Yc r.f i→Closed c:=fun r i c _ h=>YF r.f i c h
 have clw:∀ (i:Nat) (c:AV),i<ws.length→c∈Yj ws i→Closed c:=fun i c _ h=>UP ws i c h
 have c1:=Zfz r hr
 simp only [ZB,XO] at c1 ⊢
 refine Zl Tryz.func71 (by kernel_rfl) rfl (by simp [Tryz.ntmps71]) ?_;simp only [Tryz.ntmps71,Tryz.results71];simp [go_sem]
 refine Zd [0] c1 (by simp) ?_ ?_ trivial ?_
 ·simp [go_sem]
 ·simp [go_sem]
  exact cr r
 rintro av mem maps ⟨rfl,rfl,rfl⟩
 simp [go_sem]
 refine Y9 (fun i:Nat=>i≤ws.length) (fun i=>ws.length-i) (fun i=>⟨[(0,.ptr 0 2 0 0),(1,.own 1),(5,.lit (.string (Uw ws r i).1)),(6,.lit (.int .i64 i))],[ZB (Uw ws r i).2,XO ws],[],2⟩) ⟨0,by omega,?_⟩ (fun i hi=>?_)
 ·refine Zx [0,1] (by simp) (by simp) (by simp) (by decide) (by simp [go_sem]) ?_ ?_
  ·simp [go_sem,Uw]
  ·simp [go_sem,ZB,XO,Uw]
   exact ⟨fun i c h1 h2=>YF _ _ c h2,.inl fun j hj c hc=>UP _ _ c hc⟩
 ·have hq:=Zgq hr ws i
  have hz:=ZaZ hB r i
  have hst:Uw ws r (i+1)=((Uw ws r i).1++Zj5 ws (Uw ws r i).2 i++Wq ws i,(Uw ws r i).2.nx):=rfl
  have hfin:i=ws.length→Kd ws r=(Uw ws r i).1++Zal (Uw ws r i).2.v∧Uf ws r=(Uw ws r i).2.nx:=fun e=>by subst e;exact ⟨rfl,rfl⟩
  have hb:i*(100000+2)≤100000*(100000+2):=Nat.mul_le_mul (by omega) (by omega)
  have ew:IntKind.i64.wrap ((i:Int)+1)=((i+1:Nat):Int):=by rw [wrap_i64 (by omega)];omega
  generalize Uw ws r i=u at *
  obtain ⟨z,q⟩:=u
  simp only at hq hz hst hfin
  have c2:=Zfz q hq
  simp only [ZB,XO] at c2 ⊢
  have g2:=ZcT ws q i
  have gd:Zj5 ws q i=if (0<i∧Zal q.v=⟨#[]⟩)∧Zbm (Wq ws (i-1)) (Wq ws i)=true then ⟨#[32]⟩ else Zal q.v:=rfl
  have gt:=Jh q.v
  have wi:=hB i
  generalize Zal q.v=g at *
  have e0:g.toList=[]↔g=⟨#[]⟩:=by have:=X4 g ⟨#[]⟩;simpa using this
  simp [go_sem]
  refine ⟨by omega,fun hlt=>?_,fun hge=>?_⟩
  ·refine Zd [0] c2 (by simp) ?_ ?_ trivial ?_
   ·simp [go_sem]
   ·simp [go_sem]
    exact cr q
   rintro av mem maps ⟨rfl,rfl,rfl⟩
   simp [go_sem]
   have b1:¬9223372036854775807<z.size+g.size:=by omega
   have b2:¬9223372036854775807<z.size+g.size+(Wq ws i).size:=by omega
   have b3:¬9223372036854775807<z.size+1:=by omega
   have b4:¬9223372036854775807<z.size+1+(Wq ws i).size:=by omega
   have e1:(⟨#[32]⟩:ByteArray).size=1:=rfl
   refine Zq [] (.q 0 <| .q 1 <| .q 2 <| .q 3 <| .q 4 <| .q 5 <| .q 6 <| .q 7 <| .q 8 <| .q 9 <| .q 10 <| .q 11 <| .q 12 <| .q 13 <| .q 14 <| .q 15 <| .or 16 (.q 17 <| .done) (.nil)) (by kernel_rfl) ?_
   by_cases h0:0<i
   ·have wi1:IntKind.i64.wrap ((i:Int)-1)=((i-1:Nat):Int):=by rw [wrap_i64 (by omega)];omega
    have c3:=Zkj (Wq ws (i-1)) (Wq ws i)
    by_cases hg:g.toList=[]
    ·simp [go_sem,UQ,h0,hg,wi1]
     refine ⟨by omega,hlt,Zu c3 ?_ ?_⟩
     ·simp [go_sem]
     cases hm:Zbm (Wq ws (i-1)) (Wq ws i) with
     |true=>
      simp [go_sem,UQ,b3,b4,e1]
      refine ⟨hlt,i+1,by omega,by omega,?_⟩
      rw [hst,gd,if_pos ⟨⟨h0,e0.1 hg⟩,hm⟩]
      refine Zx [0,1] (by simp) (by simp) (by simp) (by decide) (by simp [go_sem]) ?_ ?_
      ·simp [go_sem,ew]
      ·simp [go_sem,ZB,XO]
       exact ⟨fun i c h1 h2=>YF _ _ c h2,.inl fun j hj c hc=>UP _ _ c hc⟩
     |false=>
      simp [go_sem,UQ,b1,b2]
      refine ⟨hlt,i+1,by omega,by omega,?_⟩
      rw [hst,gd,if_neg (fun h=>by rw [hm] at h;simp at h)]
      refine Zx [0,1] (by simp) (by simp) (by simp) (by decide) (by simp [go_sem]) ?_ ?_
      ·simp [go_sem,ew]
      ·simp [go_sem,ZB,XO]
       exact ⟨fun i c h1 h2=>YF _ _ c h2,.inl fun j hj c hc=>UP _ _ c hc⟩
    ·simp [go_sem,UQ,h0,hg,b1,b2]
     refine ⟨hlt,i+1,by omega,by omega,?_⟩
     rw [hst,gd,if_neg (fun h=>hg (e0.2 h.1.2))]
     refine Zx [0,1] (by simp) (by simp) (by simp) (by decide) (by simp [go_sem]) ?_ ?_
     ·simp [go_sem,ew]
     ·simp [go_sem,ZB,XO]
      exact ⟨fun i c h1 h2=>YF _ _ c h2,.inl fun j hj c hc=>UP _ _ c hc⟩
   ·simp [go_sem,UQ,h0,b1,b2]
    refine ⟨hlt,i+1,by omega,by omega,?_⟩
    rw [hst,gd,if_neg (fun h=>h0 h.1.1)]
    refine Zx [0,1] (by simp) (by simp) (by simp) (by decide) (by simp [go_sem]) ?_ ?_
    ·simp [go_sem,ew]
    ·simp [go_sem,ZB,XO]
     exact ⟨fun i c h1 h2=>YF _ _ c h2,.inl fun j hj c hc=>UP _ _ c hc⟩
  ·obtain rfl:i=ws.length:=by omega
   refine Zd [0] c2 (by simp) ?_ ?_ trivial ?_
   ·simp [go_sem]
   ·simp [go_sem]
    exact cr q
   rintro av mem maps ⟨rfl,rfl,rfl⟩
   obtain ⟨f1,f2⟩:=hfin rfl
   have b1:¬9223372036854775807<z.size+g.size:=by omega
   simp [go_sem,b1]
   rw [f1,f2]
   refine ⟨rfl,[],[ZB q.nx,XO ws],by simp,by simp,by simp [go_sem],?_,by simp [go_sem],?_⟩
   ·simp [go_sem,ZB,XO]
    exact ⟨Ww,ZC (fun _ _=>rfl) (fun j _=>ZaS _ j)⟩
   ·simp [go_sem,ZB,XO]
open Go.Proofs.YtjdmmhcogmepaaaGreatDoor.Ops (Tr)
def Us (mem:List (Option Ob)) (j:Nat) (ob:Ob) (c ty sz:Nat) (g:Nat→List AV):List (Option Ob):=mem.set j (some { ob with f:=fun _=>(ob.f 0).set c (.own mem.length) })++[some ⟨ty,sz,0,g⟩]
theorem ZdE {B:Nat→Prop} {w:World} {hd:Nat→Value} {mem:List (Option Ob)} (h:MemRel B w hd mem) {j:Nat} {ob:Ob} (hj:mem[j]?=some (some ob)) (hn:ob.n=1) {c:Nat} (hc:(ob.f 0)[c]?=some (.lit (.slice none 0 0))) (ty sz:Nat) (hsz:0<sz) (g:Nat→List AV) :
  ∃ HD:Nat→Value,(∀ k,k<mem.length→HD k=hd k)∧TailEq hd HD∧(HD mem.length).ownBlock=none∧MemRel B w HD (Us mem j ob c ty sz g)∧(∀ {av:AV} {u:Value},Rep w (ZE mem hd) hd mem.length av u→Rep w (ZE (Us mem j ob c ty sz g) HD) HD (Us mem j ob c ty sz g).length av u)∧
   (∀ k o',(Us mem j ob c ty sz g)[k]?=some (some o')→k<mem.length→∃ o,mem[k]?=some (some o))∧(Us mem j ob c ty sz g).length=mem.length+1:=by
 obtain ⟨HD,hHD⟩:∃ HD:Nat→Value,HD=fun k=>if k=mem.length then .slice none 0 0 else hd k:=⟨_,rfl⟩
 have hlow:∀ k,k<mem.length→HD k=hd k:=fun k hk=>by rw [hHD];exact if_neg (by omega)
 have hnew:HD mem.length=.slice none 0 0:=by rw [hHD];exact if_pos rfl
 have heqT:TailEq hd HD:=⟨mem.length+1,fun k hk=>by rw [hHD];exact if_neg (by omega)⟩
 have hjl:j<mem.length:=(List.getElem?_eq_some_iff.1 hj).1
 obtain ⟨mem',hmem'⟩:∃ mem',mem'=Us mem j ob c ty sz g:=⟨_,rfl⟩
 rw [←hmem']
 have hlen':mem'.length=mem.length+1:=by rw [hmem'];simp [Us]
 have live:∀ k o',mem'[k]?=some (some o')→(k=mem.length∧o'=⟨ty,sz,0,g⟩)∨(k<mem.length∧k≠j∧mem[k]?=some (some o'))∨(k=j∧o'={ ob with f:=fun _=>(ob.f 0).set c (.own mem.length) }):=by
  intro k o' hk
  rw [hmem',Us,List.getElem?_append] at hk
  simp only [List.length_set] at hk
  split at hk
  ·rename_i hkl
   by_cases e:j=k
   ·subst e
    rw [List.getElem?_set_self hjl] at hk
    simp only [Option.some.injEq] at hk
    exact .inr (.inr ⟨rfl,hk.symm⟩)
   ·rw [List.getElem?_set_ne e] at hk
    exact .inr (.inl ⟨hkl,fun e2=>e e2.symm,hk⟩)
  ·rename_i hkl
   have:k=mem.length:=by
    have:=(List.getElem?_eq_some_iff.1 hk).1
    simp at this;omega
   subst this
   simp at hk
   exact .inl ⟨rfl,hk.symm⟩
 have old:∀ k o',mem'[k]?=some (some o')→k<mem.length→∃ o,mem[k]?=some (some o):=by
  intro k o' hk hkl
  rcases live k o' hk with ⟨e,_⟩|⟨_,_,h2⟩|⟨rfl,_⟩
  ·omega
  ·exact ⟨o',h2⟩
  ·exact ⟨ob,hj⟩
 have hok:∀ ad u,ZE mem hd ad.block→w.cell? ad=some u→w.cell? ad=some u∧ZE mem' HD ad.block:=by
  intro ad u ho hcl
  refine ⟨hcl,fun k o' hk e=>?_,ho.2.eq heqT⟩
  by_cases hkl:k<mem.length
  ·obtain ⟨o,h1⟩:=old k o' hk hkl
   rw [hlow k hkl] at e
   exact ho.1 k o h1 e
  ·have:k=mem.length:=by have:=(List.getElem?_eq_some_iff.1 hk).1;omega
   subst this
   rw [hnew] at e;simp [Value.ownBlock] at e
 have hle:mem.length≤mem'.length:=by omega
 have ltOf:∀ k o',mem'[k]?=some (some o')→k<mem.length+1:=fun k o' hk=>by rw [←hlen'];exact (List.getElem?_eq_some_iff.1 hk).1
 refine ⟨HD,hlow,heqT,by rw [hnew];rfl,⟨fun k o' hk b hb=>?_,fun k o' hk=>?_,fun k hk=>?_,fun k k' o o' hk hk' hne=>?_⟩,fun hr=>hr.mono hok hlow hle,old,hlen'⟩
 ·by_cases hkl:k<mem.length
  ·obtain ⟨o,h1⟩:=old k o' hk hkl
   rw [hlow k hkl] at hb
   exact h.alw k o h1 b hb
  ·have:k=mem.length:=by have:=ltOf k o' hk;omega
   subst this
   rw [hnew] at hb;simp [Value.ownBlock] at hb
 ·rcases live k o' hk with ⟨rfl,rfl⟩|⟨hkl,_,h2⟩|⟨rfl,rfl⟩
  ·rw [hnew]
   exact ⟨hsz,[],⟨by simp,.inl ⟨rfl,rfl⟩⟩,fun i hi=>by simp at hi⟩
  ·obtain ⟨hs,vals,ho,hr⟩:=h.obs k o' h2
   rw [hlow k hkl]
   refine ⟨hs,vals,ho,fun i hi=>⟨(hr i hi).1,fun q av hq=>?_⟩⟩
   obtain ⟨u,g1,g2,g3⟩:=(hr i hi).2 q av hq
   exact ⟨u,g1,g2,g3.mono hok hlow hle⟩
  ·obtain ⟨hs,vals,ho,hr⟩:=h.obs k ob hj
   rw [hlow k hjl]
   refine ⟨hs,vals,ho,fun i hi=>?_⟩
   have hi0:i=0:=by have hi':i<ob.n:=hi;omega
   subst hi0
   obtain ⟨q1,q2⟩:=hr 0 hi
   refine ⟨by simpa using q1,fun q av hq=>?_⟩
   simp only at hq
   by_cases e:c=q
   ·subst e
    have hcl:c<(ob.f 0).length:=(List.getElem?_eq_some_iff.1 hc).1
    rw [List.getElem?_set_self hcl] at hq
    simp only [Option.some.injEq] at hq
    subst hq
    obtain ⟨u,g1,g2,g3⟩:=q2 c _ hc
    cases g3
    refine ⟨_,g1,g2,?_⟩
    rw [←hnew]
    exact .own _ (by show mem.length<mem'.length;omega)
   ·rw [List.getElem?_set_ne e] at hq
    obtain ⟨u,g1,g2,g3⟩:=q2 q av hq
    exact ⟨u,g1,g2,g3.mono hok hlow hle⟩
 ·by_cases hkl:k<mem.length
  ·rw [hlow k hkl];exact h.hds k hkl
  ·have:k=mem.length:=by have hk':k<mem'.length:=hk;omega
   subst this
   exact ⟨none,0,0,hnew⟩
 ·by_cases e1:k=mem.length
  ·subst e1;rw [hnew];exact .inl rfl
  ·by_cases e2:k'=mem.length
   ·subst e2
    rw [hnew]
    cases hq:(HD k).ownBlock with
    |none=>exact .inl rfl
    |some b=>exact .inr (by simp [Value.ownBlock])
   ·have l1:k<mem.length:=by have:=ltOf k o hk;omega
    have l2:k'<mem.length:=by have:=ltOf k' o' hk';omega
    obtain ⟨o1,h1⟩:=old k o hk l1
    obtain ⟨o2,h2⟩:=old k' o' hk' l2
    rw [hlow k l1,hlow k' l2]
    exact h.apart k k' o1 o2 h1 h2 hne
theorem VProc.adopt {P:Program} {f:FuncId} {args:List AV} {mem:List (Option Ob)} {maps0:List (Nat×Mp)} {R:AV→List (Option Ob)→List (Nat×Mp)→Prop} {j:Nat} {ob:Ob} {c ty sz:Nat} {g:Nat→List AV}
  (h:VProc P f args (Us mem j ob c ty sz g) maps0 R) (hj:mem[j]?=some (some ob)) (hn:ob.n=1) (hc:(ob.f 0)[c]?=some (.lit (.slice none 0 0))) (hsz:0<sz):VProc P f args mem maps0 R:=by
 refine ⟨h.1,fun w vs hd0 hl hv hm hmp htl=>?_⟩
 obtain ⟨HD,h1,h1',h2,h3,h4,h5,h6⟩:=ZdE hm hj hn hc ty sz hsz g
 have hsh:∀ b,Sh w HD (Us mem j ob c ty sz g) maps0 b→Sh w hd0 mem maps0 b:=by
  rintro b (q|⟨k,o,hk,hb⟩|q)
  ·exact .inl q
  ·have hkl:=(List.getElem?_eq_some_iff.1 hk).1
   by_cases e:k<mem.length
   ·obtain ⟨o',ho⟩:=h5 k o hk e
    exact .inr (.inl ⟨k,o',ho,by rw [←h1 k e];exact hb⟩)
   ·have:k=mem.length:=by omega
    subst this
    rw [h2] at hb;cases hb
  ·exact .inr (.inr q)
 have htl':Vf HD (Sh w HD (Us mem j ob c ty sz g) maps0):=by
  obtain ⟨K,hK⟩:=htl
  obtain ⟨M,hM⟩:=h1'
  refine ⟨K+M,fun k hk b hb hs=>?_⟩
  rw [hM k (by omega)] at hb
  exact hK k (by omega) b hb (hsh b hs)
 refine (h.2 w vs HD hl (fun j a u ha hu=>h4 (hv j a u ha hu)) h3 hmp htl').mono fun e w' ⟨v,e1,bel,hd,av,mm,maps,r,po,hfix,hmr,hmap,hrep⟩=>?_
 refine ⟨v,e1,bel.weak hsh,hd,av,mm,maps,r,⟨by have:=po.len;omega,po.flat,po.cells,po.maps⟩,⟨fun k hk=>(hfix.1 k (by omega)).trans (h1 k hk),h1'.trans hfix.2⟩,⟨fun k o hk b hb=>hsh b (hmr.alw k o hk b hb),hmr.obs,hmr.hds,hmr.apart⟩,fun b mp hb=>?_,hrep⟩
 obtain ⟨q1,q2⟩:=hmap b mp hb
 exact ⟨hsh b q1,q2⟩
def Vq:ET→Value
 | .leaf b=>.iface 193 (.agg #[.int .i64 b.1,.string b.2,.int .i64 0,.int .i64 0])
 | .grp e=>Vq e
 | .pre o e=>.iface 164 (.agg #[.string o.text,.int .i64 o.kind,.int .i64 o.level,.int .i64 o.side,.nilIface,Vq e,.int .i64 0])
 | .post o e=>.iface 164 (.agg #[.string o.text,.int .i64 o.kind,.int .i64 o.level,.int .i64 o.side,Vq e,.nilIface,.int .i64 0])
 | .inf o x y=>.iface 164 (.agg #[.string o.text,.int .i64 o.kind,.int .i64 o.level,.int .i64 o.side,Vq x,Vq y,.int .i64 0])
theorem Xr (e:ET):∃ t v,Vq e=.iface t v:=by
 induction e with
 |grp e ih=>exact ih
 | _=>exact ⟨_,_,rfl⟩
def ZmE (v:Value):Prop:=v=.nilIface∨∃ t u,v=.iface t u
theorem Zd6 (a c d:Int) (b:ByteArray):VFun Tryz.prog 185 [.lit (.agg #[.int .i64 a,.string b,.int .i64 c,.int .i64 d])] (fun av obs=>obs=[]∧av=.lit (.int .i64 1001)):=by
 refine Zi Tryz.func185 (by kernel_rfl) rfl (by simp [Tryz.ntmps185]) ?_;simp only [Tryz.ntmps185,Tryz.results185];simp [go_sem]
theorem XM (o:POp) (a b:Value) (ha:ZmE a) (hb:ZmE b) (c:Int):VFun Tryz.prog 182 [.lit (.agg #[.string o.text,.int .i64 o.kind,.int .i64 o.level,.int .i64 o.side,a,b,.int .i64 c])] (fun av obs=>obs=[]∧av=.lit (.int .i64 o.level)):=by
 refine Zi Tryz.func182 (by kernel_rfl) rfl (by simp [Tryz.ntmps182]) ?_;simp only [Tryz.ntmps182,Tryz.results182];simp [go_sem]
 constructor
 ·rcases ha with rfl|⟨_,_,rfl⟩<;>rfl
 ·rcases hb with rfl|⟨_,_,rfl⟩<;>rfl
def paN (l:List POp) (t:List PNode) (i j:Nat):Value:=if j<i then Vq (Yr l t j) else .nilIface
def VD (l:List POp) (t:List PNode) (i j:Nat):List AV:=[.lit (paN l t i j)]
theorem Zh8 (l:List POp) (t:List PNode) (i j:Nat):VD l t i j=[.lit (paN l t i j)]:=rfl
set_option maxRecDepth 100000 in
theorem ZiD (l:List POp) (hu:WB l) (b1 b2:Nat) (es:List (Value×Value)) (hat:H1 l l.length es) (t:List PNode) (ht:t.length≤1048576) (hwt:∀ i,i<t.length→(Za t i).wf) (h1:Xd t=true) (hk:∀ i,i<t.length→ZO (Za t i)=true→ZQ l (Za t i).text ((Za t i).kind-2)=true) :
  VProc Tryz.prog 100 [.agg [.lit (.map (some b1)),.lit (.map (some b2))],.agg [.sl 4 t.length (Zf t)]] [] [(b1,⟨151,es⟩)] (fun av mem maps=>(maps=[(b1,⟨151,es⟩)]∨maps=[(b1,⟨151,es⟩),(b1,⟨151,es⟩)])∧av=.own 0∧mem=[some ⟨92,1,t.length,VD l t t.length⟩]):=by
 have clt:∀ (i:Nat) (c:AV),i<t.length→c∈Zf t i→Closed c:=fun i c _ h=>ZG t i c h
 refine Zl Tryz.func100 (by kernel_rfl) rfl (by simp [Tryz.ntmps100]) ?_;simp only [Tryz.ntmps100,Tryz.results100];simp [go_sem]
 refine ⟨by omega,by omega,by omega,by omega,?_⟩
 refine Yn (fun i:Nat=>i≤t.length) (fun i=>t.length-i)
  (fun i=>⟨[(2,.ptr 0 2 0 0),(5,.own 2),(19,.sl 4 t.length (Zf t)),(20,.lit (.int .i64 t.length)),(21,.lit (.int .i64 i))],[some ⟨70,2,1,fun _=>[.lit (.map (some b1)),.lit (.map (some b2))]⟩,none,some ⟨92,1,t.length,VD l t i⟩],[(b1,⟨151,es⟩)],0⟩) ⟨0,by omega,?_⟩ (fun i hi=>?_)
 ·simp [go_sem,VD,paN]
  exact clt
 ·by_cases hlt:i<t.length
  ·obtain ⟨k1,k2,k3,k4⟩:=Gr h1 hlt
   have h0:=Gs h1 i hlt
   obtain ⟨z1,z2⟩:=Zbz h0
   have hT:=Wj (l:=l) h0 k2
   have fill:∀ (v:Value) (f:Nat→List AV),v=Vq (Yr l t i)→(∀ j,j<t.length→j≠i→f j=VD l t i j)→(f i).length=1→∀ j,j<t.length→ZaR t.length f i 0 [AV.lit v] j=VD l t (i+1) j∧∀ c,c∈VD l t (i+1) j→Bd 3 c:=fun v f hv hf hl j hj=>by
    refine ⟨?_,fun c hc=>by simp only [VD,List.mem_singleton] at hc;subst hc;exact .closed _ (.lit _)⟩
    rw [Uv hlt hj]
    by_cases hji:j=i
    ·subst hji
     match hfi:f j,hl with
     |[x],_=>simp [Wt,VD,paN,hv]
    ·rw [if_neg hji,hf j hj hji]
     simp only [VD,paN]
     by_cases h2:j<i
     ·rw [if_pos h2,if_pos (by omega)]
     ·rw [if_neg h2,if_neg (by omega)]
   have at_:∀ a:Int,0≤a→a<i→VD l t i a.toNat=[.lit (Vq (Yr l t a.toNat))]:=fun a h1 h2=>by
    simp only [VD,paN];rw [if_pos (by omega)]
   have hz1:(Za t i).kind=1∨(Za t i).kind=2∨(Za t i).kind=3∨(Za t i).kind=4∨(Za t i).kind=5∨(Za t i).kind=6:=by omega
   have clt':∀ (i:Nat) (c:AV),i<t.length→c=.lit (.int .i64 (Za t i).kind)∨c=.lit (.string (Za t i).text)∨c=.lit (.int .i64 (Za t i).a)∨c=.lit (.int .i64 (Za t i).b)→Closed c:=fun i c _ h=>by
    rcases h with rfl|rfl|rfl|rfl<;>exact .lit _
   rcases hz1 with e|e|e|e|e|e
   ·simp [e] at hT
    simp [go_sem,Zz,hlt,e]
    refine ⟨i+1,by omega,by omega,⟨clt',Zn (by omega)⟩,fill _ _ ?_ (fun j _ _=>rfl) rfl⟩
    obtain ⟨za,zb⟩:=z1 (by simp [Zv,e])
    rw [hT,za,zb];rfl
   ·simp [e] at hT
    simp [go_sem,Zz,hlt,e]
    refine ⟨i+1,by omega,by omega,⟨clt',Zn (by omega)⟩,fill _ _ ?_ (fun j _ _=>rfl) rfl⟩
    obtain ⟨za,zb⟩:=z1 (by simp [Zv,e])
    rw [hT,za,zb];rfl
   ·have hop:ZO (Za t i)=true:=by simp [ZO,e]
    have hh:=hk i hlt hop
    have k0:Zv (Za t i).kind≠0:=by simp [Zv,e]
    obtain ⟨q3,q4⟩:=k3 k0
    rw [e] at hh
    simp [e] at hT
    simp [go_sem,Zz,hlt,e]
    refine Zd [] (ZgV l hu b1 b2 es hat (Za t i).text (hwt i hlt) 1) (by simp) ?_ ?_ ?_ ?_
    ·simp [go_sem]
    ·simp [go_sem]
    ·simp [go_sem]
    ·rintro av mem maps ⟨⟨o,rfl,ho⟩,rfl,rfl⟩
     have he:=of_eq hu (ho hh) hh
     simp [go_sem,POp.cells]
     refine Zq [11] (.q 0 <| .q 1 <| .q 2 <| .q 3 <| .q 4 <| .q 5 <| .q 6 <| .q 7 <| .q 8 <| .q 9 <| .q 10 <| .or 11 (.done) (.nil)) (by kernel_rfl) ?_
     obtain ⟨T1,U1,hP⟩:=Xr (Yr l t (Za t i).a.toNat)
     have ha:=at_ _ q3 q4
     rw [hP] at ha
     simp [go_sem,ha,q3,q4,hlt,show (Za t i).a.toNat<t.length by omega,show (Za t i).a<(t.length:Int) by omega]
     refine ⟨i+1,by omega,by omega,⟨clt,Zn (by omega)⟩,fill _ _ ?_ (fun j _ _=>rfl) rfl⟩
     have hnd:YJ l (Za t i)=o:=by rw [he,YJ,e];rfl
     rw [hT,hnd]
     simp only [Vq,hP]
   ·have hop:ZO (Za t i)=true:=by simp [ZO,e]
    have hh:=hk i hlt hop
    have k0:Zv (Za t i).kind≠0:=by simp [Zv,e]
    obtain ⟨q3,q4⟩:=k3 k0
    obtain ⟨q5,q6⟩:=k4 (by simp [Zv,e])
    rw [e] at hh
    simp [e] at hT
    simp [go_sem,Zz,hlt,e]
    refine Zd [] (ZgV l hu b1 b2 es hat (Za t i).text (hwt i hlt) 2) (by simp) ?_ ?_ ?_ ?_
    ·simp [go_sem]
    ·simp [go_sem]
    ·simp [go_sem]
    ·rintro av mem maps ⟨⟨o,rfl,ho⟩,rfl,rfl⟩
     have he:=of_eq hu (ho hh) hh
     simp [go_sem,POp.cells]
     refine Zq [16] (.q 0 <| .q 1 <| .q 2 <| .q 3 <| .q 4 <| .q 5 <| .q 6 <| .q 7 <| .q 8 <| .q 9 <| .q 10 <| .q 11 <| .q 12 <| .q 13 <| .q 14 <| .q 15 <| .or 16 (.done) (.nil)) (by kernel_rfl) ?_
     obtain ⟨T1,U1,hP⟩:=Xr (Yr l t (Za t i).a.toNat)
     have ha:=at_ _ q3 q4
     rw [hP] at ha
     obtain ⟨T2,U2,hP2⟩:=Xr (Yr l t (Za t i).b.toNat)
     have hb:=at_ _ q5 q6
     rw [hP2] at hb
     simp [go_sem,ha,hb,q3,q4,hlt,show (Za t i).a.toNat<t.length by omega,show (Za t i).a<(t.length:Int) by omega,q5,q6,show (Za t i).b.toNat<t.length by omega,show (Za t i).b<(t.length:Int) by omega]
     refine ⟨i+1,by omega,by omega,⟨clt,Zn (by omega)⟩,fill _ _ ?_ (fun j _ _=>rfl) rfl⟩
     have hnd:YJ l (Za t i)=o:=by rw [he,YJ,e];rfl
     rw [hT,hnd]
     simp only [Vq,hP,hP2]
   ·have hop:ZO (Za t i)=true:=by simp [ZO,e]
    have hh:=hk i hlt hop
    have k0:Zv (Za t i).kind≠0:=by simp [Zv,e]
    obtain ⟨q3,q4⟩:=k3 k0
    rw [e] at hh
    simp [e] at hT
    simp [go_sem,Zz,hlt,e]
    refine Zd [] (ZgV l hu b1 b2 es hat (Za t i).text (hwt i hlt) 3) (by simp) ?_ ?_ ?_ ?_
    ·simp [go_sem]
    ·simp [go_sem]
    ·simp [go_sem]
    ·rintro av mem maps ⟨⟨o,rfl,ho⟩,rfl,rfl⟩
     have he:=of_eq hu (ho hh) hh
     simp [go_sem,POp.cells]
     refine Zq [11] (.q 0 <| .q 1 <| .q 2 <| .q 3 <| .q 4 <| .q 5 <| .q 6 <| .q 7 <| .q 8 <| .q 9 <| .q 10 <| .or 11 (.done) (.nil)) (by kernel_rfl) ?_
     obtain ⟨T1,U1,hP⟩:=Xr (Yr l t (Za t i).a.toNat)
     have ha:=at_ _ q3 q4
     rw [hP] at ha
     simp [go_sem,ha,q3,q4,hlt,show (Za t i).a.toNat<t.length by omega,show (Za t i).a<(t.length:Int) by omega]
     refine ⟨i+1,by omega,by omega,⟨clt,Zn (by omega)⟩,fill _ _ ?_ (fun j _ _=>rfl) rfl⟩
     have hnd:YJ l (Za t i)=o:=by rw [he,YJ,e];rfl
     rw [hT,hnd]
     simp only [Vq,hP]
   ·have k0:Zv (Za t i).kind≠0:=by simp [Zv,e]
    obtain ⟨q3,q4⟩:=k3 k0
    simp [e] at hT
    obtain ⟨T1,U1,hP⟩:=Xr (Yr l t (Za t i).a.toNat)
    have ha:=at_ _ q3 q4
    rw [hP] at ha
    simp [go_sem,Zz,hlt,e,ha,q3,q4,show (Za t i).a.toNat<t.length by omega,show (Za t i).a<(t.length:Int) by omega]
    refine ⟨i+1,by omega,by omega,⟨clt',Zn (by omega)⟩,fill _ _ ?_ (fun j _ _=>rfl) rfl⟩
    rw [hT]
    simp only [Vq,hP]
  ·have hl1:i=t.length:=by omega
   subst hl1
   simp [go_sem]
   refine ⟨rfl,[2],[some ⟨92,1,t.length,VD l t t.length⟩],by simp,by simp,by simp [go_sem],?_,by simp [go_sem],?_⟩
   ·simp [go_sem]
    exact ZC (fun _ _=>rfl) (fun _ _=>rfl)
   ·simp [go_sem]
structure PWord where
 text:ByteArray
 infix_:Bool
 op:Bool
deriving Inhabited
def PWord.cells (o:PWord):List AV:=[.lit (.string o.text),.lit (.bool o.infix_),.lit (.bool o.op)]
def YX (t:List PWord) (i:Nat):PWord:=t.getD i default
def Xo (l:List PWord) (i:Nat):List AV:=(l.getD i default).cells
theorem Q6 (l:List PWord) (i:Nat):Xo l i=[.lit (.string (YX l i).text),.lit (.bool (YX l i).infix_),.lit (.bool (YX l i).op)]:=rfl
theorem Zhe (l:List PWord) (i:Nat):(Xo l i).all X1=true:=rfl
@[go_sem] theorem wdCells_ren (f:Nat→Nat) (l:List PWord) (i:Nat):(Xo l i).map (VN f)=Xo l i:=rfl
def Zy (t:List PWord):Option Ob:=some ⟨113,3,t.length,Xo t⟩
def Vj:PWord:=⟨⟨#[40]⟩,false,false⟩
def UW:PWord:=⟨⟨#[41]⟩,false,false⟩
def ZP (o:POp):PWord:=⟨o.text,decide (o.kind=2),true⟩
def Zp:ET→List PWord
 | .leaf b=>[⟨b.2,false,false⟩]
 | .grp e=>Vj::(Zp e++[UW])
 | .pre o e=>ZP o::Zp e
 | .post o e=>Zp e++[ZP o]
 | .inf o x y=>Zp x++ZP o::Zp y
theorem Yu:∀ e:ET,(Zp e).length≤2*ZF e
 | .leaf b=>by simp [Zp,ZF]
 | .grp e=>by have:=Yu e;simp [Zp,ZF];omega
 | .pre o e=>by have:=Yu e;simp [Zp,ZF];omega
 | .post o e=>by have:=Yu e;simp [Zp,ZF];omega
 | .inf o x y=>by have:=Yu x;have:=Yu y;simp [Zp,ZF];omega
theorem Xx:∀ e:ET,ZF (ZD e)≤ZF e
 | .leaf b=>by simp [ZD]
 | .grp e=>by have:=Xx e;simp [ZD,ZF];omega
 | .pre o e=>by have:=Xx e;simp [ZD,ZF];omega
 | .post o e=>by have:=Xx e;simp [ZD,ZF];omega
 | .inf o x y=>by have:=Xx x;have:=Xx y;simp [ZD,ZF];omega
def IsN (T:List PNode) (n:Nat) (f:Nat→List AV):Prop:=n=T.length∧∀ j,j<n→f j=Zf T j
def IsW (T:List PWord) (n:Nat) (f:Nat→List AV):Prop:=n=T.length∧∀ j,j<n→f j=Xo T j
theorem IsN.app {T:List PNode} {n:Nat} {f:Nat→List AV} (h:IsN T n f) (o:PNode) {g:Nat→List AV} (hg:g 0=o.cells):IsN (T++[o]) (n+1) (Z2 n f g):=by
 refine ⟨by rw [h.1];simp,fun j hj=>?_⟩
 unfold Z2
 by_cases e:j<n
 ·rw [if_pos e,h.2 j e]
  have:=h.1
  unfold Zf
  rw [List.getD_eq_getElem?_getD,List.getD_eq_getElem?_getD,List.getElem?_append_left (by omega)]
 ·have e1:j=T.length:=by have:=h.1;omega
  have e2:j-n=0:=by omega
  rw [if_neg e,e2,hg,e1]
  simp [Zf]
theorem IsW.app {T:List PWord} {n:Nat} {f:Nat→List AV} (h:IsW T n f) (o:PWord) {g:Nat→List AV} (hg:g 0=o.cells):IsW (T++[o]) (n+1) (Z2 n f g):=by
 refine ⟨by rw [h.1];simp,fun j hj=>?_⟩
 unfold Z2
 by_cases e:j<n
 ·rw [if_pos e,h.2 j e]
  have:=h.1
  unfold Xo
  rw [List.getD_eq_getElem?_getD,List.getD_eq_getElem?_getD,List.getElem?_append_left (by omega)]
 ·have e1:j=T.length:=by have:=h.1;omega
  have e2:j-n=0:=by omega
  rw [if_neg e,e2,hg,e1]
  simp [Xo]
theorem Jr {idx:Nat→Nat} {m k:Nat} {T:List PNode}:∀ i,i<k→Yf idx m (Zf T i) (Zf T i):=fun i _=>Zk (Z5 _ i)
theorem Zah {idx:Nat→Nat} {m n k:Nat} {T T':List PNode} {g:Nat→List AV} (o:PNode) (hn:n=T'.length) (hg:g 0=o.cells) (e:T'++[o]=T) (hk:k=T.length):∀ i,i<k→Yf idx m (Z2 n (Zf T') g i) (Zf T i):=fun i hi=>by
 subst e;subst hk
 have h:IsN T' n (Zf T'):=⟨hn,fun _ _=>rfl⟩
 have h:=h.app o hg
 rw [h.2 i (by rw [h.1];exact hi)]
 exact Zk (Z5 _ i)
theorem Hx {idx:Nat→Nat} {ks:List Nat} {T:List PNode} {n ty:Nat}:Vw idx ks ⟨ty,4,n,Zf T⟩ (some (some ⟨ty,4,n,Zf T⟩)):=ZC (fun _ _=>rfl) (fun j _=>Z5 _ j)
theorem KC {idx:Nat→Nat} {m k:Nat} {T:List PWord}:∀ i,i<k→Yf idx m (Xo T i) (Xo T i):=fun i _=>Zk (Zhe _ i)
theorem Zag {idx:Nat→Nat} {m n k:Nat} {T T':List PWord} {g:Nat→List AV} (o:PWord) (hn:n=T'.length) (hg:g 0=o.cells) (e:T'++[o]=T) (hk:k=T.length):∀ i,i<k→Yf idx m (Z2 n (Xo T') g i) (Xo T i):=fun i hi=>by
 subst e;subst hk
 have h:IsW T' n (Xo T'):=⟨hn,fun _ _=>rfl⟩
 have h:=h.app o hg
 rw [h.2 i (by rw [h.1];exact hi)]
 exact Zk (Zhe _ i)
theorem ZmC {idx:Nat→Nat} {m n n' k:Nat} {T T':List PWord} {g g':Nat→List AV} (o o':PWord) (hn:n=T'.length) (hn':n'=T'.length+1) (hg:g 0=o.cells) (hg':g' 0=o'.cells) (e:T'++[o,o']=T) (hk:k=T.length):∀ i,i<k→Yf idx m (Z2 n' (Z2 n (Xo T') g) g' i) (Xo T i):=fun i hi=>by
 subst e;subst hk
 have h:IsW T' n (Xo T'):=⟨hn,fun _ _=>rfl⟩
 have h:=(h.app o hg).app o' hg'
 subst hn';subst hn
 rw [show T'++[o]++[o']=T'++[o,o'] by simp] at h
 rw [h.2 i (by rw [h.1];exact hi)]
 exact Zk (Zhe _ i)
theorem Hw {idx:Nat→Nat} {ks:List Nat} {T:List PWord} {n ty:Nat}:Vw idx ks ⟨ty,3,n,Xo T⟩ (some (some ⟨ty,3,n,Xo T⟩)):=ZC (fun _ _=>rfl) (fun j _=>Zhe _ j)
def Z0 (b1 b2 x y:Nat):Option Ob:=some ⟨106,4,1,fun _=>[.lit (.map (some b1)),.lit (.map (some b2)),.own x,.own y]⟩
theorem GU {b1 b2 ty:Nat}:Vw (WL 3 [3,4]) [0,1,2,3,4] ⟨ty,4,1,fun _=>[.lit (.map (some b1)),.lit (.map (some b2)),.own 3,.own 4]⟩ (some (some ⟨ty,4,1,fun _=>[.lit (.map (some b1)),.lit (.map (some b2)),.own 3,.own 4]⟩)):=
 ⟨rfl,rfl,rfl,fun i hi=>⟨rfl,UF rfl,fun c hc q hq=>by
  simp at hc
  rcases hc with rfl|rfl|rfl|rfl<;>simp [VP] at hq<;>simp [hq]⟩⟩
def K1 (b1 b2:Nat) (e:ET):Prop:=∀ (m:Int) (ns:List PNode) (ws:List PWord),ns.length+2*ZF e≤3000000→ws.length+4*ZF e≤6000000→
 VProc Tryz.prog 101 [.ptr 0 4 0 0,.lit (Vq e),.lit (.int .i64 m)] [Z0 b1 b2 1 2,Zb ns,Zy ws] [] (fun av mem maps=>av=.tup []∧mem=[Z0 b1 b2 3 4,none,none,Zb (lay (Zw (ZD e) m) ns),Zy (ws++Zp (Zw (ZD e) m))]∧maps=[])
set_option maxRecDepth 100000 in
theorem Zjq (b1 b2:Nat) (b:Int×ByteArray):K1 b1 b2 (.leaf b):=by
 intro m ns ws h1 h2
 have c1:=Zd6 b.1 0 0 b.2
 simp only [Vq,Z0,Zb,Zy,ZD,ZF] at h1 h2 ⊢
 by_cases hm:(1001:Int)<m
 ·have hN:lay (Zw (.leaf b) m) ns=ns++[⟨b.2,b.1,0,0⟩,Yl ns.length]:=by simp [Zw,hm,lay,Yl]
  have hW:Zp (Zw (.leaf b) m)=[Vj,⟨b.2,false,false⟩,UW]:=by simp [Zw,hm,Zp]
  rw [hN,hW]
  have ew:IntKind.i64.wrap (ns.length:Int)=ns.length:=wrap_i64 (by omega)
  refine Zl Tryz.func101 (by kernel_rfl) rfl (by simp [Tryz.ntmps101]) ?_;simp only [Tryz.ntmps101,Tryz.results101];simp [go_sem]
  refine Zc c1 ?_ ?_
  ·simp [go_sem]
  ·simp [go_sem,hm]
   refine ⟨by omega,by omega,?_⟩
   refine ZX (⟨[(0,.ptr 0 4 0 0),(6,.lit (.bool true)),(7,.ptr 3 4 0 0)],[Z0 b1 b2 1 4,Zb ns,none,some ⟨193,4,1,fun _=>[.lit (.int .i64 b.1),.lit (.string b.2),.lit (.int .i64 0),.lit (.int .i64 0)]⟩,Zy (ws++[Vj]++[⟨b.2,false,false⟩])],[],3⟩) [10,13] (.q 1 <| .q 2 <| .q 3 <| .q 4 <| .q 5 <| .q 6 <| .q 7 <| .q 8 <| .or 0 (.or 9 (.or 10 (.q 11 <| .q 12 <| .or 13 (.done) (.nil)) (.nil)) (.nil)) (.or 9 (.or 0 (.or 10 (.q 11 <| .q 12 <| .or 13 (.done) (.nil)) (.nil)) (.or 10 (.q 0 <| .q 11 <| .q 12 <| .or 13 (.done) (.nil)) (.nil))) (.nil))) (by kernel_rfl) ?_ ?_
   ·simp [go_sem]
    refine ⟨⟨by omega,by omega,?_⟩,⟨by omega,by omega,?_⟩,⟨by omega,by omega,?_⟩⟩
    all_goals
     refine Zx [0,1,2,5,7] (by simp) (by simp) (by simp) (by decide) (by simp [go_sem]) ?_ ?_
     ·simp [go_sem]
     ·simp [go_sem,Z0,Zb,Zy]
      exact ⟨.inr Jr,.inr (ZmC Vj ⟨b.2,false,false⟩ (by simp) (by simp) rfl rfl (by simp) (by simp))⟩
   ·simp [go_sem,Z0,Zb,Zy]
    refine ZX (⟨[(0,.ptr 0 4 0 0),(6,.lit (.bool true))],[Z0 b1 b2 3 4,none,none,Zb (ns++[⟨b.2,b.1,0,0⟩]),Zy (ws++[Vj,⟨b.2,false,false⟩])],[],3⟩) [8,11] (.q 1 <| .q 2 <| .q 3 <| .q 4 <| .q 5 <| .q 6 <| .or 0 (.or 7 (.or 8 (.q 9 <| .q 10 <| .or 11 (.done) (.nil)) (.nil)) (.nil)) (.or 7 (.or 0 (.or 8 (.q 9 <| .q 10 <| .or 11 (.done) (.nil)) (.nil)) (.or 8 (.q 0 <| .q 9 <| .q 10 <| .or 11 (.done) (.nil)) (.nil))) (.nil))) (by kernel_rfl) ?_ ?_
    ·simp [go_sem]
     refine ⟨⟨by omega,by omega,?_⟩,⟨by omega,by omega,?_⟩,⟨by omega,by omega,?_⟩⟩
     all_goals
      refine Zx [0,1,2,6,4] (by simp) (by simp) (by simp) (by decide) (by simp [go_sem]) ?_ ?_
      ·simp [go_sem]
      ·simp [go_sem,Z0,Zb,Zy]
       exact ⟨.inr (Zah ⟨b.2,b.1,0,0⟩ (by simp) rfl (by simp) (by simp)),.inr KC⟩
    ·simp [go_sem,Z0,Zb,Zy]
     refine ⟨by omega,by omega,?_⟩
     refine ZX (⟨[(0,.ptr 0 4 0 0)],[Z0 b1 b2 3 4,none,none,Zb (ns++[⟨b.2,b.1,0,0⟩,Yl ns.length]),Zy (ws++[Vj,⟨b.2,false,false⟩,UW])],[],3⟩) [13,16] (.q 1 <| .q 2 <| .q 3 <| .q 4 <| .q 5 <| .q 6 <| .q 7 <| .q 8 <| .q 9 <| .q 10 <| .q 11 <| .or 0 (.or 12 (.or 13 (.q 14 <| .q 15 <| .or 16 (.done) (.nil)) (.nil)) (.nil)) (.or 12 (.or 0 (.or 13 (.q 14 <| .q 15 <| .or 16 (.done) (.nil)) (.nil)) (.or 13 (.q 0 <| .q 14 <| .q 15 <| .or 16 (.done) (.nil)) (.nil))) (.nil))) (by kernel_rfl) ?_ ?_
     ·simp [go_sem]
      refine ⟨by omega,⟨by omega,by omega,?_⟩,⟨by omega,by omega,?_⟩,⟨by omega,by omega,?_⟩⟩
      all_goals
       refine Zx [0,1,2,8,6] (by simp) (by simp) (by simp) (by decide) (by simp [go_sem]) ?_ ?_
       ·simp [go_sem]
       ·simp [go_sem,Z0,Zb,Zy,ew]
        exact ⟨.inr (Zah (Yl ns.length) (by simp) rfl (by simp) (by simp)),.inr (Zag UW (by simp) rfl (by simp) (by simp))⟩
     ·simp [go_sem,Z0,Zb,Zy]
      refine ⟨rfl,[3,4],[Z0 b1 b2 3 4,none,none,Zb (ns++[⟨b.2,b.1,0,0⟩,Yl ns.length]),Zy (ws++[Vj,⟨b.2,false,false⟩,UW])],by simp,by simp,by simp [go_sem],?_,by simp [go_sem],?_⟩
      ·simp [go_sem,Z0,Zb,Zy]
       exact ⟨GU,Hx,Hw⟩
      ·simp [go_sem,Z0,Zb,Zy]
 ·have hN:lay (Zw (.leaf b) m) ns=ns++[⟨b.2,b.1,0,0⟩]:=by simp [Zw,hm,lay]
  have hW:Zp (Zw (.leaf b) m)=[⟨b.2,false,false⟩]:=by simp [Zw,hm,Zp]
  rw [hN,hW]
  refine Zl Tryz.func101 (by kernel_rfl) rfl (by simp [Tryz.ntmps101]) ?_;simp only [Tryz.ntmps101,Tryz.results101];simp [go_sem]
  refine Zc c1 ?_ ?_
  ·simp [go_sem]
  ·simp [go_sem,hm]
   refine ZX (⟨[(0,.ptr 0 4 0 0),(6,.lit (.bool false)),(7,.ptr 3 4 0 0)],[Z0 b1 b2 1 4,Zb ns,none,some ⟨193,4,1,fun _=>[.lit (.int .i64 b.1),.lit (.string b.2),.lit (.int .i64 0),.lit (.int .i64 0)]⟩,Zy (ws++[⟨b.2,false,false⟩])],[],3⟩) [10,13] (.q 1 <| .q 2 <| .q 3 <| .q 4 <| .q 5 <| .q 6 <| .q 7 <| .q 8 <| .or 0 (.or 9 (.or 10 (.q 11 <| .q 12 <| .or 13 (.done) (.nil)) (.nil)) (.nil)) (.or 9 (.or 0 (.or 10 (.q 11 <| .q 12 <| .or 13 (.done) (.nil)) (.nil)) (.or 10 (.q 0 <| .q 11 <| .q 12 <| .or 13 (.done) (.nil)) (.nil))) (.nil))) (by kernel_rfl) ?_ ?_
   ·simp [go_sem]
    refine ⟨⟨by omega,by omega,?_⟩,⟨by omega,by omega,?_⟩,⟨by omega,by omega,?_⟩⟩
    all_goals
     refine Zx [0,1,2,3,5] (by simp) (by simp) (by simp) (by decide) (by simp [go_sem]) ?_ ?_
     ·simp [go_sem]
     ·simp [go_sem,Z0,Zb,Zy]
      exact ⟨.inr Jr,.inr (Zag ⟨b.2,false,false⟩ (by simp) rfl (by simp) (by simp))⟩
   ·simp [go_sem,Z0,Zb,Zy]
    refine ZX (⟨[(0,.ptr 0 4 0 0),(6,.lit (.bool false))],[Z0 b1 b2 3 4,none,none,Zb (ns++[⟨b.2,b.1,0,0⟩]),Zy (ws++[⟨b.2,false,false⟩])],[],3⟩) [8,11] (.q 1 <| .q 2 <| .q 3 <| .q 4 <| .q 5 <| .q 6 <| .or 0 (.or 7 (.or 8 (.q 9 <| .q 10 <| .or 11 (.done) (.nil)) (.nil)) (.nil)) (.or 7 (.or 0 (.or 8 (.q 9 <| .q 10 <| .or 11 (.done) (.nil)) (.nil)) (.or 8 (.q 0 <| .q 9 <| .q 10 <| .or 11 (.done) (.nil)) (.nil))) (.nil))) (by kernel_rfl) ?_ ?_
    ·simp [go_sem]
     refine ⟨⟨by omega,by omega,?_⟩,⟨by omega,by omega,?_⟩,⟨by omega,by omega,?_⟩⟩
     all_goals
      refine Zx [0,1,2,6,4] (by simp) (by simp) (by simp) (by decide) (by simp [go_sem]) ?_ ?_
      ·simp [go_sem]
      ·simp [go_sem,Z0,Zb,Zy]
       exact ⟨.inr (Zah ⟨b.2,b.1,0,0⟩ (by simp) rfl (by simp) (by simp)),.inr KC⟩
    ·simp [go_sem,Z0,Zb,Zy]
     refine ⟨rfl,[3,4],[Z0 b1 b2 3 4,none,none,Zb (ns++[⟨b.2,b.1,0,0⟩]),Zy (ws++[⟨b.2,false,false⟩])],by simp,by simp,by simp [go_sem],?_,by simp [go_sem],?_⟩
     ·simp [go_sem,Z0,Zb,Zy]
      exact ⟨GU,Hx,Hw⟩
     ·simp [go_sem,Z0,Zb,Zy]
end Go.Proofs.YtjdmmhcogmepaaaGreatDoor.V
namespace Go.Proofs.YtjdmmhcogmepaaaGreatDoor.V
open Go.RowKit
open Go.Proofs.YtjdmmhcogmepaaaGreatDoor.Ops (Tr)
section
variable {P:Program}
def ZdR (P:Program) (T:TypeId):Bool:=match P.underlying T with|some (.interface _)=>true | _=>false
theorem Zj1 {T:TypeId} (h:ZdR P T=true):∃ ms,P.underlying T=some (.interface ms):=by
 unfold ZdR at h
 split at h
 ·exact ⟨_,by assumption⟩
 ·cases h
theorem Zfj {T:TypeId} (hp:ZdR P T=true) (t:TypeId) (v:Value) (w:World):(Op.equal T (.iface t v) .nilIface).run P w=.ok false w:=by
 obtain ⟨ms,hp⟩:=Zj1 hp
 have h:∀ d:Nat,(Op.equalIn (d+1) T (.iface t v) .nilIface).run P w=.ok false w:=fun d=>by
  simp [Op.equalIn,run_underlying hp]
 simp [Op.equal,Op.maxDepth,h 9999]
theorem Zc0 {T:TypeId} (hp:ZdR P T=true) (w:World):(Op.equal T .nilIface .nilIface).run P w=.ok true w:=by
 obtain ⟨ms,hp⟩:=Zj1 hp
 have h:∀ d:Nat,(Op.equalIn (d+1) T .nilIface .nilIface).run P w=.ok true w:=fun d=>by
  simp [Op.equalIn,run_underlying hp]
 simp [Op.equal,Op.maxDepth,h 9999]
theorem Zh1 {T:TypeId} {w:World} (hp:ZdR P T=true) (t:TypeId) (v:Value):(binOp .eql T (.iface t v) .nilIface).run P w=.ok (.bool false) w:=by
 simp only [binOp]
 simp [Zfj hp t v]
theorem Zh0 {T:TypeId} {w:World} (hp:ZdR P T=true) (t:TypeId) (v:Value):(binOp .neq T (.iface t v) .nilIface).run P w=.ok (.bool true) w:=by
 simp only [binOp]
 simp [Zfj hp t v]
theorem Zgv {T:TypeId} {w:World} (hp:ZdR P T=true):(binOp .eql T .nilIface .nilIface).run P w=.ok (.bool true) w:=by
 simp only [binOp]
 simp [Zc0 hp]
theorem Zgt {T:TypeId} {w:World} (hp:ZdR P T=true):(binOp .neq T .nilIface .nilIface).run P w=.ok (.bool false) w:=by
 simp only [binOp]
 simp [Zc0 hp]
theorem KK {b:BinOp} {T:TypeId} {x y:Operand} {w:World} {t:TypeId} {v:Value}:(eqGuard b T x y (.iface t v) .nilIface).run P w=.ok () w:=by
 unfold eqGuard
 split<;>rfl
theorem Kz {b:BinOp} {T:TypeId} {x:Operand} {w:World} {c:Value}:(eqGuard b T x (.const c) .nilIface .nilIface).run P w=.ok () w:=by
 unfold eqGuard
 split<;>simp
theorem Zho {s:VS} {k:AV→VS→Prop} {T:TypeId} {x y:Operand} {t:TypeId} {v:Value} {b:BinOp} {r:Bool} (hr:∀ w:World,(binOp b T (.iface t v) .nilIface).run P w=.ok (.bool r) w):ZaP P s k b T x y (some (.iface t v)) (some .nilIface)=k (.lit (.bool r)) s:=by
 refine propext ⟨fun ⟨u,h,hk⟩=>?_,fun hk=>⟨.bool r,fun w=>?_,hk⟩⟩
 ·have:=h default
  simp [Sem.run_bind,KK,hr,Result.andThen] at this
  rw [this];exact hk
 ·simp [Sem.run_bind,KK,hr,Result.andThen]
theorem Zeu {s:VS} {k:AV→VS→Prop} {T:TypeId} {x:Operand} {c:Value} {b:BinOp} {r:Bool} (hr:∀ w:World,(binOp b T .nilIface .nilIface).run P w=.ok (.bool r) w):ZaP P s k b T x (.const c) (some .nilIface) (some .nilIface)=k (.lit (.bool r)) s:=by
 refine propext ⟨fun ⟨u,h,hk⟩=>?_,fun hk=>⟨.bool r,fun w=>?_,hk⟩⟩
 ·have:=h default
  simp [Sem.run_bind,Kz,hr,Result.andThen] at this
  rw [this];exact hk
 ·simp [Sem.run_bind,Kz,hr,Result.andThen]
end
theorem HI:ZdR Tryz.prog 92=true:=by kernel_rfl
@[go_sem 2000] theorem vb_eq_if {s:VS} {k:AV→VS→Prop} {x y:Operand} {t:TypeId} {v:Value}:ZaP Tryz.prog s k .eql 92 x y (some (.iface t v)) (some .nilIface)=k (.lit (.bool false)) s:=Zho fun _=>Zh1 HI t v
@[go_sem 2000] theorem vb_ne_if {s:VS} {k:AV→VS→Prop} {x y:Operand} {t:TypeId} {v:Value}:ZaP Tryz.prog s k .neq 92 x y (some (.iface t v)) (some .nilIface)=k (.lit (.bool true)) s:=Zho fun _=>Zh0 HI t v
@[go_sem 2000] theorem vb_eq_ifn {s:VS} {k:AV→VS→Prop} {x:Operand} {c:Value}:ZaP Tryz.prog s k .eql 92 x (.const c) (some .nilIface) (some .nilIface)=k (.lit (.bool true)) s:=Zeu fun _=>Zgv HI
@[go_sem 2000] theorem vb_ne_ifn {s:VS} {k:AV→VS→Prop} {x:Operand} {c:Value}:ZaP Tryz.prog s k .neq 92 x (.const c) (some .nilIface) (some .nilIface)=k (.lit (.bool false)) s:=Zeu fun _=>Zgt HI
theorem ZkS {b1 b2:Nat} {e:ET} (h:K1 b1 b2 e):K1 b1 b2 (.grp e):=fun m ns ws h1 h2=>h m ns ws (by simp only [ZF] at h1;omega) (by simp only [ZF] at h2;omega)
end Go.Proofs.YtjdmmhcogmepaaaGreatDoor.V
namespace Go.Proofs.YtjdmmhcogmepaaaGreatDoor.V
open Go.RowKit
open Go.Proofs.YtjdmmhcogmepaaaGreatDoor.Ops (Tr)
theorem QF:UJ Tryz.prog 193 (.agg #[.int .i64 0,.string ⟨#[]⟩,.int .i64 0,.int .i64 0]):=fun w=>Tryz.zeroValue193 w
set_option maxRecDepth 100000 in
theorem ZkQ {b1 b2:Nat} {o:POp} {e:ET} (ho:o.wf) (hk:o.kind=1) (ih:K1 b1 b2 e):K1 b1 b2 (.pre o e):=by
 intro m ns ws h1 h2
 have c4:=Kw o ho
 obtain ⟨T1,U1,hP⟩:=Xr e
 simp only [Vq,Z0,Zb,Zy,ZF,POp.cells,hP] at h1 h2 c4 ⊢
 have hz:=Xt (ZD e) (ZH o false)
 have hz2:=Xx e
 have hy:=Yu (Zw (ZD e) (ZH o false))
 have hO:=ZN (Zw (ZD e) (ZH o false)) ns
 have hkb:(o.kind==2)=false:=by simp [hk]
 have ewk:IntKind.i64.wrap (o.kind+2)=o.kind+2:=wrap_i64 (by omega)
 by_cases hm:o.level<m
 ·have hN:lay (Zw (ZD (.pre o e)) m) ns=lay (Zw (ZD e) (ZH o false)) ns++[⟨o.text,o.kind+2,(lay (Zw (ZD e) (ZH o false)) ns).length-1,0⟩,Yl (lay (Zw (ZD e) (ZH o false)) ns).length]:=by simp [ZD,Zw,hm,lay,Yl]
  have hW:ws++Zp (Zw (ZD (.pre o e)) m)=ws++[Vj,ZP o]++Zp (Zw (ZD e) (ZH o false))++[UW]:=by simp [ZD,Zw,hm,Zp]
  have iq:=ih (ZH o false) ns (ws++[Vj,ZP o]) (by omega) (by simp;omega)
  rw [hP] at iq
  rw [hN,hW]
  have hWl:(ws++[Vj,ZP o]++Zp (Zw (ZD e) (ZH o false))).length≤ws.length+2+4*ZF e:=by simp;omega
  generalize hO1:lay (Zw (ZD e) (ZH o false)) ns=O1 at *
  generalize hW1:ws++[Vj,ZP o]++Zp (Zw (ZD e) (ZH o false))=W1 at *
  have ew1:IntKind.i64.wrap ((O1.length:Int)-1)=(O1.length:Int)-1:=wrap_i64 (by omega)
  have ew:IntKind.i64.wrap (O1.length:Int)=O1.length:=wrap_i64 (by omega)
  refine Zl Tryz.func101 (by kernel_rfl) rfl (by simp [Tryz.ntmps101]) ?_;simp only [Tryz.ntmps101,Tryz.results101];simp [go_sem]
  refine Zc (XM o .nilIface (.iface T1 U1) (.inl rfl) (.inr ⟨_,_,rfl⟩) 0) ?_ ?_
  ·simp [go_sem]
  ·simp [go_sem,hm]
   refine ⟨by omega,by omega,_,QF,?_⟩
   refine ZX (⟨[(0,.ptr 0 4 0 0),(6,.lit (.bool true)),(8,.ptr 3 7 0 0),(9,.ptr 4 4 0 0)],[Z0 b1 b2 1 5,Zb ns,none,some ⟨164,7,1,fun _=>[.lit (.string o.text),.lit (.int .i64 o.kind),.lit (.int .i64 o.level),.lit (.int .i64 o.side),.lit .nilIface,.lit (.iface T1 U1),.lit (.int .i64 0)]⟩,some ⟨77,4,1,fun _=>[.lit (.int .i64 (o.kind+2)),.lit (.string o.text),.lit (.int .i64 0),.lit (.int .i64 0)]⟩,Zy (ws++[Vj,ZP o])],[],3⟩) [14,17] (.q 1 <| .q 2 <| .q 3 <| .q 4 <| .q 5 <| .q 6 <| .q 7 <| .q 8 <| .q 9 <| .q 10 <| .q 11 <| .q 12 <| .or 0 (.or 13 (.or 14 (.q 15 <| .q 16 <| .or 17 (.done) (.nil)) (.nil)) (.nil)) (.or 13 (.or 0 (.or 14 (.q 15 <| .q 16 <| .or 17 (.done) (.nil)) (.nil)) (.or 14 (.q 0 <| .q 15 <| .q 16 <| .or 17 (.done) (.nil)) (.nil))) (.nil))) (by kernel_rfl) ?_ ?_
   ·simp [go_sem]
    refine ⟨⟨by omega,by omega,?_⟩,⟨by omega,by omega,?_⟩,⟨by omega,by omega,?_⟩⟩
    all_goals
     refine Zx [0,1,2,5,6,8] (by simp) (by simp) (by simp) (by decide) (by simp [go_sem]) ?_ ?_
     ·simp [go_sem]
     ·simp [go_sem,Z0,Zb,Zy,ewk]
      exact ⟨.inr Jr,.inr (ZmC Vj (ZP o) (by simp) (by simp) rfl (by simp [ZP,PWord.cells,hk]) (by simp) (by simp))⟩
   ·simp [go_sem,Z0,Zb,Zy,hkb]
    refine Zq [10] (.q 0 <| .q 1 <| .q 2 <| .q 3 <| .q 4 <| .q 5 <| .q 6 <| .q 7 <| .q 8 <| .or 9 (.or 10 (.done) (.nil)) (.nil)) (by kernel_rfl) ?_
    simp [go_sem,hkb]
    refine Zu (c4 false) ?_ ?_
    ·simp [go_sem,hkb]
    ·simp [go_sem]
     refine Zd [0,1,5] iq (by simp) ?_ ?_ trivial ?_
     ·simp [go_sem]
     ·simp [go_sem,Z0,Zb,Zy]
      exact ⟨Jr,KC⟩
     ·rintro av mem maps ⟨rfl,rfl,rfl⟩
      simp [go_sem,Z0,Zb,Zy,ew1]
      refine ⟨by omega,?_⟩
      refine ZX (⟨[(0,.ptr 0 4 0 0),(6,.lit (.bool true))],[Z0 b1 b2 3 4,none,none,Zb (O1++[⟨o.text,o.kind+2,(O1.length:Int)-1,0⟩]),Zy W1],[],3⟩) [7,10] (.q 1 <| .q 2 <| .q 3 <| .q 4 <| .q 5 <| .or 0 (.or 6 (.or 7 (.q 8 <| .q 9 <| .or 10 (.done) (.nil)) (.nil)) (.nil)) (.or 6 (.or 0 (.or 7 (.q 8 <| .q 9 <| .or 10 (.done) (.nil)) (.nil)) (.or 7 (.q 0 <| .q 8 <| .q 9 <| .or 10 (.done) (.nil)) (.nil))) (.nil))) (by kernel_rfl) ?_ ?_
      ·simp [go_sem]
       refine ⟨⟨by omega,by omega,?_⟩,⟨by omega,by omega,?_⟩,⟨by omega,by omega,?_⟩⟩
       all_goals
        refine Zx [0,1,2,9,7] (by simp) (by simp) (by simp) (by decide) (by simp [go_sem]) ?_ ?_
        ·simp [go_sem]
        ·simp [go_sem,Z0,Zb,Zy]
         exact ⟨.inr (Zah ⟨o.text,o.kind+2,(O1.length:Int)-1,0⟩ (by simp) rfl (by simp) (by simp)),.inr KC⟩
      ·simp [go_sem,Z0,Zb,Zy,ew]
       refine ⟨by omega,by omega,?_⟩
       refine ZX (⟨[(0,.ptr 0 4 0 0)],[Z0 b1 b2 3 4,none,none,Zb (O1++[⟨o.text,o.kind+2,(O1.length:Int)-1,0⟩,Yl O1.length]),Zy (W1++[UW])],[],3⟩) [13,16] (.q 1 <| .q 2 <| .q 3 <| .q 4 <| .q 5 <| .q 6 <| .q 7 <| .q 8 <| .q 9 <| .q 10 <| .q 11 <| .or 0 (.or 12 (.or 13 (.q 14 <| .q 15 <| .or 16 (.done) (.nil)) (.nil)) (.nil)) (.or 12 (.or 0 (.or 13 (.q 14 <| .q 15 <| .or 16 (.done) (.nil)) (.nil)) (.or 13 (.q 0 <| .q 14 <| .q 15 <| .or 16 (.done) (.nil)) (.nil))) (.nil))) (by kernel_rfl) ?_ ?_
       ·simp [go_sem]
        refine ⟨by omega,⟨by omega,by omega,?_⟩,⟨by omega,by omega,?_⟩,⟨by omega,by omega,?_⟩⟩
        all_goals
         refine Zx [0,1,2,8,6] (by simp) (by simp) (by simp) (by decide) (by simp [go_sem]) ?_ ?_
         ·simp [go_sem]
         ·simp [go_sem,Z0,Zb,Zy,ew]
          exact ⟨.inr (Zah (Yl O1.length) (by simp) rfl (by simp) (by simp)),.inr (Zag UW (by simp) rfl (by simp) (by simp))⟩
       ·simp [go_sem,Z0,Zb,Zy]
        refine ⟨rfl,[3,4],[Z0 b1 b2 3 4,none,none,Zb (O1++[⟨o.text,o.kind+2,(O1.length:Int)-1,0⟩,Yl O1.length]),Zy (W1++[UW])],by simp,by simp,by simp [go_sem],?_,by simp [go_sem],?_⟩
        ·simp [go_sem,Z0,Zb,Zy]
         exact ⟨GU,Hx,Hw⟩
        ·simp [go_sem,Z0,Zb,Zy]
 ·have hN:lay (Zw (ZD (.pre o e)) m) ns=lay (Zw (ZD e) (ZH o false)) ns++[⟨o.text,o.kind+2,(lay (Zw (ZD e) (ZH o false)) ns).length-1,0⟩]:=by simp [ZD,Zw,hm,lay,Yl]
  have hW:ws++Zp (Zw (ZD (.pre o e)) m)=ws++[ZP o]++Zp (Zw (ZD e) (ZH o false)):=by simp [ZD,Zw,hm,Zp]
  have iq:=ih (ZH o false) ns (ws++[ZP o]) (by omega) (by simp;omega)
  rw [hP] at iq
  rw [hN,hW]
  have hWl:(ws++[ZP o]++Zp (Zw (ZD e) (ZH o false))).length≤ws.length+2+4*ZF e:=by simp;omega
  generalize hO1:lay (Zw (ZD e) (ZH o false)) ns=O1 at *
  generalize hW1:ws++[ZP o]++Zp (Zw (ZD e) (ZH o false))=W1 at *
  have ew1:IntKind.i64.wrap ((O1.length:Int)-1)=(O1.length:Int)-1:=wrap_i64 (by omega)
  refine Zl Tryz.func101 (by kernel_rfl) rfl (by simp [Tryz.ntmps101]) ?_;simp only [Tryz.ntmps101,Tryz.results101];simp [go_sem]
  refine Zc (XM o .nilIface (.iface T1 U1) (.inl rfl) (.inr ⟨_,_,rfl⟩) 0) ?_ ?_
  ·simp [go_sem]
  ·simp [go_sem,hm]
   refine ⟨_,QF,?_⟩
   refine ZX (⟨[(0,.ptr 0 4 0 0),(6,.lit (.bool false)),(8,.ptr 3 7 0 0),(9,.ptr 4 4 0 0)],[Z0 b1 b2 1 5,Zb ns,none,some ⟨164,7,1,fun _=>[.lit (.string o.text),.lit (.int .i64 o.kind),.lit (.int .i64 o.level),.lit (.int .i64 o.side),.lit .nilIface,.lit (.iface T1 U1),.lit (.int .i64 0)]⟩,some ⟨77,4,1,fun _=>[.lit (.int .i64 (o.kind+2)),.lit (.string o.text),.lit (.int .i64 0),.lit (.int .i64 0)]⟩,Zy (ws++[ZP o])],[],3⟩) [14,17] (.q 1 <| .q 2 <| .q 3 <| .q 4 <| .q 5 <| .q 6 <| .q 7 <| .q 8 <| .q 9 <| .q 10 <| .q 11 <| .q 12 <| .or 0 (.or 13 (.or 14 (.q 15 <| .q 16 <| .or 17 (.done) (.nil)) (.nil)) (.nil)) (.or 13 (.or 0 (.or 14 (.q 15 <| .q 16 <| .or 17 (.done) (.nil)) (.nil)) (.or 14 (.q 0 <| .q 15 <| .q 16 <| .or 17 (.done) (.nil)) (.nil))) (.nil))) (by kernel_rfl) ?_ ?_
   ·simp [go_sem]
    refine ⟨⟨by omega,by omega,?_⟩,⟨by omega,by omega,?_⟩,⟨by omega,by omega,?_⟩⟩
    all_goals
     refine Zx [0,1,2,3,4,6] (by simp) (by simp) (by simp) (by decide) (by simp [go_sem]) ?_ ?_
     ·simp [go_sem]
     ·simp [go_sem,Z0,Zb,Zy,ewk]
      exact ⟨.inr Jr,.inr (Zag (ZP o) (by simp) (by simp [ZP,PWord.cells,hk]) (by simp) (by simp))⟩
   ·simp [go_sem,Z0,Zb,Zy,hkb]
    refine Zq [10] (.q 0 <| .q 1 <| .q 2 <| .q 3 <| .q 4 <| .q 5 <| .q 6 <| .q 7 <| .q 8 <| .or 9 (.or 10 (.done) (.nil)) (.nil)) (by kernel_rfl) ?_
    simp [go_sem,hkb]
    refine Zu (c4 false) ?_ ?_
    ·simp [go_sem,hkb]
    ·simp [go_sem]
     refine Zd [0,1,5] iq (by simp) ?_ ?_ trivial ?_
     ·simp [go_sem]
     ·simp [go_sem,Z0,Zb,Zy]
      exact ⟨Jr,KC⟩
     ·rintro av mem maps ⟨rfl,rfl,rfl⟩
      simp [go_sem,Z0,Zb,Zy,ew1]
      refine ⟨by omega,?_⟩
      refine ZX (⟨[(0,.ptr 0 4 0 0),(6,.lit (.bool false))],[Z0 b1 b2 3 4,none,none,Zb (O1++[⟨o.text,o.kind+2,(O1.length:Int)-1,0⟩]),Zy W1],[],3⟩) [7,10] (.q 1 <| .q 2 <| .q 3 <| .q 4 <| .q 5 <| .or 0 (.or 6 (.or 7 (.q 8 <| .q 9 <| .or 10 (.done) (.nil)) (.nil)) (.nil)) (.or 6 (.or 0 (.or 7 (.q 8 <| .q 9 <| .or 10 (.done) (.nil)) (.nil)) (.or 7 (.q 0 <| .q 8 <| .q 9 <| .or 10 (.done) (.nil)) (.nil))) (.nil))) (by kernel_rfl) ?_ ?_
      ·simp [go_sem]
       refine ⟨⟨by omega,by omega,?_⟩,⟨by omega,by omega,?_⟩,⟨by omega,by omega,?_⟩⟩
       all_goals
        refine Zx [0,1,2,9,7] (by simp) (by simp) (by simp) (by decide) (by simp [go_sem]) ?_ ?_
        ·simp [go_sem]
        ·simp [go_sem,Z0,Zb,Zy]
         exact ⟨.inr (Zah ⟨o.text,o.kind+2,(O1.length:Int)-1,0⟩ (by simp) rfl (by simp) (by simp)),.inr KC⟩
      ·simp [go_sem,Z0,Zb,Zy]
       refine ⟨rfl,[3,4],[Z0 b1 b2 3 4,none,none,Zb (O1++[⟨o.text,o.kind+2,(O1.length:Int)-1,0⟩]),Zy (W1)],by simp,by simp,by simp [go_sem],?_,by simp [go_sem],?_⟩
       ·simp [go_sem,Z0,Zb,Zy]
        exact ⟨GU,Hx,Hw⟩
       ·simp [go_sem,Z0,Zb,Zy]
set_option maxRecDepth 100000 in
theorem Zjp {b1 b2:Nat} {o:POp} {e:ET} (ho:o.wf) (hk:o.kind=3) (ih:K1 b1 b2 e):K1 b1 b2 (.post o e):=by
 intro m ns ws h1 h2
 have c4:=Kw o ho
 obtain ⟨T1,U1,hP⟩:=Xr e
 simp only [Vq,Z0,Zb,Zy,ZF,POp.cells,hP] at h1 h2 c4 ⊢
 have hz:=Xt (ZD e) (ZH o false)
 have hz2:=Xx e
 have hy:=Yu (Zw (ZD e) (ZH o false))
 have hO:=ZN (Zw (ZD e) (ZH o false)) ns
 have hkb:(o.kind==2)=false:=by simp [hk]
 have ewk:IntKind.i64.wrap (o.kind+2)=o.kind+2:=wrap_i64 (by omega)
 by_cases hm:o.level<m
 ·have hN:lay (Zw (ZD (.post o e)) m) ns=lay (Zw (ZD e) (ZH o false)) ns++[⟨o.text,o.kind+2,(lay (Zw (ZD e) (ZH o false)) ns).length-1,0⟩,Yl (lay (Zw (ZD e) (ZH o false)) ns).length]:=by simp [ZD,Zw,hm,lay,Yl]
  have hW:ws++Zp (Zw (ZD (.post o e)) m)=(((ws++[Vj])++Zp (Zw (ZD e) (ZH o false)))++[ZP o])++[UW]:=by simp [ZD,Zw,hm,Zp]
  have iq:=ih (ZH o false) ns (ws++[Vj]) (by omega) (by simp;omega)
  rw [hP] at iq
  rw [hN,hW]
  have hWl:((ws++[Vj])++Zp (Zw (ZD e) (ZH o false))).length≤ws.length+1+4*ZF e:=by simp;omega
  generalize hO1:lay (Zw (ZD e) (ZH o false)) ns=O1 at *
  generalize hW1:(ws++[Vj])++Zp (Zw (ZD e) (ZH o false))=W1 at *
  have ew1:IntKind.i64.wrap ((O1.length:Int)-1)=(O1.length:Int)-1:=wrap_i64 (by omega)
  have ew:IntKind.i64.wrap (O1.length:Int)=O1.length:=wrap_i64 (by omega)
  refine Zl Tryz.func101 (by kernel_rfl) rfl (by simp [Tryz.ntmps101]) ?_;simp only [Tryz.ntmps101,Tryz.results101];simp [go_sem]
  refine Zc (XM o (.iface T1 U1) .nilIface (.inr ⟨_,_,rfl⟩) (.inl rfl) 0) ?_ ?_
  ·simp [go_sem]
  ·simp [go_sem,hm]
   refine ⟨by omega,by omega,_,QF,?_⟩
   refine Zq [6] (.q 0 <| .q 1 <| .q 2 <| .q 3 <| .q 4 <| .or 5 (.or 6 (.done) (.nil)) (.nil)) (by kernel_rfl) ?_
   simp [go_sem]
   refine Zu (c4 false) ?_ ?_
   ·simp [go_sem]
   ·simp [go_sem]
    refine Zd [0,1,4] iq (by simp) ?_ ?_ trivial ?_
    ·simp [go_sem]
    ·simp [go_sem,Z0,Zb,Zy]
     exact ⟨Jr,Zag Vj (by simp) rfl (by simp) (by simp)⟩
    ·rintro av mem maps ⟨rfl,rfl,rfl⟩
     simp [go_sem,Z0,Zb,Zy,ew1]
     refine ⟨by omega,?_⟩
     refine ZX (⟨[(0,.ptr 0 4 0 0),(6,.lit (.bool true)),(8,.ptr 3 7 0 0),(9,.ptr 4 4 0 0)],[Z0 b1 b2 5 6,none,none,some ⟨164,7,1,fun _=>[.lit (.string o.text),.lit (.int .i64 o.kind),.lit (.int .i64 o.level),.lit (.int .i64 o.side),.lit (.iface T1 U1),.lit .nilIface,.lit (.int .i64 0)]⟩,some ⟨77,4,1,fun _=>[.lit (.int .i64 (o.kind+2)),.lit (.string o.text),.lit (.int .i64 ((O1.length:Int)-1)),.lit (.int .i64 0)]⟩,Zb O1,Zy (W1++[ZP o])],[],3⟩) [14,17] (.q 1 <| .q 2 <| .q 3 <| .q 4 <| .q 5 <| .q 6 <| .q 7 <| .q 8 <| .q 9 <| .q 10 <| .q 11 <| .q 12 <| .or 0 (.or 13 (.or 14 (.q 15 <| .q 16 <| .or 17 (.done) (.nil)) (.nil)) (.nil)) (.or 13 (.or 0 (.or 14 (.q 15 <| .q 16 <| .or 17 (.done) (.nil)) (.nil)) (.or 14 (.q 0 <| .q 15 <| .q 16 <| .or 17 (.done) (.nil)) (.nil))) (.nil))) (by kernel_rfl) ?_ ?_
     ·simp [go_sem]
      refine ⟨⟨by omega,by omega,?_⟩,⟨by omega,by omega,?_⟩,⟨by omega,by omega,?_⟩⟩
      all_goals
       refine Zx [0,1,2,5,6,7,10] (by simp) (by simp) (by simp) (by decide) (by simp [go_sem]) ?_ ?_
       ·simp [go_sem]
       ·simp [go_sem,Z0,Zb,Zy,ewk]
        exact ⟨.inr Jr,.inr (Zag (ZP o) (by simp) (by simp [ZP,PWord.cells,hk]) (by simp) (by simp))⟩
     ·simp [go_sem,Z0,Zb,Zy,hkb]
      refine ZX (⟨[(0,.ptr 0 4 0 0),(6,.lit (.bool true))],[Z0 b1 b2 3 4,none,none,Zb (O1++[⟨o.text,o.kind+2,(O1.length:Int)-1,0⟩]),Zy (W1++[ZP o])],[],3⟩) [7,10] (.q 1 <| .q 2 <| .q 3 <| .q 4 <| .q 5 <| .or 0 (.or 6 (.or 7 (.q 8 <| .q 9 <| .or 10 (.done) (.nil)) (.nil)) (.nil)) (.or 6 (.or 0 (.or 7 (.q 8 <| .q 9 <| .or 10 (.done) (.nil)) (.nil)) (.or 7 (.q 0 <| .q 8 <| .q 9 <| .or 10 (.done) (.nil)) (.nil))) (.nil))) (by kernel_rfl) ?_ ?_
      ·simp [go_sem]
       refine ⟨⟨by omega,by omega,?_⟩,⟨by omega,by omega,?_⟩,⟨by omega,by omega,?_⟩⟩
       all_goals
        refine Zx [0,1,2,8,6] (by simp) (by simp) (by simp) (by decide) (by simp [go_sem]) ?_ ?_
        ·simp [go_sem]
        ·simp [go_sem,Z0,Zb,Zy]
         exact ⟨.inr (Zah ⟨o.text,o.kind+2,(O1.length:Int)-1,0⟩ (by simp) rfl (by simp) (by simp)),.inr KC⟩
      ·simp [go_sem,Z0,Zb,Zy,ew]
       refine ⟨by omega,by omega,?_⟩
       refine ZX (⟨[(0,.ptr 0 4 0 0)],[Z0 b1 b2 3 4,none,none,Zb (O1++[⟨o.text,o.kind+2,(O1.length:Int)-1,0⟩,Yl O1.length]),Zy ((W1++[ZP o])++[UW])],[],3⟩) [13,16] (.q 1 <| .q 2 <| .q 3 <| .q 4 <| .q 5 <| .q 6 <| .q 7 <| .q 8 <| .q 9 <| .q 10 <| .q 11 <| .or 0 (.or 12 (.or 13 (.q 14 <| .q 15 <| .or 16 (.done) (.nil)) (.nil)) (.nil)) (.or 12 (.or 0 (.or 13 (.q 14 <| .q 15 <| .or 16 (.done) (.nil)) (.nil)) (.or 13 (.q 0 <| .q 14 <| .q 15 <| .or 16 (.done) (.nil)) (.nil))) (.nil))) (by kernel_rfl) ?_ ?_
       ·simp [go_sem]
        refine ⟨by omega,⟨by omega,by omega,?_⟩,⟨by omega,by omega,?_⟩,⟨by omega,by omega,?_⟩⟩
        all_goals
         refine Zx [0,1,2,8,6] (by simp) (by simp) (by simp) (by decide) (by simp [go_sem]) ?_ ?_
         ·simp [go_sem]
         ·simp [go_sem,Z0,Zb,Zy,ew]
          exact ⟨.inr (Zah (Yl O1.length) (by simp) rfl (by simp) (by simp)),.inr (Zag UW (by simp) rfl (by simp) (by simp))⟩
       ·simp [go_sem,Z0,Zb,Zy]
        refine ⟨rfl,[3,4],[Z0 b1 b2 3 4,none,none,Zb (O1++[⟨o.text,o.kind+2,(O1.length:Int)-1,0⟩,Yl O1.length]),Zy ((W1++[ZP o])++[UW])],by simp,by simp,by simp [go_sem],?_,by simp [go_sem],?_⟩
        ·simp [go_sem,Z0,Zb,Zy]
         exact ⟨GU,Hx,Hw⟩
        ·simp [go_sem,Z0,Zb,Zy]
 ·have hN:lay (Zw (ZD (.post o e)) m) ns=lay (Zw (ZD e) (ZH o false)) ns++[⟨o.text,o.kind+2,(lay (Zw (ZD e) (ZH o false)) ns).length-1,0⟩]:=by simp [ZD,Zw,hm,lay,Yl]
  have hW:ws++Zp (Zw (ZD (.post o e)) m)=((ws++Zp (Zw (ZD e) (ZH o false)))++[ZP o]):=by simp [ZD,Zw,hm,Zp]
  have iq:=ih (ZH o false) ns ws (by omega) (by omega)
  rw [hP] at iq
  rw [hN,hW]
  have hWl:(ws++Zp (Zw (ZD e) (ZH o false))).length≤ws.length+1+4*ZF e:=by simp;omega
  generalize hO1:lay (Zw (ZD e) (ZH o false)) ns=O1 at *
  generalize hW1:ws++Zp (Zw (ZD e) (ZH o false))=W1 at *
  have ew1:IntKind.i64.wrap ((O1.length:Int)-1)=(O1.length:Int)-1:=wrap_i64 (by omega)
  refine Zl Tryz.func101 (by kernel_rfl) rfl (by simp [Tryz.ntmps101]) ?_;simp only [Tryz.ntmps101,Tryz.results101];simp [go_sem]
  refine Zc (XM o (.iface T1 U1) .nilIface (.inr ⟨_,_,rfl⟩) (.inl rfl) 0) ?_ ?_
  ·simp [go_sem]
  ·simp [go_sem,hm]
   refine ⟨_,QF,?_⟩
   refine Zq [6] (.q 0 <| .q 1 <| .q 2 <| .q 3 <| .q 4 <| .or 5 (.or 6 (.done) (.nil)) (.nil)) (by kernel_rfl) ?_
   simp [go_sem]
   refine Zu (c4 false) ?_ ?_
   ·simp [go_sem]
   ·simp [go_sem]
    refine Zd [0,1,2] iq (by simp) ?_ ?_ trivial ?_
    ·simp [go_sem]
    ·simp [go_sem,Z0,Zb,Zy]
     exact ⟨Jr,KC⟩
    ·rintro av mem maps ⟨rfl,rfl,rfl⟩
     simp [go_sem,Z0,Zb,Zy,ew1]
     refine ⟨by omega,?_⟩
     refine ZX (⟨[(0,.ptr 0 4 0 0),(6,.lit (.bool false)),(8,.ptr 3 7 0 0),(9,.ptr 4 4 0 0)],[Z0 b1 b2 5 6,none,none,some ⟨164,7,1,fun _=>[.lit (.string o.text),.lit (.int .i64 o.kind),.lit (.int .i64 o.level),.lit (.int .i64 o.side),.lit (.iface T1 U1),.lit .nilIface,.lit (.int .i64 0)]⟩,some ⟨77,4,1,fun _=>[.lit (.int .i64 (o.kind+2)),.lit (.string o.text),.lit (.int .i64 ((O1.length:Int)-1)),.lit (.int .i64 0)]⟩,Zb O1,Zy (W1++[ZP o])],[],3⟩) [14,17] (.q 1 <| .q 2 <| .q 3 <| .q 4 <| .q 5 <| .q 6 <| .q 7 <| .q 8 <| .q 9 <| .q 10 <| .q 11 <| .q 12 <| .or 0 (.or 13 (.or 14 (.q 15 <| .q 16 <| .or 17 (.done) (.nil)) (.nil)) (.nil)) (.or 13 (.or 0 (.or 14 (.q 15 <| .q 16 <| .or 17 (.done) (.nil)) (.nil)) (.or 14 (.q 0 <| .q 15 <| .q 16 <| .or 17 (.done) (.nil)) (.nil))) (.nil))) (by kernel_rfl) ?_ ?_
     ·simp [go_sem]
      refine ⟨⟨by omega,by omega,?_⟩,⟨by omega,by omega,?_⟩,⟨by omega,by omega,?_⟩⟩
      all_goals
       refine Zx [0,1,2,3,4,5,8] (by simp) (by simp) (by simp) (by decide) (by simp [go_sem]) ?_ ?_
       ·simp [go_sem]
       ·simp [go_sem,Z0,Zb,Zy,ewk]
        exact ⟨.inr Jr,.inr (Zag (ZP o) (by simp) (by simp [ZP,PWord.cells,hk]) (by simp) (by simp))⟩
     ·simp [go_sem,Z0,Zb,Zy,hkb]
      refine ZX (⟨[(0,.ptr 0 4 0 0),(6,.lit (.bool false))],[Z0 b1 b2 3 4,none,none,Zb (O1++[⟨o.text,o.kind+2,(O1.length:Int)-1,0⟩]),Zy (W1++[ZP o])],[],3⟩) [7,10] (.q 1 <| .q 2 <| .q 3 <| .q 4 <| .q 5 <| .or 0 (.or 6 (.or 7 (.q 8 <| .q 9 <| .or 10 (.done) (.nil)) (.nil)) (.nil)) (.or 6 (.or 0 (.or 7 (.q 8 <| .q 9 <| .or 10 (.done) (.nil)) (.nil)) (.or 7 (.q 0 <| .q 8 <| .q 9 <| .or 10 (.done) (.nil)) (.nil))) (.nil))) (by kernel_rfl) ?_ ?_
      ·simp [go_sem]
       refine ⟨⟨by omega,by omega,?_⟩,⟨by omega,by omega,?_⟩,⟨by omega,by omega,?_⟩⟩
       all_goals
        refine Zx [0,1,2,8,6] (by simp) (by simp) (by simp) (by decide) (by simp [go_sem]) ?_ ?_
        ·simp [go_sem]
        ·simp [go_sem,Z0,Zb,Zy]
         exact ⟨.inr (Zah ⟨o.text,o.kind+2,(O1.length:Int)-1,0⟩ (by simp) rfl (by simp) (by simp)),.inr KC⟩
      ·simp [go_sem,Z0,Zb,Zy]
       refine ⟨rfl,[3,4],[Z0 b1 b2 3 4,none,none,Zb (O1++[⟨o.text,o.kind+2,(O1.length:Int)-1,0⟩]),Zy ((W1++[ZP o]))],by simp,by simp,by simp [go_sem],?_,by simp [go_sem],?_⟩
       ·simp [go_sem,Z0,Zb,Zy]
        exact ⟨GU,Hx,Hw⟩
       ·simp [go_sem,Z0,Zb,Zy]
set_option maxRecDepth 100000 in
theorem ZkR {b1 b2:Nat} {o:POp} {e y:ET} (ho:o.wf) (hk:o.kind=2) (ih:K1 b1 b2 e) (ihy:K1 b1 b2 y):K1 b1 b2 (.inf o e y):=by
 intro m ns ws h1 h2
 have c4:=Kw o ho
 obtain ⟨T1,U1,hP⟩:=Xr e
 obtain ⟨T2,U2,hP2⟩:=Xr y
 simp only [Vq,Z0,Zb,Zy,ZF,POp.cells,hP,hP2] at h1 h2 c4 ⊢
 have hz:=Xt (ZD e) (ZH o false)
 have hz2:=Xx e
 have hy:=Yu (Zw (ZD e) (ZH o false))
 have hO:=ZN (Zw (ZD e) (ZH o false)) ns
 have hz3:=Xt (ZD y) (ZH o true)
 have hz4:=Xx y
 have hy2:=Yu (Zw (ZD y) (ZH o true))
 have hO2:=ZN (Zw (ZD y) (ZH o true)) (lay (Zw (ZD e) (ZH o false)) ns)
 have hkb:(o.kind==2)=true:=by simp [hk]
 have ewk:IntKind.i64.wrap (o.kind+2)=o.kind+2:=wrap_i64 (by omega)
 by_cases hm:o.level<m
 ·have hN:lay (Zw (ZD (.inf o e y)) m) ns=lay (Zw (ZD y) (ZH o true)) (lay (Zw (ZD e) (ZH o false)) ns)++[⟨o.text,o.kind+2,(lay (Zw (ZD e) (ZH o false)) ns).length-1,(lay (Zw (ZD y) (ZH o true)) (lay (Zw (ZD e) (ZH o false)) ns)).length-1⟩,Yl (lay (Zw (ZD y) (ZH o true)) (lay (Zw (ZD e) (ZH o false)) ns)).length]:=by simp [ZD,Zw,hm,lay,Yl]
  have hW:ws++Zp (Zw (ZD (.inf o e y)) m)=(((ws++[Vj])++Zp (Zw (ZD e) (ZH o false)))++[ZP o])++Zp (Zw (ZD y) (ZH o true))++[UW]:=by simp [ZD,Zw,hm,Zp]
  have iq:=ih (ZH o false) ns (ws++[Vj]) (by omega) (by simp;omega)
  rw [hP] at iq
  rw [hN,hW]
  have hWl:((ws++[Vj])++Zp (Zw (ZD e) (ZH o false))).length≤ws.length+1+4*ZF e:=by simp;omega
  generalize hO1:lay (Zw (ZD e) (ZH o false)) ns=O1 at *
  generalize hW1:(ws++[Vj])++Zp (Zw (ZD e) (ZH o false))=W1 at *
  have ew1:IntKind.i64.wrap ((O1.length:Int)-1)=(O1.length:Int)-1:=wrap_i64 (by omega)
  have iq2:=ihy (ZH o true) O1 (W1++[ZP o]) (by omega) (by simp;omega)
  rw [hP2] at iq2
  have hWl2:(W1++[ZP o]++Zp (Zw (ZD y) (ZH o true))).length≤ws.length+2+4*ZF e+4*ZF y:=by simp;omega
  generalize hO2':lay (Zw (ZD y) (ZH o true)) O1=O2 at *
  generalize hW2:W1++[ZP o]++Zp (Zw (ZD y) (ZH o true))=W2 at *
  have ew2:IntKind.i64.wrap ((O2.length:Int)-1)=(O2.length:Int)-1:=wrap_i64 (by omega)
  have ew:IntKind.i64.wrap (O2.length:Int)=O2.length:=wrap_i64 (by omega)
  refine Zl Tryz.func101 (by kernel_rfl) rfl (by simp [Tryz.ntmps101]) ?_;simp only [Tryz.ntmps101,Tryz.results101];simp [go_sem]
  refine Zc (XM o (.iface T1 U1) (.iface T2 U2) (.inr ⟨_,_,rfl⟩) (.inr ⟨_,_,rfl⟩) 0) ?_ ?_
  ·simp [go_sem]
  ·simp [go_sem,hm]
   refine ⟨by omega,by omega,_,QF,?_⟩
   refine Zq [6] (.q 0 <| .q 1 <| .q 2 <| .q 3 <| .q 4 <| .or 5 (.or 6 (.done) (.nil)) (.nil)) (by kernel_rfl) ?_
   simp [go_sem]
   refine Zu (c4 false) ?_ ?_
   ·simp [go_sem]
   ·simp [go_sem]
    refine Zd [0,1,4] iq (by simp) ?_ ?_ trivial ?_
    ·simp [go_sem]
    ·simp [go_sem,Z0,Zb,Zy]
     exact ⟨Jr,Zag Vj (by simp) rfl (by simp) (by simp)⟩
    ·rintro av mem maps ⟨rfl,rfl,rfl⟩
     simp [go_sem,Z0,Zb,Zy,ew1]
     refine ⟨by omega,?_⟩
     refine ZX (⟨[(0,.ptr 0 4 0 0),(6,.lit (.bool true)),(8,.ptr 3 7 0 0),(9,.ptr 4 4 0 0)],[Z0 b1 b2 5 6,none,none,some ⟨164,7,1,fun _=>[.lit (.string o.text),.lit (.int .i64 o.kind),.lit (.int .i64 o.level),.lit (.int .i64 o.side),.lit (.iface T1 U1),.lit (.iface T2 U2),.lit (.int .i64 0)]⟩,some ⟨77,4,1,fun _=>[.lit (.int .i64 (o.kind+2)),.lit (.string o.text),.lit (.int .i64 ((O1.length:Int)-1)),.lit (.int .i64 0)]⟩,Zb O1,Zy (W1++[ZP o])],[],3⟩) [14,17] (.q 1 <| .q 2 <| .q 3 <| .q 4 <| .q 5 <| .q 6 <| .q 7 <| .q 8 <| .q 9 <| .q 10 <| .q 11 <| .q 12 <| .or 0 (.or 13 (.or 14 (.q 15 <| .q 16 <| .or 17 (.done) (.nil)) (.nil)) (.nil)) (.or 13 (.or 0 (.or 14 (.q 15 <| .q 16 <| .or 17 (.done) (.nil)) (.nil)) (.or 14 (.q 0 <| .q 15 <| .q 16 <| .or 17 (.done) (.nil)) (.nil))) (.nil))) (by kernel_rfl) ?_ ?_
     ·simp [go_sem]
      refine ⟨⟨by omega,by omega,?_⟩,⟨by omega,by omega,?_⟩,⟨by omega,by omega,?_⟩⟩
      all_goals
       refine Zx [0,1,2,5,6,7,10] (by simp) (by simp) (by simp) (by decide) (by simp [go_sem]) ?_ ?_
       ·simp [go_sem]
       ·simp [go_sem,Z0,Zb,Zy,ewk]
        exact ⟨.inr Jr,.inr (Zag (ZP o) (by simp) (by simp [ZP,PWord.cells,hk]) (by simp) (by simp))⟩
     ·simp [go_sem,Z0,Zb,Zy,hkb]
      refine Zq [10] (.q 0 <| .q 1 <| .q 2 <| .q 3 <| .q 4 <| .q 5 <| .q 6 <| .q 7 <| .q 8 <| .or 9 (.or 10 (.done) (.nil)) (.nil)) (by kernel_rfl) ?_
      simp [go_sem,hkb]
      refine Zu (c4 true) ?_ ?_
      ·simp [go_sem,hkb]
      ·simp [go_sem]
       refine Zd [0,5,6] iq2 (by simp) ?_ ?_ trivial ?_
       ·simp [go_sem]
       ·simp [go_sem,Z0,Zb,Zy]
        exact ⟨Jr,KC⟩
       ·rintro av mem maps ⟨rfl,rfl,rfl⟩
        simp [go_sem,Z0,Zb,Zy,ew2]
        refine ⟨by omega,?_⟩
        refine ZX (⟨[(0,.ptr 0 4 0 0),(6,.lit (.bool true))],[Z0 b1 b2 3 4,none,none,Zb (O2++[⟨o.text,o.kind+2,(O1.length:Int)-1,(O2.length:Int)-1⟩]),Zy W2],[],3⟩) [7,10] (.q 1 <| .q 2 <| .q 3 <| .q 4 <| .q 5 <| .or 0 (.or 6 (.or 7 (.q 8 <| .q 9 <| .or 10 (.done) (.nil)) (.nil)) (.nil)) (.or 6 (.or 0 (.or 7 (.q 8 <| .q 9 <| .or 10 (.done) (.nil)) (.nil)) (.or 7 (.q 0 <| .q 8 <| .q 9 <| .or 10 (.done) (.nil)) (.nil))) (.nil))) (by kernel_rfl) ?_ ?_
        ·simp [go_sem]
         refine ⟨⟨by omega,by omega,?_⟩,⟨by omega,by omega,?_⟩,⟨by omega,by omega,?_⟩⟩
         all_goals
          refine Zx [0,1,2,10,8] (by simp) (by simp) (by simp) (by decide) (by simp [go_sem]) ?_ ?_
          ·simp [go_sem]
          ·simp [go_sem,Z0,Zb,Zy]
           exact ⟨.inr (Zah ⟨o.text,o.kind+2,(O1.length:Int)-1,(O2.length:Int)-1⟩ (by simp) rfl (by simp) (by simp)),.inr KC⟩
        ·simp [go_sem,Z0,Zb,Zy,ew]
         refine ⟨by omega,by omega,?_⟩
         refine ZX (⟨[(0,.ptr 0 4 0 0)],[Z0 b1 b2 3 4,none,none,Zb (O2++[⟨o.text,o.kind+2,(O1.length:Int)-1,(O2.length:Int)-1⟩,Yl O2.length]),Zy (W2++[UW])],[],3⟩) [13,16] (.q 1 <| .q 2 <| .q 3 <| .q 4 <| .q 5 <| .q 6 <| .q 7 <| .q 8 <| .q 9 <| .q 10 <| .q 11 <| .or 0 (.or 12 (.or 13 (.q 14 <| .q 15 <| .or 16 (.done) (.nil)) (.nil)) (.nil)) (.or 12 (.or 0 (.or 13 (.q 14 <| .q 15 <| .or 16 (.done) (.nil)) (.nil)) (.or 13 (.q 0 <| .q 14 <| .q 15 <| .or 16 (.done) (.nil)) (.nil))) (.nil))) (by kernel_rfl) ?_ ?_
         ·simp [go_sem]
          refine ⟨by omega,⟨by omega,by omega,?_⟩,⟨by omega,by omega,?_⟩,⟨by omega,by omega,?_⟩⟩
          all_goals
           refine Zx [0,1,2,8,6] (by simp) (by simp) (by simp) (by decide) (by simp [go_sem]) ?_ ?_
           ·simp [go_sem]
           ·simp [go_sem,Z0,Zb,Zy,ew]
            exact ⟨.inr (Zah (Yl O2.length) (by simp) rfl (by simp) (by simp)),.inr (Zag UW (by simp) rfl (by simp) (by simp))⟩
         ·simp [go_sem,Z0,Zb,Zy]
          refine ⟨rfl,[3,4],[Z0 b1 b2 3 4,none,none,Zb (O2++[⟨o.text,o.kind+2,(O1.length:Int)-1,(O2.length:Int)-1⟩,Yl O2.length]),Zy (W2++[UW])],by simp,by simp,by simp [go_sem],?_,by simp [go_sem],?_⟩
          ·simp [go_sem,Z0,Zb,Zy]
           exact ⟨GU,Hx,Hw⟩
          ·simp [go_sem,Z0,Zb,Zy]
 ·have hN:lay (Zw (ZD (.inf o e y)) m) ns=lay (Zw (ZD y) (ZH o true)) (lay (Zw (ZD e) (ZH o false)) ns)++[⟨o.text,o.kind+2,(lay (Zw (ZD e) (ZH o false)) ns).length-1,(lay (Zw (ZD y) (ZH o true)) (lay (Zw (ZD e) (ZH o false)) ns)).length-1⟩]:=by simp [ZD,Zw,hm,lay,Yl]
  have hW:ws++Zp (Zw (ZD (.inf o e y)) m)=((ws++Zp (Zw (ZD e) (ZH o false)))++[ZP o])++Zp (Zw (ZD y) (ZH o true)):=by simp [ZD,Zw,hm,Zp]
  have iq:=ih (ZH o false) ns ws (by omega) (by omega)
  rw [hP] at iq
  rw [hN,hW]
  have hWl:(ws++Zp (Zw (ZD e) (ZH o false))).length≤ws.length+1+4*ZF e:=by simp;omega
  generalize hO1:lay (Zw (ZD e) (ZH o false)) ns=O1 at *
  generalize hW1:ws++Zp (Zw (ZD e) (ZH o false))=W1 at *
  have ew1:IntKind.i64.wrap ((O1.length:Int)-1)=(O1.length:Int)-1:=wrap_i64 (by omega)
  have iq2:=ihy (ZH o true) O1 (W1++[ZP o]) (by omega) (by simp;omega)
  rw [hP2] at iq2
  have hWl2:(W1++[ZP o]++Zp (Zw (ZD y) (ZH o true))).length≤ws.length+2+4*ZF e+4*ZF y:=by simp;omega
  generalize hO2':lay (Zw (ZD y) (ZH o true)) O1=O2 at *
  generalize hW2:W1++[ZP o]++Zp (Zw (ZD y) (ZH o true))=W2 at *
  have ew2:IntKind.i64.wrap ((O2.length:Int)-1)=(O2.length:Int)-1:=wrap_i64 (by omega)
  refine Zl Tryz.func101 (by kernel_rfl) rfl (by simp [Tryz.ntmps101]) ?_;simp only [Tryz.ntmps101,Tryz.results101];simp [go_sem]
  refine Zc (XM o (.iface T1 U1) (.iface T2 U2) (.inr ⟨_,_,rfl⟩) (.inr ⟨_,_,rfl⟩) 0) ?_ ?_
  ·simp [go_sem]
  ·simp [go_sem,hm]
   refine ⟨_,QF,?_⟩
   refine Zq [6] (.q 0 <| .q 1 <| .q 2 <| .q 3 <| .q 4 <| .or 5 (.or 6 (.done) (.nil)) (.nil)) (by kernel_rfl) ?_
   simp [go_sem]
   refine Zu (c4 false) ?_ ?_
   ·simp [go_sem]
   ·simp [go_sem]
    refine Zd [0,1,2] iq (by simp) ?_ ?_ trivial ?_
    ·simp [go_sem]
    ·simp [go_sem,Z0,Zb,Zy]
     exact ⟨Jr,KC⟩
    ·rintro av mem maps ⟨rfl,rfl,rfl⟩
     simp [go_sem,Z0,Zb,Zy,ew1]
     refine ⟨by omega,?_⟩
     refine ZX (⟨[(0,.ptr 0 4 0 0),(6,.lit (.bool false)),(8,.ptr 3 7 0 0),(9,.ptr 4 4 0 0)],[Z0 b1 b2 5 6,none,none,some ⟨164,7,1,fun _=>[.lit (.string o.text),.lit (.int .i64 o.kind),.lit (.int .i64 o.level),.lit (.int .i64 o.side),.lit (.iface T1 U1),.lit (.iface T2 U2),.lit (.int .i64 0)]⟩,some ⟨77,4,1,fun _=>[.lit (.int .i64 (o.kind+2)),.lit (.string o.text),.lit (.int .i64 ((O1.length:Int)-1)),.lit (.int .i64 0)]⟩,Zb O1,Zy (W1++[ZP o])],[],3⟩) [14,17] (.q 1 <| .q 2 <| .q 3 <| .q 4 <| .q 5 <| .q 6 <| .q 7 <| .q 8 <| .q 9 <| .q 10 <| .q 11 <| .q 12 <| .or 0 (.or 13 (.or 14 (.q 15 <| .q 16 <| .or 17 (.done) (.nil)) (.nil)) (.nil)) (.or 13 (.or 0 (.or 14 (.q 15 <| .q 16 <| .or 17 (.done) (.nil)) (.nil)) (.or 14 (.q 0 <| .q 15 <| .q 16 <| .or 17 (.done) (.nil)) (.nil))) (.nil))) (by kernel_rfl) ?_ ?_
     ·simp [go_sem]
      refine ⟨⟨by omega,by omega,?_⟩,⟨by omega,by omega,?_⟩,⟨by omega,by omega,?_⟩⟩
      all_goals
       refine Zx [0,1,2,3,4,5,8] (by simp) (by simp) (by simp) (by decide) (by simp [go_sem]) ?_ ?_
       ·simp [go_sem]
       ·simp [go_sem,Z0,Zb,Zy,ewk]
        exact ⟨.inr Jr,.inr (Zag (ZP o) (by simp) (by simp [ZP,PWord.cells,hk]) (by simp) (by simp))⟩
     ·simp [go_sem,Z0,Zb,Zy,hkb]
      refine Zq [10] (.q 0 <| .q 1 <| .q 2 <| .q 3 <| .q 4 <| .q 5 <| .q 6 <| .q 7 <| .q 8 <| .or 9 (.or 10 (.done) (.nil)) (.nil)) (by kernel_rfl) ?_
      simp [go_sem,hkb]
      refine Zu (c4 true) ?_ ?_
      ·simp [go_sem,hkb]
      ·simp [go_sem]
       refine Zd [0,5,6] iq2 (by simp) ?_ ?_ trivial ?_
       ·simp [go_sem]
       ·simp [go_sem,Z0,Zb,Zy]
        exact ⟨Jr,KC⟩
       ·rintro av mem maps ⟨rfl,rfl,rfl⟩
        simp [go_sem,Z0,Zb,Zy,ew2]
        refine ⟨by omega,?_⟩
        refine ZX (⟨[(0,.ptr 0 4 0 0),(6,.lit (.bool false))],[Z0 b1 b2 3 4,none,none,Zb (O2++[⟨o.text,o.kind+2,(O1.length:Int)-1,(O2.length:Int)-1⟩]),Zy W2],[],3⟩) [7,10] (.q 1 <| .q 2 <| .q 3 <| .q 4 <| .q 5 <| .or 0 (.or 6 (.or 7 (.q 8 <| .q 9 <| .or 10 (.done) (.nil)) (.nil)) (.nil)) (.or 6 (.or 0 (.or 7 (.q 8 <| .q 9 <| .or 10 (.done) (.nil)) (.nil)) (.or 7 (.q 0 <| .q 8 <| .q 9 <| .or 10 (.done) (.nil)) (.nil))) (.nil))) (by kernel_rfl) ?_ ?_
        ·simp [go_sem]
         refine ⟨⟨by omega,by omega,?_⟩,⟨by omega,by omega,?_⟩,⟨by omega,by omega,?_⟩⟩
         all_goals
          refine Zx [0,1,2,10,8] (by simp) (by simp) (by simp) (by decide) (by simp [go_sem]) ?_ ?_
          ·simp [go_sem]
          ·simp [go_sem,Z0,Zb,Zy]
           exact ⟨.inr (Zah ⟨o.text,o.kind+2,(O1.length:Int)-1,(O2.length:Int)-1⟩ (by simp) rfl (by simp) (by simp)),.inr KC⟩
        ·simp [go_sem,Z0,Zb,Zy]
         refine ⟨rfl,[3,4],[Z0 b1 b2 3 4,none,none,Zb (O2++[⟨o.text,o.kind+2,(O1.length:Int)-1,(O2.length:Int)-1⟩]),Zy (W2)],by simp,by simp,by simp [go_sem],?_,by simp [go_sem],?_⟩
         ·simp [go_sem,Z0,Zb,Zy]
          exact ⟨GU,Hx,Hw⟩
         ·simp [go_sem,Z0,Zb,Zy]
def PWord.cellsY (o:PWord):List AV:=[.lit (.string o.text),.lit (.bool o.op),.lit (.bool o.infix_)]
def XN (l:List PWord) (i:Nat):List AV:=(l.getD i default).cellsY
theorem Q4 (l:List PWord) (i:Nat):XN l i=[.lit (.string (YX l i).text),.lit (.bool (YX l i).op),.lit (.bool (YX l i).infix_)]:=rfl
theorem Zhd (l:List PWord) (i:Nat):(XN l i).all X1=true:=rfl
@[go_sem] theorem ysCells_ren (f:Nat→Nat) (l:List PWord) (i:Nat):(XN l i).map (VN f)=XN l i:=rfl
def Z3 (t:List PWord):Option Ob:=some ⟨83,3,t.length,XN t⟩
theorem ZiT {T:List PWord} {n:Nat} {g:Nat→List AV} (o:PWord) (hn:n=T.length) (hg:g 0=o.cellsY) (j:Nat) (hj:j<n+1):Z2 n (XN T) g j=XN (T++[o]) j:=by
 subst hn
 unfold Z2
 by_cases e:j<T.length
 ·rw [if_pos e]
  unfold XN
  rw [List.getD_eq_getElem?_getD,List.getD_eq_getElem?_getD,List.getElem?_append_left e]
 ·have e1:j=T.length:=by omega
  subst e1
  rw [if_neg e,Nat.sub_self,hg]
  simp [XN]
theorem Kf {idx:Nat→Nat} {m k:Nat} {T:List PWord}:∀ i,i<k→Yf idx m (XN T i) (XN T i):=fun i _=>Zk (Zhd _ i)
theorem ZkP {idx:Nat→Nat} {m n k:Nat} {T T':List PWord} {g:Nat→List AV} (o:PWord) (hn:n=T'.length) (hg:g 0=o.cellsY) (e:T'++[o]=T) (hk:k=T.length):∀ i,i<k→Yf idx m (Z2 n (XN T') g i) (XN T i):=fun i hi=>by
 subst e;subst hk
 rw [ZiT o hn hg i (by rw [hn];simpa using hi)]
 exact Zk (Zhd _ i)
theorem ZjC {idx:Nat→Nat} {ks:List Nat} {T:List PWord} {n ty:Nat}:Vw idx ks ⟨ty,3,n,XN T⟩ (some (some ⟨ty,3,n,XN T⟩)):=ZC (fun _ _=>rfl) (fun j _=>Zhd _ j)
theorem Zlr {idx:Nat→Nat} {ks:List Nat} {T T':List PWord} {g:Nat→List AV} {n k ty:Nat} (o:PWord) (hn:n=T'.length) (hg:g 0=o.cellsY) (e:T'++[o]=T) (hk:k=T.length):Vw idx ks ⟨ty,3,k,XN T⟩ (some (some ⟨ty,3,k,Z2 n (XN T') g⟩)):=by
 subst e;subst hk
 exact ZC (fun i hi=>ZiT o hn hg i (by rw [hn];simpa using hi)) (fun j _=>Zhd _ j)
def YOk (g:List PNode) (e:ET):Prop:=∀ pre:List PNode,(∀ j,j<(lay e pre).length→Za g j=Za (lay e pre) j)→(lay e pre).length≤g.length→∀ (ws:List PWord),ws.length+2*ZF e≤6000000→
 VProc Tryz.prog 47 [.sl 4 g.length (Zf g),.lit (.int .i64 ((lay e pre).length-1:Nat)),.own 0] [Z3 ws] [] (fun av mem maps=>av=.own 1∧mem=[none,Z3 (ws++Zp e)]∧maps=[])
theorem Up {e:ET} {pre:List PNode} {g:List PNode} {n:PNode} (hn:∀ j,j<(lay e pre++[n]).length→Za g j=Za (lay e pre++[n]) j):(∀ j,j<(lay e pre).length→Za g j=Za (lay e pre) j)∧Za g (lay e pre).length=n:=by
 refine ⟨fun j hj=>?_,?_⟩
 ·rw [hn j (by simp;omega)]
  simp only [Za,List.getD_eq_getElem?_getD]
  rw [List.getElem?_append_left hj]
 ·rw [hn _ (by simp),Wm _ _ rfl]
set_option maxRecDepth 100000 in
theorem ZfX (g:List PNode) (hg:g.length≤1048576) (b:Int×ByteArray) (hk:b.1=1∨b.1=2):YOk g (.leaf b):=by
 have clg:∀ (i:Nat) (c:AV),i<g.length→c∈Zf g i→Closed c:=fun i c _ h=>ZG g i c h
 intro pre hn hl ws hw
 have hn':=hn pre.length (by simp [lay])
 simp only [lay] at hn' hl
 rw [Wm _ _ rfl] at hn'
 simp only [List.length_append,List.length_singleton] at hl
 have hi:(lay (.leaf b) pre).length-1=pre.length:=by simp [lay]
 rw [hi]
 generalize hq:pre.length=q at *
 have c1:=VJ (Za g q)
 have c2:=Yh b.1
 have e1:ZO (Za g q)=false:=by simp [ZO,hn'];omega
 rw [hn'] at e1
 have k0:Zv b.1=0:=by rcases hk with h|h<;>simp [Zv,h]
 have k4:(b.1==4)=false:=by rcases hk with h|h<;>simp [h]
 simp only [PNode.cells,hn',ZF,Zp,Z3] at c1 hw ⊢
 refine Zl Tryz.func47 (by kernel_rfl) rfl (by simp [Tryz.ntmps47]) ?_;simp only [Tryz.ntmps47,Tryz.results47];simp [go_sem]
 simp [Zz,hn']
 refine ⟨by omega,?_⟩
 refine ZX (⟨[(2,.own 0),(7,.ptr 1 4 0 0),(8,.ptr 2 3 0 0)],[Z3 ws,some ⟨77,4,1,fun _=>[.lit (.int .i64 b.1),.lit (.string b.2),.lit (.int .i64 0),.lit (.int .i64 0)]⟩,some ⟨83,3,1,fun _=>[.lit (.string b.2),.lit (.bool false),.lit (.bool false)]⟩],[],1⟩) [9] (.q 0 <| .q 1 <| .q 2 <| .q 4 <| .q 5 <| .q 6 <| .or 3 (.q 7 <| .or 8 (.or 9 (.done) (.nil)) (.nil)) (.or 8 (.or 3 (.q 7 <| .or 9 (.done) (.nil)) (.nil)) (.nil))) (by kernel_rfl) ?_ ?_
 ·simp [go_sem]
  refine ⟨Zu c1 ?_ ?_,Zu c1 ?_ ?_⟩
  ·simp [go_sem]
  ·simp [go_sem,e1,k4]
   refine Zx [0,1,2] (by simp) (by simp) (by simp) (by simp) (by simp [go_sem]) ?_ ?_
   ·simp [go_sem]
   ·simp [go_sem,Z3]
    exact .inr Kf
  ·simp [go_sem]
  ·simp [go_sem,e1,k4]
   refine Zx [0,1,2] (by simp) (by simp) (by simp) (by simp) (by simp [go_sem]) ?_ ?_
   ·simp [go_sem]
   ·simp [go_sem,Z3]
    exact .inr Kf
 ·simp [go_sem,Z3]
  refine Zc c2 ?_ ?_
  ·simp [go_sem]
  ·simp [go_sem,k0]
   refine ⟨by omega,by omega,?_⟩
   refine ⟨rfl,[4],[none,Z3 (ws++[⟨b.2,false,false⟩])],by simp,by simp,by simp [go_sem],?_,by simp [go_sem],?_⟩
   ·simp [go_sem,Z3]
    exact Zlr ⟨b.2,false,false⟩ rfl rfl rfl (by simp)
   ·simp [go_sem,Z3]
end Go.Proofs.YtjdmmhcogmepaaaGreatDoor.V
namespace Go.Proofs.YtjdmmhcogmepaaaGreatDoor.V
open Go.RowKit
theorem Gh {idx:Nat→Nat} {ks:List Nat} {ob:Ob} (h:∀ i,(ob.f i).all X1=true):Vw idx ks ob (some (some ob))=True:=eq_true (by
 obtain ⟨ty,sz,n,f⟩:=ob
 exact ZC (fun _ _=>rfl) (fun i _=>h i))
theorem K:(∀ r:Rd,ZB r=some ⟨138,2,1,fun _=>[.sl 1 r.n (Yc r.f),.lit (.int .i64 r.p)]⟩)∧(∀ l:List POp,tab l=some ⟨133,4,l.length,Zg l⟩)∧(∀ t:List PNode,Zb t=some ⟨77,4,t.length,Zf t⟩)∧(∀ t:List ByteArray,XO t=some ⟨9,1,t.length,Yj t⟩)∧
  (∀ f i c,(c∈Yc f i→Closed c)=True)∧(∀ l i c,(c∈Zg l i→Closed c)=True)∧(∀ l i c,(c∈Zf l i→Closed c)=True)∧(∀ l i c,(c∈Yj l i→Closed c)=True)∧
  (∀ g m l i,Yf g m (Zg l i) (Zg l i)=True)∧(∀ g m l i,Yf g m (Zf l i) (Zf l i)=True)∧(∀ g m l i,Yf g m (Yj l i) (Yj l i)=True)∧
  (∀ (g:Nat→Nat) ks ty n l,Vw g ks ⟨ty,4,n,Zg l⟩ (some (some ⟨ty,4,n,Zg l⟩))=True)∧(∀ (g:Nat→Nat) ks ty n l,Vw g ks ⟨ty,4,n,Zf l⟩ (some (some ⟨ty,4,n,Zf l⟩))=True)∧(∀ (g:Nat→Nat) ks ty n l,Vw g ks ⟨ty,1,n,Yj l⟩ (some (some ⟨ty,1,n,Yj l⟩))=True)∧
  (∀ (g:Nat→Nat) ks ty (n p:Nat) f,Vw g ks ⟨ty,2,1,fun _=>[.sl 1 n (Yc f),.lit (.int .i64 p)]⟩ (some (some ⟨ty,2,1,fun _=>[.sl 1 n (Yc f),.lit (.int .i64 p)]⟩))=True):=
 ⟨fun _=>rfl,fun _=>rfl,fun _=>rfl,fun _=>rfl,fun _ _ _=>eq_true (YF _ _ _),fun _ _ _=>eq_true (ZK _ _ _),fun _ _ _=>eq_true (ZG _ _ _),fun _ _ _=>eq_true (UP _ _ _),
  fun _ _ _ i=>eq_true (Zk (XV _ i)),fun _ _ _ i=>eq_true (Zk (Z5 _ i)),fun _ _ _ i=>eq_true (Zk (ZaS _ i)),
  fun _ _ _ _ _=>Gh fun i=>XV _ i,fun _ _ _ _ _=>Gh fun i=>Z5 _ i,fun _ _ _ _ _=>Gh fun i=>ZaS _ i,fun _ _ _ _ _ _=>eq_true Ww⟩
theorem UO {g:Nat→Nat} {m:Nat} (T:List ByteArray) (w:ByteArray):(∀ i,i<T.length+1→Yf g m (Z2 T.length (Yj T) (fun i=>[[AV.lit (.string w)]][i]?.getD []) i) (Yj (T++[w]) i))=True:=eq_true fun i hi=>by
 have:Z2 T.length (Yj T) (fun i=>[[AV.lit (.string w)]][i]?.getD []) i=Yj (T++[w]) i:=by
  unfold Z2 Yj Wq
  by_cases h:i<T.length
  ·rw [if_pos h,List.getD_eq_getElem?_getD,List.getD_eq_getElem?_getD,List.getElem?_append_left h]
  ·have:i=T.length:=by omega
   subst this
   rw [if_neg (by omega),List.getD_eq_getElem?_getD,List.getElem?_append_right (by omega)]
   simp
 rw [this]
 exact Zk (ZaS _ i)
section
variable {P:Program} {s:VS}
theorem vS {f:FuncId} {avs args':List AV} {k:AV→VS→Prop} {mem0:List (Option Ob)} {maps0:List (Nat×Mp)} {R:AV→List (Option Ob)→List (Nat×Mp)→Prop} (ks:List Nat) (h:VProc P f args' mem0 maps0 R)
  (hk:∀ av mem' maps',R av mem' maps'→k (ren (XH ks s.mem.length) av) { s with mem:=XA s.mem ks mem',maps:=maps'++s.maps })
  (hnd:ks.Nodup:=by simp) (ha:Yf (fun j=>ks.getD j 0) ks.length avs args':=by simp [go_sem,K]) (hs:Vv (fun j=>ks.getD j 0) ks.length s.mem ks mem0:=by simp [go_sem,K]) (hm:YE s.maps maps0:=by simp [go_sem]):Vy P f avs s k:=Zd ks h hnd ha hs hm hk
theorem vE (ks:List Nat) {t t':List (Nat×AV)} {m m':List (Option Ob)} {M M':List (Nat×Mp)} {x:Nat}
  (h4:ZiS (fun j=>ks.getD j 0) ks.length m ks m':=by simp [go_sem,K]) (h1:Zb9 (fun j=>ks.getD j 0) ks.length t t':=by simp [go_sem,K]) (hnd:ks.Nodup:=by simp) (hlt:∀ k,k∈ks→k<m.length:=by simp) (hx:x≤ks.length:=by simp) (hf:∀ k,k<x→ks.getD k 0=k:=by first|decide|(dsimp only;decide)) (hM:YE M M':=by simp [go_sem]):Ent ⟨t,m,M,x⟩ ⟨t',m',M',x⟩:=Zx ks hnd hlt hx hf hM h1 h4
theorem vF {maps0:List (Nat×Mp)} {R:AV→List (Option Ob)→List (Nat×Mp)→Prop} {av:AV} (ex:List Nat) (mem':List (Option Ob))
  (hm:Hc (WL s.fix ex) (Ui s.fix ex) s.mem (Ui s.fix ex) mem':=by simp [go_sem,K]) (hR:R (ren (WL s.fix ex) av) mem' s.maps:=by simp [go_sem,K]) (h0:WM av=true:=by rfl) (hnd:ex.Nodup:=by simp) (he:∀ e,e∈ex→s.fix≤e∧e<s.mem.length:=by simp) (hq:∀ q,q∈W0 av→q∈Ui s.fix ex:=by simp [go_sem])
  (hM:∀ b,(lkm maps0 b).isSome=true→(lkm s.maps b).isSome=true:=by simp [go_sem]):VO maps0 R s av:=⟨h0,ex,mem',hnd,he,hq,hm,hM,hR⟩
end
end Go.Proofs.YtjdmmhcogmepaaaGreatDoor.V
namespace Go.Proofs.YtjdmmhcogmepaaaGreatDoor.V
open Go.RowKit
def ZgA:POp:=⟨⟨#[]⟩,0,0,0⟩
def ZdF (l:List POp) (k:Nat):POp:=if 0<l.length then Zm l (k/8%l.length) else ZgA
structure LnS where
 out:List ByteArray
 beh:Bool
 opn:Nat
 rd:Rd
def LnS.go (s:LnS):Bool:=(decide (s.out.length<30)&&decide (s.rd.p<s.rd.n))||!s.beh||decide (0<s.opn)
def LnS.mu (s:LnS):Nat:=3*(s.rd.n-s.rd.p)+s.opn+(if s.beh=true then 0 else 1)
def Wf (l:List POp) (s:LnS):LnS:=
 if s.beh=false then
  if s.rd.v%8=1∧s.out.length<30 then ⟨s.out++[⟨#[40]⟩],false,s.opn+1,s.rd.nx⟩
  else if 4<s.rd.v%8∧(ZdF l s.rd.v).kind=1 then ⟨s.out++[(ZdF l s.rd.v).text],false,s.opn,s.rd.nx⟩
  else ⟨s.out++[⟨#[97]⟩++(⟨#[49,50,51]⟩:ByteArray).extract 0 (s.rd.v/8%4)],true,s.opn,s.rd.nx⟩
 else if 0<s.opn∧(s.rd.v%8=0∨30≤s.out.length∨s.rd.nx.n≤s.rd.nx.p) then ⟨s.out++[⟨#[41]⟩],true,s.opn-1,s.rd.nx⟩
 else if (ZdF l s.rd.v).kind=3 then ⟨s.out++[(ZdF l s.rd.v).text],true,s.opn,s.rd.nx⟩
 else if (ZdF l s.rd.v).kind=2 then ⟨s.out++[(ZdF l s.rd.v).text],false,s.opn,s.rd.nx⟩
 else ⟨s.out,true,s.opn,s.rd.nx⟩
def Vs (l:List POp):Nat→LnS→LnS
 |0,s=>s
 |i+1,s=>if s.go=true then Vs l i (Wf l s) else s
theorem ZcN {l:List POp} {s:LnS} (h:s.go=true):(Wf l s).mu<s.mu∧(Wf l s).out.length≤s.out.length+1:=by
 obtain ⟨out,beh,opn,⟨n,f,p⟩⟩:=s
 simp only [LnS.go,Bool.or_eq_true,Bool.and_eq_true,decide_eq_true_eq,Bool.not_eq_true'] at h
 by_cases hp:p<n
 ·have e:(Rd.mk n f p).nx=⟨n,f,p+1⟩:=by simp [Rd.nx,hp]
  unfold Wf LnS.mu
  rw [e]
  cases beh<;>simp only []<;>repeat' split
  all_goals simp_all
  all_goals omega
 ·have e:(Rd.mk n f p).nx=⟨n,f,p⟩:=by simp [Rd.nx,hp]
  have e2:(Rd.mk n f p).v=0:=by simp [Rd.v,hp]
  unfold Wf LnS.mu
  rw [e,e2]
  cases beh<;>simp only []<;>repeat' split
  all_goals simp_all
  all_goals omega
theorem Zii {l:List POp} {B:Nat} (hz:∀ i,i<l.length→(Zm l i).text.size≤B) (k:Nat):(ZdF l k).text.size≤B:=by
 unfold ZdF;split
 ·exact hz _ (Nat.mod_lt _ (by assumption))
 ·exact Nat.zero_le _
theorem Ho {a:List ByteArray} {x:ByteArray} {B:Nat} (ha:∀ i,(Wq a i).size≤B) (hx:x.size≤B) (i:Nat):(Wq (a++[x]) i).size≤B:=by
 have:=ha i
 unfold Wq at this ⊢
 rw [List.getD_eq_getElem?_getD] at this ⊢
 by_cases h:i<a.length
 ·rwa [List.getElem?_append_left h]
 ·rw [List.getElem?_append_right (by omega)]
  by_cases h2:i-a.length=0
  ·rw [h2];exact hx
  ·rw [List.getElem?_eq_none (by simp;omega)];exact Nat.zero_le _
theorem ZcM {l:List POp} {s:LnS} (h:s.rd.ok):(Wf l s).rd.ok:=by
 have:=Rd.nx_ok h
 unfold Wf
 repeat' split
 all_goals exact this
theorem Ze4 {l:List POp} {s:LnS} {B:Nat} (hB:4≤B) (hz:∀ i,i<l.length→(Zm l i).text.size≤B) (h:∀ i,(Wq s.out i).size≤B) (i:Nat):(Wq (Wf l s).out i).size≤B:=by
 have h1:=Zii hz s.rd.v
 have e1:(⟨#[40]⟩:ByteArray).size=1:=rfl
 have e2:(⟨#[41]⟩:ByteArray).size=1:=rfl
 have e3:(⟨#[97]⟩:ByteArray).size=1:=rfl
 have e4:(⟨#[49,50,51]⟩:ByteArray).size=3:=rfl
 unfold Wf
 repeat' split
 all_goals simp only []
 all_goals first|exact h i|exact Ho h h1 i|exact Ho h (by rw [e1];omega) i|exact Ho h (by rw [e2];omega) i|exact Ho h (by simp only [ByteArray.size_append,ByteArray.size_extract];omega) i
theorem ZhD {l:List POp}:∀ (i:Nat) {s:LnS},s.rd.ok→(Vs l i s).rd.ok
 |0,s,h=>h
 |i+1,s,h=>by
  unfold Vs;split
  ·exact ZhD i (ZcM h)
  ·exact h
theorem Ze6 {l:List POp}:∀ (i:Nat) {s:LnS},(Vs l i s).out.length≤s.out.length+s.mu
 |0,s=>Nat.le_add_right _ _
 |i+1,s=>by
  unfold Vs;split
  ·rename_i h
   have:=ZcN (l:=l) h
   have:=Ze6 (l:=l) i (s:=Wf l s)
   omega
  ·omega
theorem ZcO {l:List POp} {B:Nat} (hB:4≤B) (hz:∀ i,i<l.length→(Zm l i).text.size≤B):∀ (i:Nat) {s:LnS},(∀ j,(Wq s.out j).size≤B)→∀ j,(Wq (Vs l i s).out j).size≤B
 |0,s,h=>h
 |i+1,s,h=>by
  unfold Vs;split
  ·exact ZcO hB hz i (Ze4 hB hz h)
  ·exact h
theorem Zij {l:List POp} {s:LnS} (h:s.go=false):∀ j,Vs l j s=s
 |0=>rfl
 |j+1=>by rw [Vs,h];rfl
def JA (l:List POp) (r:Rd):LnS:=Vs l 4000 ⟨[],false,0,r⟩
set_option maxHeartbeats 4000000 in
set_option maxRecDepth 100000 in
theorem Zkk (l:List POp) (hl:l.length≤1000) (r:Rd) (hr:r.ok):VProc Tryz.prog 129 [.ptr 0 2 0 0,.agg [.own 1]] [ZB r,tab l] [] (fun av mem maps=>av=.own 2∧mem=[ZB (JA l r).rd,tab l,XO (JA l r).out]∧maps=[]):=by
 have cr:∀ (r:Rd) (i:Nat) (c:AV),i<r.n→c∈Yc r.f i→Closed c:=fun r i c _ h=>YF r.f i c h
 have cl:∀ (i:Nat) (c:AV),i<l.length→c∈Zg l i→Closed c:=fun i c _ h=>ZK l i c h
 have hmu0:(LnS.mk [] false 0 r).mu≤4000:=by have:=hr.1;simp [LnS.mu];omega
 unfold JA
 generalize hR:Vs l 4000 ⟨[],false,0,r⟩=R
 simp only [ZB,tab,XO]
 refine Zl Tryz.func129 (by kernel_rfl) rfl (by simp [Tryz.ntmps129]) ?_;simp only [Tryz.ntmps129,Tryz.results129];simp [go_sem]
 refine Y9 (ι:=LnS) (fun s=>s.rd.ok∧(∃ i,Vs l i s=R∧s.mu≤i)∧s.out.length+s.mu≤4000) (fun s=>s.mu) (fun s=>⟨[(0,.ptr 0 2 0 0),(3,.ptr 2 1 0 0),(5,.own 3),(6,.lit (.bool s.beh)),(7,.lit (.int .i64 s.opn))],[ZB s.rd,tab l,some ⟨30,1,1,fun _=>[.own 1]⟩,XO s.out],[],2⟩) ⟨⟨[],false,0,r⟩,⟨hr,⟨4000,hR,hmu0⟩,by simpa using hmu0⟩,vE [0,1,2,3]⟩ (fun s hs=>?_)
 obtain ⟨hs1,⟨i,hs2,hs3⟩,hs4⟩:=hs
 have c1:=ZgW s.rd hs1
 have c2:=W7 s.rd hs1
 have c3:=ZgW s.rd.nx (Rd.nx_ok hs1)
 have hv:=Rd.v_lt hs1
 have hst:=ZcN (l:=l) (s:=s)
 have hso:=ZcM (l:=l) (s:=s) hs1
 have hmu:s.mu=3*(s.rd.n-s.rd.p)+s.opn+(if s.beh=true then 0 else 1):=rfl
 have hgo:s.go=((decide (s.out.length<30)&&decide (s.rd.p<s.rd.n))||!s.beh||decide (0<s.opn)):=rfl
 have hfin:s.go=false→s=R:=fun h=>by
  rw [←hs2]
  cases i with
  |zero=>rfl
  |succ i=>rw [Vs,h];rfl
 have hnx:s.go=true→∃ j,Vs l j (Wf l s)=R∧(Wf l s).mu≤j:=fun h=>by
  have:=hst h
  cases i with
  |zero=>omega
  |succ i=>refine ⟨i,?_,by omega⟩;rw [←hs2,Vs,h];rfl
 have hdef:Wf l s=Wf l s:=rfl
 conv at hdef=>rhs;unfold Wf
 obtain ⟨out,beh,opn,q⟩:=s
 simp only at *
 clear hs2 hs3
 have e8:(q.v:Int).tmod 8=((q.v%8:Nat):Int):=Z6 q.v 8
 have e4:(IntKind.i64.wrap ((q.v:Int)/8)).tmod 4=((q.v/8%4:Nat):Int):=Qm q.v 8 4 (by omega)
 have ex:(IntKind.i64.wrap ((q.v:Int)/8)).tmod l.length=((q.v/8%l.length:Nat):Int):=Qm q.v 8 l.length (by omega)
 have hlp:(0<l.length)=¬l=[]:=by rw [List.length_pos_iff]
 have hlo:ZdF l q.v=if 0<l.length then Zm l (q.v/8%l.length) else ZgA:=rfl
 have hmx:0<l.length→q.v/8%l.length<l.length:=Nat.mod_lt _
 have h4:q.v/8%4<4:=Nat.mod_lt _ (by decide)
 generalize q.v/8%l.length=x at *
 generalize q.v/8%4=y at *
 have ewo:IntKind.i64.wrap ((opn:Int)+1)=((opn+1:Nat):Int):=by rw [wrap_i64 (by omega)];omega
 have hcat:¬9223372036854775807<1+min y 3:=by omega
 by_cases hl:q.n-q.p=0
 all_goals
  cases beh
  ·have hG:(LnS.mk out false opn q).go=true:=by rw [hgo];simp
   obtain ⟨j,hj1,hj2⟩:=hnx hG
   have hst:=hst hG
   clear hfin hgo hnx
   simp [go_sem,K,hl]
   refine ⟨by omega,fun h30=>vS [0] c1 ?_,fun h30=>?_⟩
   case' refine_1=>
    rintro av mem maps ⟨rfl,rfl,rfl⟩
    simp [go_sem,K,hl]
   all_goals
    try intro _
    refine vS [0] c2 ?_
    rintro av mem maps ⟨rfl,rfl,rfl⟩
    by_cases hne:l=[]
    ·subst hne
     rw [if_neg (by simp)] at hlo
     rw [hlo] at hdef
     simp [go_sem,K,e8,e4,hcat]
     refine ⟨fun h1=>⟨by omega,fun h2=>?_,fun h2=>?_⟩,fun h1=>?_⟩
     ·rw [if_pos rfl,if_pos ⟨by omega,by omega⟩] at hdef
      rw [hdef] at hst hso hj1 hj2
      exact ⟨by omega,by omega,_,⟨hso,⟨j,hj1,hj2⟩,by omega⟩,hst.1,vE [0,1,2,6] (by simp [go_sem,K,UO]) (by simp [go_sem,ewo])⟩
     all_goals
      rw [if_pos rfl,if_neg (by omega),if_neg (by simp [ZgA])] at hdef
      rw [hdef] at hst hso hj1 hj2
      exact ⟨fun _=>⟨by omega,by omega,by omega,_,⟨hso,⟨j,hj1,hj2⟩,by omega⟩,hst.1,vE [0,1,2,6] (by simp [go_sem,K,UO]) (by simp [go_sem])⟩,fun _=>⟨by omega,by omega,by omega,_,⟨hso,⟨j,hj1,hj2⟩,by omega⟩,hst.1,vE [0,1,2,6] (by simp [go_sem,K,UO]) (by simp [go_sem])⟩⟩
    ·rw [if_pos (List.length_pos_iff.2 hne)] at hlo
     rw [hlo] at hdef
     have hx:=hmx (List.length_pos_iff.2 hne)
     simp [go_sem,K,hne]
     refine ⟨by omega,fun _=>Zq [10] (.q 0 <| .q 1 <| .q 2 <| .q 3 <| .q 4 <| .q 5 <| .q 6 <| .q 7 <| .q 8 <| .q 9 <| .or 10 (.done) (.nil)) (by kernel_rfl) ?_⟩
     simp [go_sem,K,hne,e8,ex,e4,ZU,hcat]
     refine ⟨by omega,hx,fun h1=>⟨by omega,fun h2=>?_,fun h2=>?_⟩,fun h1=>?_⟩
     ·rw [if_pos rfl,if_pos ⟨by omega,by omega⟩] at hdef
      rw [hdef] at hst hso hj1 hj2
      exact ⟨by omega,by omega,_,⟨hso,⟨j,hj1,hj2⟩,by omega⟩,hst.1,vE [0,1,2,6] (by simp [go_sem,K,UO]) (by simp [go_sem,ewo])⟩
     all_goals
      rw [if_pos rfl,if_neg (by omega)] at hdef
      refine ⟨fun h3=>⟨fun h4=>?_,fun h4=>?_⟩,fun h3=>?_⟩
      ·rw [if_pos ⟨by omega,h4⟩] at hdef
       rw [hdef] at hst hso hj1 hj2
       exact ⟨by omega,by omega,_,⟨hso,⟨j,hj1,hj2⟩,by omega⟩,hst.1,vE [0,1,2,6] (by simp [go_sem,K,UO]) (by simp [go_sem])⟩
      all_goals
       rw [if_neg (by omega)] at hdef
       rw [hdef] at hst hso hj1 hj2
       exact ⟨by omega,by omega,by omega,_,⟨hso,⟨j,hj1,hj2⟩,by omega⟩,hst.1,vE [0,1,2,6] (by simp [go_sem,K,UO]) (by simp [go_sem])⟩
  ·have hex:∀ (S:LnS) ts a,S=R→VO [] (fun av mem maps=>av=.own 2∧mem=[ZB R.rd,tab l,XO R.out]∧maps=[]) ⟨ts,[ZB S.rd,tab l,some ⟨30,1,1,fun _=>[.own 1]⟩,XO S.out,a],[],2⟩ (.own 3):=fun S ts a h=>by
    subst h
    exact vF [3] [ZB S.rd,tab l,XO S.out]
   have hex0:∀ (S:LnS) ts,S=R→VO [] (fun av mem maps=>av=.own 2∧mem=[ZB R.rd,tab l,XO R.out]∧maps=[]) ⟨ts,[ZB S.rd,tab l,some ⟨30,1,1,fun _=>[.own 1]⟩,XO S.out],[],2⟩ (.own 3):=fun S ts h=>by
    subst h
    exact vF [3] [ZB S.rd,tab l,XO S.out]
   have hnl:¬l=[]→0<l.length:=List.length_pos_iff.2
   have ewp:0<opn→IntKind.i64.wrap ((opn:Int)-1)=((opn-1:Nat):Int):=fun h=>by rw [wrap_i64 (by omega)];omega
   by_cases ho:opn=0
   ·subst ho
    simp [go_sem,K,hl]
    refine ⟨by omega,fun h30=>vS [0] c1 ?_,fun h30=>?_⟩
    ·rintro av mem maps ⟨rfl,rfl,rfl⟩
     simp [go_sem,K,hl]
     first
     |exact hex0 ⟨out,true,0,q⟩ _ (hfin (by rw [hgo];simp;omega))
     |intro h0
      have hG:(LnS.mk out true 0 q).go=true:=by rw [hgo];simp;omega
      obtain ⟨j,hj1,hj2⟩:=hnx hG
      have hst:=hst hG
      refine vS [0] c2 ?_
      rintro av mem maps ⟨rfl,rfl,rfl⟩
      rw [if_neg (by simp),if_neg (by omega)] at hdef
      by_cases hne:l=[]
      case' neg=>
       rw [if_pos (hnl hne)] at hlo
       simp [go_sem,K,hne]
       refine ⟨by omega,fun _=>Zq [10] (.q 0 <| .q 1 <| .q 2 <| .q 3 <| .q 4 <| .q 5 <| .q 6 <| .q 7 <| .q 8 <| .q 9 <| .or 10 (.done) (.nil)) (by kernel_rfl) ?_⟩
       simp [go_sem,K,hne,ex,ZU]
       refine ⟨by omega,hmx (hnl hne),fun h4=>?_,fun h4=>⟨fun h5=>?_,fun h5=>?_⟩⟩
      case' pos=>
       subst hne
       rw [if_neg (by simp)] at hlo
       simp [go_sem,K]
      case refine_1=>
       rw [hlo,if_pos h4] at hdef
       rw [hdef] at hst hso hj1 hj2
       exact ⟨by omega,by omega,_,⟨hso,⟨j,hj1,hj2⟩,by omega⟩,hst.1,vE [0,1,2,6] (by simp [go_sem,K,UO]) (by simp [go_sem])⟩
      case refine_2=>
       rw [hlo,if_neg h4,if_pos h5] at hdef
       rw [hdef] at hst hso hj1 hj2
       exact ⟨by omega,by omega,_,⟨hso,⟨j,hj1,hj2⟩,by omega⟩,hst.1,vE [0,1,2,6] (by simp [go_sem,K,UO]) (by simp [go_sem])⟩
      all_goals
       rw [hlo,if_neg (by first|exact h4|simp [ZgA]),if_neg (by first|exact h5|simp [ZgA])] at hdef
       rw [hdef] at hst hso hj1 hj2
       refine vS [0] c3 ?_
       rintro av mem maps ⟨rfl,rfl,rfl⟩
       by_cases h6:q.nx.n-q.nx.p=0
       ·simp [go_sem,K,h6]
        exact hex ⟨out,true,0,q.nx⟩ _ _ (by rw [←hj1,Zij (by simp [LnS.go];omega)])
       ·have h7:0<q.nx.n-q.nx.p:=by omega
        simp [go_sem,K,h6,h7]
        exact ⟨_,⟨hso,⟨j,hj1,hj2⟩,by omega⟩,hst.1,vE [0,1,2,3]⟩
    ·exact hex0 ⟨out,true,0,q⟩ _ (hfin (by rw [hgo];simp;omega))
   ·have hop:0<opn:=by omega
    have hG:(LnS.mk out true opn q).go=true:=by rw [hgo];simp;omega
    obtain ⟨j,hj1,hj2⟩:=hnx hG
    have hst:=hst hG
    have ewp:=ewp hop
    simp [go_sem,K,hl,hop]
    refine ⟨by omega,fun h30=>vS [0] c1 ?_,fun h30=>?_⟩
    case' refine_1=>
     rintro av mem maps ⟨rfl,rfl,rfl⟩
     simp [go_sem,K,hl,hop]
    all_goals
     try intro _
     refine vS [0] c2 ?_
     rintro av mem maps ⟨rfl,rfl,rfl⟩
     rw [if_neg (by simp)] at hdef
     by_cases hne:l=[]
     case' neg=>
      rw [if_pos (hnl hne)] at hlo
      simp [go_sem,K,hne,hop]
      refine ⟨by omega,fun _=>Zq [10] (.q 0 <| .q 1 <| .q 2 <| .q 3 <| .q 4 <| .q 5 <| .q 6 <| .q 7 <| .q 8 <| .q 9 <| .or 10 (.done) (.nil)) (by kernel_rfl) ?_⟩
      simp [go_sem,K,hne,ex,ZU,hop,e8]
      refine ⟨by omega,hmx (hnl hne),?_⟩
     case' pos=>
      subst hne
      rw [if_neg (by simp)] at hlo
      simp [go_sem,K,hop,e8]
     all_goals
      refine ⟨fun h1=>⟨by omega,fun h2=>vS [0] c3 ?_,fun h2=>?_⟩,fun h1=>?_⟩
      case' refine_1=>
       rintro av mem maps ⟨rfl,rfl,rfl⟩
       by_cases h6:q.nx.n-q.nx.p=0
       case' neg=>
        have h7:0<q.nx.n-q.nx.p:=by omega
        simp [go_sem,K,h6,h7,ZU]
        rw [if_neg (by omega)] at hdef
        try refine ⟨fun h4=>?_,fun h4=>⟨fun h5=>?_,fun h5=>?_⟩⟩
        try case refine_1=>
         rw [hlo,if_pos h4] at hdef
         rw [hdef] at hst hso hj1 hj2
         exact ⟨by omega,by omega,_,⟨hso,⟨j,hj1,hj2⟩,by omega⟩,hst.1,vE [0,1,2,6] (by simp [go_sem,K,UO]) (by simp [go_sem])⟩
        try case refine_2=>
         rw [hlo,if_neg h4,if_pos h5] at hdef
         rw [hdef] at hst hso hj1 hj2
         exact ⟨by omega,by omega,_,⟨hso,⟨j,hj1,hj2⟩,by omega⟩,hst.1,vE [0,1,2,6] (by simp [go_sem,K,UO]) (by simp [go_sem])⟩
        rw [hlo,if_neg (by first|exact h4|simp [ZgA]),if_neg (by first|exact h5|simp [ZgA])] at hdef
        rw [hdef] at hst hso hj1 hj2
        refine vS [0] c3 ?_
        rintro av mem maps ⟨rfl,rfl,rfl⟩
        simp [go_sem,K,h6,h7]
        exact ⟨_,⟨hso,⟨j,hj1,hj2⟩,by omega⟩,hst.1,vE [0,1,2,3]⟩
       simp [go_sem,K,h6]
      all_goals
       rw [if_pos (by omega)] at hdef
       rw [hdef] at hst hso hj1 hj2
       exact ⟨by omega,by omega,_,⟨hso,⟨j,hj1,hj2⟩,by omega⟩,hst.1,vE [0,1,2,6] (by simp [go_sem,K,UO]) (by simp [go_sem,ewp])⟩
open Go.Proofs.YtjdmmhcogmepaaaGreatDoor.Ops (Tr)
def Xf (e:ET):List ByteArray:=(Zp e).map (·.text)
theorem VT (e:ET):(Xf e).length≤2*ZF e:=by rw [Xf,List.length_map];exact Yu e
def RowIs (f:Nat→List AV) (ws:List ByteArray):Prop:=∀ i,i<ws.length→f i=Yj ws i
theorem RowIs.rfl {ws:List ByteArray}:RowIs (Yj ws) ws:=fun _ _=>_root_.rfl
theorem RowIs.one {z:ByteArray}:RowIs (fun i=>[[AV.lit (.string z)]][i]?.getD []) [z]:=fun i hi=>by
 obtain rfl:i=0:=by simpa using hi
 exact _root_.rfl
theorem RowIs.nil {f:Nat→List AV}:RowIs f []:=fun i hi=>by simp at hi
theorem RowIs.join {n:Nat} {f g:Nat→List AV} {a b:List ByteArray} (hf:RowIs f a) (hg:RowIs g b) (hn:n=a.length):RowIs (Z2 n f g) (a++b):=fun i hi=>by
 subst hn
 unfold Z2 Yj Wq
 by_cases h:i<a.length
 ·rw [if_pos h,hf i h,List.getD_eq_getElem?_getD,List.getElem?_append_left h]
  simp [Yj,Wq]
 ·simp only [List.length_append] at hi
  rw [if_neg h,hg _ (by omega),List.getD_eq_getElem?_getD,List.getElem?_append_right (by omega)]
  simp [Yj,Wq]
theorem Hn {ty n:Nat} {f:Nat→List AV} {ws ws':List ByteArray} (h:RowIs f ws) (e:ws=ws') (hn:n=ws'.length):WZ [⟨ty,1,n,f⟩] [⟨ty,1,ws'.length,Yj ws'⟩]:=by
 subst e;subst hn
 exact obsSame_one.mpr ⟨⟨ty,1,ws.length,Yj ws⟩,⟨rfl,rfl,rfl,fun j hj=>⟨h j hj,ZaS _ j⟩⟩,rfl⟩
def WOk (g:List PNode) (e:ET):Prop:=∀ pre:List PNode,(∀ j,j<(lay e pre).length→Za g j=Za (lay e pre) j)→(lay e pre).length≤g.length→
 VFun Tryz.prog 131 [.sl 4 g.length (Zf g),.lit (.int .i64 ((lay e pre).length-1:Nat))] (fun av obs=>av=.own 0∧obs=[⟨9,1,(Xf e).length,Yj (Xf e)⟩])
set_option maxRecDepth 100000 in
theorem Zf0 (g:List PNode) (hg:g.length≤1048576) (b:Int×ByteArray) (hk:b.1=1∨b.1=2):WOk g (.leaf b):=by
 intro pre hn hl
 have hn':=hn pre.length (by simp [lay])
 simp only [lay] at hn' hl
 rw [Wm _ _ rfl] at hn'
 simp only [List.length_append,List.length_singleton] at hl
 have hi:(lay (.leaf b) pre).length-1=pre.length:=by simp [lay]
 rw [hi]
 generalize hq:pre.length=q at *
 have c2:=Yh b.1
 have k0:Zv b.1=0:=by rcases hk with h|h<;>simp [Zv,h]
 refine Zi Tryz.func131 (by kernel_rfl) rfl (by simp [Tryz.ntmps131]) ?_;simp only [Tryz.ntmps131,Tryz.results131];simp [go_sem]
 simp [go_sem,Zz,hn']
 refine ⟨by omega,Zc c2 (by simp [go_sem]) ?_⟩
 simp [go_sem,k0]
 exact Hn .one rfl rfl
set_option maxRecDepth 100000 in
theorem ZhT (g:List PNode) (hg:g.length≤1048576) {o:POp} {e:ET} (hk:o.kind=1) (ih:WOk g e):WOk g (.pre o e):=by
 obtain ⟨z,k,lv,sd⟩:=o
 simp only at hk
 subst hk
 intro pre hn hl
 simp only [lay] at hn hl ⊢
 obtain ⟨hsub,hn''⟩:=Up hn
 have hle1:=ZN e pre
 have hp:=Z1 e
 have hyl:=VT e
 simp only [List.length_append,List.length_singleton,Nat.add_sub_cancel] at hl ⊢
 have ih1:=ih pre hsub (by omega)
 have hn':Za g (lay e pre).length=⟨z,3,((lay e pre).length:Int)-1,0⟩:=hn''
 generalize hq:(lay e pre).length=q at *
 have ea:(q:Int)-1=((q-1:Nat):Int):=by omega
 have c2:=Yh 3
 have kk:Zv 3=1:=by simp [Zv]
 refine Zi Tryz.func131 (by kernel_rfl) rfl (by simp [Tryz.ntmps131]) ?_;simp only [Tryz.ntmps131,Tryz.results131];simp [go_sem]
 simp [go_sem,Zz,hn']
 refine ⟨by omega,Zc c2 (by simp [go_sem]) ?_⟩
 simp [go_sem,kk,ea]
 refine ZR ih1 (by simp [go_sem];exact Ze (by omega) fun i c _ h=>ZG g i c h) ?_
 rintro av obs ⟨rfl,rfl⟩
 simp [go_sem]
 exact ⟨by omega,by omega,Hn ((RowIs.nil.join .one rfl).join .rfl rfl) rfl (by simp [Xf,Zp]<;>omega)⟩
set_option maxRecDepth 100000 in
theorem ZhV (g:List PNode) (hg:g.length≤1048576) {e:ET} (ih:WOk g e):WOk g (.grp e):=by
 intro pre hn hl
 simp only [lay] at hn hl ⊢
 obtain ⟨hsub,hn''⟩:=Up hn
 have hle1:=ZN e pre
 have hp:=Z1 e
 have hyl:=VT e
 simp only [List.length_append,List.length_singleton,Nat.add_sub_cancel] at hl ⊢
 have ih1:=ih pre hsub (by omega)
 have hn':Za g (lay e pre).length=⟨⟨#[]⟩,6,((lay e pre).length:Int)-1,0⟩:=hn''
 generalize hq:(lay e pre).length=q at *
 have ea:(q:Int)-1=((q-1:Nat):Int):=by omega
 have c2:=Yh 6
 have kk:Zv 6=1:=by simp [Zv]
 refine Zi Tryz.func131 (by kernel_rfl) rfl (by simp [Tryz.ntmps131]) ?_;simp only [Tryz.ntmps131,Tryz.results131];simp [go_sem]
 simp [go_sem,Zz,hn']
 refine ⟨by omega,Zc c2 (by simp [go_sem]) ?_⟩
 simp [go_sem,kk,ea]
 refine ZR ih1 (by simp [go_sem];exact Ze (by omega) fun i c _ h=>ZG g i c h) ?_
 rintro av obs ⟨rfl,rfl⟩
 simp [go_sem]
 exact ⟨by omega,by omega,by omega,by omega,Hn (((RowIs.nil.join .one rfl).join .rfl rfl).join .one (by simp<;>omega)) (by simp [Xf,Zp,Vj,UW]) (by simp [Xf,Zp]<;>omega)⟩
set_option maxRecDepth 100000 in
theorem ZfZ (g:List PNode) (hg:g.length≤1048576) {o:POp} {e:ET} (hk:o.kind=3) (ih:WOk g e):WOk g (.post o e):=by
 obtain ⟨z,k,lv,sd⟩:=o
 simp only at hk
 subst hk
 intro pre hn hl
 simp only [lay] at hn hl ⊢
 obtain ⟨hsub,hn''⟩:=Up hn
 have hle1:=ZN e pre
 have hp:=Z1 e
 have hyl:=VT e
 simp only [List.length_append,List.length_singleton,Nat.add_sub_cancel] at hl ⊢
 have ih1:=ih pre hsub (by omega)
 have hn':Za g (lay e pre).length=⟨z,5,((lay e pre).length:Int)-1,0⟩:=hn''
 generalize hq:(lay e pre).length=q at *
 have ea:(q:Int)-1=((q-1:Nat):Int):=by omega
 have c2:=Yh 5
 have kk:Zv 5=1:=by simp [Zv]
 refine Zi Tryz.func131 (by kernel_rfl) rfl (by simp [Tryz.ntmps131]) ?_;simp only [Tryz.ntmps131,Tryz.results131];simp [go_sem]
 simp [go_sem,Zz,hn']
 refine ⟨by omega,Zc c2 (by simp [go_sem]) ?_⟩
 simp [go_sem,kk,ea]
 refine ZR ih1 (by simp [go_sem];exact Ze (by omega) fun i c _ h=>ZG g i c h) ?_
 rintro av obs ⟨rfl,rfl⟩
 simp [go_sem]
 refine Zq [2,6] (.q 0 <| .q 1 <| .or 2 (.q 3 <| .q 4 <| .or 5 (.or 6 (.q 7 <| .done) (.nil)) (.nil)) (.or 3 (.or 2 (.q 4 <| .or 5 (.or 6 (.q 7 <| .done) (.nil)) (.nil)) (.or 4 (.or 2 (.or 5 (.or 6 (.q 7 <| .done) (.nil)) (.nil)) (.or 5 (.or 2 (.or 6 (.q 7 <| .done) (.nil)) (.nil)) (.nil))) (.nil))) (.nil))) (by kernel_rfl) ?_
 simp [go_sem]
 exact ⟨by omega,by omega,by omega,by omega,Hn ((RowIs.nil.join .rfl rfl).join .one rfl) (by simp [Xf,Zp,ZP]) (by simp [Xf,Zp])⟩
set_option maxRecDepth 100000 in
theorem ZhU (g:List PNode) (hg:g.length≤1048576) {o:POp} {x y:ET} (hk:o.kind=2) (ihx:WOk g x) (ihy:WOk g y):WOk g (.inf o x y):=by
 obtain ⟨z,k,lv,sd⟩:=o
 simp only at hk
 subst hk
 intro pre hn hl
 simp only [lay] at hn hl ⊢
 obtain ⟨hsub,hn''⟩:=Up hn
 have hle1:=ZN x pre
 have hle2:=ZN y (lay x pre)
 have hp:=Z1 x
 have hp2:=Z1 y
 have hyl:=VT x
 have hyl2:=VT y
 simp only [List.length_append,List.length_singleton,Nat.add_sub_cancel] at hl ⊢
 have ih2:=ihy (lay x pre) hsub (by omega)
 have ih1:=ihx pre (fun j hj=>by rw [hsub j (by omega),Uy y _ j hj]) (by omega)
 have hn':Za g (lay y (lay x pre)).length=⟨z,4,((lay x pre).length:Int)-1,((lay y (lay x pre)).length:Int)-1⟩:=hn''
 generalize hq:(lay y (lay x pre)).length=q at *
 generalize hr:(lay x pre).length=p at *
 have ea:(q:Int)-1=((q-1:Nat):Int):=by omega
 have eb:(p:Int)-1=((p-1:Nat):Int):=by omega
 have c2:=Yh 4
 have kk:Zv 4=2:=by simp [Zv]
 refine Zi Tryz.func131 (by kernel_rfl) rfl (by simp [Tryz.ntmps131]) ?_;simp only [Tryz.ntmps131,Tryz.results131];simp [go_sem]
 simp [go_sem,Zz,hn']
 refine ⟨by omega,Zc c2 (by simp [go_sem]) ?_⟩
 simp [go_sem,kk,ea,eb]
 refine ZR ih1 (by simp [go_sem];exact Ze (by omega) fun i c _ h=>ZG g i c h) ?_
 rintro av obs ⟨rfl,rfl⟩
 simp [go_sem]
 refine Zq [2,6] (.q 0 <| .q 1 <| .or 2 (.q 3 <| .q 4 <| .or 5 (.or 6 (.q 7 <| .done) (.nil)) (.nil)) (.or 3 (.or 2 (.q 4 <| .or 5 (.or 6 (.q 7 <| .done) (.nil)) (.nil)) (.or 4 (.or 2 (.or 5 (.or 6 (.q 7 <| .done) (.nil)) (.nil)) (.or 5 (.or 2 (.or 6 (.q 7 <| .done) (.nil)) (.nil)) (.nil))) (.nil))) (.nil))) (by kernel_rfl) ?_
 simp [go_sem]
 repeat' apply And.intro
 all_goals first|omega|skip
 all_goals
  refine ZR ih2 (by simp [go_sem];exact Ze (by omega) fun i c _ h=>ZG g i c h) ?_
  rintro av obs ⟨rfl,rfl⟩
  simp [go_sem]
  exact ⟨by omega,by omega,Hn (((RowIs.nil.join .rfl rfl).join .one rfl).join .rfl (by simp [Xf])) (by simp [Xf,Zp,ZP]) (by simp [Xf,Zp]<;>omega)⟩
theorem UH {l:List POp} (g:List PNode) (hg:g.length≤1048576):∀ e:ET,Xh l e→WOk g e
 | .leaf b,h=>Zf0 g hg b h
 | .grp e,h=>ZhV g hg (UH g hg e h)
 | .pre o e,h=>ZhT g hg h.1 (UH g hg e h.2.2.2)
 | .post o e,h=>ZfZ g hg h.1 (UH g hg e h.2.2.2)
 | .inf o x y,h=>ZhU g hg h.1 (UH g hg x h.2.2.2.1) (UH g hg y h.2.2.2.2)
def Wi (e:ET) (r:Rd):ET×Rd:=(if r.v%6=5 then .grp e else e,r.nx)
def ZS:ET→Rd→ET×Rd
 | .leaf b,r=>Wi (.leaf b) r
 | .grp e,r=>Wi (.grp (ZS e r).1) (ZS e r).2
 | .pre o e,r=>Wi (.pre o (ZS e r).1) (ZS e r).2
 | .post o e,r=>Wi (.post o (ZS e r).1) (ZS e r).2
 | .inf o x y,r=>Wi (.inf o (ZS x r).1 (ZS y (ZS x r).2).1) (ZS y (ZS x r).2).2
theorem U0 (e:ET) (r:Rd):ZF (Wi e r).1≤ZF e+1:=by
 unfold Wi;simp only;split
 ·simp only [ZF];omega
 ·omega
theorem Xl:∀ (e:ET) (r:Rd),ZF (ZS e r).1≤2*ZF e
 | .leaf b,r=>by have:=U0 (.leaf b) r;simp only [ZS,ZF] at *;omega
 | .grp e,r=>by have:=Xl e r;have:=U0 (.grp (ZS e r).1) (ZS e r).2;simp only [ZS,ZF] at *;omega
 | .pre o e,r=>by have:=Xl e r;have:=U0 (.pre o (ZS e r).1) (ZS e r).2;simp only [ZS,ZF] at *;omega
 | .post o e,r=>by have:=Xl e r;have:=U0 (.post o (ZS e r).1) (ZS e r).2;simp only [ZS,ZF] at *;omega
 | .inf o x y,r=>by have:=Xl x r;have:=Xl y (ZS x r).2;have:=U0 (.inf o (ZS x r).1 (ZS y (ZS x r).2).1) (ZS y (ZS x r).2).2;simp only [ZS,ZF] at *;omega
theorem WJ:∀ (e:ET) {r:Rd},r.ok→(ZS e r).2.ok
 | .leaf b,r,h=>Rd.nx_ok h
 | .grp e,r,h=>Rd.nx_ok (WJ e h)
 | .pre o e,r,h=>Rd.nx_ok (WJ e h)
 | .post o e,r,h=>Rd.nx_ok (WJ e h)
 | .inf o x y,r,h=>Rd.nx_ok (WJ y (WJ x h))
theorem QQ {l:List POp} {e:ET} {r:Rd} (h:Xh l e):Xh l (Wi e r).1:=by
 unfold Wi;simp only;split<;>exact h
theorem UE {l:List POp}:∀ (e:ET) {r:Rd},Xh l e→Xh l (ZS e r).1
 | .leaf b,r,h=>QQ h
 | .grp e,r,h=>QQ (e:=.grp _) (UE e h)
 | .pre o e,r,h=>QQ (e:=.pre _ _) ⟨h.1,h.2.1,h.2.2.1,UE e h.2.2.2⟩
 | .post o e,r,h=>QQ (e:=.post _ _) ⟨h.1,h.2.1,h.2.2.1,UE e h.2.2.2⟩
 | .inf o x y,r,h=>QQ (e:=.inf _ _ _) ⟨h.1,h.2.1,h.2.2.1,UE x h.2.2.2.1,UE y h.2.2.2.2⟩
theorem KQ {B:Nat} {e:ET} {r:Rd} (h:ETx B e):ETx B (Wi e r).1:=by
 unfold Wi;simp only;split<;>exact h
theorem QR {B:Nat}:∀ (e:ET) {r:Rd},ETx B e→ETx B (ZS e r).1
 | .leaf b,r,h=>KQ h
 | .grp e,r,h=>KQ (e:=.grp _) (QR e h)
 | .pre o e,r,h=>KQ (e:=.pre _ _) ⟨h.1,QR e h.2⟩
 | .post o e,r,h=>KQ (e:=.post _ _) ⟨h.1,QR e h.2⟩
 | .inf o x y,r,h=>KQ (e:=.inf _ _ _) ⟨h.1,QR x h.2.1,QR y h.2.2⟩
def NodIs (f:Nat→List AV) (ws:List PNode):Prop:=∀ i,i<ws.length→f i=Zf ws i
theorem NodIs.rfl {ws:List PNode}:NodIs (Zf ws) ws:=fun _ _=>_root_.rfl
theorem NodIs.app {n:Nat} {f g:Nat→List AV} {a:List PNode} {o:PNode} (hf:NodIs f a) (hg:g 0=o.cells) (hn:n=a.length):NodIs (Z2 n f g) (a++[o]):=fun i hi=>by
 subst hn
 unfold Z2
 by_cases h:i<a.length
 ·rw [if_pos h,hf i h,Zf,Zf,List.getD_eq_getElem?_getD,List.getD_eq_getElem?_getD,List.getElem?_append_left h]
 ·simp only [List.length_append,List.length_singleton] at hi
  obtain rfl:i=a.length:=by omega
  rw [if_neg h,Nat.sub_self,hg,Zf,List.getD_eq_getElem?_getD,List.getElem?_append_right (by omega)]
  simp
theorem V9 {idx:Nat→Nat} {ks:List Nat} {ty n n':Nat} {f:Nat→List AV} {T:List PNode} (h:NodIs f T) (hn:n=T.length:=by simp) (hn':n'=T.length:=by simp):Vw idx ks ⟨ty,4,n',Zf T⟩ (some (some ⟨ty,4,n,f⟩)):=by
 subst hn;subst hn'
 exact ZC h fun i _=>Z5 _ i
theorem ZlB {idx:Nat→Nat} {ks:List Nat} {ty n n':Nat} {f:Nat→List AV} {T:List ByteArray} (h:RowIs f T) (hn:n=T.length:=by simp) (hn':n'=T.length:=by simp):Vw idx ks ⟨ty,1,n',Yj T⟩ (some (some ⟨ty,1,n,f⟩)):=by
 subst hn;subst hn'
 exact ZC h fun i _=>ZaS _ i
def MOk (g:List PNode) (e:ET):Prop:=∀ pre:List PNode,(∀ j,j<(lay e pre).length→Za g j=Za (lay e pre) j)→(lay e pre).length≤g.length→∀ (r:Rd),r.ok→∀ out:List PNode,out.length+2*ZF e≤1000000→
 VProc Tryz.prog 130 [.ptr 0 2 0 0,.sl 4 g.length (Zf g),.lit (.int .i64 ((lay e pre).length-1:Nat)),.own 1] [ZB r,Zb out] [] (fun av mem maps=>av=.own 2∧mem=[ZB (ZS e r).2,none,Zb (lay (ZS e r).1 out)]∧maps=[])
set_option maxRecDepth 100000 in
theorem Zic (g:List PNode) (hg:g.length≤1048576) (b:Int×ByteArray) (hk:b.1=1∨b.1=2):MOk g (.leaf b):=by
 intro pre hn hl r hr out ho
 have hn':=hn pre.length (by simp [lay])
 simp only [lay] at hn' hl
 rw [Wm _ _ rfl] at hn'
 simp only [List.length_append,List.length_singleton] at hl
 have hi:(lay (.leaf b) pre).length-1=pre.length:=by simp [lay]
 rw [hi]
 generalize hq:pre.length=q at *
 have c2:=Yh b.1
 have c1:=W7 r hr
 have k0:Zv b.1=0:=by rcases hk with h|h<;>simp [Zv,h]
 have e6:(r.v:Int).tmod 6=((r.v%6:Nat):Int):=Z6 r.v 6
 simp only [ZF] at ho
 have ew:IntKind.i64.wrap (out.length:Int)=out.length:=wrap_i64 (by omega)
 refine Zl Tryz.func130 (by kernel_rfl) rfl (by simp [Tryz.ntmps130]) ?_;simp only [Tryz.ntmps130,Tryz.results130];simp [go_sem]
 simp [go_sem,K,Zz,hn']
 refine ⟨by omega,Zc c2 (by simp [go_sem]) ?_⟩
 simp [go_sem,K,k0]
 refine Zc c2 (by simp [go_sem]) ?_
 simp [go_sem,K,k0]
 refine ⟨by omega,by omega,vS [0] c1 ?_⟩
 rintro av mem maps ⟨rfl,rfl,rfl⟩
 by_cases h5:r.v%6=5
 ·have h5':(r.v:Int)%6=5:=by omega
  have em:ZS (.leaf b) r=(.grp (.leaf b),r.nx):=by simp only [ZS,Wi,h5];rfl
  rw [em]
  simp [go_sem,K,e6,h5',ew]
  exact ⟨by omega,by omega,by omega,vF [7] [ZB r.nx,none,Zb (lay (.grp (.leaf b)) out)] (by simp [go_sem,K];simp only [lay];exact V9 (.app (.app .rfl rfl (by simp)) (by simp [PNode.cells]) (by simp)))⟩
 ·have h5':¬(r.v:Int)%6=5:=by omega
  have em:ZS (.leaf b) r=(.leaf b,r.nx):=by simp only [ZS,Wi,h5];rfl
  rw [em]
  simp [go_sem,K,e6,h5',ew]
  exact vF [5] [ZB r.nx,none,Zb (lay (.leaf b) out)] (by simp [go_sem,K];simp only [lay];exact V9 (.app .rfl rfl (by simp)))
set_option maxRecDepth 100000 in
theorem ZjP (g:List PNode) (hg:g.length≤1048576) {o:POp} {e:ET} (hk:o.kind=1) (ih:MOk g e):MOk g (.pre o e):=by
 obtain ⟨z,k,lv,sd⟩:=o
 simp only at hk
 subst hk
 intro pre hn hl r hr out ho
 simp only [lay] at hn hl ⊢
 obtain ⟨hsub,hn''⟩:=Up hn
 have hle1:=ZN e pre
 have hp:=Z1 e
 simp only [List.length_append,List.length_singleton,Nat.add_sub_cancel,ZF] at hl ho ⊢
 have ih1:=ih pre hsub (by omega) r hr out (by omega)
 have hn':Za g (lay e pre).length=⟨z,3,((lay e pre).length:Int)-1,0⟩:=hn''
 have hms:=Xl e r
 have hln:=ZN (ZS e r).1 out
 have hp2:=Z1 (ZS e r).1
 generalize hq:(lay e pre).length=q at *
 have ea:(q:Int)-1=((q-1:Nat):Int):=by omega
 have c2:=Yh 3
 have kk:Zv 3=1:=by simp [Zv]
 have hr2:=WJ e hr
 have hmo:∀ e' r',ZS e r=(e',r')→ZS (.pre ⟨z,1,lv,sd⟩ e) r=Wi (.pre ⟨z,1,lv,sd⟩ e') r':=fun e' r' h=>by simp only [ZS,h]
 generalize hM:ZS e r=M at *
 obtain ⟨e',r'⟩:=M
 have hmo:=hmo e' r' rfl
 simp only at hms hln hp2 hr2 ih1
 have c1:=W7 r' hr2
 have e6:(r'.v:Int).tmod 6=((r'.v%6:Nat):Int):=Z6 r'.v 6
 have ew:IntKind.i64.wrap ((lay e' out).length:Int)=(lay e' out).length:=wrap_i64 (by omega)
 have ew1:IntKind.i64.wrap (((lay e' out).length:Int)-1)=((lay e' out).length:Int)-1:=wrap_i64 (by omega)
 refine Zl Tryz.func130 (by kernel_rfl) rfl (by simp [Tryz.ntmps130]) ?_;simp only [Tryz.ntmps130,Tryz.results130];simp [go_sem]
 simp [go_sem,K,Zz,hn']
 refine ⟨by omega,Zc c2 (by simp [go_sem]) ?_⟩
 simp [go_sem,K,kk,ea]
 refine vS [0,1] ih1 ?_
 rintro av mem maps ⟨rfl,rfl,rfl⟩
 simp [go_sem,K,ew1]
 refine ⟨by omega,Zc c2 (by simp [go_sem]) ?_⟩
 simp [go_sem,K,kk]
 refine ⟨by omega,by omega,vS [0] c1 ?_⟩
 rintro av mem maps ⟨rfl,rfl,rfl⟩
 by_cases h5:r'.v%6=5
 ·have h5':(r'.v:Int)%6=5:=by omega
  have em:ZS (.pre ⟨z,1,lv,sd⟩ e) r=(.grp (.pre ⟨z,1,lv,sd⟩ e'),r'.nx):=by rw [hmo];simp only [Wi,h5];rfl
  rw [em]
  simp [go_sem,K,e6,h5',ew]
  exact ⟨by omega,by omega,by omega,vF [8] [ZB r'.nx,none,Zb (lay (.grp (.pre ⟨z,1,lv,sd⟩ e')) out)] (by simp [go_sem,K];simp only [lay];exact V9 (.app (.app .rfl rfl (by simp)) (by simp [PNode.cells]) (by simp)))⟩
 ·have h5':¬(r'.v:Int)%6=5:=by omega
  have em:ZS (.pre ⟨z,1,lv,sd⟩ e) r=(.pre ⟨z,1,lv,sd⟩ e',r'.nx):=by rw [hmo];simp only [Wi,h5];rfl
  rw [em]
  simp [go_sem,K,e6,h5',ew]
  exact vF [6] [ZB r'.nx,none,Zb (lay (.pre ⟨z,1,lv,sd⟩ e') out)] (by simp [go_sem,K];simp only [lay];exact V9 (.app .rfl rfl (by simp)))
set_option maxRecDepth 100000 in
theorem Zib (g:List PNode) (hg:g.length≤1048576) {o:POp} {e:ET} (hk:o.kind=3) (ih:MOk g e):MOk g (.post o e):=by
 obtain ⟨z,k,lv,sd⟩:=o
 simp only at hk
 subst hk
 intro pre hn hl r hr out ho
 simp only [lay] at hn hl ⊢
 obtain ⟨hsub,hn''⟩:=Up hn
 have hle1:=ZN e pre
 have hp:=Z1 e
 simp only [List.length_append,List.length_singleton,Nat.add_sub_cancel,ZF] at hl ho ⊢
 have ih1:=ih pre hsub (by omega) r hr out (by omega)
 have hn':Za g (lay e pre).length=⟨z,5,((lay e pre).length:Int)-1,0⟩:=hn''
 have hms:=Xl e r
 have hln:=ZN (ZS e r).1 out
 have hp2:=Z1 (ZS e r).1
 generalize hq:(lay e pre).length=q at *
 have ea:(q:Int)-1=((q-1:Nat):Int):=by omega
 have c2:=Yh 5
 have kk:Zv 5=1:=by simp [Zv]
 have hr2:=WJ e hr
 have hmo:∀ e' r',ZS e r=(e',r')→ZS (.post ⟨z,3,lv,sd⟩ e) r=Wi (.post ⟨z,3,lv,sd⟩ e') r':=fun e' r' h=>by simp only [ZS,h]
 generalize hM:ZS e r=M at *
 obtain ⟨e',r'⟩:=M
 have hmo:=hmo e' r' rfl
 simp only at hms hln hp2 hr2 ih1
 have c1:=W7 r' hr2
 have e6:(r'.v:Int).tmod 6=((r'.v%6:Nat):Int):=Z6 r'.v 6
 have ew:IntKind.i64.wrap ((lay e' out).length:Int)=(lay e' out).length:=wrap_i64 (by omega)
 have ew1:IntKind.i64.wrap (((lay e' out).length:Int)-1)=((lay e' out).length:Int)-1:=wrap_i64 (by omega)
 refine Zl Tryz.func130 (by kernel_rfl) rfl (by simp [Tryz.ntmps130]) ?_;simp only [Tryz.ntmps130,Tryz.results130];simp [go_sem]
 simp [go_sem,K,Zz,hn']
 refine ⟨by omega,Zc c2 (by simp [go_sem]) ?_⟩
 simp [go_sem,K,kk,ea]
 refine vS [0,1] ih1 ?_
 rintro av mem maps ⟨rfl,rfl,rfl⟩
 simp [go_sem,K,ew1]
 refine ⟨by omega,Zc c2 (by simp [go_sem]) ?_⟩
 simp [go_sem,K,kk]
 refine ⟨by omega,by omega,vS [0] c1 ?_⟩
 rintro av mem maps ⟨rfl,rfl,rfl⟩
 by_cases h5:r'.v%6=5
 ·have h5':(r'.v:Int)%6=5:=by omega
  have em:ZS (.post ⟨z,3,lv,sd⟩ e) r=(.grp (.post ⟨z,3,lv,sd⟩ e'),r'.nx):=by rw [hmo];simp only [Wi,h5];rfl
  rw [em]
  simp [go_sem,K,e6,h5',ew]
  exact ⟨by omega,by omega,by omega,vF [8] [ZB r'.nx,none,Zb (lay (.grp (.post ⟨z,3,lv,sd⟩ e')) out)] (by simp [go_sem,K];simp only [lay];exact V9 (.app (.app .rfl rfl (by simp)) (by simp [PNode.cells]) (by simp)))⟩
 ·have h5':¬(r'.v:Int)%6=5:=by omega
  have em:ZS (.post ⟨z,3,lv,sd⟩ e) r=(.post ⟨z,3,lv,sd⟩ e',r'.nx):=by rw [hmo];simp only [Wi,h5];rfl
  rw [em]
  simp [go_sem,K,e6,h5',ew]
  exact vF [6] [ZB r'.nx,none,Zb (lay (.post ⟨z,3,lv,sd⟩ e') out)] (by simp [go_sem,K];simp only [lay];exact V9 (.app .rfl rfl (by simp)))
set_option maxRecDepth 100000 in
theorem ZjR (g:List PNode) (hg:g.length≤1048576) {e:ET} (ih:MOk g e):MOk g (.grp e):=by
 intro pre hn hl r hr out ho
 simp only [lay] at hn hl ⊢
 obtain ⟨hsub,hn''⟩:=Up hn
 have hle1:=ZN e pre
 have hp:=Z1 e
 simp only [List.length_append,List.length_singleton,Nat.add_sub_cancel,ZF] at hl ho ⊢
 have ih1:=ih pre hsub (by omega) r hr out (by omega)
 have hn':Za g (lay e pre).length=⟨⟨#[]⟩,6,((lay e pre).length:Int)-1,0⟩:=hn''
 have hms:=Xl e r
 have hln:=ZN (ZS e r).1 out
 have hp2:=Z1 (ZS e r).1
 generalize hq:(lay e pre).length=q at *
 have ea:(q:Int)-1=((q-1:Nat):Int):=by omega
 have c2:=Yh 6
 have kk:Zv 6=1:=by simp [Zv]
 have hr2:=WJ e hr
 have hmo:∀ e' r',ZS e r=(e',r')→ZS (.grp e) r=Wi (.grp e') r':=fun e' r' h=>by simp only [ZS,h]
 generalize hM:ZS e r=M at *
 obtain ⟨e',r'⟩:=M
 have hmo:=hmo e' r' rfl
 simp only at hms hln hp2 hr2 ih1
 have c1:=W7 r' hr2
 have e6:(r'.v:Int).tmod 6=((r'.v%6:Nat):Int):=Z6 r'.v 6
 have ew:IntKind.i64.wrap ((lay e' out).length:Int)=(lay e' out).length:=wrap_i64 (by omega)
 have ew1:IntKind.i64.wrap (((lay e' out).length:Int)-1)=((lay e' out).length:Int)-1:=wrap_i64 (by omega)
 refine Zl Tryz.func130 (by kernel_rfl) rfl (by simp [Tryz.ntmps130]) ?_;simp only [Tryz.ntmps130,Tryz.results130];simp [go_sem]
 simp [go_sem,K,Zz,hn']
 refine ⟨by omega,Zc c2 (by simp [go_sem]) ?_⟩
 simp [go_sem,K,kk,ea]
 refine vS [0,1] ih1 ?_
 rintro av mem maps ⟨rfl,rfl,rfl⟩
 simp [go_sem,K,ew1]
 refine ⟨by omega,Zc c2 (by simp [go_sem]) ?_⟩
 simp [go_sem,K,kk]
 refine ⟨by omega,by omega,vS [0] c1 ?_⟩
 rintro av mem maps ⟨rfl,rfl,rfl⟩
 by_cases h5:r'.v%6=5
 ·have h5':(r'.v:Int)%6=5:=by omega
  have em:ZS (.grp e) r=(.grp (.grp e'),r'.nx):=by rw [hmo];simp only [Wi,h5];rfl
  rw [em]
  simp [go_sem,K,e6,h5',ew]
  exact ⟨by omega,by omega,by omega,vF [8] [ZB r'.nx,none,Zb (lay (.grp (.grp e')) out)] (by simp [go_sem,K];simp only [lay];exact V9 (.app (.app .rfl rfl (by simp)) (by simp [PNode.cells]) (by simp)))⟩
 ·have h5':¬(r'.v:Int)%6=5:=by omega
  have em:ZS (.grp e) r=(.grp e',r'.nx):=by rw [hmo];simp only [Wi,h5];rfl
  rw [em]
  simp [go_sem,K,e6,h5',ew]
  exact vF [6] [ZB r'.nx,none,Zb (lay (.grp e') out)] (by simp [go_sem,K];simp only [lay];exact V9 (.app .rfl rfl (by simp)))
set_option maxRecDepth 100000 in
theorem ZjQ (g:List PNode) (hg:g.length≤1048576) {o:POp} {x y:ET} (hk:o.kind=2) (ihx:MOk g x) (ihy:MOk g y):MOk g (.inf o x y):=by
 obtain ⟨z,k,lv,sd⟩:=o
 simp only at hk
 subst hk
 intro pre hn hl r hr out ho
 simp only [lay] at hn hl ⊢
 obtain ⟨hsub,hn''⟩:=Up hn
 have hle1:=ZN x pre
 have hle2:=ZN y (lay x pre)
 have hp:=Z1 x
 have hp2:=Z1 y
 simp only [List.length_append,List.length_singleton,Nat.add_sub_cancel,ZF] at hl ho ⊢
 have ih1:=ihx pre (fun j hj=>by rw [hsub j (by omega),Uy y _ j hj]) (by omega) r hr out (by omega)
 have hn':Za g (lay y (lay x pre)).length=⟨z,4,((lay x pre).length:Int)-1,((lay y (lay x pre)).length:Int)-1⟩:=hn''
 have hms:=Xl x r
 have hln:=ZN (ZS x r).1 out
 have hp3:=Z1 (ZS x r).1
 have hr2:=WJ x hr
 have hmo:∀ e' r' e'' r'',ZS x r=(e',r')→ZS y r'=(e'',r'')→ZS (.inf ⟨z,2,lv,sd⟩ x y) r=Wi (.inf ⟨z,2,lv,sd⟩ e' e'') r'':=fun e' r' e'' r'' h h'=>by simp only [ZS,h,h']
 generalize hM:ZS x r=M at *
 obtain ⟨e',r'⟩:=M
 simp only at hms hln hp3 hr2 ih1
 have ih2:=ihy (lay x pre) hsub (by omega) r' hr2 (lay e' out) (by omega)
 have hms2:=Xl y r'
 have hln2:=ZN (ZS y r').1 (lay e' out)
 have hp4:=Z1 (ZS y r').1
 have hr3:=WJ y hr2
 have hmo:=fun e'' r''=>hmo e' r' e'' r'' rfl
 generalize hM2:ZS y r'=M2 at *
 obtain ⟨e'',r''⟩:=M2
 have hmo:=hmo e'' r'' rfl
 simp only at hms2 hln2 hp4 hr3 ih2
 generalize hq:(lay y (lay x pre)).length=q at *
 generalize hp':(lay x pre).length=p at *
 have ea:(q:Int)-1=((q-1:Nat):Int):=by omega
 have eb:(p:Int)-1=((p-1:Nat):Int):=by omega
 have c2:=Yh 4
 have kk:Zv 4=2:=by simp [Zv]
 have c1:=W7 r'' hr3
 have e6:(r''.v:Int).tmod 6=((r''.v%6:Nat):Int):=Z6 r''.v 6
 have ew1:IntKind.i64.wrap (((lay e' out).length:Int)-1)=((lay e' out).length:Int)-1:=wrap_i64 (by omega)
 have ew2:IntKind.i64.wrap (((lay e'' (lay e' out)).length:Int)-1)=((lay e'' (lay e' out)).length:Int)-1:=wrap_i64 (by omega)
 have ew:IntKind.i64.wrap ((lay e'' (lay e' out)).length:Int)=(lay e'' (lay e' out)).length:=wrap_i64 (by omega)
 refine Zl Tryz.func130 (by kernel_rfl) rfl (by simp [Tryz.ntmps130]) ?_;simp only [Tryz.ntmps130,Tryz.results130];simp [go_sem]
 simp [go_sem,K,Zz,hn']
 refine ⟨by omega,Zc c2 (by simp [go_sem]) ?_⟩
 simp [go_sem,K,kk,ea,eb]
 refine vS [0,1] ih1 ?_
 rintro av mem maps ⟨rfl,rfl,rfl⟩
 simp [go_sem,K,ew1]
 refine ⟨by omega,Zc c2 (by simp [go_sem]) ?_⟩
 simp [go_sem,K,kk,ea]
 refine vS [0,4] ih2 ?_
 rintro av mem maps ⟨rfl,rfl,rfl⟩
 simp [go_sem,K,ew2]
 refine ⟨by omega,by omega,by omega,vS [0] c1 ?_⟩
 rintro av mem maps ⟨rfl,rfl,rfl⟩
 by_cases h5:r''.v%6=5
 ·have h5':(r''.v:Int)%6=5:=by omega
  have em:ZS (.inf ⟨z,2,lv,sd⟩ x y) r=(.grp (.inf ⟨z,2,lv,sd⟩ e' e''),r''.nx):=by rw [hmo];simp only [Wi,h5];rfl
  rw [em]
  simp [go_sem,K,e6,h5',ew]
  exact ⟨by omega,by omega,by omega,vF [9] [ZB r''.nx,none,Zb (lay (.grp (.inf ⟨z,2,lv,sd⟩ e' e'')) out)] (by simp [go_sem,K];simp only [lay];exact V9 (.app (.app .rfl rfl (by simp)) (by simp [PNode.cells]) (by simp)))⟩
 ·have h5':¬(r''.v:Int)%6=5:=by omega
  have em:ZS (.inf ⟨z,2,lv,sd⟩ x y) r=(.inf ⟨z,2,lv,sd⟩ e' e'',r''.nx):=by rw [hmo];simp only [Wi,h5];rfl
  rw [em]
  simp [go_sem,K,e6,h5',ew]
  exact vF [7] [ZB r''.nx,none,Zb (lay (.inf ⟨z,2,lv,sd⟩ e' e'') out)] (by simp [go_sem,K];simp only [lay];exact V9 (.app .rfl rfl (by simp)))
theorem QZ {l:List POp} (g:List PNode) (hg:g.length≤1048576):∀ e:ET,Xh l e→MOk g e
 | .leaf b,h=>Zic g hg b h
 | .grp e,h=>ZjR g hg (QZ g hg e h)
 | .pre o e,h=>ZjP g hg h.1 (QZ g hg e h.2.2.2)
 | .post o e,h=>Zib g hg h.1 (QZ g hg e h.2.2.2)
 | .inf o x y,h=>ZjQ g hg h.1 (QZ g hg x h.2.2.2.1) (QZ g hg y h.2.2.2.2)
end Go.Proofs.YtjdmmhcogmepaaaGreatDoor.V
namespace Go.Proofs.YtjdmmhcogmepaaaGreatDoor.V
open Go.RowKit
section
variable {P:Program} {n:Nat} {base:Fr} {w0 w:World} {hd:Nat→Value} {s:VS} {a:Act}
theorem ZlM {ts:List Nat} {x:AV} {r:List (Nat×AV)} {u:Nat}:lk (ts.map (fun t=>(t,x))++r) u=if u∈ts then x else lk r u:=by
 induction ts with
 |nil=>simp
 |cons t ts ih=>
  simp only [List.map_cons,List.cons_append,lk]
  by_cases e:t=u
  ·subst e;simp
  ·rw [if_neg e,ih]
   have e':¬u=t:=fun h=>e h.symm
   simp [e']
theorem RelH.rowSl (h:RelH n base w0 hd s a w) {k:Nat} {ob:Ob} (hk:s.mem[k]?=some (some ob)) (hc:∀ i,i<ob.n→∀ c,c∈ob.f i→Closed c):Rep w (ZE (s.mem.set k none) hd) hd (s.mem.set k none).length (.sl ob.sz ob.n ob.f) (hd k):=by
 obtain ⟨hs,vals,ho,hr⟩:=h.me.obs k ob hk
 have hok:∀ ad u,ZE s.mem hd ad.block→w.cell? ad=some u→w.cell? ad=some u∧ZE (s.mem.set k none) hd ad.block:=fun ad u ho hcell=>⟨hcell,Zaz _ _ _ _ ho⟩
 rcases ho.2 with ⟨e,h0⟩|⟨g,cap,cur,e,h3,h1,h2,h4⟩
 ·rw [e,show Value.slice none 0 0=Value.slice none ob.n 0 by rw [h0]]
  exact .sl _ _ _ none 0 (fun _ _=>undef) (by omega) (by omega) hs (fun i hi=>(hr i hi).1) (fun hp=>by omega) (fun i j av hi=>by omega)
 ·have hcells:=fun i hi=>h.cells_ hk e (i:=i) hi
  have hown:(hd k).ownBlock=some g:=by rw [e];rfl
  rw [e]
  refine .sl _ _ _ _ _ (fun i j=>(w.cell? ((⟨g,i*ob.sz,none⟩:Addr).add j)).getD undef) (by omega) (by simp only [maxLen] at h2;omega) hs (fun i hi=>(hr i hi).1) (fun hp=>⟨_,rfl,⟨fun q ob' hq e'=>?_,h.ownTail (h.me.alw k ob hk g hown)⟩,fun i j hi hj=>?_⟩) fun i j av hi hj=>?_
  ·obtain ⟨hq1,hq2⟩:=QY hq
   rcases h.me.apart q k ob' ob hq1 hk hq2 with e2|e2
   ·rw [e'] at e2;cases e2
   ·exact e2 (by rw [e',hown])
  ·obtain ⟨u,h1,_⟩:=hcells i hi j _ (List.getElem?_eq_getElem (by rw [(hr i hi).1];exact hj))
   have e3:((⟨g,0,none⟩:Addr).add (i*ob.sz+j))=(⟨g,i*ob.sz,none⟩:Addr).add j:=by
    by_cases hj0:j=0
    ·subst hj0
     by_cases hi0:i*ob.sz=0
     ·simp [Addr.add,hi0]
     ·simp only [Addr.add,Nat.add_zero];rw [if_neg hi0];simp
    ·have hne:¬(i*ob.sz+j=0):=by omega
     simp only [Addr.add];rw [if_neg hne,if_neg hj0];simp
   rw [e3,h1];rfl
  ·obtain ⟨u,h1,h2⟩:=hcells i hi j av hj
   simp only [h1]
   exact Rep.closed (hc i hi av (List.mem_of_getElem? hj)) (fun ad u' g1 g2=>⟨g2,Zaz _ _ _ _ g1⟩) h2
end
theorem Ent.give {s:VS} (ts:List Nat) (k:Nat) {ob:Ob} (hk:s.mem[k]?=some (some ob)) (hc:∀ i,i<ob.n→∀ c,c∈ob.f i→Closed c) (ht:∀ t,t∈ts→lk s.tmps t=.own k) :
  Ent s { s with tmps:=ts.map (fun t=>(t,.sl ob.sz ob.n ob.f))++s.tmps,mem:=s.mem.set k none }:=by
 intro n base w0 hd a w h
 have hf:=h.free k
 have hr:=h.rowSl hk hc
 refine ⟨hd,hf.defers,hf.size,hf.below,hf.le,hf.fixl,hf.fix,hf.mp,fun u=>?_,hf.me⟩
 simp only [ZlM]
 split
 ·rename_i hu
  have:=h.tm u
  rw [ht u hu] at this
  generalize a.tmps.getD u undef=v at this
  cases this
  exact hr
 ·exact hf.tm u
end Go.Proofs.YtjdmmhcogmepaaaGreatDoor.V
namespace Go.Proofs.YtjdmmhcogmepaaaGreatDoor.V
open Go.RowKit
section
variable {P:Program} {n:Nat} {base:Fr} {w0 w:World} {hd:Nat→Value} {s:VS} {a:Act}
theorem ZjL {mem:List (Option Ob)} {hd:Nat→Value} {j:Nat} {oj oj':Ob} (hj:mem[j]?=some (some oj)) {b:Nat} (h:ZE mem hd b):ZE (mem.set j (some oj')) hd b:=by
 refine ⟨fun q ob hq=>?_,h.2⟩
 by_cases e:j=q
 ·subst e;exact h.1 j oj hj
 ·rw [List.getElem?_set_ne e] at hq;exact h.1 q ob hq
theorem RelH.recell (h:RelH n base w0 hd s a w) {j:Nat} {oj oj':Ob} (hj:s.mem[j]?=some (some oj)) (e1:oj'.ty=oj.ty) (e2:oj'.sz=oj.sz) (e3:oj'.n=oj.n)
  (hc:∀ i,i<oj.n→(oj'.f i).length=(oj.f i).length∧∀ (q:Nat) av av' u,(oj.f i)[q]?=some av→(oj'.f i)[q]?=some av'→Rep w (ZE s.mem hd) hd s.mem.length av u→Rep w (ZE s.mem hd) hd s.mem.length av' u):RelH n base w0 hd { s with mem:=s.mem.set j (some oj') } a w:=by
 have hok:∀ ad u,ZE s.mem hd ad.block→w.cell? ad=some u→w.cell? ad=some u∧ZE (s.mem.set j (some oj')) hd ad.block:=fun ad u ho hcell=>⟨hcell,ZjL hj ho⟩
 have hjl:=(List.getElem?_eq_some_iff.1 hj).1
 have live:∀ q ob,(s.mem.set j (some oj'))[q]?=some (some ob)→(q=j∧ob=oj')∨(q≠j∧s.mem[q]?=some (some ob)):=fun q ob hq=>by
  by_cases e:j=q
  ·subst e
   rw [List.getElem?_set_self hjl] at hq
   simp only [Option.some.injEq] at hq
   exact .inl ⟨rfl,hq.symm⟩
  ·rw [List.getElem?_set_ne e] at hq
   exact .inr ⟨fun e'=>e e'.symm,hq⟩
 have was:∀ q ob,(s.mem.set j (some oj'))[q]?=some (some ob)→∃ ob0,s.mem[q]?=some (some ob0):=fun q ob hq=>by
  rcases live q ob hq with ⟨rfl,_⟩|⟨_,h2⟩
  ·exact ⟨oj,hj⟩
  ·exact ⟨ob,h2⟩
 refine ⟨h.defers,h.size,h.below,h.le,by simpa using h.fixl,h.fix,h.mp,fun t=>(h.tm t).mono hok (fun _ _=>rfl) (by simp),⟨fun q ob hq=>?_,fun q ob hq=>?_,fun q hq=>h.me.hds q (by simpa using hq),fun q q' ob ob' hq hq' hne=>?_⟩⟩
 ·obtain ⟨o0,h0⟩:=was q ob hq
  exact h.me.alw q o0 h0
 ·rcases live q ob hq with ⟨rfl,rfl⟩|⟨_,h2⟩
  ·obtain ⟨hs,vals,ho,hr⟩:=h.me.obs q oj hj
   rw [e1,e2,e3]
   refine ⟨hs,vals,ho,fun i hi=>?_⟩
   obtain ⟨l1,l2⟩:=hc i hi
   obtain ⟨r1,r2⟩:=hr i hi
   refine ⟨l1.trans r1,fun p av hp=>?_⟩
   have hpl:p<(oj.f i).length:=by rw [←l1];exact (List.getElem?_eq_some_iff.1 hp).1
   obtain ⟨u,g1,g2,g3⟩:=r2 p _ (List.getElem?_eq_getElem hpl)
   exact ⟨u,g1,g2,(l2 p _ av u (List.getElem?_eq_getElem hpl) hp g3).mono hok (fun _ _=>rfl) (by simp)⟩
  ·obtain ⟨hs,vals,ho,hr⟩:=h.me.obs q ob h2
   refine ⟨hs,vals,ho,fun i hi=>⟨(hr i hi).1,fun p av hp=>?_⟩⟩
   obtain ⟨u,g1,g2,g3⟩:=(hr i hi).2 p av hp
   exact ⟨u,g1,g2,g3.mono hok (fun _ _=>rfl) (by simp)⟩
 ·obtain ⟨o0,h0⟩:=was q ob hq
  obtain ⟨o1,h1⟩:=was q' ob' hq'
  exact h.me.apart q q' o0 o1 h0 h1 hne
end
theorem Ent.giveIn {s:VS} (j k c:Nat) {ob oj:Ob} (hk:s.mem[k]?=some (some ob)) (hcl:∀ i,i<ob.n→∀ c,c∈ob.f i→Closed c) (hj:s.mem[j]?=some (some oj)) (hjk:j≠k) (hc:∀ i,i<oj.n→(oj.f i)[c]?=some (.own k)) :
  Ent s { s with mem:=(s.mem.set k none).set j (some { oj with f:=fun i=>(oj.f i).set c (.sl ob.sz ob.n ob.f) }) }:=by
 intro n base w0 hd a w h
 have hf:=h.free k
 have hr:=h.rowSl hk hcl
 have hj':(s.mem.set k none)[j]?=some (some oj):=by rw [List.getElem?_set_ne (fun e=>hjk e.symm)];exact hj
 refine ⟨hd,hf.recell (s:={ s with mem:=s.mem.set k none }) hj' rfl rfl rfl fun i hi=>⟨by simp,fun q av av' u h1 h2 h3=>?_⟩⟩
 simp only at h2
 rw [List.getElem?_set] at h2
 by_cases e:c=q
 ·subst e
  rw [if_pos rfl] at h2
  split at h2
  ·rw [hc i hi] at h1
   cases h1;cases h2
   cases h3
   exact hr
  ·cases h2
 ·rw [if_neg e,h1] at h2
  cases h2;exact h3
end Go.Proofs.YtjdmmhcogmepaaaGreatDoor.V
namespace Go.Proofs.YtjdmmhcogmepaaaGreatDoor.V
open Go.RowKit
open Go.Proofs.YtjdmmhcogmepaaaGreatDoor.Ops (Tr)
def ZM (l:List POp) (r:Rd):List ByteArray×Rd:=
 if r.v%4=3 then ((JA l r.nx).out,(JA l r.nx).rd)
 else if Yg l (Xa l false r.nx).1=true then (Xf (ZS (ZT l (Xa l false r.nx).1) (Xa l false r.nx).2).1,(ZS (ZT l (Xa l false r.nx).1) (Xa l false r.nx).2).2)
 else ([⟨#[97]⟩],(Xa l false r.nx).2)
set_option maxHeartbeats 4000000 in
set_option maxRecDepth 100000 in
theorem Zco (l:List POp) (hl:l.length≤1000) (hk:H0 l) (hw:YT l) (hx:∀ o,o∈l→o.text.size≤6) (r:Rd) (hr:r.ok):VProc Tryz.prog 104 [.ptr 0 2 0 0,.agg [.own 1]] [ZB r,tab l] [] (fun av mem maps=>av=.own 2∧mem=[ZB (ZM l r).2,tab l,XO (ZM l r).1]∧maps=[]):=by
 have hn:=Rd.nx_ok hr
 have c1:=W7 r hr
 have cl:=Zkk l hl r.nx hn
 have ct:=Zd7 l hl hk false r.nx hn
 have hlen:=Ks l false r.nx
 have htx:VQ 6 (Xa l false r.nx).1:=Zj4 hx _ _ _ (K9 6)
 have hdr:(Xa l false r.nx).2.ok:=ZbF _ _ _ (Rd.nx_ok hn)
 have e4:(r.v:Int).tmod 4=((r.v%4:Nat):Int):=Z6 r.v 4
 unfold ZM
 generalize Xa l false r.nx=d at *
 have cg:=G8 l (by omega) hw d.1 (by omega) (fun i hi=>by have:=htx i hi;simp only [PNode.wf,maxLen];omega)
 have hgl:=Zff l d.1
 have hgz:Yg l d.1=true→Xm l d.1=lay (ZT l d.1) []∧Xh l (ZT l d.1)∧ZF (ZT l d.1)≤20000:=fun h=>by
  have hh:=h
  simp only [Yg,Bool.and_eq_true,decide_eq_true_eq] at hh
  exact ⟨by rw [Xm,if_pos h],WS 0 (Wh (WQ hh.1).2.2.1),hh.2⟩
 generalize ZT l d.1=G at *
 generalize Xm l d.1=Z at *
 by_cases h3:r.v%4=3
 ·rw [if_pos h3]
  have h3':(r.v:Int)%4=3:=by omega
  refine Zl Tryz.func104 (by kernel_rfl) rfl (by simp [Tryz.ntmps104]) ?_;simp only [Tryz.ntmps104,Tryz.results104];simp [go_sem]
  refine vS [0] c1 ?_
  rintro av mem maps ⟨rfl,rfl,rfl⟩
  simp [go_sem,K,e4,h3']
  refine vS [0,1] cl ?_
  rintro av mem maps ⟨rfl,rfl,rfl⟩
  simp [go_sem,K]
  exact vF [3] [ZB (JA l r.nx).rd,tab l,XO (JA l r.nx).out]
 ·rw [if_neg h3]
  have h3':¬(r.v:Int)%4=3:=by omega
  refine Zl Tryz.func104 (by kernel_rfl) rfl (by simp [Tryz.ntmps104]) ?_;simp only [Tryz.ntmps104,Tryz.results104];simp [go_sem]
  refine vS [0] c1 ?_
  rintro av mem maps ⟨rfl,rfl,rfl⟩
  simp [go_sem,K,e4,h3']
  refine ZX (⟨[(0,.ptr 0 2 0 0),(6,.ptr 2 1 0 0),(7,.lit (.bool (Yg l d.1)))],[ZB d.2,tab l,some ⟨37,1,1,fun _=>[.sl 4 Z.length (Zf Z)]⟩],[],2⟩) [9,3,4] (.q 1 <| .q 2 <| .or 0 (.or 3 (.or 4 (.q 5 <| .q 6 <| .or 7 (.or 8 (.or 9 (.q 10 <| .done) (.nil)) (.nil)) (.or 8 (.or 7 (.or 9 (.q 10 <| .done) (.nil)) (.or 9 (.q 7 <| .q 10 <| .done) (.nil))) (.nil))) (.or 8 (.or 4 (.q 5 <| .q 6 <| .or 7 (.or 9 (.q 10 <| .done) (.nil)) (.or 9 (.q 7 <| .q 10 <| .done) (.nil))) (.nil)) (.nil))) (.or 8 (.or 3 (.or 4 (.q 5 <| .q 6 <| .or 7 (.or 9 (.q 10 <| .done) (.nil)) (.or 9 (.q 7 <| .q 10 <| .done) (.nil))) (.nil)) (.nil)) (.nil))) (.or 3 (.q 0 <| .or 4 (.q 5 <| .q 6 <| .or 7 (.or 8 (.or 9 (.q 10 <| .done) (.nil)) (.nil)) (.or 8 (.or 7 (.or 9 (.q 10 <| .done) (.nil)) (.or 9 (.q 7 <| .q 10 <| .done) (.nil))) (.nil))) (.or 8 (.or 4 (.q 5 <| .q 6 <| .or 7 (.or 9 (.q 10 <| .done) (.nil)) (.or 9 (.q 7 <| .q 10 <| .done) (.nil))) (.nil)) (.nil))) (.or 8 (.or 0 (.or 3 (.or 4 (.q 5 <| .q 6 <| .or 7 (.or 9 (.q 10 <| .done) (.nil)) (.or 9 (.q 7 <| .q 10 <| .done) (.nil))) (.nil)) (.nil)) (.or 3 (.q 0 <| .or 4 (.q 5 <| .q 6 <| .or 7 (.or 9 (.q 10 <| .done) (.nil)) (.or 9 (.q 7 <| .q 10 <| .done) (.nil))) (.nil)) (.nil))) (.nil)))) (by kernel_rfl) ?_ ?_
  ·simp [go_sem,K]
   repeat' apply And.intro
   all_goals
    refine vS [0,1] ct ?_
    rintro av mem maps ⟨rfl,rfl,rfl⟩
    simp [go_sem,K]
    repeat' apply And.intro
    all_goals
     refine ZR cg ?_ ?_
     ·simp [go_sem]
      exact ⟨Ym rfl (by omega) fun i c _ h=>ZK _ i c h,Ym rfl (by omega) fun i c _ h=>ZG _ i c h⟩
     rintro av obs ⟨rfl,rfl⟩
     simp [go_sem,K]
     repeat' apply And.intro
     all_goals first
     |exact Ent.trans (Ent.giveIn 4 5 0 rfl (fun i _ c h=>ZG _ i c h) rfl (by decide) (fun _ _=>rfl)) (vE [0,1,4])
     |exact Ent.trans (Ent.giveIn 5 4 0 rfl (fun i _ c h=>ZG _ i c h) rfl (by decide) (fun _ _=>rfl)) (vE [0,1,5])
     |exact Ent.trans (Ent.giveIn 3 5 0 rfl (fun i _ c h=>ZG _ i c h) rfl (by decide) (fun _ _=>rfl)) (vE [0,1,3])
  ·simp [go_sem,K]
   refine ⟨fun hg=>?_,fun hg=>?_⟩
   ·rw [hg]
    exact vF [3] [ZB d.2,tab l,XO [⟨#[97]⟩]] (by simp [go_sem,K];exact ZlB .one)
   ·obtain ⟨rfl,hT,hs⟩:=hgz hg
    have hp:=Z1 G
    have hll:=ZN G []
    simp only [List.length_nil,Nat.zero_add] at hll
    have cm:=QZ (lay G []) (by omega) G hT [] (fun _ _=>rfl) (Nat.le_refl _) d.2 hdr [] (by simp;omega)
    have hms:=Xl G d.2
    have hln:=ZN (ZS G d.2).1 []
    have hp2:=Z1 (ZS G d.2).1
    simp only [List.length_nil,Nat.zero_add] at hln
    have cw:=UH (lay (ZS G d.2).1 []) (by omega) _ (UE G (r:=d.2) hT) [] (fun _ _=>rfl) (Nat.le_refl _)
    have ew:IntKind.i64.wrap (((lay G []).length:Int)-1)=(((lay G []).length-1:Nat):Int):=by rw [wrap_i64 (by omega)];omega
    have ew2:IntKind.i64.wrap (((lay (ZS G d.2).1 []).length:Int)-1)=(((lay (ZS G d.2).1 []).length-1:Nat):Int):=by rw [wrap_i64 (by omega)];omega
    rw [if_pos hg]
    generalize ZS G d.2=M at *
    obtain ⟨e',r'⟩:=M
    simp only at *
    refine ⟨by omega,vS [0,3] cm ?_ (ha:=by simp [go_sem,K,ew])⟩
    rintro av mem maps ⟨rfl,rfl,rfl⟩
    simp [go_sem,K,ew2]
    refine ⟨by omega,ZR cw ?_ ?_⟩
    ·simp [go_sem]
     exact Ym rfl (by omega) fun i c _ h=>ZG _ i c h
    rintro av obs ⟨rfl,rfl⟩
    simp [go_sem,K]
    exact vF [5] [ZB r',tab l,XO (Xf e')]
theorem ZjU {l:List POp} {r:Rd}:0<(JA l r).out.length:=by
  have mono:∀ (i:Nat) (s:LnS),s.out.length≤(Vs l i s).out.length:=fun i=>by
    induction i with
    |zero=>exact fun s=>Nat.le_refl _
    |succ i ih=>
      intro s
      unfold Vs
      split
      · refine Nat.le_trans ?_ (ih _)
        unfold Wf
        repeat' split
        all_goals simp
      · exact Nat.le_refl _
  have h:=mono 3999 (Wf l ⟨[],false,0,r⟩)
  have e:JA l r=Vs l 3999 (Wf l ⟨[],false,0,r⟩):=by
    unfold JA
    rw [Vs,if_pos (by simp [LnS.go])]
  rw [e]
  refine Nat.lt_of_lt_of_le ?_ h
  unfold Wf
  rw [if_pos rfl]
  repeat' split
  all_goals simp
theorem QG {B:Nat} (hB:1≤B):∀ {e:ET},ETx B e→∀ w,w∈Xf e→w.size≤B
  | .leaf b,h,w,hw=>by simp [Xf,Zp] at hw;subst hw;exact h
  | .grp e,h,w,hw=>by
    simp [Xf,Zp,Vj,UW] at hw
    rcases hw with rfl|⟨a,ha,rfl⟩|rfl
    · exact hB
    · exact QG hB (e:=e) h _ (List.mem_map_of_mem ha)
    · exact hB
  | .pre o e,h,w,hw=>by
    simp [Xf,Zp,ZP] at hw
    rcases hw with rfl|⟨a,ha,rfl⟩
    · exact h.1
    · exact QG hB h.2 _ (List.mem_map_of_mem ha)
  | .post o e,h,w,hw=>by
    simp [Xf,Zp,ZP] at hw
    rcases hw with ⟨a,ha,rfl⟩|rfl
    · exact QG hB h.2 _ (List.mem_map_of_mem ha)
    · exact h.1
  | .inf o x y,h,w,hw=>by
    simp [Xf,Zp,ZP] at hw
    rcases hw with ⟨a,ha,rfl⟩|rfl|⟨a,ha,rfl⟩
    · exact QG hB h.2.1 _ (List.mem_map_of_mem ha)
    · exact h.1
    · exact QG hB h.2.2 _ (List.mem_map_of_mem ha)
theorem Zdl {ws:List ByteArray} {B:Nat} (h:∀ w,w∈ws→w.size≤B) (i:Nat):(Wq ws i).size≤B:=by
  unfold Wq
  rw [List.getD_eq_getElem?_getD]
  cases e:ws[i]? with
  |none=>exact Nat.zero_le _
  |some w=>exact h w (List.mem_of_getElem? e)
theorem Zf1:∀ e:ET,0<(Xf e).length
  | .leaf b=>by simp [Xf,Zp]
  | .grp e=>by simp [Xf,Zp]
  | .pre o e=>by simp [Xf,Zp]
  | .post o e=>by simp [Xf,Zp]
  | .inf o x y=>by simp [Xf,Zp];omega
theorem HQ {l:List POp} (hx:∀ o,o∈l→o.text.size≤6) {r:Rd} (hr:r.ok):0<(ZM l r).1.length∧(ZM l r).1.length≤4000∧(∀ i,(Wq (ZM l r).1 i).size≤6)∧(ZM l r).2.ok:=by
  have hn:=Rd.nx_ok hr
  unfold ZM
  split
  · refine ⟨ZjU,?_,ZcO (by omega) (fun i hi=>hx _ (Uj hi)) _ (fun j=>by simp [Wq]),ZhD _ hn⟩
    have h:=Ze6 (l:=l) 4000 (s:=⟨[],false,0,r.nx⟩)
    have h2:(LnS.mk [] false 0 r.nx).mu≤4000:=by have:=hn.1;simp [LnS.mu];omega
    simp only [List.length_nil,Nat.zero_add] at h
    show (Vs l 4000 _).out.length≤4000
    omega
  · have hlen:=Ks l false r.nx
    have htx:VQ 6 (Xa l false r.nx).1:=Zj4 hx _ _ _ (K9 6)
    have hdr:(Xa l false r.nx).2.ok:=ZbF _ _ _ (Rd.nx_ok hn)
    generalize Xa l false r.nx=d at *
    split
    · rename_i hg
      have hh:=hg
      simp only [Yg,Bool.and_eq_true] at hh
      have hb:=WQ hh.1
      have h2:VQ 6 (lay (Xq l d.1) []):=by rw [←hb.2.2.2.1];exact htx
      have hg6:ETx 6 (ZT l d.1):=U6 0 (Qe (Ka _ _ h2).1)
      have hs1:=Xt (ZD (Xq l d.1)) 0
      have hs2:=Xx (Xq l d.1)
      have hs3:ZF (Xq l d.1)=d.1.length:=by
        have:=ZN (Xq l d.1) []
        rw [←hb.2.2.2.1] at this
        simpa using this.symm
      have hs4:=Xl (ZT l d.1) d.2
      have hs5:=VT (ZS (ZT l d.1) d.2).1
      have hs6:ZF (ZT l d.1)=ZF (Zw (ZD (Xq l d.1)) 0):=rfl
      exact ⟨Zf1 _,by simp only;omega,Zdl (QG (by omega) (QR _ hg6)),WJ _ hdr⟩
    · exact ⟨Nat.one_pos,by simp,fun i=>Zdl (fun w hw=>by simp at hw;subst hw;decide) i,hdr⟩
def Ki (z p:ByteArray):Nat→ByteArray
  |0=>z
  |j+1=>Ki z p j++p
theorem WU (z p:ByteArray):∀ j,(Ki z p j).size=z.size+j*p.size
  |0=>by simp [Ki]
  |j+1=>by rw [Ki,ByteArray.size_append,WU z p j,Nat.succ_mul];omega
def ByIs (f:Nat→List AV) (z:ByteArray):Prop:=∀ i,i<z.size→f i=Zt z i
theorem ByIs.rfl {z:ByteArray}:ByIs (Zt z) z:=fun _ _=>_root_.rfl
theorem ByIs.join {n:Nat} {f g:Nat→List AV} {a b:ByteArray} (hf:ByIs f a) (hg:ByIs g b) (hn:n=a.size):ByIs (Z2 n f g) (a++b):=fun i hi=>by
  subst hn
  unfold Z2
  rw [ByteArray.size_append] at hi
  have hb:=Zb2 a b i hi
  by_cases h:i<a.size
  · rw [if_pos h,hf i h,Zt,Zt,hb,if_pos h]
  · rw [if_neg h,hg _ (by omega),Zt,Zt,hb,if_neg h]
theorem Zb3 {g:Nat→Nat} {m n:Nat} {f:Nat→List AV} {z:ByteArray} (h:ByIs f z) (hn:n=z.size):∀ i,i<n→Yf g m (f i) (Zt z i):=fun i hi=>by
  subst hn
  rw [h i hi]
  exact Zk _root_.rfl
theorem ByIs.one (c:UInt8):ByIs (fun i=>[[AV.lit (.int .u8 c.toNat)]][i]?.getD []) ⟨#[c]⟩:=fun i hi=>by
  obtain rfl:i=0:=by have:(⟨#[c]⟩:ByteArray).size=1:=_root_.rfl;omega
  exact _root_.rfl
theorem ZlA {T:List ByteArray} {i:Nat} (z:ByteArray) (hi:i<T.length) (j:Nat) (hj:j<T.length):ZaR T.length (Yj T) i 0 [.lit (.string z)] j=Yj (T.set i z) j:=by
  rw [Uv hi hj]
  unfold Yj Wq
  by_cases e:j=i
  · subst e
    have e2:(T.set j z).getD j ByteArray.empty=z:=by rw [List.getD_eq_getElem?_getD,List.getElem?_set_self hj];rfl
    rw [if_pos rfl,e2]
    rfl
  · rw [if_neg e,List.getD_eq_getElem?_getD,List.getD_eq_getElem?_getD,List.getElem?_set_ne (fun h=>e h.symm)]
def Zg5 (n:Nat):ByteArray:=Ki (Ki ⟨#[]⟩ ⟨#[40]⟩ n++⟨#[97]⟩) ⟨#[41]⟩ n
def VH (l:List POp) (sp:Bool) (r:Rd):ByteArray×Rd:=
  if sp=true∧r.v%8=7 then
    (Kd ((ZM l r.nx).1.set (r.v/8%(ZM l r.nx).1.length) (WD l (ZM l r.nx).2.v (ZM l r.nx).2.nx.v)) { (if Y8 l (ZM l r.nx).2.v then (ZM l r.nx).2.nx.nx else (ZM l r.nx).2.nx) with p:=r.v%5 },
     Uf ((ZM l r.nx).1.set (r.v/8%(ZM l r.nx).1.length) (WD l (ZM l r.nx).2.v (ZM l r.nx).2.nx.v)) { (if Y8 l (ZM l r.nx).2.v then (ZM l r.nx).2.nx.nx else (ZM l r.nx).2.nx) with p:=r.v%5 })
  else if sp=true∧r.v%64=6 then (Zg5 (998+r.v/64),(ZM l r.nx).2)
  else (Kd (ZM l r.nx).1 { (ZM l r.nx).2 with p:=r.v%5 },Uf (ZM l r.nx).1 { (ZM l r.nx).2 with p:=r.v%5 })
set_option maxHeartbeats 4000000 in
set_option maxRecDepth 100000 in
theorem Zd8 (l:List POp) (hl:l.length≤1000) (hk:H0 l) (hw:YT l) (hx:∀ o,o∈l→o.text.size≤6) (sp:Bool) (r:Rd) (hr:r.ok):VProc Tryz.prog 64 [.ptr 0 2 0 0,.agg [.own 1],.lit (.bool sp)] [ZB r,tab l] [] (fun av mem maps=>av=.lit (.string (VH l sp r).1)∧mem=[ZB (VH l sp r).2,tab l]∧maps=[]):=by
  have hn:=Rd.nx_ok hr
  have hv:=Rd.v_lt hr
  have c1:=W7 r hr
  have c2:=Zco l hl hk hw hx r.nx hn
  obtain ⟨hp,hlen,hsz,hq⟩:=HQ (l:=l) hx hn
  unfold VH
  generalize ZM l r.nx=D at *
  obtain ⟨ws,q⟩:=D
  simp only at *
  generalize r.v=k at *
  have e8:(k:Int).tmod 8=((k%8:Nat):Int):=Z6 k 8
  have e64:(k:Int).tmod 64=((k%64:Nat):Int):=Z6 k 64
  have e5:(k:Int).tmod 5=((k%5:Nat):Int):=Z6 k 5
  have h5:k%5<5:=Nat.mod_lt _ (by decide)
  have hne:¬ws=[]:=fun e=>by rw [e] at hp;simp at hp
  have fin:∀ (q:Rd),q.ok→∀ ws:List ByteArray,ws.length≤100000→(∀ i,(Wq ws i).size≤100000)→VProc Tryz.prog 71 [.ptr 0 2 0 0,.own 1] [some ⟨138,2,1,fun _=>[.sl 1 q.n (Yc q.f),.lit (.int .i64 (k%5:Nat))]⟩,XO ws] [] (fun av mem maps=>av=.lit (.string (Kd ws { q with p:=k%5 }))∧mem=[ZB (Uf ws { q with p:=k%5 }),XO ws]∧maps=[]):=fun q hq ws h1 h2=>ZgY ws h1 h2 { q with p:=k%5 } ⟨hq.1,by simp only;omega,hq.2.2⟩
  by_cases h7:sp=true∧k%8=7
  · rw [if_pos h7]
    obtain ⟨rfl,h7⟩:=h7
    have h7':(k:Int)%8=7:=by omega
    have h64':¬(k:Int)%64=6:=by omega
    have c3:=Zd9 l hl q hq
    have ei:(IntKind.i64.wrap ((k:Int)/8)).tmod ws.length=((k/8%ws.length:Nat):Int):=Qm k 8 ws.length (by omega)
    have hi:k/8%ws.length<ws.length:=Nat.mod_lt _ hp
    have hwt:=ZaD (fun i hi=>by have:=hx _ (Uj hi);omega) q.v q.nx.v (l:=l)
    generalize k/8%ws.length=i at *
    refine Zl Tryz.func64 (by kernel_rfl) rfl (by simp [Tryz.ntmps64]) ?_;simp only [Tryz.ntmps64,Tryz.results64];simp [go_sem]
    refine vS [0] c1 ?_
    rintro av mem maps ⟨rfl,rfl,rfl⟩
    simp [go_sem,K]
    refine vS [0,1] c2 ?_
    rintro av mem maps ⟨rfl,rfl,rfl⟩
    simp [go_sem,K,e8,h7',hne,ei]
    refine ⟨by omega,vS [0,1] c3 ?_⟩
    rintro av mem maps ⟨rfl,rfl,rfl⟩
    simp [go_sem,K,e64,h64',e5]
    refine ⟨hi,?_⟩
    have cs:=fin (if Y8 l q.v then q.nx.nx else q.nx) (by by_cases h:Y8 l q.v=true<;>simp only [h]<;>first|exact Rd.nx_ok (Rd.nx_ok hq)|exact Rd.nx_ok hq) (ws.set i (WD l q.v q.nx.v)) (by simp;omega) (fun j=>?_)
    · generalize (if Y8 l q.v=true then q.nx.nx else q.nx)=q' at *
      refine vS [0,3] cs ?_ (hs:=?_)
      · rintro av mem maps ⟨rfl,rfl,rfl⟩
        simp [go_sem,K]
        exact vF [] [ZB (Uf (ws.set i (WD l q.v q.nx.v)) { q' with p:=k%5 }),tab l]
      · simp [go_sem,K]
        intro j hj
        rw [show (fun i=>Yj ws i)=Yj ws from rfl,ZlA _ hi j hj]
        exact Zk (ZaS _ j)
    · have:=hsz j
      unfold Wq at this ⊢
      rw [List.getD_eq_getElem?_getD] at this ⊢
      rw [List.getElem?_set]
      by_cases e:i=j
      · subst e
        rw [if_pos rfl,if_pos hi]
        simp only [Option.getD_some];omega
      · rw [if_neg e];omega
  · rw [if_neg h7]
    by_cases h6:sp=true∧k%64=6
    · rw [if_pos h6]
      obtain ⟨rfl,h6⟩:=h6
      have h7':¬(k:Int)%8=7:=by omega
      have h6':(k:Int)%64=6:=by omega
      refine Zl Tryz.func64 (by kernel_rfl) rfl (by simp [Tryz.ntmps64]) ?_;simp only [Tryz.ntmps64,Tryz.results64];simp [go_sem]
      refine vS [0] c1 ?_
      rintro av mem maps ⟨rfl,rfl,rfl⟩
      simp [go_sem,K]
      refine vS [0,1] c2 ?_
      rintro av mem maps ⟨rfl,rfl,rfl⟩
      have hn64:k/64≤3:=by omega
      have e64q:IntKind.i64.wrap ((k:Int)/64)=((k/64:Nat):Int):=Gu (by omega)
      generalize k/64=m at *
      have e98:IntKind.i64.wrap (998+(m:Int))=((998+m:Nat):Int):=by rw [wrap_i64 (by omega)];omega
      have z1:∀ j,(Ki ⟨#[]⟩ ⟨#[40]⟩ j).size=j:=fun j=>by rw [WU];simp [ByteArray.size]
      have z2:∀ j,(Ki (Ki ⟨#[]⟩ ⟨#[40]⟩ (998+m)++⟨#[97]⟩) ⟨#[41]⟩ j).size=998+m+1+j:=fun j=>by rw [WU,ByteArray.size_append,z1];simp [ByteArray.size]
      simp [go_sem,K,e8,h7',e64,h6']
      refine Y9 (fun j:Nat=>j≤998+m) (fun j=>998+m-j) (fun j=>⟨[(0,.ptr 0 2 0 0),(7,.lit (.int .i64 k)),(10,.own 2),(11,.lit (.int .i64 j))],[ZB q,tab l,some ⟨5,1,j,Zt (Ki ⟨#[]⟩ ⟨#[40]⟩ j)⟩],[],2⟩) ⟨0,by omega,vE [0,1,4]⟩ (fun j hj=>?_)
      have ewj:IntKind.i64.wrap ((j:Int)+1)=((j+1:Nat):Int):=by rw [wrap_i64 (by omega)];omega
      simp [go_sem,K,e64q,e98]
      refine ⟨fun hlt=>⟨by omega,by omega,j+1,by omega,by omega,vE [0,1,4] ?_ (by simp [go_sem,K,ewj])⟩,fun hge=>⟨by omega,by omega,?_⟩⟩
      · simp [go_sem,K]
        exact .inr (Zb3 (ByIs.join .rfl (.one 40) (by rw [z1])) (z1 (j+1)).symm)
      obtain rfl:j=998+m:=by omega
      refine Y9 (fun j:Nat=>j≤998+m) (fun j=>998+m-j) (fun j=>⟨[(0,.ptr 0 2 0 0),(7,.lit (.int .i64 k)),(10,.own 2),(12,.lit (.int .i64 j))],[ZB q,tab l,some ⟨5,1,998+m+1+j,Zt (Ki (Ki ⟨#[]⟩ ⟨#[40]⟩ (998+m)++⟨#[97]⟩) ⟨#[41]⟩ j)⟩],[],2⟩) ⟨0,by omega,vE [0,1,4] ?_⟩ (fun j hj=>?_)
      · simp [go_sem,K]
        exact .inr (Zb3 (ByIs.join .rfl (.one 97) (by rw [z1])) (z2 0).symm)
      have ewj:IntKind.i64.wrap ((j:Int)+1)=((j+1:Nat):Int):=by rw [wrap_i64 (by omega)];omega
      simp [go_sem,K,e64q,e98]
      refine ⟨fun hlt=>⟨by omega,by omega,j+1,by omega,by omega,vE [0,1,4] ?_ (by simp [go_sem,K,ewj])⟩,fun hge=>?_⟩
      · simp [go_sem,K]
        exact .inr ⟨by omega,(Zb3 (ByIs.join .rfl (.one 41) (by rw [z2])) (z2 (j+1)).symm)⟩
      obtain rfl:j=998+m:=by omega
      exact ⟨_,z2 _,fun _ _=>rfl,vF [] [ZB q,tab l] (hR:=by simp [go_sem,K,Zg5])⟩
    · rw [if_neg h6]
      have cs:=fin q hq ws (by omega) (fun i=>by have:=hsz i;omega)
      refine Zl Tryz.func64 (by kernel_rfl) rfl (by simp [Tryz.ntmps64]) ?_;simp only [Tryz.ntmps64,Tryz.results64];simp [go_sem]
      refine vS [0] c1 ?_
      rintro av mem maps ⟨rfl,rfl,rfl⟩
      simp [go_sem,K]
      refine vS [0,1] c2 ?_
      rintro av mem maps ⟨rfl,rfl,rfl⟩
      have hsp:sp=false∨(sp=true∧¬(k:Int)%8=7∧¬(k:Int)%64=6):=by
        cases sp with
        |false=>exact .inl rfl
        |true=>simp at h7 h6;exact .inr ⟨rfl,by omega,by omega⟩
      rcases hsp with hsp|⟨hsp,h7',h6'⟩
      case' inl=>simp [go_sem,K,hsp,e5]
      case' inr=>simp [go_sem,K,hsp,e8,h7',e64,h6',e5]
      all_goals
        refine vS [0,3] cs ?_
        rintro av mem maps ⟨rfl,rfl,rfl⟩
        simp [go_sem,K]
        exact vF [] [ZB (Uf ws { q with p:=k%5 }),tab l]
def ZhB (n:Nat):ByteArray:=Ki ⟨#[]⟩ ⟨#[45,32]⟩ n++⟨#[49]⟩
def ZmD (z:ByteArray) (n:Nat):ByteArray:=Ki z ⟨#[32]⟩ (n-z.size)
def Zgz (k:Nat) (l:List POp) (z:ByteArray×Rd):List POp×ByteArray:=
 if k%32=29 then ([ZdC],ZhB (998+k/32%4)) else if k%32=31 then (Ug l z.2,z.1) else if k%32=30 then (l,ZmD z.1 (19999+k/32%3)) else (l,z.1)
def Ve (N:Nat) (f:Nat→Nat):List POp×ByteArray:=Zgz (WA N f).v (Y4 (WA N f).nx).1 (VH (Y4 (WA N f).nx).1 (decide ((WA N f).v%3=2)) (Y4 (WA N f).nx).2)
theorem ByIs.two (c d:UInt8):ByIs (fun i=>[[AV.lit (.int .u8 c.toNat)],[AV.lit (.int .u8 d.toNat)]][i]?.getD []) ⟨#[c,d]⟩:=fun i hi=>by
 have:(⟨#[c,d]⟩:ByteArray).size=2:=_root_.rfl
 have:i=0∨i=1:=by omega
 rcases this with rfl|rfl<;>exact _root_.rfl
theorem GR {ws:List ByteArray} {B:Nat} (hB:∀ i,(Wq ws i).size≤B) (r:Rd):(Kd ws r).size≤ws.length*(B+2)+4:=by
 have h1:=ZaZ hB r ws.length
 have h2:=Jh (Uw ws r ws.length).2.v
 unfold Kd
 rw [ByteArray.size_append]
 omega
theorem ZaY {ws:List ByteArray} {r:Rd} (h:r.okw):(Uf ws r).okw:=Rd.nx_okw (Zgq h ws ws.length)
theorem G3 {l:List POp} (hx:∀ o,o∈l→o.text.size≤6) {sp:Bool} {r:Rd} (hr:r.ok):(VH l sp r).1.size≤500000∧(VH l sp r).2.okw:=by
 have hn:=Rd.nx_ok hr
 obtain ⟨hp,hlen,hsz,hq⟩:=HQ (l:=l) hx hn
 have h5:r.v%5<5:=Nat.mod_lt _ (by decide)
 have hv:=Rd.v_lt hr
 have okp:∀ q:Rd,q.ok→({ q with p:=r.v%5 }:Rd).okw:=fun q h=>⟨h.1,by simp only;omega,h.2.2⟩
 have mul:∀ n,n≤4000→n*(100+2)≤408000:=fun n h=>by have:=Nat.mul_le_mul_right 102 h;omega
 unfold VH
 split
 ·have hwt:=ZaD (fun i hi=>by have:=hx _ (Uj hi);omega) (ZM l r.nx).2.v (ZM l r.nx).2.nx.v (l:=l)
  have hB:∀ i,(Wq ((ZM l r.nx).1.set (r.v/8%(ZM l r.nx).1.length) (WD l (ZM l r.nx).2.v (ZM l r.nx).2.nx.v)) i).size≤100:=fun i=>by
   refine Zdl (fun w hw=>?_) i
   rcases List.mem_or_eq_of_mem_set hw with h|h
   ·obtain ⟨j,hj,rfl⟩:=List.getElem_of_mem h
    have:=hsz j
    unfold Wq at this
    rw [List.getD_eq_getElem?_getD,List.getElem?_eq_getElem hj] at this
    simp only [Option.getD_some] at this
    omega
   ·rw [h];exact hwt
  refine ⟨?_,ZaY (okp _ ?_)⟩
  ·have:=GR hB { (if Y8 l (ZM l r.nx).2.v then (ZM l r.nx).2.nx.nx else (ZM l r.nx).2.nx) with p:=r.v%5 }
   have:=mul _ hlen
   rw [List.length_set] at *
   show (Kd _ _).size≤500000
   omega
  ·split
   ·exact Rd.nx_ok (Rd.nx_ok hq)
   ·exact Rd.nx_ok hq
 ·split
  ·refine ⟨?_,hq.w⟩
   simp only [Zg5]
   rw [WU,ByteArray.size_append,WU]
   simp [ByteArray.size]
   omega
  ·refine ⟨?_,ZaY (okp _ hq)⟩
   have:=GR hsz { (ZM l r.nx).2 with p:=r.v%5 }
   have:=Nat.mul_le_mul_right 8 hlen
   show (Kd _ _).size≤500000
   omega
theorem ZgR {N:Nat} {f:Nat→Nat} (hf:∀ i,f i<256):(Ve N f).1.length≤501∧YT (Ve N f).1∧(Ve N f).2.size≤600000:=by
 have hr:=Zhu N f hf
 have hn:=Rd.nx_ok hr
 have h1:=G4 (WA N f).nx
 have h2:=G5 (WA N f).nx
 have h3:=ZbO hn
 have h4:=G3 (l:=(Y4 (WA N f).nx).1) (fun o ho=>by have:=h1 o ho;omega) (sp:=decide ((WA N f).v%3=2)) h3
 unfold Ve
 generalize VH (Y4 (WA N f).nx).1 (decide ((WA N f).v%3=2)) (Y4 (WA N f).nx).2=S at *
 generalize Y4 (WA N f).nx=T at *
 have wf:∀ l:List POp,(∀ o,o∈l→o.text.size≤17)→YT l:=fun l h i hi=>by
  have:=h _ (Uj hi)
  show (Zm l i).wf
  simp only [POp.wf,maxLen];omega
 unfold Zgz
 split
 ·refine ⟨by simp,wf _ fun o ho=>by simp at ho;subst ho;decide,?_⟩
  simp only [ZhB]
  rw [ByteArray.size_append,WU]
  simp [ByteArray.size]
  omega
 ·split
  ·exact ⟨Zdr h2 _,wf _ (Zdq h1 _),by simp only;omega⟩
  ·split
   ·refine ⟨by simp only;omega,wf _ fun o ho=>by have:=h1 o ho;omega,?_⟩
    simp only [ZmD]
    rw [WU,show (⟨#[32]⟩:ByteArray).size=1 from rfl]
    omega
   ·exact ⟨by simp only;omega,wf _ fun o ho=>by have:=h1 o ho;omega,by simp only;omega⟩
set_option maxHeartbeats 4000000 in
set_option maxRecDepth 100000 in
theorem ZfG (N:Nat) (f:Nat→Nat) (hN:N≤9223372036854775807) (hf:∀ i,f i<256):VFun Tryz.prog 30 [.sl 1 N (Yc f)] (fun av obs=>av=.tup [.agg [.own 0],.lit (.string (Ve N f).2)]∧obs=[⟨133,4,(Ve N f).1.length,Zg (Ve N f).1⟩]):=by
 have c0:=Zko N f hN
 have hr:=Zhu N f hf
 have hn:=Rd.nx_ok hr
 have hv:=Rd.v_lt hr
 have c1:=W7 (WA N f) hr
 have c2:=Zcp (WA N f).nx hn
 have h1:=G4 (WA N f).nx
 have h2:=G5 (WA N f).nx
 have h3:=ZbO hn
 have h0:=Zfk (WA N f).nx
 have hx:∀ o,o∈(Y4 (WA N f).nx).1→o.text.size≤6:=fun o ho=>by have:=h1 o ho;omega
 have hw:YT (Y4 (WA N f).nx).1:=fun i hi=>by have:=hx _ (Uj hi);show (Zm _ i).wf;simp only [POp.wf,maxLen];omega
 have h4:=G3 hx (sp:=decide ((WA N f).v%3=2)) h3
 have c3:=Zd8 (Y4 (WA N f).nx).1 (by omega) (ZjY h0) hw hx (decide ((WA N f).v%3=2)) (Y4 (WA N f).nx).2 h3
 unfold Ve
 generalize VH (Y4 (WA N f).nx).1 (decide ((WA N f).v%3=2)) (Y4 (WA N f).nx).2=S at *
 generalize Y4 (WA N f).nx=T at *
 generalize WA N f=r at *
 generalize r.v=k at *
 obtain ⟨z,q⟩:=S
 have c4:=Zao T.1 (by omega) (fun i hi=>by have:=hx _ (Uj hi);omega) q h4.2
 have e3:((k:Int).tmod 3==2)=decide (k%3=2):=by
  rw [show (k:Int).tmod 3=((k%3:Nat):Int) from Z6 k 3,Bool.eq_iff_iff];simp;omega
 have e32:(k:Int).tmod 32=((k%32:Nat):Int):=Z6 k 32
 have hk32:IntKind.i64.wrap ((k:Int)/32)=((k/32:Nat):Int):=Gu (by omega)
 unfold Zgz
 refine Zi Tryz.func30 (by kernel_rfl) rfl (by simp [Tryz.ntmps30]) ?_;simp only [Tryz.ntmps30,Tryz.results30];simp [go_sem]
 refine vS [] c0 ?_
 rintro av mem maps ⟨rfl,rfl,rfl⟩
 simp [go_sem,K]
 refine vS [1] c1 ?_
 rintro av mem maps ⟨rfl,rfl,rfl⟩
 simp [go_sem,K]
 refine vS [1] c2 ?_
 rintro av mem maps ⟨rfl,rfl,rfl⟩
 simp [go_sem,K,e3]
 refine vS [1,2] c3 ?_
 rintro av mem maps ⟨rfl,rfl,rfl⟩
 by_cases h31:k%32=31
 ·rw [if_neg (by omega),if_pos h31]
  have a31:(k:Int)%32=31:=by omega
  simp [go_sem,K,e32,a31]
  refine vS [1,2] c4 ?_
  rintro av mem maps ⟨rfl,⟨_,rfl,rfl⟩|⟨_,rfl,rfl⟩⟩
  all_goals
   simp [go_sem,K,e32,a31]
   exact ⟨⟨rfl,rfl,rfl,fun _ _=>⟨rfl,XV _ _⟩⟩,trivial⟩
 ·have a31:¬(k:Int)%32=31:=by omega
  by_cases h29:k%32=29
  ·rw [if_pos h29]
   have a29:(k:Int)%32=29:=by omega
   have hm:k/32%4<4:=Nat.mod_lt _ (by decide)
   have em:(IntKind.i64.wrap ((k:Int)/32)).tmod 4=((k/32%4:Nat):Int):=Qm k 32 4 (by omega)
   generalize k/32%4=m at *
   have w1:IntKind.i64.wrap (1000+(m:Int))=1000+(m:Int):=wrap_i64 (by omega)
   have w2:IntKind.i64.wrap (1000+(m:Int)-2)=((998+m:Nat):Int):=by rw [wrap_i64 (by omega)];omega
   have z1:∀ j,(Ki ⟨#[]⟩ ⟨#[45,32]⟩ j).size=j*2:=fun j=>by rw [WU];simp [ByteArray.size]
   simp [go_sem,K,e32,a29,em,w1,w2]
   refine Y9 (fun j:Nat=>j≤998+m) (fun j=>998+m-j) (fun j=>⟨[(2,.ptr 0 1 0 0),(8,.own 1),(9,.lit (.int .i64 (998+m:Nat))),(10,.lit (.int .i64 j))],[some ⟨30,1,1,fun _=>[.lit (.slice none 0 0)]⟩,some ⟨5,1,j*2,Zt (Ki ⟨#[]⟩ ⟨#[45,32]⟩ j)⟩],[],0⟩) ⟨0,by omega,vE [0,4]⟩ (fun j hj=>?_)
   have ewj:IntKind.i64.wrap ((j:Int)+1)=((j+1:Nat):Int):=by rw [wrap_i64 (by omega)];omega
   simp [go_sem,K]
   refine ⟨fun hlt=>⟨fun i hi x hx=>by rcases (by omega:i=0∨i=1) with rfl|rfl<;>simp at hx<;>subst hx<;>rfl,by omega,by omega,j+1,by omega,by omega,vE [0,3] ?_ (by simp [go_sem,K,ewj])⟩,fun hge=>?_⟩
   ·simp [go_sem,K]
    exact .inr ⟨by omega,Zb3 (ByIs.join .rfl (.two 45 32) (by rw [z1])) (z1 (j+1)).symm⟩
   obtain rfl:j=998+m:=by omega
   refine Zq [3,5] (.q 1 <| .or 0 (.or 2 (.or 3 (.or 4 (.or 5 (.q 6 <| .done) (.nil)) (.or 5 (.q 4 <| .q 6 <| .done) (.nil))) (.nil)) (.nil)) (.or 2 (.or 0 (.or 3 (.or 4 (.or 5 (.q 6 <| .done) (.nil)) (.or 5 (.q 4 <| .q 6 <| .done) (.nil))) (.nil)) (.nil)) (.nil))) (by kernel_rfl) ?_
   simp [go_sem,K]
   repeat' apply And.intro
   all_goals
    refine Xv ZiF ?_ ?_
    ·trivial
    rintro av obs ⟨rfl,rfl⟩
    simp [go_sem,K]
    exact ⟨by omega,by omega,ZhB (998+m),by rw [ZhB,ByteArray.size_append,z1];rfl,fun i hi=>ByIs.join .rfl (.one 49) (by rw [z1]) i (by rw [ByteArray.size_append,z1];exact hi),⟨⟨rfl,rfl,rfl,fun _ _=>⟨rfl,XV _ _⟩⟩,trivial⟩,rfl⟩
  ·rw [if_neg h29,if_neg h31]
   have a29:¬(k:Int)%32=29:=by omega
   by_cases h30:k%32=30
   ·rw [if_pos h30]
    have a30:(k:Int)%32=30:=by omega
    have hm:k/32%3<3:=Nat.mod_lt _ (by decide)
    have em:(IntKind.i64.wrap ((k:Int)/32)).tmod 3=((k/32%3:Nat):Int):=Qm k 32 3 (by omega)
    generalize k/32%3=m at *
    have w1:IntKind.i64.wrap (20000+(m:Int))=20000+(m:Int):=wrap_i64 (by omega)
    have w2:IntKind.i64.wrap (20000+(m:Int)-1)=((19999+m:Nat):Int):=by rw [wrap_i64 (by omega)];omega
    have z1:∀ j,(Ki z ⟨#[32]⟩ j).size=z.size+j:=fun j=>by rw [WU,show (⟨#[32]⟩:ByteArray).size=1 from rfl];omega
    have hz:z.size≤500000:=h4.1
    simp [go_sem,K,e32,a30,em,w1,w2]
    refine ⟨by omega,?_⟩
    refine Y9 (fun j:Nat=>Zny z.size m j) (fun j=>19999+m-(z.size+j)) (fun j=>⟨[(2,.ptr 0 1 0 0),(5,.lit (.int .i64 k)),(6,.ptr 2 1 0 0),(11,.own 3)],[some ⟨30,1,1,fun _=>[.lit (.slice none 0 0)]⟩,tab T.1,some ⟨30,1,1,fun _=>[.own 1]⟩,some ⟨5+Xw,1,z.size+j,Zt (Ki z ⟨#[32]⟩ j)⟩],[],0⟩) ⟨0,.inl rfl,vE [0,2,3,4] (by simp [go_sem,K,Ki];exact .inr fun i _=>Zk rfl)⟩ (fun j hj=>?_)
    have hj':j=0∨z.size+j≤19999+m:=hj
    simp [go_sem,K,em,w1,w2]
    refine ⟨by omega,fun hlt=>⟨by omega,by omega,j+1,.inr (by omega),by omega,vE [0,1,2,5] ?_⟩,fun hge=>?_⟩
    ·simp [go_sem,K]
     exact .inr ⟨by omega,Zb3 (ByIs.join .rfl (.one 32) (by rw [z1])) (z1 (j+1)).symm⟩
    have hje:j=19999+m-z.size:=by omega
    refine Zq [3] (.q 0 <| .or 1 (.or 2 (.or 3 (.q 4 <| .done) (.nil)) (.or 3 (.q 2 <| .q 4 <| .done) (.nil))) (.or 3 (.q 1 <| .q 2 <| .q 4 <| .done) (.nil))) (by kernel_rfl) ?_
    simp [go_sem,K]
    exact ⟨_,z1 j,fun _ _=>rfl,⟨⟨rfl,rfl,rfl,fun _ _=>⟨rfl,XV _ _⟩⟩,trivial⟩,by rw [hje];rfl⟩
   ·rw [if_neg h30]
    have a30:¬(k:Int)%32=30:=by omega
    simp [go_sem,K,e32,a31,a29,a30]
    exact ⟨⟨rfl,rfl,rfl,fun _ _=>⟨rfl,XV _ _⟩⟩,trivial⟩
end Go.Proofs.YtjdmmhcogmepaaaGreatDoor.V
namespace Go.Proofs.YtjdmmhcogmepaaaGreatDoor.V
open Go.RowKit
open Go.Proofs.YtjdmmhcogmepaaaGreatDoor.Ops (Tr Tk Lv Res Fit)
theorem Qr (l:List POp) (hl:l.length≤9223372036854775807) (hu:WB l) (t:List PTok) (ht:t.length≤1048576) (rs:List Int) (hrs:rs.length=t.length) (a b:Nat) (s:List TkP) (hab:a+s.length=b) (hb:b≤t.length) (hs:YW l t rs a s) (k:Nat) (o:POp) (er:Ops.root lvO s 0 0 none=some (k,o)) (tk:TkP) (hk:s[k]?=some tk) (htk:tk=.inf o∨(tk=.post o∧k+1=s.length)) (out:List PNode) (ho:out.length≤2000000)
  (ih:VProc Tryz.prog 70 [.agg [.sl 4 l.length (Zg l)],.sl 3 t.length (Zr t),.sl 1 rs.length (ZA rs),.lit (.int .i64 a),.lit (.int .i64 (a+k:Nat)),.own 0] [Zb out] [] (Xn k out none)) :
  VProc Tryz.prog 70 [.agg [.sl 4 l.length (Zg l)],.sl 3 t.length (Zr t),.sl 1 rs.length (ZA rs),.lit (.int .i64 a),.lit (.int .i64 b),.own 0] [Zb out] [] (Xn s.length out none):=by
 have cl:∀ (i:Nat) (c:AV),i<l.length→c∈Zg l i→Closed c:=fun i c _ h=>ZK l i c h
 have clt:∀ (i:Nat) (c:AV),i<t.length→c∈Zr t i→Closed c:=fun i c _ h=>Zs t i c h
 have cli:∀ (i:Nat) (c:AV),i<rs.length→c∈ZA rs i→Closed c:=fun i c _ h=>Yp rs i c h
 have cr:=VI l hl hu t ht rs hrs a b s hab hb hs
 rw [er] at cr
 have eb:Ul a (some (k,o))=((a+k:Nat):Int):=rfl
 rw [eb] at cr
 have hlt:=(List.getElem?_eq_some_iff.1 hk).1
 obtain ⟨_,hr⟩:=UV hs hk
 have hp:a+k<t.length:=by omega
 obtain ⟨p,hp'⟩:∃ p,a+k=p:=⟨_,rfl⟩
 rw [hp'] at cr hr hp ih
 have hp0:¬((p:Int)<0):=by omega
 have hp2:p<rs.length:=by omega
 have w4:IntKind.i64.wrap 4=4:=by decide
 have w5:IntKind.i64.wrap 5=5:=by decide
 have wb:IntKind.i64.wrap ((b:Int)-1)=(b:Int)-1:=wrap_i64 (by omega)
 refine Zl Tryz.func70 (by kernel_rfl) rfl (by simp [Tryz.ntmps70]) ?_;simp only [Tryz.ntmps70,Tryz.results70];simp [go_sem]
 refine Zc cr ?_ ?_
 ·simp [go_sem]
  exact ⟨Ze (by omega) cl,Ze (by omega) clt,Ze (by omega) cli⟩
 ·simp [go_sem,hp0]
  refine Zq [12] (.q 0 <| .q 1 <| .q 2 <| .q 3 <| .q 4 <| .q 5 <| .q 6 <| .q 7 <| .q 8 <| .q 9 <| .q 10 <| .or 11 (.or 12 (.done) (.nil)) (.nil)) (by kernel_rfl) ?_
  rcases htk with rfl|⟨rfl,hke⟩
  ·simp only [XG] at hr
   simp [go_sem,Zo,Z7,hp,hp2,hr,w4,Zb]
   refine Zd [0] ih (by simp) ?_ ?_ trivial ?_
   ·simp [go_sem]
    exact ⟨cl,clt,cli⟩
   ·simp [go_sem,Zb]
    exact fun i _=>Zk (Z5 _ i)
   ·rintro av mem maps ⟨T,hT,hB⟩
    rcases hB with ⟨rfl,rfl,rfl⟩|⟨rfl,rfl,rfl⟩
    ·simp [go_sem,Zb]
     refine ⟨rfl,[3],[none,Zb T],by simp,by simp [go_sem],by simp [go_sem],?_,by simp [go_sem],?_⟩
     ·simp [go_sem,Zb]
      exact Xy rfl fun j _=>rfl
     ·simp [go_sem]
      exact ⟨T,by omega,.inl ⟨rfl,rfl,rfl⟩⟩
    ·simp [go_sem,Zb]
     refine ⟨rfl,[],[Zb T],by simp,by simp [go_sem],by simp [go_sem],?_,by simp [go_sem],?_⟩
     ·simp [go_sem,Zb]
      exact Xy rfl fun j _=>rfl
     ·simp [go_sem]
      exact ⟨T,by omega,.inr ⟨rfl,rfl,rfl⟩⟩
  ·simp only [XG] at hr
   have hpb:IntKind.i64.wrap ((b:Int)-1)=(p:Int):=by rw [wb];omega
   simp [go_sem,Zo,Z7,hp,hp2,hr,w5,hpb,Zb]
   refine Zd [0] ih (by simp) ?_ ?_ trivial ?_
   ·simp [go_sem]
    exact ⟨cl,clt,cli⟩
   ·simp [go_sem,Zb]
    exact fun i _=>Zk (Z5 _ i)
   ·rintro av mem maps ⟨T,hT,hB⟩
    rcases hB with ⟨rfl,rfl,rfl⟩|⟨rfl,rfl,rfl⟩
    ·simp [go_sem,Zb]
     refine ⟨rfl,[3],[none,Zb T],by simp,by simp [go_sem],by simp [go_sem],?_,by simp [go_sem],?_⟩
     ·simp [go_sem,Zb]
      exact Xy rfl fun j _=>rfl
     ·simp [go_sem]
      exact ⟨T,by omega,.inl ⟨rfl,rfl,rfl⟩⟩
    ·simp [go_sem,Zb]
     refine ⟨rfl,[],[Zb T],by simp,by simp [go_sem],by simp [go_sem],?_,by simp [go_sem],?_⟩
     ·simp [go_sem,Zb]
      exact Xy rfl fun j _=>rfl
     ·simp [go_sem]
      exact ⟨T,by omega,.inr ⟨rfl,rfl,rfl⟩⟩
theorem HK {l:List POp} (hu:WB l) (e:PT) (out:List PNode) (h1:YQ e) (h2:e.All lvO (InL l)) (h3:Xe e) (h:ZO (Za (lay e out) ((lay e out).length-1))=true):ZQ l (Za (lay e out) ((lay e out).length-1)).text ((Za (lay e out) ((lay e out).length-1)).kind-2)=true:=by
 have one:∀ {o:POp},InL l o→ZQ l o.text (o.kind+2-2)=true:=fun {o} hj=>by
  rw [show o.kind+2-2=o.kind by omega]
  exact (Y5 hu rfl hj).1
 cases e with
 |leaf b=>
  simp only [lay,Wo] at h
  have h1':b.1=1∨b.1=2:=h1
  simp [ZO] at h;omega
 |grp e=>simp only [lay,Wo] at h;simp [ZO] at h
 |pre o e=>simp only [lay,Wo];exact one h2.1
 |post o e=>simp only [lay,Wo];exact one h2.1
 |inf o x y=>simp only [lay,Wo];exact one h2.1
theorem Ha {mem:List (Option Ob)} {k sz n N ty:Nat} {f f':Nat→List AV} (hk:mem[k]?=some (some ⟨ty,sz,N,f⟩)) (hsz:0<sz) (hn:N=n) (h:∀ i,i<n→f i=f' i) (hc:∀ (i:Nat) c,i<n→c∈f' i→Closed c):Zaf mem (.own k) sz n f':=
 ⟨hsz,f,by simp [Yw,hk,hn],fun i hi=>⟨h i hi,fun c hc'=>hc i c hi hc'⟩⟩
theorem GA (l:List POp) (hl:l.length≤9223372036854775807) (hu:WB l) (t:List PTok) (ht:t.length≤1048576) (rs:List Int) (hrs:rs.length=t.length) (a b:Nat) (s:List TkP) (hab:a+s.length=b) (hb:b≤t.length) (hs:YW l t rs a s) (o:POp) (er:Ops.root lvO s 0 0 none=some (0,o)) (hk:s[0]?=some (.pre o)) (hw:YT l) (hj:InL l o) (hok:Yx o=true) (hk1:o.kind=1) (e:PT) (h1:YQ e) (h2:e.All lvO (InL l)) (h3:Xe e) (out:List PNode) (ho:out.length≤2000000) (hle:(lay e out).length≤3000000) (hsz:(lay e out).length≤out.length+(s.length-1))
  (ih:VProc Tryz.prog 70 [.agg [.sl 4 l.length (Zg l)],.sl 3 t.length (Zr t),.sl 1 rs.length (ZA rs),.lit (.int .i64 (a+1:Nat)),.lit (.int .i64 b),.own 0] [Zb out] [] (Xn (s.length-1) out (some e))) :
  VProc Tryz.prog 70 [.agg [.sl 4 l.length (Zg l)],.sl 3 t.length (Zr t),.sl 1 rs.length (ZA rs),.lit (.int .i64 a),.lit (.int .i64 b),.own 0] [Zb out] [] (Xn s.length out (if (lvO o).h2≤e.level lvO then some (.pre o e) else none)):=by
 have cl:∀ (i:Nat) (c:AV),i<l.length→c∈Zg l i→Closed c:=fun i c _ h=>ZK l i c h
 have clt:∀ (i:Nat) (c:AV),i<t.length→c∈Zr t i→Closed c:=fun i c _ h=>Zs t i c h
 have cli:∀ (i:Nat) (c:AV),i<rs.length→c∈ZA rs i→Closed c:=fun i c _ h=>Yp rs i c h
 have cr:=VI l hl hu t ht rs hrs a b s hab hb hs
 rw [er] at cr
 have eb:Ul a (some (0,o))=(a:Int):=by simp [Ul]
 rw [eb] at cr
 have hlt:=(List.getElem?_eq_some_iff.1 hk).1
 obtain ⟨hTk,hr⟩:=UV hs hk
 have htx:o.text=(Zj t a).text:=hTk.2.1
 simp only [Nat.add_zero,XG] at hr
 have hp:a<t.length:=by omega
 have hp0:¬((a:Int)<0):=by omega
 have hp2:a<rs.length:=by omega
 have w:IntKind.i64.wrap 3=3:=by decide
 have ew1:IntKind.i64.wrap ((a:Int)+1)=((a+1:Nat):Int):=Zn (by omega)
 refine Zl Tryz.func70 (by kernel_rfl) rfl (by simp [Tryz.ntmps70]) ?_;simp only [Tryz.ntmps70,Tryz.results70];simp [go_sem]
 refine Zc cr ?_ ?_
 ·simp [go_sem]
  exact ⟨Ze (by omega) cl,Ze (by omega) clt,Ze (by omega) cli⟩
 ·simp [go_sem,hp0]
  refine Zq [12] (.q 0 <| .q 1 <| .q 2 <| .q 3 <| .q 4 <| .q 5 <| .q 6 <| .q 7 <| .q 8 <| .q 9 <| .q 10 <| .or 11 (.or 12 (.done) (.nil)) (.nil)) (by kernel_rfl) ?_
  simp [go_sem,Zo,Z7,hp,hp2,hr,w,ew1,Zb]
  refine Zd [0] ih (by simp) ?_ ?_ trivial ?_
  ·simp [go_sem]
   exact ⟨cl,clt,cli⟩
  ·simp [go_sem,Zb]
   exact fun i _=>Zk (Z5 _ i)
  ·rintro av mem maps ⟨rfl,rfl,rfl⟩
   have hg:=Z9 e out
   have ew:IntKind.i64.wrap (((lay e out).length:Int)-1)=((lay e out).length:Int)-1:=wrap_i64 (by omega)
   simp [go_sem,Zb,ew]
   have ew0:IntKind.i64.wrap ((lay e out).length:Int)=(lay e out).length:=wrap_i64 (by omega)
   obtain ⟨T2,hT2⟩:∃ T2,T2=lay e out++[(⟨o.text,3,((lay e out).length:Int)-1,0⟩:PNode)]:=⟨_,rfl⟩
   have hl2:T2.length=(lay e out).length+1:=by rw [hT2];simp
   have hn:Za T2 (lay e out).length=⟨o.text,3,((lay e out).length:Int)-1,0⟩:=by rw [hT2];exact Vr
   have hf:Qo l T2 (lay e out).length=decide ((lvO o).h2≤e.level lvO):=by rw [hT2];exact Zj9 hu hj hok hk1 e out h1 h2 h3
   have cf:=ZbY l hl hw T2 (by omega) (lay e out).length (by omega) (fun _=>by
    rw [hn]
    have ha:(((lay e out).length:Int)-1).toNat=(lay e out).length-1:=by omega
    simp only [ha]
    rw [show Za T2 ((lay e out).length-1)=Za (lay e out) ((lay e out).length-1) by rw [hT2];exact YV (by omega)]
    refine ⟨by have:=(Y5 hu (z:=o.text) rfl hj).1;rw [hk1] at this;exact this,by omega,HK hu e out h1 h2 h3,fun hh=>absurd rfl hh⟩)
   rw [hf] at cf
   rw [ew0]
   refine ⟨by omega,by omega,by omega,by omega,Zc cf ?_ ?_⟩
   ·simp [go_sem]
    exact ⟨Ze (by omega) cl,Ha (k:=5) rfl (by omega) hl2.symm (fun i hi=>by rw [hT2,htx];exact Yk (lay e out) ⟨(Zj t a).text,3,((lay e out).length:Int)-1,0⟩ i (by omega)) (fun i c _ h=>ZG T2 i c h)⟩
   ·simp [go_sem]
    by_cases hc:(lvO o).h2≤e.level lvO
    ·simp only [if_pos hc,hc,decide_true,if_true]
     refine ⟨rfl,[5],[none,Zb (lay (.pre o e) out)],by simp,by simp [go_sem],by simp [go_sem],?_,by simp [go_sem],?_⟩
     ·simp [go_sem,Zb]
      refine Yo (o:=⟨(Zj t a).text,3,((lay e out).length:Int)-1,0⟩) (by rw [←htx];simp [lay,hk1]) fun j hj=>?_
      exact Yk (lay e out) ⟨(Zj t a).text,3,((lay e out).length:Int)-1,0⟩ j hj
     ·simp [go_sem,Xn,Zb]
    ·simp only [if_neg hc,hc,decide_false]
     refine ⟨rfl,[5],[none,Zb T2],by simp,by simp [go_sem],by simp [go_sem],?_,by simp [go_sem],?_⟩
     ·simp [go_sem,Zb]
      refine Yo (o:=⟨(Zj t a).text,3,((lay e out).length:Int)-1,0⟩) (by rw [←htx];exact hT2) fun j hj=>?_
      exact Yk (lay e out) ⟨(Zj t a).text,3,((lay e out).length:Int)-1,0⟩ j hj
     ·simp [go_sem]
      exact ⟨T2,by omega,.inl ⟨rfl,rfl,rfl⟩⟩
theorem HU (l:List POp) (hl:l.length≤9223372036854775807) (hu:WB l) (t:List PTok) (ht:t.length≤1048576) (rs:List Int) (hrs:rs.length=t.length) (a b:Nat) (s:List TkP) (hab:a+s.length=b) (hb:b≤t.length) (hs:YW l t rs a s) (k:Nat) (o:POp) (er:Ops.root lvO s 0 0 none=some (k,o)) (hk:s[k]?=some (.post o)) (hke:k+1=s.length) (hw:YT l) (hj:InL l o) (hok:Yx o=true) (hk1:o.kind=3) (e:PT) (h1:YQ e) (h2:e.All lvO (InL l)) (h3:Xe e) (out:List PNode) (ho:out.length≤2000000) (hle:(lay e out).length≤3000000) (hsz:(lay e out).length≤out.length+(s.length-1))
  (ih:VProc Tryz.prog 70 [.agg [.sl 4 l.length (Zg l)],.sl 3 t.length (Zr t),.sl 1 rs.length (ZA rs),.lit (.int .i64 a),.lit (.int .i64 (a+k:Nat)),.own 0] [Zb out] [] (Xn k out (some e))) :
  VProc Tryz.prog 70 [.agg [.sl 4 l.length (Zg l)],.sl 3 t.length (Zr t),.sl 1 rs.length (ZA rs),.lit (.int .i64 a),.lit (.int .i64 b),.own 0] [Zb out] [] (Xn s.length out (if (lvO o).h1≤e.level lvO then some (.post o e) else none)):=by
 have cl:∀ (i:Nat) (c:AV),i<l.length→c∈Zg l i→Closed c:=fun i c _ h=>ZK l i c h
 have clt:∀ (i:Nat) (c:AV),i<t.length→c∈Zr t i→Closed c:=fun i c _ h=>Zs t i c h
 have cli:∀ (i:Nat) (c:AV),i<rs.length→c∈ZA rs i→Closed c:=fun i c _ h=>Yp rs i c h
 have cr:=VI l hl hu t ht rs hrs a b s hab hb hs
 rw [er] at cr
 have eb:Ul a (some (k,o))=((a+k:Nat):Int):=rfl
 rw [eb] at cr
 have hlt:=(List.getElem?_eq_some_iff.1 hk).1
 obtain ⟨hTk,hr⟩:=UV hs hk
 simp only [XG] at hr
 have hp:a+k<t.length:=by omega
 obtain ⟨p,hp'⟩:∃ p,a+k=p:=⟨_,rfl⟩
 rw [hp'] at cr hr hp ih hTk
 have htx:o.text=(Zj t p).text:=hTk.2.1
 have hp0:¬((p:Int)<0):=by omega
 have hp2:p<rs.length:=by omega
 have w5:IntKind.i64.wrap 5=5:=by decide
 have hpb:IntKind.i64.wrap ((b:Int)-1)=(p:Int):=by rw [wrap_i64 (by omega)];omega
 refine Zl Tryz.func70 (by kernel_rfl) rfl (by simp [Tryz.ntmps70]) ?_;simp only [Tryz.ntmps70,Tryz.results70];simp [go_sem]
 refine Zc cr ?_ ?_
 ·simp [go_sem]
  exact ⟨Ze (by omega) cl,Ze (by omega) clt,Ze (by omega) cli⟩
 ·simp [go_sem,hp0]
  refine Zq [12] (.q 0 <| .q 1 <| .q 2 <| .q 3 <| .q 4 <| .q 5 <| .q 6 <| .q 7 <| .q 8 <| .q 9 <| .q 10 <| .or 11 (.or 12 (.done) (.nil)) (.nil)) (by kernel_rfl) ?_
  simp [go_sem,Zo,Z7,hp,hp2,hr,w5,hpb,Zb]
  refine Zd [0] ih (by simp) ?_ ?_ trivial ?_
  ·simp [go_sem]
   exact ⟨cl,clt,cli⟩
  ·simp [go_sem,Zb]
   exact fun i _=>Zk (Z5 _ i)
  ·rintro av mem maps ⟨rfl,rfl,rfl⟩
   have hg:=Z9 e out
   have ew:IntKind.i64.wrap (((lay e out).length:Int)-1)=((lay e out).length:Int)-1:=wrap_i64 (by omega)
   simp [go_sem,Zb,ew]
   have ew0:IntKind.i64.wrap ((lay e out).length:Int)=(lay e out).length:=wrap_i64 (by omega)
   obtain ⟨T2,hT2⟩:∃ T2,T2=lay e out++[(⟨o.text,5,((lay e out).length:Int)-1,0⟩:PNode)]:=⟨_,rfl⟩
   have hl2:T2.length=(lay e out).length+1:=by rw [hT2];simp
   have hn:Za T2 (lay e out).length=⟨o.text,5,((lay e out).length:Int)-1,0⟩:=by rw [hT2];exact Vr
   have hf:Qo l T2 (lay e out).length=decide ((lvO o).h1≤e.level lvO):=by rw [hT2];exact Ziu hu hj hok hk1 e out h1 h2 h3
   have cf:=ZbY l hl hw T2 (by omega) (lay e out).length (by omega) (fun _=>by
    rw [hn]
    have ha:(((lay e out).length:Int)-1).toNat=(lay e out).length-1:=by omega
    simp only [ha]
    rw [show Za T2 ((lay e out).length-1)=Za (lay e out) ((lay e out).length-1) by rw [hT2];exact YV (by omega)]
    refine ⟨by have:=(Y5 hu (z:=o.text) rfl hj).1;rw [hk1] at this;exact this,by omega,HK hu e out h1 h2 h3,fun hh=>absurd rfl hh⟩)
   rw [hf] at cf
   rw [ew0]
   refine ⟨by omega,by omega,by omega,by omega,Zc cf ?_ ?_⟩
   ·simp [go_sem]
    exact ⟨Ze (by omega) cl,Ha (k:=5) rfl (by omega) hl2.symm (fun i hi=>by rw [hT2,htx];exact Yk (lay e out) ⟨(Zj t p).text,5,((lay e out).length:Int)-1,0⟩ i (by omega)) (fun i c _ h=>ZG T2 i c h)⟩
   ·simp [go_sem]
    by_cases hc:(lvO o).h1≤e.level lvO
    ·simp only [if_pos hc,hc,decide_true,if_true]
     refine ⟨rfl,[5],[none,Zb (lay (.post o e) out)],by simp,by simp [go_sem],by simp [go_sem],?_,by simp [go_sem],?_⟩
     ·simp [go_sem,Zb]
      refine Yo (o:=⟨(Zj t p).text,5,((lay e out).length:Int)-1,0⟩) (by rw [←htx];simp [lay,hk1]) fun j hj=>?_
      exact Yk (lay e out) ⟨(Zj t p).text,5,((lay e out).length:Int)-1,0⟩ j hj
     ·simp [go_sem,Xn,Zb]
    ·simp only [if_neg hc,hc,decide_false]
     refine ⟨rfl,[5],[none,Zb T2],by simp,by simp [go_sem],by simp [go_sem],?_,by simp [go_sem],?_⟩
     ·simp [go_sem,Zb]
      refine Yo (o:=⟨(Zj t p).text,5,((lay e out).length:Int)-1,0⟩) (by rw [←htx];exact hT2) fun j hj=>?_
      exact Yk (lay e out) ⟨(Zj t p).text,5,((lay e out).length:Int)-1,0⟩ j hj
     ·simp [go_sem]
      exact ⟨T2,by omega,.inl ⟨rfl,rfl,rfl⟩⟩
theorem GD (l:List POp) (hl:l.length≤9223372036854775807) (hu:WB l) (t:List PTok) (ht:t.length≤1048576) (rs:List Int) (hrs:rs.length=t.length) (a b:Nat) (s:List TkP) (hab:a+s.length=b) (hb:b≤t.length) (hs:YW l t rs a s) (k:Nat) (o:POp) (er:Ops.root lvO s 0 0 none=some (k,o)) (hk:s[k]?=some (.inf o)) (hw:YT l) (hj:InL l o) (e:PT) (out:List PNode) (ho:out.length≤2000000) (hle:(lay e out).length≤3000000) (hsz:(lay e out).length≤out.length+k)
  (ih:VProc Tryz.prog 70 [.agg [.sl 4 l.length (Zg l)],.sl 3 t.length (Zr t),.sl 1 rs.length (ZA rs),.lit (.int .i64 a),.lit (.int .i64 (a+k:Nat)),.own 0] [Zb out] [] (Xn k out (some e)))
  (ih2:VProc Tryz.prog 70 [.agg [.sl 4 l.length (Zg l)],.sl 3 t.length (Zr t),.sl 1 rs.length (ZA rs),.lit (.int .i64 (a+k+1:Nat)),.lit (.int .i64 b),.own 0] [Zb (lay e out)] [] (Xn (s.length-k-1) (lay e out) none)) :
  VProc Tryz.prog 70 [.agg [.sl 4 l.length (Zg l)],.sl 3 t.length (Zr t),.sl 1 rs.length (ZA rs),.lit (.int .i64 a),.lit (.int .i64 b),.own 0] [Zb out] [] (Xn s.length out none):=by
 have cl:∀ (i:Nat) (c:AV),i<l.length→c∈Zg l i→Closed c:=fun i c _ h=>ZK l i c h
 have clt:∀ (i:Nat) (c:AV),i<t.length→c∈Zr t i→Closed c:=fun i c _ h=>Zs t i c h
 have cli:∀ (i:Nat) (c:AV),i<rs.length→c∈ZA rs i→Closed c:=fun i c _ h=>Yp rs i c h
 have cr:=VI l hl hu t ht rs hrs a b s hab hb hs
 rw [er] at cr
 have eb:Ul a (some (k,o))=((a+k:Nat):Int):=rfl
 rw [eb] at cr
 have hlt:=(List.getElem?_eq_some_iff.1 hk).1
 obtain ⟨hTk,hr⟩:=UV hs hk
 simp only [XG] at hr
 have hp:a+k<t.length:=by omega
 obtain ⟨p,hp'⟩:∃ p,a+k=p:=⟨_,rfl⟩
 rw [hp'] at cr hr hp ih ih2 hTk
 have htx:o.text=(Zj t p).text:=hTk.2.1
 have hp0:¬((p:Int)<0):=by omega
 have hp2:p<rs.length:=by omega
 have w4:IntKind.i64.wrap 4=4:=by decide
 have ew1:IntKind.i64.wrap ((p:Int)+1)=((p+1:Nat):Int):=Zn (by omega)
 refine Zl Tryz.func70 (by kernel_rfl) rfl (by simp [Tryz.ntmps70]) ?_;simp only [Tryz.ntmps70,Tryz.results70];simp [go_sem]
 refine Zc cr ?_ ?_
 ·simp [go_sem]
  exact ⟨Ze (by omega) cl,Ze (by omega) clt,Ze (by omega) cli⟩
 ·simp [go_sem,hp0]
  refine Zq [12] (.q 0 <| .q 1 <| .q 2 <| .q 3 <| .q 4 <| .q 5 <| .q 6 <| .q 7 <| .q 8 <| .q 9 <| .q 10 <| .or 11 (.or 12 (.done) (.nil)) (.nil)) (by kernel_rfl) ?_
  simp [go_sem,Zo,Z7,hp,hp2,hr,w4,Zb]
  refine Zd [0] ih (by simp) ?_ ?_ trivial ?_
  ·simp [go_sem]
   exact ⟨cl,clt,cli⟩
  ·simp [go_sem,Zb]
   exact fun i _=>Zk (Z5 _ i)
  ·rintro av mem maps ⟨rfl,rfl,rfl⟩
   have hg:=Z9 e out
   have ew:IntKind.i64.wrap (((lay e out).length:Int)-1)=((lay e out).length:Int)-1:=wrap_i64 (by omega)
   simp [go_sem,Zb,ew,ew1]
   refine ⟨by omega,?_⟩
   refine Zd [3] ih2 (by simp) ?_ ?_ trivial ?_
   ·simp [go_sem]
    exact ⟨cl,clt,cli⟩
   ·simp [go_sem,Zb]
    exact fun i _=>Zk (Z5 _ i)
   ·rintro av mem maps ⟨T,hT,hB⟩
    rcases hB with ⟨rfl,rfl,rfl⟩|⟨rfl,rfl,rfl⟩
    ·simp [go_sem,Zb]
     refine ⟨rfl,[4],[none,Zb T],by simp,by simp [go_sem],by simp [go_sem],?_,by simp [go_sem],?_⟩
     ·simp [go_sem,Zb]
      exact Xy rfl fun j _=>rfl
     ·simp [go_sem]
      exact ⟨T,by omega,.inl ⟨rfl,rfl,rfl⟩⟩
    ·simp [go_sem,Zb]
     refine ⟨rfl,[3],[none,Zb T],by simp,by simp [go_sem],by simp [go_sem],?_,by simp [go_sem],?_⟩
     ·simp [go_sem,Zb]
      exact Xy rfl fun j _=>rfl
     ·simp [go_sem]
      exact ⟨T,by omega,.inl ⟨rfl,rfl,rfl⟩⟩
theorem GC (l:List POp) (hl:l.length≤9223372036854775807) (hu:WB l) (t:List PTok) (ht:t.length≤1048576) (rs:List Int) (hrs:rs.length=t.length) (a b:Nat) (s:List TkP) (hab:a+s.length=b) (hb:b≤t.length) (hs:YW l t rs a s) (k:Nat) (o:POp) (er:Ops.root lvO s 0 0 none=some (k,o)) (hk:s[k]?=some (.inf o)) (hw:YT l) (hj:InL l o) (hok:Yx o=true) (hk1:o.kind=2) (e e':PT) (h1:YQ e) (h2:e.All lvO (InL l)) (h3:Xe e) (q1:YQ e') (q2:e'.All lvO (InL l)) (q3:Xe e') (out:List PNode) (ho:out.length≤2000000) (hle:(lay e out).length≤3000000) (hle2:(lay e' (lay e out)).length≤3000000) (hsz:(lay e out).length≤out.length+k) (hsz2:(lay e' (lay e out)).length≤(lay e out).length+(s.length-k-1))
  (ih:VProc Tryz.prog 70 [.agg [.sl 4 l.length (Zg l)],.sl 3 t.length (Zr t),.sl 1 rs.length (ZA rs),.lit (.int .i64 a),.lit (.int .i64 (a+k:Nat)),.own 0] [Zb out] [] (Xn k out (some e)))
  (ih2:VProc Tryz.prog 70 [.agg [.sl 4 l.length (Zg l)],.sl 3 t.length (Zr t),.sl 1 rs.length (ZA rs),.lit (.int .i64 (a+k+1:Nat)),.lit (.int .i64 b),.own 0] [Zb (lay e out)] [] (Xn (s.length-k-1) (lay e out) (some e'))) :
  VProc Tryz.prog 70 [.agg [.sl 4 l.length (Zg l)],.sl 3 t.length (Zr t),.sl 1 rs.length (ZA rs),.lit (.int .i64 a),.lit (.int .i64 b),.own 0] [Zb out] [] (Xn s.length out (if (lvO o).h1≤e.level lvO∧(lvO o).h2≤e'.level lvO then some (.inf o e e') else none)):=by
 have cl:∀ (i:Nat) (c:AV),i<l.length→c∈Zg l i→Closed c:=fun i c _ h=>ZK l i c h
 have clt:∀ (i:Nat) (c:AV),i<t.length→c∈Zr t i→Closed c:=fun i c _ h=>Zs t i c h
 have cli:∀ (i:Nat) (c:AV),i<rs.length→c∈ZA rs i→Closed c:=fun i c _ h=>Yp rs i c h
 have cr:=VI l hl hu t ht rs hrs a b s hab hb hs
 rw [er] at cr
 have eb:Ul a (some (k,o))=((a+k:Nat):Int):=rfl
 rw [eb] at cr
 have hlt:=(List.getElem?_eq_some_iff.1 hk).1
 obtain ⟨hTk,hr⟩:=UV hs hk
 simp only [XG] at hr
 have hp:a+k<t.length:=by omega
 obtain ⟨p,hp'⟩:∃ p,a+k=p:=⟨_,rfl⟩
 rw [hp'] at cr hr hp ih ih2 hTk
 have htx:o.text=(Zj t p).text:=hTk.2.1
 have hp0:¬((p:Int)<0):=by omega
 have hp2:p<rs.length:=by omega
 have w4:IntKind.i64.wrap 4=4:=by decide
 have ew1:IntKind.i64.wrap ((p:Int)+1)=((p+1:Nat):Int):=Zn (by omega)
 refine Zl Tryz.func70 (by kernel_rfl) rfl (by simp [Tryz.ntmps70]) ?_;simp only [Tryz.ntmps70,Tryz.results70];simp [go_sem]
 refine Zc cr ?_ ?_
 ·simp [go_sem]
  exact ⟨Ze (by omega) cl,Ze (by omega) clt,Ze (by omega) cli⟩
 ·simp [go_sem,hp0]
  refine Zq [12] (.q 0 <| .q 1 <| .q 2 <| .q 3 <| .q 4 <| .q 5 <| .q 6 <| .q 7 <| .q 8 <| .q 9 <| .q 10 <| .or 11 (.or 12 (.done) (.nil)) (.nil)) (by kernel_rfl) ?_
  simp [go_sem,Zo,Z7,hp,hp2,hr,w4,Zb]
  refine Zd [0] ih (by simp) ?_ ?_ trivial ?_
  ·simp [go_sem]
   exact ⟨cl,clt,cli⟩
  ·simp [go_sem,Zb]
   exact fun i _=>Zk (Z5 _ i)
  ·rintro av mem maps ⟨rfl,rfl,rfl⟩
   have hg:=Z9 e out
   have ew:IntKind.i64.wrap (((lay e out).length:Int)-1)=((lay e out).length:Int)-1:=wrap_i64 (by omega)
   simp [go_sem,Zb,ew,ew1]
   refine ⟨by omega,?_⟩
   refine Zd [3] ih2 (by simp) ?_ ?_ trivial ?_
   ·simp [go_sem]
    exact ⟨cl,clt,cli⟩
   ·simp [go_sem,Zb]
    exact fun i _=>Zk (Z5 _ i)
   ·rintro av mem maps ⟨rfl,rfl,rfl⟩
    have hg2:=Z9 e' (lay e out)
    have ew':IntKind.i64.wrap (((lay e' (lay e out)).length:Int)-1)=((lay e' (lay e out)).length:Int)-1:=wrap_i64 (by omega)
    simp [go_sem,Zb,ew']
    have ew0:IntKind.i64.wrap ((lay e' (lay e out)).length:Int)=(lay e' (lay e out)).length:=wrap_i64 (by omega)
    obtain ⟨nd,hnd⟩:∃ nd,nd=(⟨o.text,4,((lay e out).length:Int)-1,((lay e' (lay e out)).length:Int)-1⟩:PNode):=⟨_,rfl⟩
    obtain ⟨T2,hT2⟩:∃ T2,T2=lay e' (lay e out)++[nd]:=⟨_,rfl⟩
    have hl2:T2.length=(lay e' (lay e out)).length+1:=by rw [hT2];simp
    have hn:Za T2 (lay e' (lay e out)).length=nd:=by rw [hT2];exact Vr
    have hf:Qo l T2 (lay e' (lay e out)).length=decide ((lvO o).h1≤e.level lvO∧(lvO o).h2≤e'.level lvO):=by rw [hT2,hnd];exact Zka hu hj hok hk1 e e' out h1 h2 h3 q1 q2 q3
    have cf:=ZbY l hl hw T2 (by omega) (lay e' (lay e out)).length (by omega) (fun _=>by
     rw [hn,hnd]
     have ha:(((lay e out).length:Int)-1).toNat=(lay e out).length-1:=by omega
     have hb':(((lay e' (lay e out)).length:Int)-1).toNat=(lay e' (lay e out)).length-1:=by omega
     simp only [ha,hb']
     rw [show Za T2 ((lay e out).length-1)=Za (lay e out) ((lay e out).length-1) by rw [hT2,YV (by omega)];exact Ko e' (lay e out) _ (by omega)]
     rw [show Za T2 ((lay e' (lay e out)).length-1)=Za (lay e' (lay e out)) ((lay e' (lay e out)).length-1) by rw [hT2];exact YV (by omega)]
     refine ⟨by have:=(Y5 hu (z:=o.text) rfl hj).1;rw [hk1] at this;exact this,by omega,HK hu e out h1 h2 h3,fun hh=>⟨by omega,HK hu e' (lay e out) q1 q2 q3⟩⟩)
    rw [hf] at cf
    rw [ew0]
    rw [htx] at hnd
    refine ⟨by omega,by omega,by omega,by omega,Zc cf ?_ ?_⟩
    ·simp [go_sem]
     exact ⟨Ze (by omega) cl,Ha (k:=6) rfl (by omega) hl2.symm (fun i hi=>by rw [hT2,hnd];exact Yk (lay e' (lay e out)) ⟨(Zj t p).text,4,((lay e out).length:Int)-1,((lay e' (lay e out)).length:Int)-1⟩ i (by omega)) (fun i c _ h=>ZG T2 i c h)⟩
    ·simp [go_sem]
     by_cases hc:(lvO o).h1≤e.level lvO∧(lvO o).h2≤e'.level lvO
     ·simp only [if_pos hc,hc,decide_true,if_true,and_self]
      refine ⟨rfl,[6],[none,Zb (lay (.inf o e e') out)],by simp,by simp [go_sem],by simp [go_sem],?_,by simp [go_sem],?_⟩
      ·simp [go_sem,Zb]
       refine Yo (o:=⟨(Zj t p).text,4,((lay e out).length:Int)-1,((lay e' (lay e out)).length:Int)-1⟩) (by rw [←htx];simp [lay,hk1]) fun j hj=>?_
       exact Yk (lay e' (lay e out)) ⟨(Zj t p).text,4,((lay e out).length:Int)-1,((lay e' (lay e out)).length:Int)-1⟩ j hj
      ·simp [go_sem,Xn,Zb]
     ·have hdc:decide ((lvO o).h1≤e.level lvO∧(lvO o).h2≤e'.level lvO)=false:=decide_eq_false hc
      simp only [if_neg hc]
      refine ⟨rfl,[6],[none,Zb T2],by simp,by simp [go_sem],by simp [go_sem],?_,by simp [go_sem],?_⟩
      ·simp [go_sem,Zb]
       refine Yo (o:=⟨(Zj t p).text,4,((lay e out).length:Int)-1,((lay e' (lay e out)).length:Int)-1⟩) (by rw [←hnd];exact hT2) fun j hj=>?_
       exact Yk (lay e' (lay e out)) ⟨(Zj t p).text,4,((lay e out).length:Int)-1,((lay e' (lay e out)).length:Int)-1⟩ j hj
      ·simp [go_sem]
       exact ⟨T2,by omega,.inl ⟨by simpa using hc,rfl,rfl⟩⟩
end Go.Proofs.YtjdmmhcogmepaaaGreatDoor.V
namespace Go.Proofs.YtjdmmhcogmepaaaGreatDoor.V
open Go.RowKit
open Go.Proofs.YtjdmmhcogmepaaaGreatDoor.Ops (Tr Tk Lv Res Fit OF)
theorem seg_append {l:List POp} {t:List PTok} {rs:List Int}:∀ {u w:List TkP} {i:Nat},YW l t rs i (u++w)↔YW l t rs i u∧YW l t rs (i+u.length) w
 |[],w,i=>by simp [YW]
 |x::u,w,i=>by
  simp only [List.cons_append,YW,List.length_cons,seg_append (u:=u),and_assoc]
  rw [show i+(u.length+1)=i+1+u.length by omega]
theorem KI {l:List POp} {t:List PTok} {rs:List Int}:∀ (e:PT) (i:Nat),YW l t rs i e.yield→YQ e∧e.All lvO (InL l)∧Xe e
 | .leaf b,i,h=>by
  simp only [Tr.yield,YW,Vc] at h
  refine ⟨?_,trivial,trivial⟩
  have:=h.1
  simp only [YQ]
  rw [this.2];exact this.1
 | .grp e,i,h=>by
  simp only [Tr.yield,YW] at h
  exact KI e _ (seg_append.1 h.2.2).1
 | .pre o e,i,h=>by
  simp only [Tr.yield,YW,Vc] at h
  obtain ⟨⟨_,_,hk,hj⟩,_,h2⟩:=h
  obtain ⟨g0,g1,g2⟩:=KI e _ h2
  exact ⟨g0,⟨hj,by simp [lvO,XF,hk],g1⟩,hk,g2⟩
 | .post o e,i,h=>by
  simp only [Tr.yield] at h
  obtain ⟨h1,h3⟩:=seg_append.1 h
  obtain ⟨g0,g1,g2⟩:=KI e _ h1
  simp only [YW,Vc] at h3
  obtain ⟨⟨_,_,hk,hj⟩,_⟩:=h3
  exact ⟨g0,⟨hj,by simp [lvO,XF,hk],g1⟩,hk,g2⟩
 | .inf o x y,i,h=>by
  simp only [Tr.yield] at h
  obtain ⟨h1,h3⟩:=seg_append.1 h
  obtain ⟨g0,g1,g2⟩:=KI x _ h1
  simp only [YW,Vc] at h3
  obtain ⟨⟨_,_,hk,hj⟩,_,h4⟩:=h3
  obtain ⟨q0,q1,q2⟩:=KI y _ h4
  exact ⟨⟨g0,q0⟩,⟨hj,g1,q1⟩,hk,g2,q2⟩
theorem Wn:∀ (e:PT) (out:List PNode),(lay e out).length≤out.length+e.yield.length
 | .leaf _,out=>by simp [lay,Tr.yield]
 | .grp e,out=>by have:=Wn e out;simp [lay,Tr.yield];omega
 | .pre _ e,out=>by have:=Wn e out;simp [lay,Tr.yield];omega
 | .post _ e,out=>by have:=Wn e out;simp [lay,Tr.yield];omega
 | .inf _ x y,out=>by have:=Wn x out;have:=Wn y (lay x out);simp [lay,Tr.yield];omega
theorem Zlk (l:List POp) (hl:l.length≤9223372036854775807) (hu:WB l) (hw:YT l) (hok:∀ j,j<l.length→Yx (Zm l j)=true) (t:List PTok) (ht:t.length≤1048576) (rs:List Int) (hrs:rs.length=t.length):∀ (n:Nat) (s:List TkP) (a b:Nat) (out:List PNode),s.length≤n→OF s→a+s.length=b→b≤t.length→YW l t rs a s→out.length+s.length≤2000000→
  VProc Tryz.prog 70 [.agg [.sl 4 l.length (Zg l)],.sl 3 t.length (Zr t),.sl 1 rs.length (ZA rs),.lit (.int .i64 a),.lit (.int .i64 b),.own 0] [Zb out] [] (Xn s.length out (Ops.build lvO n s)):=by
 have okL:∀ {o},InL l o→Yx o=true:=fun ⟨j,hj,e⟩=>e▸hok j hj
 intro n
 induction n with
 |zero=>
  intro s a b out hn ⟨t0,h0⟩
  have:=Ops.yield_pos t0
  rw [h0] at this;omega
 |succ n ih=>
  intro s a b out hn hof hab hb hs ho
  have good:∀ {s':List TkP} {e:PT} {a':Nat},YW l t rs a' s'→OF s'→Ops.build lvO n s'=some e→YQ e∧e.All lvO (InL l)∧Xe e∧∀ out,(lay e out).length≤out.length+s'.length:=fun h1 h2 h3=>by
   obtain ⟨_,hy⟩:=Ops.build_sound lvO n _ _ h2 h3
   rw [←hy] at h1 ⊢
   obtain ⟨g0,g1,g2⟩:=KI _ _ h1
   exact ⟨g0,g1,g2,Wn _⟩
  rw [Ops.build]
  unfold Ops.buildF
  cases hr:Ops.root lvO s 0 0 none with
  |none=>
   obtain ⟨t0,h0⟩:=id hof
   rw [←h0] at hr
   rcases Ops.root_none lvO t0 hr with ⟨bb,rfl⟩|⟨t1,rfl⟩
   ·simp only [Tr.yield] at h0
    subst h0
    simp only [List.length_singleton] at hab
    subst hab
    exact Zea l hl hu t ht rs hrs a hb bb hs out (by omega)
   ·simp only [Tr.yield] at h0 hr
    rw [h0] at hr
    have hlen:s.length=t1.yield.length+2:=by rw [←h0];simp
    have hs1:YW l t rs (a+1) t1.yield:=by
     rw [←h0] at hs
     exact (seg_append.1 hs.2.2).1
    have h1:=ih t1.yield (a+1) (b-1) out (by omega) ⟨t1,rfl⟩ (by omega) (by omega) hs1 (by omega)
    have:=ZfC l hl hu t ht rs hrs a b s hab hb hs t1.yield h0.symm hr out (by omega) (Ops.build lvO n t1.yield) (fun e he=>by
     have:=(good hs1 ⟨t1,rfl⟩ he).2.2.2 out;omega) h1
    subst h0
    simpa using this
  |some x=>
   obtain ⟨k,o⟩:=x
   rcases Ops.root_at lvO s 0 0 none k o hr with h|⟨u,tk,w,hsu,hop,hd,hk⟩
   ·cases h
   ·simp only [Int.zero_add,Nat.zero_add] at hd hk
    have hsk:s[k]?=some tk:=by rw [hsu,hk];simp
    have hlen:s.length=u.length+w.length+1:=by rw [hsu];simp;omega
    have hseg:=hs
    rw [hsu] at hseg
    obtain ⟨hsl,hsr⟩:=seg_append.1 hseg
    have hTk:=hsr.1
    have hsq:=hsr.2.2
    simp only [hsk]
    cases tk with
    |leaf bb=>simp [Tk.op?] at hop
    |opn=>simp [Tk.op?] at hop
    |cls=>simp [Tk.op?] at hop
    |pre o'=>
     simp only [Tk.op?,Option.some.injEq] at hop
     subst hop
     simp only
     by_cases hk0:k=0
     ·obtain rfl:u=[]:=List.eq_nil_of_length_eq_zero (by omega)
      subst hk0
      simp only [List.nil_append] at hsu
      rw [if_neg (by simp)]
      have hdr:s.drop 1=w:=by rw [hsu];rfl
      rw [hdr]
      have hofw:OF w:=Ops.of_pre (o:=o') (by rw [←hsu];exact hof)
      have hsw:YW l t rs (a+1) w:=by simpa using hsq
      have h1:=ih w (a+1) b out (by omega) hofw (by simp at hlen;omega) hb hsw (by omega)
      have hl1:w.length=s.length-1:=by omega
      rw [hl1] at h1
      cases he:Ops.build lvO n w with
      |none=>
       rw [he] at h1
       exact GB l hl hu t ht rs hrs a b s hab hb hs o' hr hsk out (by omega) h1
      |some e=>
       rw [he] at h1
       obtain ⟨g0,g1,g2,g3⟩:=good hsw hofw he
       have g3:=g3 out
       exact GA l hl hu t ht rs hrs a b s hab hb hs o' hr hsk hw hTk.2.2.2 (okL hTk.2.2.2) hTk.2.2.1 e g0 g1 g2 out (by omega) (by omega) (by omega) h1
     ·rw [if_pos hk0]
      exact Zad l hl hu t ht rs hrs a b s hab hb hs k o' hr _ hsk (.inl ⟨rfl,hk0⟩) out (by omega)
    |post o'=>
     simp only [Tk.op?,Option.some.injEq] at hop
     subst hop
     simp only
     by_cases hk0:k+1=s.length
     ·obtain rfl:w=[]:=List.eq_nil_of_length_eq_zero (by omega)
      rw [if_neg (by omega)]
      have hdr:s.take k=u:=by rw [hsu,hk];simp
      rw [hdr]
      have hofw:OF u:=Ops.of_post (o:=o') (by rw [←hsu];exact hof)
      have h1:=ih u a (a+k) out (by omega) hofw (by omega) (by omega) hsl (by omega)
      rw [←hk] at h1
      cases he:Ops.build lvO n u with
      |none=>
       rw [he] at h1
       exact Qr l hl hu t ht rs hrs a b s hab hb hs k o' hr _ hsk (.inr ⟨rfl,hk0⟩) out (by omega) h1
      |some e=>
       rw [he] at h1
       obtain ⟨g0,g1,g2,g3⟩:=good hsl hofw he
       have g3:=g3 out
       exact HU l hl hu t ht rs hrs a b s hab hb hs k o' hr hsk hk0 hw hTk.2.2.2 (okL hTk.2.2.2) hTk.2.2.1 e g0 g1 g2 out (by omega) (by omega) (by omega) h1
     ·rw [if_pos hk0]
      exact Zad l hl hu t ht rs hrs a b s hab hb hs k o' hr _ hsk (.inr ⟨rfl,hk0⟩) out (by omega)
    |inf o'=>
     simp only [Tk.op?,Option.some.injEq] at hop
     subst hop
     simp only
     have hdr:s.take k=u:=by rw [hsu,hk];simp
     have hdr2:s.drop (k+1)=w:=by rw [hsu,hk];simp
     rw [hdr,hdr2]
     obtain ⟨hofu,hofw⟩:=Ops.of_inf (o:=o') (by rw [←hsu];exact hof) hd
     have h1:=ih u a (a+k) out (by omega) hofu (by omega) (by omega) hsl (by omega)
     rw [←hk] at h1
     cases he:Ops.build lvO n u with
     |none=>
      rw [he] at h1
      exact Qr l hl hu t ht rs hrs a b s hab hb hs k o' hr _ hsk (.inl rfl) out (by omega) h1
     |some e=>
      rw [he] at h1
      obtain ⟨g0,g1,g2,g3⟩:=good hsl hofu he
      have g3:=g3 out
      have hsw:YW l t rs (a+k+1) w:=by rw [hk];exact hsq
      have h2:=ih w (a+k+1) b (lay e out) (by omega) hofw (by omega) hb hsw (by omega)
      have hl1:w.length=s.length-k-1:=by omega
      rw [hl1] at h2
      simp only
      cases he2:Ops.build lvO n w with
      |none=>
       rw [he2] at h2
       exact GD l hl hu t ht rs hrs a b s hab hb hs k o' hr hsk hw hTk.2.2.2 e out (by omega) (by omega) (by omega) h1 h2
      |some e2=>
       rw [he2] at h2
       obtain ⟨q0,q1,q2,q3⟩:=good hsw hofw he2
       have q3:=q3 (lay e out)
       exact GC l hl hu t ht rs hrs a b s hab hb hs k o' hr hsk hw hTk.2.2.2 (okL hTk.2.2.2) hTk.2.2.1 e e2 g0 g1 g2 q0 q1 q2 out (by omega) (by omega) (by omega) (by omega) (by omega) h1 h2
def below (T:List PNode) (H:List Int) (i:Nat):Int:=
 if Zv (Za T i).kind=0 then 0 else if Zv (Za T i).kind=1 then YO H (Za T i).a.toNat else max (YO H (Za T i).a.toNat) (YO H (Za T i).b.toNat)
structure HStep (T:List PNode) (H:List Int) (i:Nat):Prop where
 a:Zv (Za T i).kind≠0→0≤(Za T i).a∧(Za T i).a<i
 b:Zv (Za T i).kind=2→0≤(Za T i).b∧(Za T i).b<i
 h:YO H i=below T H i+1
 lo:1≤YO H i∧YO H i≤i+1
def HOk (T:List PNode) (H:List Int):Prop:=H.length=T.length∧∀ i,i<T.length→HStep T H i
theorem Xu {H:List Int} {h:Int} {i:Nat} (hi:i<H.length):YO (H++[h]) i=YO H i:=by
 simp [YO,List.getD_eq_getElem?_getD,List.getElem?_append_left hi]
theorem Gq {H:List Int} {h:Int} {i:Nat} (hi:i=H.length):YO (H++[h]) i=h:=by
 subst hi;simp [YO,List.getD_eq_getElem?_getD]
theorem ZjK:((1:Int)=0)=False:=by simp
theorem ZlD:((2:Int)=0)=False:=by simp
theorem ZlC:((2:Int)=1)=False:=by simp
theorem HG (k:Int):Zv k=0∨Zv k=1∨Zv k=2:=KU k
theorem ZiL {T:List PNode} {H:List Int} {n:PNode} {h:Int} {i:Nat} (hl:H.length=T.length) (hi:i<T.length) (s:HStep T H i):below (T++[n]) (H++[h]) i=below T H i:=by
 unfold below
 rw [YV hi]
 rcases HG (Za T i).kind with e|e|e
 ·rw [if_pos e,if_pos e]
 ·have:=s.a (by omega)
  simp only [e,ZjK,if_false,if_true]
  rw [Xu (by omega)]
 ·have:=s.a (by omega)
  have:=s.b e
  simp only [e,ZlD,ZlC,if_false]
  rw [Xu (by omega),Xu (by omega)]
theorem HL {T:List PNode} {H:List Int} {n:PNode} {h:Int} (ok:HOk T H) (ha:Zv n.kind≠0→0≤n.a∧n.a<T.length) (hb:Zv n.kind=2→0≤n.b∧n.b<T.length)
  (hh:h=(if Zv n.kind=0 then 0 else if Zv n.kind=1 then YO H n.a.toNat else max (YO H n.a.toNat) (YO H n.b.toNat))+1):HOk (T++[n]) (H++[h]):=by
 obtain ⟨hl,hs⟩:=ok
 refine ⟨by simp [hl],fun i hi=>?_⟩
 simp only [List.length_append,List.length_singleton] at hi
 by_cases e:i<T.length
 ·have s:=hs i e
  refine ⟨?_,?_,?_,?_⟩
  ·rw [YV e];exact s.a
  ·rw [YV e];exact s.b
  ·rw [ZiL hl e s,Xu (by omega)];exact s.h
  ·rw [Xu (by omega)];exact s.lo
 ·obtain rfl:i=T.length:=by omega
  have hn:Za (T++[n]) T.length=n:=Vr
  have hb':below (T++[n]) (H++[h]) T.length+1=h:=by
   unfold below
   rw [hn,hh]
   rcases HG n.kind with e|e|e
   ·rw [if_pos e,if_pos e]
   ·have:=ha (by omega)
    simp only [e,ZjK,if_false,if_true]
    rw [Xu (by omega)]
   ·have:=ha (by omega)
    have:=hb e
    simp only [e,ZlD,ZlC,if_false]
    rw [Xu (by omega),Xu (by omega)]
  refine ⟨?_,?_,?_,?_⟩
  ·rw [hn];exact ha
  ·rw [hn];exact hb
  ·rw [hb',Gq hl.symm]
  ·rw [Gq hl.symm,hh]
   rcases HG n.kind with e|e|e
   ·rw [if_pos e];omega
   ·have:=ha (by omega)
    have:=(hs n.a.toNat (by omega)).lo
    rw [if_neg (by omega),if_pos e];omega
   ·have:=ha (by omega)
    have:=hb e
    have:=(hs n.a.toNat (by omega)).lo
    have:=(hs n.b.toNat (by omega)).lo
    rw [if_neg (by omega),if_neg (by omega)];omega
def his:PT→List Int→List Int
 | .leaf _,hs=>hs++[1]
 | .grp e,hs=>his e hs++[1+ZY e]
 | .pre _ e,hs=>his e hs++[1+ZY e]
 | .post _ e,hs=>his e hs++[1+ZY e]
 | .inf _ x y,hs=>his y (his x hs)++[1+max (ZY x) (ZY y)]
theorem QW (e:PT) (hs:List Int):YO (his e hs) ((his e hs).length-1)=ZY e:=by
 cases e<;>simp only [his,ZY]<;>rw [Gq (by simp)]
theorem Ua (e:PT) (hs:List Int):hs.length<(his e hs).length:=by
 induction e generalizing hs with
 |leaf _=>simp [his]
 |grp e ih=>have:=ih hs;simp [his];omega
 |pre _ e ih=>have:=ih hs;simp [his];omega
 |post _ e ih=>have:=ih hs;simp [his];omega
 |inf _ x y ihx ihy=>have:=ihx hs;have:=ihy (his x hs);simp [his];omega
theorem Zk7 (e:PT):∀ (hs:List Int) (i:Nat),i<hs.length→YO (his e hs) i=YO hs i:=by
 induction e with
 |leaf _=>intro hs i h;simp only [his];exact Xu h
 |grp e ih=>intro hs i h;have:=Ua e hs;simp only [his];rw [Xu (by omega),ih hs i h]
 |pre _ e ih=>intro hs i h;have:=Ua e hs;simp only [his];rw [Xu (by omega),ih hs i h]
 |post _ e ih=>intro hs i h;have:=Ua e hs;simp only [his];rw [Xu (by omega),ih hs i h]
 |inf _ x y ihx ihy=>intro hs i h;have:=Ua x hs;have:=Ua y (his x hs);simp only [his];rw [Xu (by omega),ihy _ i (by omega),ihx hs i h]
theorem Je:∀ (e:PT) (out:List PNode) (hs:List Int),YQ e→Xe e→HOk out hs→HOk (lay e out) (his e hs)
 | .leaf b,out,hs,h1,h2,ok=>by
  have k0:Zv b.1=0:=by have h:b.1=1∨b.1=2:=h1;rcases h with e|e<;>simp [Zv,e]
  simp only [lay,his]
  exact HL ok (fun h=>absurd k0 h) (fun h=>by simp only at h;omega) (by simp [k0])
 | .grp e,out,hs,h1,h2,ok=>by
  have:=Je e out hs h1 h2 ok
  have hl:=this.1
  have hp:=Ua e hs
  have hlast:=QW e hs
  have k1:Zv 6=1:=rfl
  simp only [lay,his]
  refine HL this (fun _=>by simp only;omega) (fun h=>by simp only at h;omega) ?_
  simp only [k1,ZjK,if_false,if_true]
  rw [show (((lay e out).length:Int)-1).toNat=(his e hs).length-1 by omega,hlast]
  omega
 | .pre o e,out,hs,h1,h2,ok=>by
  have:=Je e out hs h1 h2.2 ok
  have hl:=this.1
  have hp:=Ua e hs
  have hlast:=QW e hs
  have k1:Zv (o.kind+2)=1:=by rw [h2.1];rfl
  simp only [lay,his]
  refine HL this (fun _=>by simp only;omega) (fun h=>by simp only at h;omega) ?_
  simp only [k1,ZjK,if_false,if_true]
  rw [show (((lay e out).length:Int)-1).toNat=(his e hs).length-1 by omega,hlast]
  omega
 | .post o e,out,hs,h1,h2,ok=>by
  have:=Je e out hs h1 h2.2 ok
  have hl:=this.1
  have hp:=Ua e hs
  have hlast:=QW e hs
  have k1:Zv (o.kind+2)=1:=by rw [h2.1];rfl
  simp only [lay,his]
  refine HL this (fun _=>by simp only;omega) (fun h=>by simp only at h;omega) ?_
  simp only [k1,ZjK,if_false,if_true]
  rw [show (((lay e out).length:Int)-1).toNat=(his e hs).length-1 by omega,hlast]
  omega
 | .inf o x y,out,hs,h1,h2,ok=>by
  have okx:=Je x out hs h1.1 h2.2.1 ok
  have:=Je y _ _ h1.2 h2.2.2 okx
  have hl:=this.1
  have hlx:=okx.1
  have hp:=Ua y (his x hs)
  have hpx:=Ua x hs
  have hlast:=QW y (his x hs)
  have hlastx:=QW x hs
  have k2:Zv (o.kind+2)=2:=by rw [h2.1];rfl
  simp only [lay,his]
  refine HL this (fun _=>by simp only;omega) (fun h=>by simp only;omega) ?_
  simp only [k2,ZlD,ZlC,if_false]
  rw [show (((lay y (lay x out)).length:Int)-1).toNat=(his y (his x hs)).length-1 by omega,hlast,show (((lay x out).length:Int)-1).toNat=(his x hs).length-1 by omega,Zk7 y _ _ (by omega),hlastx]
  omega
end Go.Proofs.YtjdmmhcogmepaaaGreatDoor.V
namespace Go.Proofs.YtjdmmhcogmepaaaGreatDoor.V
open Go.RowKit
theorem Zgo {H:List Int} {i:Nat} (h:i<H.length):H.take (i+1)=H.take i++[YO H i]:=by
 rw [List.take_add_one]
 simp [YO,List.getD_eq_getElem?_getD,h]
theorem Kq {H:List Int} {i j:Nat} (h:j<i):YO (H.take i) j=YO H j:=by
 simp [YO,List.getD_eq_getElem?_getD,h]
set_option maxRecDepth 100000 in
theorem ZgZ (T:List PNode) (H:List Int) (hT:0<T.length∧T.length≤3000000) (ok:HOk T H):VFun Tryz.prog 48 [.agg [.sl 4 T.length (Zf T)]] (fun av obs=>obs=[]∧av=.lit (.int .i64 (YO H (T.length-1)))):=by
 have clt:∀ (i:Nat) (c:AV),i<T.length→c∈Zf T i→Closed c:=fun i c _ h=>ZG T i c h
 obtain ⟨hl,hs⟩:=ok
 refine Zi Tryz.func48 (by kernel_rfl) rfl (by simp [Tryz.ntmps48]) ?_;simp only [Tryz.ntmps48,Tryz.results48];simp [go_sem]
 refine Y9 (fun i:Nat=>i≤T.length) (fun i=>T.length-i) (fun i=>.of [(1,.ptr 0 1 0 0),(3,.own 1),(4,.lit (.int .i64 i))] [some ⟨37,1,1,fun _=>[.sl 4 T.length (Zf T)]⟩,some ⟨3,1,i,ZA (H.take i)⟩]) ⟨0,by omega,?_⟩ (fun i hi=>?_)
 ·refine Zx [0,1] (by simp) (by simp) (by simp) (by simp) trivial ?_ ?_
  ·simp [go_sem]
  ·simp [go_sem]
   exact clt
 ·have hlen:(H.take i).length=i:=by simp;omega
  simp [go_sem,Zz]
  refine ⟨by omega,fun h=>⟨h,Zc (Yh (Za T i).kind) ?_ ?_⟩,fun h=>?_⟩
  ·simp [go_sem]
  ·obtain ⟨sa,sb,sh,slo⟩:=hs i h
   have next:∀ (mm:Int) (f:Nat→List AV),mm=below T H i→(f 0=[.lit (.int .i64 (IntKind.i64.wrap (mm+1)))])→∀ j,j<i+1→Z2 i (ZA (H.take i)) f j=ZA (H.take (i+1)) j:=fun mm f h1 h2 j hj=>by
    rw [Zgo (by omega),←Zby (H.take i) (YO H i) j (by omega),hlen]
    unfold Z2
    split
    ·rfl
    ·have:j-i=0:=by omega
     rw [this,h2,h1,sh]
     rw [wrap_i64 (by omega)]
     rfl
   rcases HG (Za T i).kind with e|e|e
   ·simp [go_sem,e]
    refine Zc (Yh (Za T i).kind) ?_ ?_
    ·simp [go_sem]
    ·simp [go_sem,e]
     refine ⟨by omega,by omega,i+1,by omega,by omega,?_⟩
     ·refine Zx [0,4] (by simp) (by simp) (by simp) (by simp) trivial ?_ ?_
      ·simp [go_sem]
       exact Zn (by omega)
      ·simp [go_sem]
       exact ⟨clt,.inl fun j hj=>⟨next 0 _ (by simp [below,e]) rfl j hj,Yp _ _⟩⟩
   ·have ha:=sa (by omega)
    have ia:YO (H.take i) (Za T i).a.toNat=YO H (Za T i).a.toNat:=Kq (by omega)
    simp [go_sem,e,Z7]
    refine ⟨ha.1,ha.2,by omega,Zc (Yh (Za T i).kind) ?_ ?_⟩
    ·simp [go_sem]
    ·simp [go_sem,e]
     refine ⟨by omega,by omega,i+1,by omega,by omega,?_⟩
     ·refine Zx [0,4] (by simp) (by simp) (by simp) (by simp) trivial ?_ ?_
      ·simp [go_sem]
       exact Zn (by omega)
      ·simp [go_sem]
       exact ⟨clt,.inl fun j hj=>⟨next _ _ (by simp [below,e,ia]) rfl j hj,Yp _ _⟩⟩
   ·have ha:=sa (by omega)
    have hb:=sb e
    have ia:YO (H.take i) (Za T i).a.toNat=YO H (Za T i).a.toNat:=Kq (by omega)
    have ib:YO (H.take i) (Za T i).b.toNat=YO H (Za T i).b.toNat:=Kq (by omega)
    simp [go_sem,e,Z7]
    refine ⟨ha.1,ha.2,by omega,Zc (Yh (Za T i).kind) ?_ ?_⟩
    ·simp [go_sem]
    ·simp [go_sem,e,Z7]
     refine ⟨hb.1,hb.2,by omega,fun hc=>⟨hb.1,hb.2,by omega,by omega,by omega,i+1,by omega,by omega,?_⟩,fun hc=>⟨by omega,by omega,i+1,by omega,by omega,?_⟩⟩
     ·refine Zx [0,4] (by simp) (by simp) (by simp) (by simp) trivial ?_ ?_
      ·simp [go_sem]
       exact Zn (by omega)
      ·simp [go_sem]
       exact ⟨clt,.inl fun j hj=>⟨next _ _ (by rw [ia,ib] at hc;simp [below,e,ib];omega) rfl j hj,Yp _ _⟩⟩
     ·refine Zx [0,4] (by simp) (by simp) (by simp) (by simp) trivial ?_ ?_
      ·simp [go_sem]
       exact Zn (by omega)
      ·simp [go_sem]
       exact ⟨clt,.inl fun j hj=>⟨next _ _ (by rw [ia,ib] at hc;simp [below,e,ia];omega) rfl j hj,Yp _ _⟩⟩
  ·obtain rfl:i=T.length:=by omega
   have w:IntKind.i64.wrap ((T.length:Int)-1)=((T.length-1:Nat):Int):=by rw [wrap_i64 (by omega)];omega
   rw [w]
   simp only [Int.toNat_natCast]
   simp [go_sem,Z7,Kq (H:=H) (i:=T.length) (j:=T.length-1) (by omega)]
   omega
theorem ZhH (z:ByteArray) {f i k:Nat} (h1:f≤i) (h2:i≤k):z.extract f i++z.extract i k=z.extract f k:=by
 apply ByteArray.ext
 simp only [ByteArray.data_append,ByteArray.data_extract]
 rw [Array.extract_append_extract]
 congr 1<;>omega
theorem ZcE (o:PTok) (l:List PTok):Js (o::l)=o.gap++o.text++Js l:=by
 have gen:∀ (l:List PTok) (b:ByteArray),l.foldl (fun b o=>b++o.gap++o.text) b=b++l.foldl (fun b o=>b++o.gap++o.text) ByteArray.empty:=by
  intro l
  induction l with
  |nil=>intro b;simp
  |cons o l ih=>
   intro b
   simp only [List.foldl_cons]
   rw [ih (b++o.gap++o.text),ih (ByteArray.empty++o.gap++o.text)]
   simp [ByteArray.append_assoc]
 unfold Js
 simp only [List.foldl_cons]
 rw [gen]
 simp
theorem Hs (l:List POp) (z:ByteArray) (f:Nat) (hf:f≤z.size):Js (YB l z f)=z.extract f z.size:=by
 generalize hn:z.size-f=n
 induction n using Nat.strongRecOn generalizing f with
 |ind n ih=>
  have hr:=Za6 YH z f hf
  by_cases h:f+run YH z f<z.size
  ·rw [Vl rfl h,ZcE]
   have hg:=Vk l z (f+run YH z f)
   have hl:=V3 l z (f+run YH z f) h
   obtain ⟨i,hi⟩:∃ i,i=f+run YH z f:=⟨_,rfl⟩
   rw [←hi] at hg hl h hr ⊢
   have hfi:f≤i:=by omega
   obtain ⟨j,hj⟩:∃ j,j=i+ZV l z i:=⟨_,rfl⟩
   rw [←hj] at hl ⊢
   simp only
   rw [ih (z.size-j) (by omega) j hl rfl,ZhH z hfi (by omega),ZhH z (by omega) hl]
  ·have e:f+run YH z f=z.size:=by omega
   rw [WK rfl h,ZcE,e]
   simp only [Js,List.foldl_nil]
   rw [show (⟨#[]⟩:ByteArray)=ByteArray.empty from rfl,ByteArray.append_empty,ByteArray.append_empty]
theorem ZdV (z:ByteArray) (a b:Nat):(z.extract a b).size≤z.size:=by
 rw [ByteArray.size_extract];omega
theorem Kn {l:List POp} {z:ByteArray} (hz:z.size≤200000):(X6 l z).length≤200001∧Xp (X6 l z)≤200000:=by
 unfold X6
 split
 ·rename_i h
  have h1:=KT l z 0 (by omega)
  have h2:=Hs l z 0 (by omega)
  have h3:=K5 (YB l z 0)
  rw [h2] at h3
  have h4:=ZdV z 0 z.size
  exact ⟨by omega,by omega⟩
 ·exact ⟨by simp,by simp [Xp]⟩
theorem ZaT {l:List PTok} {i:Nat} (hi:i<l.length):VA (Zj l i)≤Xp l:=by
 induction l generalizing i with
 |nil=>simp at hi
 |cons o l ih=>
  unfold Xp at *
  cases i with
  |zero=>simp [Zj]
  |succ i=>
   have:=ih (i:=i) (by simpa using hi)
   simp only [List.map_cons,List.sum_cons]
   have e:Zj (o::l) (i+1)=Zj l i:=by simp [Zj]
   rw [e]
   omega
def Zaj (t:List PTok) (i:Nat):Int:=(Xp (t.take i)+(Zj t i).gap.size:Nat)
theorem Zkx {mem:List (Option Ob)} {sz n:Nat} {f f':Nat→List AV} (hsz:0<sz) (h:∀ i,i<n→f i=f' i∧∀ c,c∈f' i→Closed c):Zaf mem (.sl sz n f) sz n f':=
 ⟨hsz,f,by simp [Yw],h⟩
theorem Zgm {t:List PTok} {i j:Nat} (h:j<i):Zj (t.take i) j=Zj t j:=by
 simp [Zj,List.getD_eq_getElem?_getD,h]
theorem ZbX (t:List PTok) (ht:t.length+Xp t≤1048576) (i:Nat) (hi:i<t.length):VFun Tryz.prog 68 [.sl 3 t.length (Zr t),.lit (.int .i64 i)] (fun av obs=>obs=[]∧av=.lit (.int .i64 (Zaj t i))):=by
 have clt:∀ (i:Nat) (c:AV),i<t.length→c∈Zr t i→Closed c:=fun i c _ h=>Zs t i c h
 have hle:=UR t i
 have hsz:=K5 (t.take i)
 have htl:(t.take i).length=i:=by simp;omega
 have hg:=ZaT hi
 have cr:=Zd0 (t.take i) (by omega)
 rw [htl] at cr
 unfold VA at hg
 refine Zi Tryz.func68 (by kernel_rfl) rfl (by simp [Tryz.ntmps68]) ?_;simp only [Tryz.ntmps68,Tryz.results68];simp [go_sem]
 refine Zq [] (.q 0 <| .q 1 <| .q 2 <| .q 5 <| .q 6 <| .q 7 <| .q 8 <| .q 9 <| .q 10 <| .or 3 (.q 4 <| .q 11 <| .q 12 <| .done) (.nil)) (by kernel_rfl) ?_
 simp [go_sem,Zo]
 refine ⟨by omega,hi,Zu cr ?_ ?_⟩
 ·simp [go_sem]
  exact Zkx (by omega) fun j hj=>⟨by rw [Zo,Zgm hj],fun c hc=>Zs _ _ c hc⟩
 ·simp [go_sem,hsz]
  rw [wrap_i64 (by omega)]
  simp [Zaj]
end Go.Proofs.YtjdmmhcogmepaaaGreatDoor.V
