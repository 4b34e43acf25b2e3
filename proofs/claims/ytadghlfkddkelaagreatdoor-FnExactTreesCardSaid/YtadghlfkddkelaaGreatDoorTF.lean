import Derived.Test.YtadghlfkddkelaaGreatDoorTE
import Derived.Test.YtadghlfkddkelaaGreatDoorTC
import Derived.Recover
import Derived.Test.YtadghlfkddkelaaGreatDoorCards
import Derived.Test.YtadghlfkddkelaaGreatDoorTie
import Derived.Test.YtadghlfkddkelaaGreatDoorTD
import Derived.Test.YtadghlfkddkelaaGreatDoorTB
import Derived.LaidMore
import Derived.Lay
import Derived.SevenTiedAt
import Derived.Stop.Joined
import Derived.HandedShaped
import Derived.Lib.LaidTab
import Derived.LaidSub
set_option linter.unusedVariables false
set_option linter.unusedSimpArgs false
set_option linter.constructorNameAsVariable false
namespace Go.Proofs.YtadghlfkddkelaaGreatDoor.V
open Go.RowKit
open Go.Maps (Keyed)
open Go.Proofs.YtadghlfkddkelaaGreatDoor.Ops (Tr Tk Lv Res Fit)
theorem Zhe:W7 Tryz.prog 198 .nilFunc:=fun w=>Tryz.zeroValue198 w
theorem GY {E:PEnv} {i:Nat} {tk:TkP} {r:List TkP} (h:Yv E.l E.t i (tk::r)):i<E.t.length∧E.at_ r=i+1∧E.at_ (tk::r)=i:=by
 have:=XX h
 simp only [List.length_cons] at this
 unfold PEnv.at_
 simp only [List.length_cons]
 omega
theorem ZlU (E:PEnv) (i:Nat) (hi:i<E.t.length) (rest:List TkP) (hr:E.at_ rest=i+1) (hk:(Zf E.t i).kind=1∨(Zf E.t i).kind=2):E.Ans 160 [.ptr 0 6 0 0] i (some (.leaf ((Zf E.t i).kind,(Zf E.t i).text),rest)):=by
 refine .mk ?_
 have cn:=UP E.b1 E.b2 E.b3 E.b4 E.t E.len i hi
 rw [hr]
 simp only [PEnv.ob,pOb,PEnv.mps,Y2,PTok.cells] at cn ⊢
 refine XA Tryz.func160 (by kernel_rfl) rfl (by simp [Tryz.ntmps160]) ?_;simp only [Tryz.ntmps160,Tryz.results160];simp [go_sem]
 refine Zx [0] cn (by simp) ?_ ?_ ?_ ?_
 ·simp [go_sem]
 ·simp [go_sem]
  exact fun i c _ h=>Zm E.t i c h
 ·simp [go_sem]
 ·rintro av mem maps ⟨rfl,rfl,rfl⟩
  simp only [pOb]
  simp [go_sem]
  rcases hk with hk|hk
  ·simp [hk,go_sem]
   exact E.fin_ [] (by simp only [Wg,hk]) rfl
  ·simp [hk,go_sem]
   exact E.fin_ [] (by simp only [Wg,hk]) rfl
theorem ZlT (E:PEnv) (i:Nat) (hi:i<E.t.length) (j:Nat) (hj:j<E.t.length) (e:PT) (r0 rest:List TkP) (h0:E.at_ r0=j) (hr:E.at_ rest=j+1) (hk:(Zf E.t i).kind=4) (hk2:(Zf E.t j).kind=5) (hl:Z6 e<2^62) (ho:E.Ans 140 [.ptr 0 6 0 0,.lit (.int .i64 0)] (i+1) (some (e,r0))):E.Ans 160 [.ptr 0 6 0 0] i (some (.grp e,rest)):=by
 refine .mk ?_
 obtain ⟨T,u,hT,_,fh,hh,ch⟩:=Uo e
 have ew:IntKind.i64.wrap (1+Z6 e)=1+Z6 e:=wrap_i64 (by have:=Wy e;omega)
 have cn:=UP E.b1 E.b2 E.b3 E.b4 E.t E.len i hi
 have cn2:=UP E.b1 E.b2 E.b3 E.b4 E.t E.len j hj
 rw [hr]
 simp only [PEnv.ob,pOb,PEnv.mps,Y2,PTok.cells] at cn cn2 ⊢
 refine XA Tryz.func160 (by kernel_rfl) rfl (by simp [Tryz.ntmps160]) ?_;simp only [Tryz.ntmps160,Tryz.results160];simp [go_sem]
 refine Zx [0] cn (by simp) ?_ ?_ ?_ ?_
 ·simp [go_sem]
 ·simp [go_sem]
  exact fun i c _ h=>Zm E.t i c h
 ·simp [go_sem]
 ·rintro av mem maps ⟨rfl,rfl,rfl⟩
  simp only [pOb]
  simp [hk,go_sem]
  refine Yr [0] 48 ho (by simp) rfl (fun i _=>rnP E.lo i) ?_ ?_ ?_ ?_
  ·simp [go_sem]
  ·simp [go_sem,PEnv.ob,pOb]
   exact fun i c _ h=>Zm E.t i c h
  ·exact E.mpsLe []
  ·rintro av mem maps ⟨⟨rfl,rfl⟩,rfl⟩
   rw [h0]
   simp only [PEnv.ob,pOb,PEnv.mps,Y2]
   simp [go_sem]
   refine Zx [0] cn2 (by simp) ?_ ?_ ?_ ?_
   ·simp [go_sem]
   ·simp [go_sem]
    exact fun i c _ h=>Zm E.t i c h
   ·simp [go_sem]
   ·rintro av mem maps ⟨rfl,rfl,rfl⟩
    simp only [pOb]
    simp [hk2,go_sem]
    rw [hT]
    simp [go_sem,hh]
    refine Zc ch ?_ ?_
    ·simp [go_sem]
    ·simp [go_sem,ew]
     exact E.fin_ E.mps (by simp only [Wg,hT]) rfl
theorem ZdH (E:PEnv) (i:Nat) (hi:i<E.t.length) (hk:(Zf E.t i).kind=4) (ho:E.Ans 140 [.ptr 0 6 0 0,.lit (.int .i64 0)] (i+1) none):E.Ans 160 [.ptr 0 6 0 0] i none:=by
 have cn:=UP E.b1 E.b2 E.b3 E.b4 E.t E.len i hi
 simp only [PEnv.Ans,PEnv.ob,pOb,PEnv.mps,Y2,PTok.cells] at cn ho ⊢
 refine XW Tryz.func160 (by kernel_rfl) rfl (by simp [Tryz.ntmps160]) ?_;simp only [Tryz.ntmps160,VV,X1,List.length_cons,List.length_nil,List.length_singleton]
 refine Yx ?_
 simp [go_sem]
 refine Yx ?_
 simp [go_sem]
 refine Zx [0] cn (by simp) ?_ ?_ ?_ ?_
 ·simp [go_sem]
 ·simp [go_sem]
  exact fun i c _ h=>Zm E.t i c h
 ·simp [go_sem]
 ·rintro av mem maps ⟨rfl,rfl,rfl⟩
  simp only [pOb]
  simp [hk,go_sem]
  refine Qj ?_
  refine Yx ?_
  simp [hk,go_sem]
  refine Yx ?_
  simp [hk,go_sem]
  refine Yx ?_
  simp [hk,go_sem]
  refine Yx ?_
  simp [hk,go_sem]
  refine Qj ?_
  refine Zhi 1 ?_
  simp [go_sem]
  refine WY [0] 48 ho (by simp) rfl (fun i _=>rnP E.lo i) ?_ ?_ (E.mpsLe []) (E.mpsLe [])
  ·simp [go_sem]
  ·simp [go_sem,PEnv.ob,pOb]
   exact fun i c _ h=>Zm E.t i c h
theorem Gv (E:PEnv) (i:Nat) (hi:i<E.t.length) (j:Nat) (hj:j<E.t.length) (e:PT) (r0:List TkP) (h0:E.at_ r0=j) (hk:(Zf E.t i).kind=4) (hk2:(Zf E.t j).kind≠5) (ho:E.Ans 140 [.ptr 0 6 0 0,.lit (.int .i64 0)] (i+1) (some (e,r0))):E.Ans 160 [.ptr 0 6 0 0] i none:=by
 have cn:=UP E.b1 E.b2 E.b3 E.b4 E.t E.len i hi
 have cn2:=UP E.b1 E.b2 E.b3 E.b4 E.t E.len j hj
 simp only [PEnv.Ans,PEnv.ob,pOb,PEnv.mps,Y2,PTok.cells] at cn cn2 ⊢
 refine XW Tryz.func160 (by kernel_rfl) rfl (by simp [Tryz.ntmps160]) ?_;simp only [Tryz.ntmps160,VV,X1,List.length_cons,List.length_nil,List.length_singleton]
 refine Yx ?_
 simp [go_sem]
 refine Yx ?_
 simp [go_sem]
 refine Zx [0] cn (by simp) ?_ ?_ ?_ ?_
 ·simp [go_sem]
 ·simp [go_sem]
  exact fun i c _ h=>Zm E.t i c h
 ·simp [go_sem]
 ·rintro av mem maps ⟨rfl,rfl,rfl⟩
  simp only [pOb]
  simp [hk,go_sem]
  refine Qj ?_
  refine Yx ?_
  simp [hk,go_sem]
  refine Yx ?_
  simp [hk,go_sem]
  refine Yx ?_
  simp [hk,go_sem]
  refine Yx ?_
  simp [hk,go_sem]
  refine Yx ?_
  simp [hk,go_sem]
  refine Yr [0] 48 ho (by simp) rfl (fun i _=>rnP E.lo i) ?_ ?_ ?_ ?_
  ·simp [go_sem]
  ·simp [go_sem,PEnv.ob,pOb]
   exact fun i c _ h=>Zm E.t i c h
  ·exact E.mpsLe []
  ·rintro av mem maps ⟨⟨rfl,rfl⟩,rfl⟩
   rw [h0]
   simp only [PEnv.ob,pOb,PEnv.mps,Y2]
   simp [go_sem]
   refine Qj ?_
   refine Yx ?_
   simp [go_sem]
   refine Zx [0] cn2 (by simp) ?_ ?_ ?_ ?_
   ·simp [go_sem]
   ·simp [go_sem]
    exact fun i c _ h=>Zm E.t i c h
   ·simp [go_sem]
   ·rintro av mem maps ⟨rfl,rfl,rfl⟩
    simp only [pOb]
    simp [hk2,go_sem]
    refine Zhi 2 ?_
    simp [go_sem,G2,E.n13,E.n14,E.n34]
theorem ZmO (E:PEnv) (i:Nat) (hi:i<E.t.length) (q:Nat) (hk:(Zf E.t i).kind=3) (hz:(Zf E.t i).text.size≤maxLen) (hm:mget E.esN (.string (Zf E.t i).text)=some (.func (.func 139) #[] #[vsP E.bp E.bo 0,vsP E.bp E.bo (q+1)])) (e:PT) (rest:List TkP)
  (ho:E.Ans 139 [.agg (Zf E.t i).cells,.lit (vsP E.bp E.bo 0),.lit (vsP E.bp E.bo (q+1))] (i+1) (some (e,rest))):E.Ans 160 [.ptr 0 6 0 0] i (some (e,rest)):=by
 refine .mk ?_
 have cn:=UP E.b1 E.b2 E.b3 E.b4 E.t E.len i hi
 have h13:=E.n13
 have h14:=E.n14
 have h34:=E.n34
 simp only [PEnv.ob,pOb,PEnv.mps,Y2,PTok.cells,vsP] at cn ho hm ⊢
 refine XA Tryz.func160 (by kernel_rfl) rfl (by simp [Tryz.ntmps160]) ?_;simp only [Tryz.ntmps160,Tryz.results160];simp [go_sem]
 refine Zx [0] cn (by simp) ?_ ?_ ?_ ?_
 ·simp [go_sem]
 ·simp [go_sem]
  exact fun i c _ h=>Zm E.t i c h
 ·simp [go_sem]
 ·rintro av mem maps ⟨rfl,rfl,rfl⟩
  simp only [pOb]
  simp [hk,go_sem]
  refine Zn [8] (.q 0 <| .q 1 <| .q 2 <| .q 3 <| .q 4 <| .q 5 <| .q 6 <| .q 7 <| .or 8 (.q 9 <| .done) (.nil)) (by kernel_rfl) ?_
  simp [hk,go_sem,h13,h14,h34]
  refine Yj ZS (YJ hz) _ Zhe ?_
  rw [hm]
  simp [go_sem]
  refine Yr [0] 48 ho (by simp) rfl (fun i _=>rnP E.lo i) ?_ ?_ ?_ ?_
  ·simp [go_sem,hk]
  ·simp [go_sem,PEnv.ob,pOb]
   exact fun i c _ h=>Zm E.t i c h
  ·exact E.mpsLe []
  ·rintro av mem maps ⟨⟨rfl,rfl⟩,rfl⟩
   simp only [PEnv.ob,pOb,PEnv.mps,Y2]
   simp [go_sem]
   exact E.fin_ E.mps rfl rfl
theorem Zfa (E:PEnv) (i:Nat) (hi:i<E.t.length) (q:Nat) (hk:(Zf E.t i).kind=3) (hz:(Zf E.t i).text.size≤maxLen) (hm:mget E.esN (.string (Zf E.t i).text)=some (.func (.func 139) #[] #[vsP E.bp E.bo 0,vsP E.bp E.bo (q+1)]))
  (ho:E.Ans 139 [.agg (Zf E.t i).cells,.lit (vsP E.bp E.bo 0),.lit (vsP E.bp E.bo (q+1))] (i+1) none):E.Ans 160 [.ptr 0 6 0 0] i none:=by
 have cn:=UP E.b1 E.b2 E.b3 E.b4 E.t E.len i hi
 have h13:=E.n13
 have h14:=E.n14
 have h34:=E.n34
 simp only [PEnv.Ans,PEnv.ob,pOb,PEnv.mps,Y2,PTok.cells,vsP] at cn ho hm ⊢
 refine XW Tryz.func160 (by kernel_rfl) rfl (by simp [Tryz.ntmps160]) ?_;simp only [Tryz.ntmps160,VV,X1,List.length_cons,List.length_nil,List.length_singleton]
 refine Yx ?_
 simp [go_sem]
 refine Yx ?_
 simp [go_sem]
 refine Zx [0] cn (by simp) ?_ ?_ ?_ ?_
 ·simp [go_sem]
 ·simp [go_sem]
  exact fun i c _ h=>Zm E.t i c h
 ·simp [go_sem]
 ·rintro av mem maps ⟨rfl,rfl,rfl⟩
  simp only [pOb]
  simp [hk,go_sem]
  refine Yx ?_
  simp [hk,go_sem]
  refine Qj (Jy [8] (.q 0 <| .q 1 <| .q 2 <| .q 3 <| .q 4 <| .q 5 <| .q 6 <| .q 7 <| .or 8 (.q 9 <| .done) (.nil)) (by kernel_rfl) ?_)
  simp [hk,go_sem,h13,h14,h34]
  refine Yj ZS (YJ hz) _ Zhe ?_
  rw [hm]
  simp [go_sem]
  refine WY [0] 48 ho (by simp) rfl (fun i _=>rnP E.lo i) ?_ ?_ (E.mpsLe []) (E.mpsLe [])
  ·simp [go_sem,hk]
  ·simp [go_sem,PEnv.ob,pOb]
   exact fun i c _ h=>Zm E.t i c h
theorem Zj0 {l:List POp} {k:PTok} {tk:TkP} (h:UT l k tk):k.kind=5→tk=.cls:=by
 cases tk<;>simp only [UT] at h<;>intro h5<;>first|rfl|(exfalso;omega)|skip
theorem Zl6 (E:PEnv) (n:Nat) (hO:∀ i m d ts res,Yv E.l E.t i ts→Fit true d ts→Ops.operand lvO n m ts=some res→E.Ans 140 [.ptr 0 6 0 0,.lit (.int .i64 m)] i res)
  (i d:Nat) (ts:List TkP) (res:Option (PT×List TkP)) (ht:Yv E.l E.t i ts) (hf:Fit true d ts) (h:Ops.firstF lvO (Ops.operand lvO n) ts=some res):E.Ans 160 [.ptr 0 6 0 0] i res:=by
 cases ts with
 |nil=>exact absurd hf (by simp [Fit])
 |cons tk r=>
  obtain ⟨hi,h1,_⟩:=GY ht
  obtain ⟨ht1,ht2⟩:=ht
  have big:∀ {m:Int} {u:List TkP} {e:PT} {rest:List TkP},u.length≤E.t.length→Ops.operand lvO n m u=some (some (e,rest))→Z6 e≤1048576:=@fun _ _ e _ hu hq=>by
   have:=((Ops.sound_all lvO n).1 _ _ _ _ hq).1
   have h2:=Xh e
   have h3:=congrArg List.length this
   rw [List.length_append] at h3
   have:=E.len
   omega
  have hlen:=XX ht2
  cases tk with
  |leaf b=>
   simp only [Ops.firstF,Option.some.injEq] at h
   subst h
   simp only [UT] at ht1
   have:=ZlU E i hi r h1 ht1.1
   rw [ht1.2];exact this
  |opn=>
   simp only [UT] at ht1
   simp only [Fit] at hf
   cases hq:Ops.operand lvO n 0 r with
   |none=>simp [Ops.firstF,hq] at h
   |some x=>
    have ho:=hO (i+1) 0 (d+1) r x ht2 hf hq
    cases x with
    |none=>
     simp [Ops.firstF,hq] at h
     subst h
     exact ZdH E i hi ht1 ho
    |some y=>
     obtain ⟨e,r0⟩:=y
     have hs:=((Ops.sound_all lvO n).1 _ _ _ _ hq).1
     have ht3:=ht2
     rw [hs] at ht3
     have ht4:=W8 ht3
     have hj:E.t.length-1-r0.length<E.t.length:=by omega
     have hb:=big (by omega) hq
     simp only [Ops.firstF,hq] at h
     cases r0 with
     |nil=>
      simp at h;subst h
      exact Gv E i hi (E.at_ []) hj e [] rfl ht1 (by
       have:=ht4.2
       show (Zf E.t (E.t.length-1-0)).kind≠5
       simp only [List.length_nil] at this
       omega) ho
     |cons tk2 r1=>
      obtain ⟨_,h6,h7⟩:=GY ht4
      by_cases hc:tk2=.cls
      ·subst hc
       simp at h;subst h
       have hk5:=ht4.1
       simp only [UT] at hk5
       exact ZlT E i hi (E.at_ (.cls::r1)) hj e _ r1 rfl h6 ht1 hk5 (by omega) ho
      ·have hn:res=none:=by cases tk2<;>first|exact absurd rfl hc|(simp at h;exact h.symm)
       subst hn
       exact Gv E i hi (E.at_ (tk2::r1)) hj e _ rfl ht1 (fun h5=>hc (Zj0 ht4.1 h5)) ho
  |pre o=>
   simp only [UT] at ht1
   simp only [Fit] at hf
   obtain ⟨k1,k2,k3,j,hj,rfl⟩:=ht1
   obtain ⟨q,hq0,hq1,hq2⟩:=E.maps.nud j hj k3
   have hok:=E.maps.ok j hj
   have hh:Q6 (Zl E.lo q) false=(lvO (Zl E.l j)).h2:=by rw [hq1];exact Ze4 hok k3
   have hw:(Zl E.lo q).wf:=by rw [hq1];exact E.maps.wf j hj
   rw [k2] at hq2
   cases hq:Ops.operand lvO n (lvO (Zl E.l j)).h2 r with
   |none=>simp [Ops.firstF,hq] at h
   |some x=>
    have ho:=hO (i+1) _ d r x ht2 hf hq
    rw [←hh] at ho
    simp only [Ops.firstF,hq] at h
    cases x with
    |none=>
     simp at h;subst h
     exact Zfa E i hi q k1 (E.txt i hi) hq2 (ZfP E _ q hq0 hw _ ho)
    |some y=>
     obtain ⟨e,r0⟩:=y
     simp at h;subst h
     have hb:=big (by omega) hq
     have:=ZmO E i hi q k1 (E.txt i hi) hq2 _ _ (ZmV E (Zf E.t i) q hq0 hw _ e r0 (by omega) ho)
     rw [hq1] at this;exact this
  |cls=>exact absurd hf (by simp [Fit])
  |inf o=>exact absurd hf (by simp [Fit])
  |post o=>exact absurd hf (by simp [Fit])
theorem PEnv.mpsLe1 (E:PEnv) (M:List (Nat×Mp)):Yc ((E.b1,⟨109,E.esA⟩)::(E.mps++M)) E.mps:=by
 have h1:=E.n13
 have h2:=E.n14
 have h3:=E.n34
 simp [PEnv.mps,Y2,Yc,lkm,h1,h2,h3,Ne.symm h1,Ne.symm h2,Ne.symm h3]
theorem PEnv.fin2 (E:PEnv) {u v:Value} {i j:Nat} {M:List (Nat×Mp)} (hM:Yc M E.mps) {r:List (Option Ob)} {tm:List (Nat×AV)} (hv:v=u) (hij:i=j):VJ E.mps (E.Rt u j) ⟨tm,E.ob i::r,M,1⟩ (.lit v):=by
 subst hv;subst hij
 refine ⟨rfl,[],[E.ob i],by simp,by simp,by simp [go_sem],?_,fun b hb=>?_,⟨⟨rfl,rfl⟩,hM⟩⟩
 ·simp only [PEnv.ob,pOb]
  simp [go_sem]
  exact Zki
 ·cases hq:lkm E.mps b with
  |none=>rw [hq] at hb;simp at hb
  |some mp=>rw [Z7 hM (b,mp) (Xt hq)];rfl
theorem ZcP:W7 Tryz.prog 199 .nilFunc:=fun w=>Tryz.zeroValue199 w
structure AtLoop (E:PEnv) (n:Nat) (m:Int) (res:Option (PT×List TkP)) (x:PT×List TkP):Prop where
 run:∃ k,k≤n∧Ops.loop lvO k m x.1 x.2=some res
 toks:Yv E.l E.t (E.at_ x.2) x.2
 fit:∃ d,Fit false d x.2
 len:x.1.yield.length+x.2.length+1≤E.t.length
def Hk (E:PEnv) (m:Int) (x:PT×List TkP):VS:=⟨[(62,.fam (E.lo.length+1) (vsP E.bp E.bo) (asP E.lo)),(0,.ptr 0 6 0 0),(1,.lit (.int .i64 m)),(4,.lit .nilIface),(5,.lit (Wg x.1))],[E.ob (E.at_ x.2)],E.mps,1⟩
theorem ZlG (E:PEnv) (n:Nat) (hO:∀ i m d ts res,Yv E.l E.t i ts→Fit true d ts→Ops.operand lvO n m ts=some res→E.Ans 140 [.ptr 0 6 0 0,.lit (.int .i64 m)] i res)
  (i:Nat) (m:Int) (e:PT) (ts:List TkP) (er:PT) (rest:List TkP) (hf:E.Ans 160 [.ptr 0 6 0 0] i (some (e,ts))) (hm:m≤e.level lvO) (hl:AtLoop E n m (some (er,rest)) (e,ts)):E.Ans 140 [.ptr 0 6 0 0,.lit (.int .i64 m)] i (some (er,rest)):=by
 refine .mk ?_
 obtain ⟨T,u,hT,⟨fl,hfl,cl⟩,_⟩:=Uo e
 have h13:=E.n13
 have h14:=E.n14
 have h34:=E.n34
 simp only [PEnv.ob,pOb,PEnv.mps,Y2]
 refine XA Tryz.func140 (by kernel_rfl) rfl (by simp [Tryz.ntmps140]) ?_;simp only [Tryz.ntmps140,Tryz.results140];simp [go_sem]
 refine Yr [0] 62 hf (by simp) rfl (fun i _=>rnP E.lo i) ?_ ?_ ?_ ?_
 ·simp [go_sem]
 ·simp [go_sem,PEnv.ob,pOb]
  exact fun i c _ h=>Zm E.t i c h
 ·exact E.mpsLe []
 ·rintro av mem maps ⟨⟨rfl,rfl⟩,rfl⟩
  simp only [PEnv.ob,pOb,PEnv.mps,Y2]
  simp [go_sem]
  rw [hT]
  simp [go_sem,hfl]
  refine Zc cl ?_ ?_
  ·simp [go_sem]
  ·rw [←Ko] at hm
   simp [go_sem,show ¬ZlL e<m by omega]
   refine ZC (AtLoop E n m (some (er,rest))) (fun x=>x.2.length) (Hk E m) ⟨(e,ts),hl,?_⟩ (fun x hx=>?_)
   ·refine ZU [0] (by simp) (by simp) (by simp) (by simp) (E.mpsLe _) ?_ ?_
    ·simp [go_sem]
     exact ⟨.fam _ _ _ _ fun i _=>rnP E.lo i,hT.symm⟩
    ·simp [go_sem,PEnv.ob,pOb]
     exact fun i c _ h=>Zm E.t i c h
   ·obtain ⟨e,ts⟩:=x
    obtain ⟨⟨k,hk,hrun⟩,htk,⟨d,hfit⟩,hlen⟩:=hx
    have hlt:E.at_ ts<E.t.length:=by unfold PEnv.at_;omega
    simp only [Hk,PEnv.ob,pOb,PEnv.mps,Y2]
    simp [go_sem]
    refine Zn [11] (.q 0 <| .q 1 <| .q 2 <| .q 3 <| .q 4 <| .q 5 <| .q 6 <| .q 7 <| .q 8 <| .q 9 <| .or 10 (.or 11 (.done) (.nil)) (.nil)) (by kernel_rfl) ?_
    simp [go_sem,Zg,hlt,PTok.cells]
    cases ts with
    |nil=>
     have hk7:=htk.2
     simp [go_sem,hk7]
     cases k with
     |zero=>simp [Ops.loop] at hrun
     |succ k=>
      simp [Ops.loop,Ops.loopF] at hrun
      obtain ⟨rfl,rfl⟩:=hrun
      exact E.fin_ [] rfl rfl
    |cons tk r=>
     obtain ⟨hi,hi1,hi2⟩:=GY htk
     obtain ⟨ht1,ht2⟩:=htk
     have hi2':E.at_ (tk::r)<E.t.length:=hlt
     by_cases hc:tk=.cls
     ·subst hc
      simp only [UT] at ht1
      simp [go_sem,ht1]
      cases k with
      |zero=>simp [Ops.loop] at hrun
      |succ k=>
       simp [Ops.loop,Ops.loopF] at hrun
       obtain ⟨rfl,rfl⟩:=hrun
       exact E.fin_ [] rfl rfl
     ·obtain ⟨o,hk3,htx,hko,⟨j,hj,hjo⟩,htk⟩:∃ o,(Zf E.t (E.at_ (tk::r))).kind=3∧o.text=(Zf E.t (E.at_ (tk::r))).text∧o.kind≠1∧(∃ j,j<E.l.length∧Zl E.l j=o)∧((tk=.inf o∧o.kind=2)∨(tk=.post o∧o.kind=3)):=by
       cases tk with
       |cls=>exact absurd rfl hc
       |inf o=>exact ⟨o,ht1.1,ht1.2.1,by have:=ht1.2.2.1;omega,ht1.2.2.2,.inl ⟨rfl,ht1.2.2.1⟩⟩
       |post o=>exact ⟨o,ht1.1,ht1.2.1,by have:=ht1.2.2.1;omega,ht1.2.2.2,.inr ⟨rfl,ht1.2.2.1⟩⟩
       |leaf b=>exact absurd hfit (by simp [Fit])
       |opn=>exact absurd hfit (by simp [Fit])
       |pre o=>exact absurd hfit (by simp [Fit])
      have hw:o.wf:=by rw [←hjo];exact E.maps.wf j hj
      have hok:Xx o=true:=by rw [←hjo];exact E.maps.ok j hj
      have hh1:=G6 hok hko
      have cH:=HY o hw false
      rw [hh1] at cH
      have cb:=ZfI E.l E.b1 E.b2 E.b3 E.b4 E.t (E.at_ (tk::r)) E.maps.uniq E.esA E.maps.at_ j hj (by rw [hjo];exact hko) (by rw [hjo];exact hw)
      rw [hjo,htx] at cb
      simp only [POp.cells,pOb] at cb cH
      simp [go_sem,hk3]
      refine Zx [0] cb (by simp) ?_ ?_ ?_ ?_
      ·simp [go_sem]
      ·simp [go_sem]
       exact fun i c _ h=>Zm E.t i c h
      ·simp [go_sem]
      ·rintro av mem maps ⟨rfl,rfl,rfl⟩
       simp only [pOb]
       simp [go_sem]
       have hrun':∃ k',k=k'+1∧((o.level<m∨e.level lvO<(lvO o).h1)→er=e∧rest=tk::r):=by
        cases k with
        |zero=>simp [Ops.loop] at hrun
        |succ k=>
         refine ⟨k,rfl,fun hor=>?_⟩
         rw [Ops.loop] at hrun
         rcases htk with ⟨rfl,_⟩|⟨rfl,_⟩<;>
         ·simp only [Ops.loopF] at hrun
          have hl:(lvO o).lev=o.level:=rfl
          rw [hl] at hrun
          by_cases hlm:o.level<m
          ·rw [if_pos hlm] at hrun;simp at hrun;exact ⟨hrun.1.symm,hrun.2.symm⟩
          ·rcases hor with hor|hor
           ·exact absurd hor hlm
           ·rw [if_neg hlm,if_pos hor] at hrun;simp at hrun;exact ⟨hrun.1.symm,hrun.2.symm⟩
       obtain ⟨k,rfl,hstop⟩:=hrun'
       refine ⟨fun hlm=>?_,fun hlm=>?_⟩
       ·obtain ⟨rfl,rfl⟩:=hstop (.inl hlm)
        exact E.fin2 (E.mpsLe1 []) rfl rfl
       ·refine Zn [] (.q 0 <| .q 2 <| .or 1 (.or 3 (.q 4 <| .done) (.nil)) (.nil)) (by kernel_rfl) ?_
        simp [go_sem]
        obtain ⟨T,u,hT,⟨fl,hfl,cl⟩,_⟩:=Uo e
        rw [hT]
        simp [go_sem,hfl]
        refine Zv cl ?_ ?_
        ·simp [go_sem]
        ·simp [go_sem]
         refine Zv cH ?_ ?_
         ·simp [go_sem]
         ·simp [go_sem]
          rw [←hT]
          rw [Ko]
          refine ⟨fun hlh=>?_,fun hlh=>?_⟩
          ·obtain ⟨rfl,rfl⟩:=hstop (.inr hlh)
           exact E.fin2 (E.mpsLe1 []) rfl rfl
          ·have ew:IntKind.i64.wrap ((E.at_ (tk::r):Int)+1)=((E.at_ r:Nat):Int):=by rw [hi1,hi2];exact Zj (by have:=E.len;omega)
           simp [go_sem,ew]
           refine Zn [9] (.q 0 <| .q 1 <| .q 2 <| .q 3 <| .q 4 <| .q 5 <| .q 6 <| .q 7 <| .q 8 <| .or 9 (.q 10 <| .done) (.nil)) (by kernel_rfl) ?_
           simp [go_sem,h13,h14,h34,Ne.symm h13,Ne.symm h14,Ne.symm h34]
           refine Yj ZS (YJ (E.txt _ hi2')) _ ZcP ?_
           have hye:=Xh e
           have hEl:=E.len
           simp only [List.length_cons] at hlen
           rcases htk with ⟨rfl,ho2⟩|⟨rfl,ho3⟩
           ·have hm2:=E.maps.led2 j hj (by rw [hjo];exact ho2)
            rw [hjo,htx] at hm2
            rw [hm2]
            simp [go_sem]
            simp only [Fit] at hfit
            have hh2:=J0 hok ho2
            rw [Ops.loop,Ops.loopF,if_neg (show ¬(lvO o).lev<m by show ¬o.level<m;omega),if_neg (show ¬e.level lvO<(lvO o).h1 by omega)] at hrun
            cases hq:Ops.operand lvO k (lvO o).h2 r with
            |none=>rw [hq] at hrun;simp at hrun
            |some y=>
             rw [hq] at hrun
             cases y with
             |none=>simp at hrun
             |some y=>
              obtain ⟨e2,r2⟩:=y
              simp only at hrun
              have hq':=Ops.operand_le lvO (show k≤n by omega) hq
              have hs:=((Ops.sound_all lvO n).1 _ _ _ _ hq').1
              have ht2':Yv E.l E.t (E.at_ r) r:=by rw [hi1,←hi2];exact ht2
              have ho:=hO (E.at_ r) _ d r _ ht2' hfit hq'
              rw [←hh2] at ho
              have hy2:=Xh e2
              have hl2:=congrArg List.length hs
              rw [List.length_append] at hl2
              have ha:=Zld E o hw (E.at_ r) e e2 r2 (by omega) (by omega) ho
              refine Yr [0] 62 ha (by simp) rfl (fun i _=>rnP E.lo i) ?_ ?_ ?_ ?_
              ·simp [go_sem,POp.cells,vsP]
              ·simp [go_sem,PEnv.ob,pOb]
               exact fun i c _ h=>Zm E.t i c h
              ·exact E.mpsLe1 []
              ·rintro av mem maps ⟨⟨rfl,rfl⟩,rfl⟩
               simp only [PEnv.ob,pOb]
               simp [go_sem]
               refine ⟨.inf o e e2,r2,⟨⟨k,by omega,hrun⟩,?_,⟨d,?_⟩,?_⟩,?_,?_⟩
               ·rw [hs] at ht2';exact W8 ht2'
               ·rw [hs] at hfit;exact W3 _ _ _ hfit
               ·simp [Tr.yield];omega
               ·try simp only [List.length_cons]
                omega
               ·refine ZU [0] (by simp) (by simp) (by simp) (by simp) (E.mpsLe _) ?_ ?_
                ·simp [go_sem]
                 exact .fam _ _ _ _ fun i _=>rnP E.lo i
                ·simp [go_sem,PEnv.ob,pOb]
                 exact fun i c _ h=>Zm E.t i c h
           ·have hm3:=E.maps.led3 j hj (by rw [hjo];exact ho3)
            rw [hjo,htx] at hm3
            rw [hm3]
            simp [go_sem]
            simp only [Fit] at hfit
            rw [Ops.loop,Ops.loopF,if_neg (show ¬(lvO o).lev<m by show ¬o.level<m;omega),if_neg (show ¬e.level lvO<(lvO o).h1 by omega)] at hrun
            have ha:=ZhW E e o r (by omega)
            have ht2':Yv E.l E.t (E.at_ r) r:=by rw [hi1,←hi2];exact ht2
            refine Yr [0] 62 ha (by simp) rfl (fun i _=>rnP E.lo i) ?_ ?_ ?_ ?_
            ·simp [go_sem,POp.cells,vsP]
            ·simp [go_sem,PEnv.ob,pOb]
             exact fun i c _ h=>Zm E.t i c h
            ·exact E.mpsLe1 []
            ·rintro av mem maps ⟨⟨rfl,rfl⟩,rfl⟩
             simp only [PEnv.ob,pOb]
             simp [go_sem]
             refine ⟨.post o e,r,⟨⟨k,by omega,hrun⟩,ht2',⟨d,hfit⟩,?_⟩,?_,?_⟩
             ·simp [Tr.yield];omega
             ·try simp only [List.length_cons]
              omega
             ·refine ZU [0] (by simp) (by simp) (by simp) (by simp) (E.mpsLe _) ?_ ?_
              ·simp [go_sem]
               exact .fam _ _ _ _ fun i _=>rnP E.lo i
              ·simp [go_sem,PEnv.ob,pOb]
               exact fun i c _ h=>Zm E.t i c h
theorem Zkp (E:PEnv) (i:Nat) (m:Int) (hf:E.Ans 160 [.ptr 0 6 0 0] i none):E.Ans 140 [.ptr 0 6 0 0,.lit (.int .i64 m)] i none:=by
 simp only [PEnv.Ans,PEnv.ob,pOb,PEnv.mps,Y2] at hf ⊢
 refine XW Tryz.func140 (by kernel_rfl) rfl (by simp [Tryz.ntmps140]) ?_;simp only [Tryz.ntmps140,VV,X1,List.length_cons,List.length_nil,List.length_singleton]
 refine Yx ?_
 simp [go_sem]
 refine Qj ?_
 refine Zhi 1 ?_
 simp [go_sem]
 refine WY [0] 62 hf (by simp) rfl (fun i _=>rnP E.lo i) ?_ ?_ (E.mpsLe []) (E.mpsLe [])
 ·simp [go_sem]
 ·simp [go_sem,PEnv.ob,pOb]
  exact fun i c _ h=>Zm E.t i c h
theorem Zko (E:PEnv) (i:Nat) (m:Int) (e:PT) (ts:List TkP) (hf:E.Ans 160 [.ptr 0 6 0 0] i (some (e,ts))) (hm:e.level lvO<m):E.Ans 140 [.ptr 0 6 0 0,.lit (.int .i64 m)] i none:=by
 obtain ⟨T,u,hT,⟨fl,hfl,cl⟩,_⟩:=Uo e
 simp only [PEnv.Ans,PEnv.ob,pOb,PEnv.mps,Y2]
 refine XW Tryz.func140 (by kernel_rfl) rfl (by simp [Tryz.ntmps140]) ?_;simp only [Tryz.ntmps140,VV,X1,List.length_cons,List.length_nil,List.length_singleton]
 refine Yx ?_
 simp [go_sem]
 refine Yx ?_
 simp [go_sem]
 refine Yr [0] 62 hf (by simp) rfl (fun i _=>rnP E.lo i) ?_ ?_ ?_ ?_
 ·simp [go_sem]
 ·simp [go_sem,PEnv.ob,pOb]
  exact fun i c _ h=>Zm E.t i c h
 ·exact E.mpsLe []
 ·rintro av mem maps ⟨⟨rfl,rfl⟩,rfl⟩
  simp only [PEnv.ob,pOb,PEnv.mps,Y2]
  simp [go_sem]
  rw [hT]
  refine Qj ?_
  refine Yx ?_
  simp [go_sem,hfl]
  refine Zc cl ?_ ?_
  ·simp [go_sem]
  ·rw [←Ko] at hm
   simp [go_sem,hm]
   refine Zhi 2 ?_
   simp [go_sem,G2,E.n13,E.n14,E.n34]
theorem Zkn (E:PEnv) (n:Nat) (hO:∀ i m d ts res,Yv E.l E.t i ts→Fit true d ts→Ops.operand lvO n m ts=some res→E.Ans 140 [.ptr 0 6 0 0,.lit (.int .i64 m)] i res)
  (i:Nat) (m:Int) (e:PT) (ts:List TkP) (hf:E.Ans 160 [.ptr 0 6 0 0] i (some (e,ts))) (hm:m≤e.level lvO) (hl:AtLoop E n m none (e,ts)):E.Ans 140 [.ptr 0 6 0 0,.lit (.int .i64 m)] i none:=by
 obtain ⟨T,u,hT,⟨fl,hfl,cl⟩,_⟩:=Uo e
 have h13:=E.n13
 have h14:=E.n14
 have h34:=E.n34
 simp only [PEnv.Ans,PEnv.ob,pOb,PEnv.mps,Y2]
 refine XW Tryz.func140 (by kernel_rfl) rfl (by simp [Tryz.ntmps140]) ?_;simp only [Tryz.ntmps140,VV,X1,List.length_cons,List.length_nil,List.length_singleton]
 refine Yx ?_
 simp [go_sem]
 refine Yx ?_
 simp [go_sem]
 refine Yr [0] 62 hf (by simp) rfl (fun i _=>rnP E.lo i) ?_ ?_ ?_ ?_
 ·simp [go_sem]
 ·simp [go_sem,PEnv.ob,pOb]
  exact fun i c _ h=>Zm E.t i c h
 ·exact E.mpsLe []
 ·rintro av mem maps ⟨⟨rfl,rfl⟩,rfl⟩
  simp only [PEnv.ob,pOb,PEnv.mps,Y2]
  simp [go_sem]
  rw [hT]
  refine Yx ?_
  simp [go_sem,hfl]
  refine Zc cl ?_ ?_
  ·simp [go_sem]
  ·rw [←Ko] at hm
   simp [go_sem,show ¬ZlL e<m by omega]
   refine ZjK (AtLoop E n m none) (fun x=>x.2.length) (Hk E m) ⟨(e,ts),hl,?_⟩ (fun x hx=>?_)
   ·refine ZU [0] (by simp) (by simp) (by simp) (by simp) (E.mpsLe _) ?_ ?_
    ·simp [go_sem]
     exact ⟨.fam _ _ _ _ fun i _=>rnP E.lo i,hT.symm⟩
    ·simp [go_sem,PEnv.ob,pOb]
     exact fun i c _ h=>Zm E.t i c h
   ·obtain ⟨e,ts⟩:=x
    obtain ⟨⟨k,hk,hrun⟩,htk,⟨d,hfit⟩,hlen⟩:=hx
    have hlt:E.at_ ts<E.t.length:=by unfold PEnv.at_;omega
    cases k with
    |zero=>simp [Ops.loop] at hrun
    |succ k=>
     rw [Ops.loop] at hrun
     cases ts with
     |nil=>simp [Ops.loopF] at hrun
     |cons tk r=>
      obtain ⟨hi,hi1,hi2⟩:=GY htk
      obtain ⟨ht1,ht2⟩:=htk
      have hi2':E.at_ (tk::r)<E.t.length:=hlt
      obtain ⟨o,hk3,htx,hko,⟨j,hj,hjo⟩,htk⟩:∃ o,(Zf E.t (E.at_ (tk::r))).kind=3∧o.text=(Zf E.t (E.at_ (tk::r))).text∧o.kind≠1∧(∃ j,j<E.l.length∧Zl E.l j=o)∧((tk=.inf o∧o.kind=2)∨(tk=.post o∧o.kind=3)):=by
       cases tk with
       |cls=>simp [Ops.loopF] at hrun
       |inf o=>exact ⟨o,ht1.1,ht1.2.1,by have:=ht1.2.2.1;omega,ht1.2.2.2,.inl ⟨rfl,ht1.2.2.1⟩⟩
       |post o=>exact ⟨o,ht1.1,ht1.2.1,by have:=ht1.2.2.1;omega,ht1.2.2.2,.inr ⟨rfl,ht1.2.2.1⟩⟩
       |leaf b=>exact absurd hfit (by simp [Fit])
       |opn=>exact absurd hfit (by simp [Fit])
       |pre o=>exact absurd hfit (by simp [Fit])
      have hlm:¬o.level<m:=fun hlm=>by
       rcases htk with ⟨rfl,_⟩|⟨rfl,_⟩<;>
       ·simp only [Ops.loopF] at hrun
        rw [if_pos (show (lvO o).lev<m from hlm)] at hrun
        simp at hrun
      have hlh:¬e.level lvO<(lvO o).h1:=fun hlh=>by
       rcases htk with ⟨rfl,_⟩|⟨rfl,_⟩<;>
       ·simp only [Ops.loopF] at hrun
        rw [if_neg (show ¬(lvO o).lev<m from hlm),if_pos hlh] at hrun
        simp at hrun
      have hw:o.wf:=by rw [←hjo];exact E.maps.wf j hj
      have hok:Xx o=true:=by rw [←hjo];exact E.maps.ok j hj
      have hh1:=G6 hok hko
      have cH:=HY o hw false
      rw [hh1] at cH
      have cb:=ZfI E.l E.b1 E.b2 E.b3 E.b4 E.t (E.at_ (tk::r)) E.maps.uniq E.esA E.maps.at_ j hj (by rw [hjo];exact hko) (by rw [hjo];exact hw)
      rw [hjo,htx] at cb
      have ew:IntKind.i64.wrap ((E.at_ (tk::r):Int)+1)=((E.at_ r:Nat):Int):=by rw [hi1,hi2];exact Zj (by have:=E.len;omega)
      obtain ⟨T,u,hT,⟨fl,hfl,cl⟩,_⟩:=Uo e
      have hye:=Xh e
      have hEl:=E.len
      simp only [List.length_cons] at hlen
      have ht2':Yv E.l E.t (E.at_ r) r:=by rw [hi1,←hi2];exact ht2
      simp only [POp.cells,pOb] at cb cH
      -- the walk to the call of the closure,throwing or not
      by_cases hdie:tk=.inf o∧Ops.operand lvO k (lvO o).h2 r=some none
      ·refine .inl ?_
       obtain ⟨rfl,hdq⟩:=hdie
       have ho2:o.kind=2:=by
        rcases htk with ⟨_,h⟩|⟨h,_⟩
        ·exact h
        ·simp at h
       simp only [Fit] at hfit
       have hh2:=J0 hok ho2
       have ho:=hO (E.at_ r) _ d r _ ht2' hfit (Ops.operand_le lvO (show k≤n by omega) hdq)
       rw [←hh2] at ho
       have ha:=ZfQ E o hw (E.at_ r) e ho
       have hm2:=E.maps.led2 j hj (by rw [hjo];exact ho2)
       rw [hjo,htx] at hm2
       simp only [Hk,PEnv.ob,pOb,PEnv.mps,Y2]
       simp [go_sem]
       refine Yx ?_
       refine Zn [11] (.q 0 <| .q 1 <| .q 2 <| .q 3 <| .q 4 <| .q 5 <| .q 6 <| .q 7 <| .q 8 <| .q 9 <| .or 10 (.or 11 (.done) (.nil)) (.nil)) (by kernel_rfl) ?_
       simp [go_sem,Zg,hlt,PTok.cells]
       refine Yx ?_
       simp [go_sem,hk3]
       refine Yx ?_
       simp [go_sem]
       refine Zx [0] cb (by simp) ?_ ?_ ?_ ?_
       ·simp [go_sem]
       ·simp [go_sem]
        exact fun i c _ h=>Zm E.t i c h
       ·simp [go_sem]
       ·rintro av mem maps ⟨rfl,rfl,rfl⟩
        simp only [pOb]
        simp [go_sem]
        refine Yx ?_
        simp [go_sem,hlm]
        refine Yx ?_
        simp [go_sem]
        refine Zn [] (.q 0 <| .q 2 <| .or 1 (.or 3 (.q 4 <| .done) (.nil)) (.nil)) (by kernel_rfl) ?_
        simp [go_sem]
        rw [hT]
        simp [go_sem,hfl]
        refine Zv cl ?_ ?_
        ·simp [go_sem]
        ·simp [go_sem]
         refine Zv cH ?_ ?_
         ·simp [go_sem]
         ·rw [←hT,Ko]
          simp [go_sem,hlh]
          refine Yx ?_
          simp [go_sem,ew]
          refine Jy [9] (.q 0 <| .q 1 <| .q 2 <| .q 3 <| .q 4 <| .q 5 <| .q 6 <| .q 7 <| .q 8 <| .or 9 (.q 10 <| .done) (.nil)) (by kernel_rfl) ?_
          simp [go_sem,h13,h14,h34,Ne.symm h13,Ne.symm h14,Ne.symm h34]
          refine Yj ZS (YJ (E.txt _ hi2')) _ ZcP ?_
          rw [hm2]
          simp [go_sem]
          refine WY [0] 62 ha (by simp) rfl (fun i _=>rnP E.lo i) ?_ ?_ (E.mpsLe1 []) (E.mpsLe [])
          ·simp [go_sem,POp.cells,vsP]
          ·simp [go_sem,PEnv.ob,pOb]
           exact fun i c _ h=>Zm E.t i c h
      ·refine .inr ?_
       simp only [Hk,PEnv.ob,pOb,PEnv.mps,Y2]
       simp [go_sem]
       refine Zn [11] (.q 0 <| .q 1 <| .q 2 <| .q 3 <| .q 4 <| .q 5 <| .q 6 <| .q 7 <| .q 8 <| .q 9 <| .or 10 (.or 11 (.done) (.nil)) (.nil)) (by kernel_rfl) ?_
       simp [go_sem,Zg,hlt,PTok.cells]
       simp [go_sem,hk3]
       refine Zx [0] cb (by simp) ?_ ?_ ?_ ?_
       ·simp [go_sem]
       ·simp [go_sem]
        exact fun i c _ h=>Zm E.t i c h
       ·simp [go_sem]
       ·rintro av mem maps ⟨rfl,rfl,rfl⟩
        simp only [pOb]
        simp [go_sem,hlm]
        refine Zn [] (.q 0 <| .q 2 <| .or 1 (.or 3 (.q 4 <| .done) (.nil)) (.nil)) (by kernel_rfl) ?_
        simp [go_sem]
        rw [hT]
        simp [go_sem,hfl]
        refine Zv cl ?_ ?_
        ·simp [go_sem]
        ·simp [go_sem]
         refine Zv cH ?_ ?_
         ·simp [go_sem]
         ·rw [←hT,Ko]
          simp [go_sem,hlh]
          simp [go_sem,ew]
          refine Zn [9] (.q 0 <| .q 1 <| .q 2 <| .q 3 <| .q 4 <| .q 5 <| .q 6 <| .q 7 <| .q 8 <| .or 9 (.q 10 <| .done) (.nil)) (by kernel_rfl) ?_
          simp [go_sem,h13,h14,h34,Ne.symm h13,Ne.symm h14,Ne.symm h34]
          refine Yj ZS (YJ (E.txt _ hi2')) _ ZcP ?_
          rcases htk with ⟨rfl,ho2⟩|⟨rfl,ho3⟩
          ·have hm2:=E.maps.led2 j hj (by rw [hjo];exact ho2)
           rw [hjo,htx] at hm2
           rw [hm2]
           simp [go_sem]
           simp only [Fit] at hfit
           have hh2:=J0 hok ho2
           rw [Ops.loopF,if_neg (show ¬(lvO o).lev<m by show ¬o.level<m;omega),if_neg (show ¬e.level lvO<(lvO o).h1 by omega)] at hrun
           cases hq:Ops.operand lvO k (lvO o).h2 r with
           |none=>rw [hq] at hrun;simp at hrun
           |some y=>
            rw [hq] at hrun
            cases y with
            |none=>exact absurd ⟨rfl,hq⟩ hdie
            |some y=>
             obtain ⟨e2,r2⟩:=y
             simp only at hrun
             have hq':=Ops.operand_le lvO (show k≤n by omega) hq
             have hs:=((Ops.sound_all lvO n).1 _ _ _ _ hq').1
             have ht2':Yv E.l E.t (E.at_ r) r:=by rw [hi1,←hi2];exact ht2
             have ho:=hO (E.at_ r) _ d r _ ht2' hfit hq'
             rw [←hh2] at ho
             have hy2:=Xh e2
             have hl2:=congrArg List.length hs
             rw [List.length_append] at hl2
             have ha:=Zld E o hw (E.at_ r) e e2 r2 (by omega) (by omega) ho
             refine Yr [0] 62 ha (by simp) rfl (fun i _=>rnP E.lo i) ?_ ?_ ?_ ?_
             ·simp [go_sem,POp.cells,vsP]
             ·simp [go_sem,PEnv.ob,pOb]
              exact fun i c _ h=>Zm E.t i c h
             ·exact E.mpsLe1 []
             ·rintro av mem maps ⟨⟨rfl,rfl⟩,rfl⟩
              simp only [PEnv.ob,pOb]
              simp [go_sem]
              refine ⟨.inf o e e2,r2,⟨⟨k,by omega,hrun⟩,?_,⟨d,?_⟩,?_⟩,?_,?_⟩
              ·rw [hs] at ht2';exact W8 ht2'
              ·rw [hs] at hfit;exact W3 _ _ _ hfit
              ·simp [Tr.yield];omega
              ·try simp only [List.length_cons]
               omega
              ·refine ZU [0] (by simp) (by simp) (by simp) (by simp) (E.mpsLe _) ?_ ?_
               ·simp [go_sem]
                exact .fam _ _ _ _ fun i _=>rnP E.lo i
               ·simp [go_sem,PEnv.ob,pOb]
                exact fun i c _ h=>Zm E.t i c h
          ·have hm3:=E.maps.led3 j hj (by rw [hjo];exact ho3)
           rw [hjo,htx] at hm3
           rw [hm3]
           simp [go_sem]
           simp only [Fit] at hfit
           rw [Ops.loopF,if_neg (show ¬(lvO o).lev<m by show ¬o.level<m;omega),if_neg (show ¬e.level lvO<(lvO o).h1 by omega)] at hrun
           have ha:=ZhW E e o r (by omega)
           have ht2':Yv E.l E.t (E.at_ r) r:=by rw [hi1,←hi2];exact ht2
           refine Yr [0] 62 ha (by simp) rfl (fun i _=>rnP E.lo i) ?_ ?_ ?_ ?_
           ·simp [go_sem,POp.cells,vsP]
           ·simp [go_sem,PEnv.ob,pOb]
            exact fun i c _ h=>Zm E.t i c h
           ·exact E.mpsLe1 []
           ·rintro av mem maps ⟨⟨rfl,rfl⟩,rfl⟩
            simp only [PEnv.ob,pOb]
            simp [go_sem]
            refine ⟨.post o e,r,⟨⟨k,by omega,hrun⟩,ht2',⟨d,hfit⟩,?_⟩,?_,?_⟩
            ·simp [Tr.yield];omega
            ·try simp only [List.length_cons]
             omega
            ·refine ZU [0] (by simp) (by simp) (by simp) (by simp) (E.mpsLe _) ?_ ?_
             ·simp [go_sem]
              exact .fam _ _ _ _ fun i _=>rnP E.lo i
             ·simp [go_sem,PEnv.ob,pOb]
              exact fun i c _ h=>Zm E.t i c h
theorem ZiY (E:PEnv):∀ (n i:Nat) (m:Int) (d:Nat) (ts:List TkP) (res:Option (PT×List TkP)),Yv E.l E.t i ts→Fit true d ts→Ops.operand lvO n m ts=some res→E.Ans 140 [.ptr 0 6 0 0,.lit (.int .i64 m)] i res:=by
 intro n
 induction n with
 |zero=>intro i m d ts res _ _ h;simp [Ops.operand] at h
 |succ n ih=>
  intro i m d ts res ht hf h
  rw [Ops.operand] at h
  cases hx:Ops.first lvO n ts with
  |none=>rw [hx] at h;simp at h
  |some x=>
   rw [hx] at h
   have h1:=Ops.first_le lvO (Nat.le_succ n) hx
   rw [Ops.first] at h1
   have ha:=Zl6 E n ih i d ts x ht hf h1
   cases x with
   |none=>
    simp at h;subst h
    exact Zkp E i m ha
   |some y=>
    obtain ⟨e,rest⟩:=y
    simp only at h
    by_cases hlm:e.level lvO<m
    ·rw [if_pos hlm] at h
     simp at h;subst h
     exact Zko E i m e rest ha hlm
    ·rw [if_neg hlm] at h
     have hs:=((Ops.sound_all lvO n).2.1 _ _ _ hx).1
     have hl:AtLoop E n m res (e,rest):=by
      have hlen:=XX ht
      rw [hs] at ht hf
      rw [hs,List.length_append] at hlen
      exact ⟨⟨n,Nat.le_refl _,h⟩,W8 ht,⟨d,W3 _ _ _ hf⟩,by simp only;omega⟩
     cases res with
     |none=>exact Zkn E n ih i m e rest ha (by omega) hl
     |some z=>exact ZlG E n ih i m e rest z.1 z.2 ha (by omega) hl
end Go.Proofs.YtadghlfkddkelaaGreatDoor.V
namespace Go.Proofs.YtadghlfkddkelaaGreatDoor.V
open Go.RowKit
theorem ZgO (p q:Addr) (w:World):CallsD Tryz.prog 144 #[.pointer (some p),.pointer (some q)] .returning w fun e u' w'=>e=.returned (.tuple #[])∧u'=.returning∧w'=w:=by
 refine callsD_of_wpS Tryz.func144 rfl fun c₀ cs hu=>?_
 apply wpS_seq
 apply wpS_region
 simp [wpOpsS,go_sem,recoverD,hu,Tryz.ntmps144,Exit.thenS]
 apply wpS_seq
 apply wpS_region
 simp [wpOpsS,go_sem,recoverD,hu,Exit.thenS]
 refine wpS_cond (t:=false) (by simp [Act.eval,Array.replicate]) ?_
 simp only [Bool.false_eq_true,if_false]
 refine wpS_of_wp (wp_skip ?_)
 cases c₀
 simp_all [bodyPostS,results,Tryz.results144]
theorem ZbZ (w:World):(Instr.typeAssert (.iface 201 (.agg #[])) 20 201 true).run Tryz.prog w=.ok (.tuple #[.agg #[],.bool true]) w:=by
 obtain ⟨d,h4,h5⟩:=Jg (P:=Tryz.prog) (T:=201) (by kernel_rfl)
 unfold Instr.typeAssert
 simp only [Sem.run_bind,Ya h4,Result.andThen_ok]
 cases d<;>first|exact absurd rfl (h5 _)|simp [Sem.run_pure]
theorem ZgP (p q:Addr) (x y:Value) (u:TypeId) (older:List PanicEntry) (w:World) (hc:w.cell? p=some x) (hz:w.frozen? p=false) (hc2:w.cell? q=some y) (hz2:w.frozen? q=false) (hpq:p.block≠q.block) :
  CallsD Tryz.prog 144 #[.pointer (some p),.pointer (some q)] (.panicking ({ v:=.iface 201 (.agg #[]),recovered:=false }::older)) w fun e u' w'=>e=.returned (.tuple #[])∧u'=.panicking ({ v:=.iface 201 (.agg #[]),recovered:=true }::older)∧w'=((w.alloc (.cells #[] 201)).setCell p .nilIface).setCell q (.bool false):=by
 refine callsD_of_wpS Tryz.func144 rfl fun c₀ cs hu=>?_
 apply wpS_seq
 apply wpS_region
 simp [wpOpsS,go_sem,recoverD,hu,Tryz.ntmps144,Exit.thenS]
 apply wpS_seq
 apply wpS_region
 simp [wpOpsS,go_sem,recoverD,hu,Exit.thenS]
 refine wpS_cond (t:=true) (by simp [Act.eval,Array.replicate]) ?_
 simp only [if_true]
 apply wpS_seq
 apply wpS_seq
 apply wpS_region
 simp [wpOpsS,go_sem,recoverD,hu,Exit.thenS,ZbZ]
 apply wpS_seq
 apply wpS_region
 simp [wpOpsS,go_sem,recoverD,hu,Exit.thenS]
 refine wpS_cond (t:=false) (by simp [Act.eval,Array.replicate]) ?_
 simp only [Bool.false_eq_true,if_false]
 refine wpS_of_wp (wp_skip ?_)
 simp only [Exit.thenS]
 apply wpS_region
 have h1:(w.alloc (.cells #[] 201)).cell? p=some x:=(World.cell?_alloc_lt _ _ _ (World.block_lt_of_cell? w _ hc)).trans hc
 have h2:(w.alloc (.cells #[] 201)).frozen? p=false:=(World.frozen?_alloc_old _ _ _ (by have:=World.block_lt_of_cell? w _ hc;omega)).trans hz
 have h3:((w.alloc (.cells #[] 201)).setCell p .nilIface).cell? q=some y:=by
  rw [World.cell?_setCell_other _ _ _ _ (fun e=>hpq (by rw [e]))]
  exact (World.cell?_alloc_lt _ _ _ (World.block_lt_of_cell? w _ hc2)).trans hc2
 have h4:((w.alloc (.cells #[] 201)).setCell p .nilIface).frozen? q=false:=by
  rw [World.frozen?_setCell]
  exact (World.frozen?_alloc_old _ _ _ (by have:=World.block_lt_of_cell? w _ hc2;omega)).trans hz2
 simp [wpOpsS,go_sem,h1,h2,h3,h4,bodyPostS,results,Tryz.results144]
open Go.Maps (Keyed)
open Go.Proofs.YtadghlfkddkelaaGreatDoor.Ops (Tr Tk Lv Res Fit)
def Ug (E:PEnv) (i:Nat):VS:=⟨[(3,.ptr 2 1 0 0),(2,.ptr 1 1 0 0),(20,.fam (E.lo.length+1) (vsP E.bp E.bo) (asP E.lo)),(0,.ptr 0 6 0 0)],[E.ob i,some ⟨158,1,1,fun _=>[.lit .nilIface]⟩,some ⟨4,1,1,fun _=>[.lit (.bool false)]⟩],E.mps,1⟩
def PEnv.Rw (E:PEnv) (u:Value) (b:Bool) (j:Nat) (av:AV) (mem:List (Option Ob)) (maps:List (Nat×Mp)):Prop:=(av=.tup [.lit u,.lit (.bool b)]∧mem=[E.ob j])∧Yc maps E.mps
theorem PEnv.finw (E:PEnv) {u v:Value} {b c:Bool} {i j:Nat} {M:List (Nat×Mp)} (hM:Yc M E.mps) {r:List (Option Ob)} {tm:List (Nat×AV)} (hv:v=u) (hb:c=b) (hij:i=j):VJ E.mps (E.Rw u b j) ⟨tm,E.ob i::r,M,1⟩ (.tup [.lit v,.lit (.bool c)]):=by
 subst hv;subst hij;subst hb
 refine ⟨rfl,[],[E.ob i],by simp,by simp,by simp [go_sem],?_,fun b hb=>?_,⟨⟨rfl,rfl⟩,hM⟩⟩
 ·simp only [PEnv.ob,pOb]
  simp [go_sem]
  exact Zki
 ·cases hq:lkm E.mps b with
  |none=>rw [hq] at hb;simp at hb
  |some mp=>rw [Z7 hM (b,mp) (Xt hq)];rfl
theorem ZdL (E:PEnv) (i:Nat) (e:PT) (rest:List TkP) (hi:E.at_ rest<E.t.length) (ho:E.Ans 140 [.ptr 0 6 0 0,.lit (.int .i64 0)] i (some (e,rest))) :
  VProcG Tryz.prog 108 [.ptr 0 6 0 0] (E.lo.length+1) (vsP E.bp E.bo) (asP E.lo) [E.ob i] E.mps (E.Rw (Wg e) (decide ((Zf E.t (E.at_ rest)).kind=7)) (E.at_ rest)):=by
 refine ⟨⟨_,Tryz.func108,by kernel_rfl,rfl⟩,fun w vs hd0 hlen hrep hfam hm hmp htl=>?_⟩
 have hrel:=(Vm (P:=Tryz.prog) (fn:=Tryz.f108) (by simp [Tryz.ntmps108]) hlen hrep hm hmp htl).tell 20 hfam
 suffices hX:∀ (X:Value→World→Prop),(∀ v w',(Bel (Sh w hd0 [E.ob i] E.mps) w w'∧∃ hd av mem maps,E.Rw (Wg e) (decide ((Zf E.t (E.at_ rest)).kind=7)) (E.at_ rest) av mem maps∧PostOk [E.ob i] E.mps av mem maps∧((∀ k,k<[E.ob i].length→hd k=hd0 k)∧TailEq hd0 hd)∧MemRel (Sh w hd0 [E.ob i] E.mps) w' hd mem∧MapRel Tryz.prog (Sh w hd0 [E.ob i] E.mps) w' maps∧Rep w' (Zw mem hd) hd mem.length av v)→X v w')→Calls Tryz.prog 108 vs.toArray w (fun e w'=>∃ v,e=.returned v∧X v w') from hX _ fun v w' h=>h
 intro X hX
 refine calls_of_wp_defers Tryz.func108 rfl ?_
 refine wp_seq (X6 rfl _ hrel (K:=fun e s=>e=.normal∧s=Ug E i) ?_ fun x hd' s' a' w' h' hk=>?_)
 ·simp only [Tryz.ntmps108,PEnv.ob,pOb,PEnv.mps,Y2,X1]
  simp [go_sem]
  rfl
 ·obtain ⟨rfl,rfl⟩:=hk
  simp only [VX.out,Exit.then]
  refine wp_seq (wp_region_list ?_)
  have hmf:∀ (fn:Fn) (first cap:Array Value) (w:World),(Instr.makeFunc fn first cap).run Tryz.prog w=.ok (.func fn first cap) w:=fun _ _ _ _=>rfl
  have hsz:a'.tmps.size=20:=h'.size
  have hds:a'.defers=[]:=h'.defers
  obtain ⟨b2,n2,c2,hb2,hp2⟩:=UL (h'.tm 2)
  obtain ⟨b3,n3,c3,hb3,hp3⟩:=UL (h'.tm 3)
  simp [hsz] at hp2 hp3
  simp [wpList,Region.wanted,Oper.wp,Oper.upon,go_sem,hmf,hsz,hds,hp2,hp3,Exit.then]
  refine .inl (.inl ?_)
  have h2:RelH 20 ⟨Tryz.prog,Sh w hd0 [E.ob i] E.mps,hd0,[⟨.fn (.func 144) #[.pointer (some ⟨b2,0,none⟩),.pointer (some ⟨b3,0,none⟩)],#[]⟩]⟩ w hd' (Ug E i) ⟨a'.tmps.setIfInBounds 4 (.func (.func 144) #[] #[.pointer (some ⟨b2,0,none⟩),.pointer (some ⟨b3,0,none⟩)]),[⟨.fn (.func 144) #[.pointer (some ⟨b2,0,none⟩),.pointer (some ⟨b3,0,none⟩)],#[]⟩]⟩ w':=by
   refine ⟨rfl,by simp [hsz],h'.below,⟨h'.le.1,h'.le.2,h'.le.3⟩,h'.fixl,h'.fix,h'.mp,fun t=>?_,h'.me⟩
   by_cases ht:t=4
   ·subst ht
    exact .undef _
   ·have:=h'.tm t
    rwa [show (a'.tmps.setIfInBounds 4 (.func (.func 144) #[] #[.pointer (some ⟨b2,0,none⟩),.pointer (some ⟨b3,0,none⟩)])).getD t undef=a'.tmps.getD t undef by
     simp only [Array.getD_eq_getD_getElem?];rw [Array.getElem?_setIfInBounds_ne (by omega)]]
  refine X6 rfl _ h2 (K:=Zh1 Tryz.prog 1 E.mps Tryz.f108.results.toList (E.Rw (Wg e) (decide ((Zf E.t (E.at_ rest)).kind=7)) (E.at_ rest))) ?_ fun x hd3 s3 a3 w3 h3 hk=>?_
  ·simp only [Ug,PEnv.ob,pOb,PEnv.mps,Y2]
   simp [go_sem]
   refine Yr [0] 20 ho (by simp) rfl (fun i _=>rnP E.lo i) ?_ ?_ ?_ ?_
   ·simp [go_sem]
   ·simp [go_sem,PEnv.ob,pOb]
    exact fun i c _ h=>Zm E.t i c h
   ·exact E.mpsLe []
   ·rintro av mem maps ⟨⟨rfl,rfl⟩,rfl⟩
    simp only [PEnv.ob,pOb,PEnv.mps,Y2]
    obtain ⟨T,u,hT⟩:=Gg e
    rw [hT]
    simp [go_sem]
    refine Zn [13,14] (.q 0 <| .q 1 <| .q 2 <| .q 3 <| .q 5 <| .q 6 <| .q 7 <| .or 4 (.or 8 (.or 9 (.q 10 <| .or 11 (.or 12 (.or 13 (.or 14 (.done) (.nil)) (.nil)) (.or 13 (.q 12 <| .or 14 (.done) (.nil)) (.nil))) (.or 13 (.q 11 <| .q 12 <| .or 14 (.done) (.nil)) (.nil))) (.or 13 (.q 9 <| .q 10 <| .q 11 <| .q 12 <| .or 14 (.done) (.nil)) (.nil))) (.or 13 (.q 8 <| .q 9 <| .q 10 <| .q 11 <| .q 12 <| .or 14 (.done) (.nil)) (.nil))) (.or 8 (.or 4 (.or 9 (.q 10 <| .or 11 (.or 12 (.or 13 (.or 14 (.done) (.nil)) (.nil)) (.or 13 (.q 12 <| .or 14 (.done) (.nil)) (.nil))) (.or 13 (.q 11 <| .q 12 <| .or 14 (.done) (.nil)) (.nil))) (.or 13 (.q 9 <| .q 10 <| .q 11 <| .q 12 <| .or 14 (.done) (.nil)) (.nil))) (.or 13 (.q 4 <| .q 9 <| .q 10 <| .q 11 <| .q 12 <| .or 14 (.done) (.nil)) (.nil))) (.or 13 (.q 4 <| .q 8 <| .q 9 <| .q 10 <| .q 11 <| .q 12 <| .or 14 (.done) (.nil)) (.nil)))) (by kernel_rfl) ?_
    simp [go_sem,Zg,hi,PTok.cells]
    repeat' first
    |exact E.finw (E.mpsLe _) rfl (X3 _ _) rfl
    |refine And.intro (E.finw (E.mpsLe _) rfl (X3 _ _) rfl) ?_
  ·have fin:∀ (R':Ending→World→Prop) v,(results Tryz.f108 a3.tmps).run Tryz.prog w3=.ok v w3→R' (.returned v) w3→Leaves Tryz.prog Tryz.f108 a3.tmps R' a3.defers .returning w3:=fun R' v h1 h4=>by
    rw [show a3.defers=_ from h3.defers]
    refine leaves_cons (f:=144) (args:=#[.pointer (some ⟨b2,0,none⟩),.pointer (some ⟨b3,0,none⟩)]) (by simp) (by simp [go_sem]) ?_
    refine (ZgO _ _ _).mono ?_
    rintro e u' w'' ⟨rfl,rfl,rfl⟩
    exact ⟨v,h1,h4⟩
   cases x with
   |exit id=>exact hk.elim
   |normal=>
    obtain ⟨v,h1,h4⟩:=WW h3 hk.1 hk.2
    exact fin _ v h1 ⟨v,rfl,hX _ _ h4⟩
   |ret=>
    obtain ⟨v,h1,h4⟩:=WW h3 hk.1 hk.2
    exact fin _ v h1 ⟨v,rfl,hX _ _ h4⟩
end Go.Proofs.YtadghlfkddkelaaGreatDoor.V
namespace Go.Proofs.YtadghlfkddkelaaGreatDoor.V
open Go.RowKit
open Go.Maps (Keyed)
open Go.Proofs.YtadghlfkddkelaaGreatDoor.Ops (Tr Tk Lv Res Fit)
section
variable {P:Program} {n:Nat} {base:Fr} {w0 w:World} {hd:Nat→Value} {s:VS} {a:Act}
theorem Zhz (h:RelH n base w0 hd s a w) {k ty:Nat} {f:Nat→List AV} (hk:s.mem[k]?=some (some ⟨ty,1,1,f⟩)) (ht:ty<Wd):∃ g cap cur,hd k=.slice (some ⟨g,0,none⟩) 1 cap∧w.heap[g]?=some (.cells cur ty (0,0))∧0<cur.size:=by
 obtain ⟨_,vals,ho,hr⟩:=h.me.obs k _ hk
 rcases (ho.row ht).2 with ⟨_,h0⟩|⟨g,cap,cur,e,_,hg,h1,_,h2,_⟩
 ·simp at h0
 ·exact ⟨g,cap,cur,e,hg,by have h1':1≤cap:=h1;have h2':cur.size=cap*1:=h2;omega⟩
theorem Zbl {g:Nat} {cur:Array Value} {t:TypeId} (hg:w.heap[g]?=some (.cells cur t (0,0))) (hp:0<cur.size):∃ x,w.cell? ⟨g,0,none⟩=some x∧w.frozen? ⟨g,0,none⟩=false:=by
 refine ⟨cur[0],?_,?_⟩
 ·simp [World.cell?,hg,hp]
 ·simp [World.frozen?,hg]
theorem Zff (h:RelH n base w0 hd s a w) (hP:base.P=P) {o:Oper} {f:FuncId} {xs:List Operand} (hcall:WB P s o.op=some (f,xs)) {pv:Value} {ks:List Nat} {args':List AV} {mem0:List (Option Ob)} {maps0:List (Nat×Mp)} {t N:Nat} {vs0:Nat→Value} {as0 as1:Nat→AV}
  (hnd:ks.Nodup) (hargs:ZO (fun j=>ks.getD j 0) ks.length (xs.map (ev s)) args') (hgt:lk s.tmps t=.fam N vs0 as0) (hg:∀ i,i<N→Rn (fun j=>ks.getD j 0) ks.length (as0 i) (as1 i)) (hsh:XS (fun j=>ks.getD j 0) ks.length s.mem ks mem0) (hmaps:Yc s.maps maps0) (hd1:ZcN P f pv args' N vs0 as1 mem0 maps0)
  {K:Act→World→Prop} {Q:Exit→Act→World→Prop} (hQ:∀ w',Bel (Sh w (hdF hd ks s.mem false) mem0 maps0) w w'→MapRel P (Sh w (hdF hd ks s.mem false) mem0 maps0) w' maps0→Q (.panic [{ v:=pv,recovered:=false }]) a w'):o.wp P a w K Q:=by
 have hrun:(execOp a.eval o).run P w=.ok (.enter f (xs.map a.eval).toArray) w:=(He h hcall).trans (UJ hd1.1 _ w)
 obtain ⟨hlen,_,hrep,hfam,hm0,hmp0,htl0⟩:=Ku h hP hnd hargs hgt hg hsh (Z7 hmaps)
 have hcalls:=hd1.2 w (xs.map a.eval) (hdF hd ks s.mem false) hlen hrep hfam hm0 hmp0 htl0
 unfold Oper.wp
 rw [hrun]
 simp only [Oper.upon]
 refine hcalls.mono ?_
 rintro e w' ⟨rfl,hb,hm⟩
 exact hQ w' hb hm
end
theorem Ge {may:Nat→Prop} {w w':World} (h:Bel may w w') {a:Addr} (ha:may a.block) (v:Value):Bel may w (w'.setCell a v):=by
 refine ⟨h.os,h.tape,h.output,by simpa [World.setCell] using h.size,fun k hk hk2=>?_⟩
 rw [Below.heap_setCell _ _ _ k (fun e=>hk2 (by rw [e];exact ha))]
 exact h.block k hk hk2
theorem Zjk {may:Nat→Prop} {w w':World} (h:Bel may w w') (o:Obj):Bel may w (w'.alloc o):=by
 refine ⟨h.os,h.tape,h.output,by rw [World.size_alloc];have:=h.size;omega,fun k hk hk2=>?_⟩
 have hlt:k<w'.heap.size:=Nat.lt_of_lt_of_le hk h.size
 rw [Below.heap_alloc _ _ _ hlt]
 exact h.block k hk hk2
set_option maxRecDepth 20000 in
theorem ZdM (E:PEnv) (i:Nat) (ho:E.Ans 140 [.ptr 0 6 0 0,.lit (.int .i64 0)] i none) :
  VProcG Tryz.prog 108 [.ptr 0 6 0 0] (E.lo.length+1) (vsP E.bp E.bo) (asP E.lo) [E.ob i] E.mps (fun av mem maps=>(av=.tup [.lit .nilIface,.lit (.bool false)]∧mem=[none])∧maps=E.mps):=by
 refine ⟨⟨_,Tryz.func108,by kernel_rfl,rfl⟩,fun w vs hd0 hlen hrep hfam hm hmp htl=>?_⟩
 have hrel:=(Vm (P:=Tryz.prog) (fn:=Tryz.f108) (by simp [Tryz.ntmps108]) hlen hrep hm hmp htl).tell 20 hfam
 suffices hX:∀ (X:Value→World→Prop),(∀ v w',(Bel (Sh w hd0 [E.ob i] E.mps) w w'∧MapRel Tryz.prog (Sh w hd0 [E.ob i] E.mps) w' E.mps∧v=.tuple #[.nilIface,.bool false])→X v w')→Calls Tryz.prog 108 vs.toArray w (fun e w'=>∃ v,e=.returned v∧X v w') from hX _ fun v w' ⟨h1,h2,h3⟩=>by
  subst h3
  refine ⟨h1,hd0,_,[none],E.mps,⟨⟨rfl,rfl⟩,rfl⟩,⟨Nat.le_refl _,fun v hv=>by simp at hv;rcases hv with rfl|rfl<;>exact .inl rfl,fun k ob hk=>?_,fun b hb=>hb⟩,⟨fun _ _=>rfl,TailEq.refl _⟩,⟨fun k ob hk=>?_,fun k ob hk=>?_,fun k hk=>hm.hds k hk,fun k k' ob ob' hk=>?_⟩,h2,.tup _ [.nilIface,.bool false] rfl fun j a q g1 g2=>?_⟩
  ·cases k<;>simp at hk
  ·cases k<;>simp at hk
  ·cases k<;>simp at hk
  ·cases k<;>simp at hk
  ·rcases j with _ | _|j
   ·simp at g1 g2;subst g1;subst g2;exact .lit _
   ·simp at g1 g2;subst g1;subst g2;exact .lit _
   ·simp at g1
 intro X hX
 refine calls_of_wp_defers Tryz.func108 rfl ?_
 refine wp_seq (X6 rfl _ hrel (K:=fun e s=>e=.normal∧s=Ug E i) ?_ fun x hd' s' a' w' h' hk=>?_)
 ·simp only [Tryz.ntmps108,PEnv.ob,pOb,PEnv.mps,Y2,X1]
  simp [go_sem]
  rfl
 ·obtain ⟨rfl,rfl⟩:=hk
  simp only [VX.out,Exit.then]
  refine wp_seq (wp_region_list ?_)
  have hmf:∀ (fn:Fn) (first cap:Array Value) (w:World),(Instr.makeFunc fn first cap).run Tryz.prog w=.ok (.func fn first cap) w:=fun _ _ _ _=>rfl
  have hsz:a'.tmps.size=20:=h'.size
  have hds:a'.defers=[]:=h'.defers
  obtain ⟨b2,n2,c2,hb2,hp2⟩:=UL (h'.tm 2)
  obtain ⟨b3,n3,c3,hb3,hp3⟩:=UL (h'.tm 3)
  simp [hsz] at hp2 hp3
  simp [wpList,Region.wanted,Oper.wp,Oper.upon,go_sem,hmf,hsz,hds,hp2,hp3,Exit.then]
  refine .inl (.inl ?_)
  have h2:RelH 20 ⟨Tryz.prog,Sh w hd0 [E.ob i] E.mps,hd0,[⟨.fn (.func 144) #[.pointer (some ⟨b2,0,none⟩),.pointer (some ⟨b3,0,none⟩)],#[]⟩]⟩ w hd' (Ug E i) ⟨a'.tmps.setIfInBounds 4 (.func (.func 144) #[] #[.pointer (some ⟨b2,0,none⟩),.pointer (some ⟨b3,0,none⟩)]),[⟨.fn (.func 144) #[.pointer (some ⟨b2,0,none⟩),.pointer (some ⟨b3,0,none⟩)],#[]⟩]⟩ w':=by
   refine ⟨rfl,by simp [hsz],h'.below,⟨h'.le.1,h'.le.2,h'.le.3⟩,h'.fixl,h'.fix,h'.mp,fun t=>?_,h'.me⟩
   by_cases ht:t=4
   ·subst ht
    exact .undef _
   ·have:=h'.tm t
    rwa [show (a'.tmps.setIfInBounds 4 (.func (.func 144) #[] #[.pointer (some ⟨b2,0,none⟩),.pointer (some ⟨b3,0,none⟩)])).getD t undef=a'.tmps.getD t undef by
     simp only [Array.getD_eq_getD_getElem?];rw [Array.getElem?_setIfInBounds_ne (by omega)]]
  refine wp_seq (wp_region_list ?_)
  unfold wpList
  rw [if_pos (by simp [Region.wanted])]
  refine .inl ?_
  have hmove:∀ (o:Oper) (a:Act) (w:World) {K:Act→World→Prop} {Q:Exit→Act→World→Prop},o.op=.move (.tmp 0)→K (a.put o.dst (a.eval (.tmp 0))) w→o.wp Tryz.prog a w K Q:=fun o a w K Q ho hK=>by
   unfold Oper.wp
   rw [show (execOp a.eval o).run Tryz.prog w=.ok (.value (a.eval (.tmp 0))) w by unfold execOp;simp only [ho];rfl]
   exact hK
  refine hmove _ _ _ rfl ?_
  have h3:=h2.put (t:=5) (by omega) (h2.ev_ (.tmp 0))
  generalize hw3:w'=w3 at h3 ⊢
  generalize ha3:Act.put _ (some 5) _=a3 at h3 ⊢
  unfold wpList
  rw [if_pos (by simp [Region.wanted])]
  refine .inl ?_
  have ho':ZcN Tryz.prog 140 G2 [.ptr 0 6 0 0,.lit (.int .i64 0)] (E.lo.length+1) (vsP E.bp E.bo) (asP E.lo) [E.ob i] E.mps:=ho
  refine Zff (s:={ Ug E i with tmps:=(5,.ptr 0 6 0 0)::(Ug E i).tmps }) (f:=140) (xs:=[.tmp 5,.const (.int .i64 0)]) (ks:=[0]) (t:=20) h3 rfl ?_ (by simp) ?_ (N:=E.lo.length+1) (vs0:=vsP E.bp E.bo) (as0:=asP E.lo) (as1:=asP E.lo) ?_ (fun i _=>rnP E.lo i) ?_ ?_ ho' fun w4 hb4 hm4=>?_
  ·simp [WB,WT]
  ·simp [go_sem]
  ·rfl
  ·simp [go_sem,Ug,PEnv.ob,pOb]
   exact fun i c _ h=>Zm E.t i c h
  ·exact E.mpsLe []
  ·simp only [Exit.then,bodyPostD]
   have hmay:∀ b,Sh w3 (hdF hd' [0] (Ug E i).mem false) [E.ob i] E.mps b→Sh w hd0 [E.ob i] E.mps b:=by
    rintro b (h1|⟨j,ob',h1,h2⟩|h1)
    ·exact h3.le _ (Nat.le_trans h3.below.size h1)
    ·cases j with
     |zero=>
      rw [Xy (by simp)] at h2
      exact h3.me.alw 0 _ rfl b h2
     |succ j=>simp at h1
    ·exact .inr (.inr h1)
   obtain ⟨g2,cap2,cur2,e2,hg2,hq2⟩:=Zhz h3 (k:=1) rfl (by decide)
   obtain ⟨g3,cap3,cur3,e3,hg3,hq3⟩:=Zhz h3 (k:=2) rfl (by decide)
   have ev2:g2=b2:=by rw [hb2] at e2;simp at e2;exact e2.1.symm
   have ev3:g3=b3:=by rw [hb3] at e3;simp at e3;exact e3.1.symm
   subst ev2;subst ev3
   have o2:(hd' 1).ownBlock=some g2:=by rw [e2];rfl
   have o3:(hd' 2).ownBlock=some g3:=by rw [e3];rfl
   have m2:=h3.me.alw 1 _ rfl g2 o2
   have m3:=h3.me.alw 2 _ rfl g3 o3
   have h23:g2≠g3:=fun e=>by
    rcases h3.me.apart 1 2 _ _ rfl rfl (by omega) with h|h
    ·rw [o2] at h;simp at h
    ·exact h (by rw [o2,o3,e])
   have notSh:∀ (k:Nat) (ob:Ob) (g:Nat),k≠0→(Ug E i).mem[k]?=some (some ob)→(hd' k).ownBlock=some g→g<w3.heap.size→¬Sh w3 (hdF hd' [0] (Ug E i).mem false) [E.ob i] E.mps g:=by
    intro k ob g hk hm hg hlt
    rintro (h1|⟨j,ob',h1,h2⟩|h1)
    ·omega
    ·cases j with
     |zero=>
      rw [Xy (by simp)] at h2
      rcases h3.me.apart k 0 ob _ hm rfl hk with h|h
      ·rw [hg] at h;simp at h
      ·exact h (by rw [hg];exact h2.symm)
     |succ j=>simp at h1
    ·cases hq:lkm E.mps g with
     |none=>rw [hq] at h1;simp at h1
     |some mp=>exact (Wb h3 (b:=g) (mp:=mp) hq).2 k ob hm hg
   have l2:g2<w3.heap.size:=(Array.getElem?_eq_some_iff.1 hg2).1
   have l3:g3<w3.heap.size:=(Array.getElem?_eq_some_iff.1 hg3).1
   have k2:w4.heap[g2]?=some (.cells cur2 158 (0,0)):=(hb4.block g2 l2 (notSh 1 _ g2 (by omega) rfl o2 l2)).trans hg2
   have k3:w4.heap[g3]?=some (.cells cur3 4 (0,0)):=(hb4.block g3 l3 (notSh 2 _ g3 (by omega) rfl o3 l3)).trans hg3
   obtain ⟨x,hx,hfx⟩:=Zbl k2 hq2
   obtain ⟨y,hy,hfy⟩:=Zbl k3 hq3
   have hbel:Bel (Sh w hd0 [E.ob i] E.mps) w w4:=⟨hb4.os.trans h3.below.os,hb4.tape.trans h3.below.tape,hb4.output.trans h3.below.output,Nat.le_trans h3.below.size hb4.size,fun k hk hk2=>(hb4.block k (Nat.lt_of_lt_of_le hk h3.below.size) (fun e=>hk2 (hmay k e))).trans (h3.below.block k hk hk2)⟩
   obtain ⟨b2',_,_,hb2',ht2⟩:=UL (h3.tm 2)
   obtain ⟨b3',_,_,hb3',ht3⟩:=UL (h3.tm 3)
   have ev2:b2'=g2:=by rw [hb2'] at e2;simp at e2;exact e2.1
   have ev3:b3'=g3:=by rw [hb3'] at e3;simp at e3;exact e3.1
   subst ev2;subst ev3
   have hs3:a3.tmps.size=20:=h3.size
   rw [show a3.defers=_ from h3.defers]
   refine leaves_cons (f:=144) (args:=#[.pointer (some ⟨b2',0,none⟩),.pointer (some ⟨b3',0,none⟩)]) (by simp) (by simp [go_sem]) ?_
   refine (ZgP ⟨b2',0,none⟩ ⟨b3',0,none⟩ x y 0 [] w4 hx hfx hy hfy h23).mono ?_
   rintro e u' w'' ⟨rfl,rfl,rfl⟩
   have c2:(((w4.alloc (.cells #[] 201)).setCell ⟨b2',0,none⟩ .nilIface).setCell ⟨b3',0,none⟩ (.bool false)).cell? ⟨b2',0,none⟩=some .nilIface:=by
    rw [World.cell?_setCell_other _ _ _ _ (fun e=>h23 (by simpa using e.symm))]
    exact World.cell?_setCell_same _ _ _ ((World.cell?_alloc_lt _ _ _ (World.block_lt_of_cell? w4 _ hx)).trans hx)
   have c3:(((w4.alloc (.cells #[] 201)).setCell ⟨b2',0,none⟩ .nilIface).setCell ⟨b3',0,none⟩ (.bool false)).cell? ⟨b3',0,none⟩=some (.bool false):=by
    refine World.cell?_setCell_same (u:=y) _ _ _ ?_
    rw [World.cell?_setCell_other _ _ _ _ (fun e=>h23 (by simp at e))]
    exact (World.cell?_alloc_lt _ _ _ (World.block_lt_of_cell? w4 _ hy)).trans hy
   refine ⟨.tuple #[.nilIface,.bool false],?_,_,rfl,hX _ _ ⟨Ge (Ge (Zjk hbel _) m2 _) m3 _,fun b mp hb=>?_,rfl⟩⟩
   ·generalize ((w4.alloc (.cells #[] 201)).setCell ⟨b2',0,none⟩ .nilIface).setCell ⟨b3',0,none⟩ (.bool false)=W at c2 c3
    simp [hs3] at ht2 ht3
    simp [results,Tryz.results108,go_sem,hs3,ht2,ht3,c2,c3]
   ·obtain ⟨hb1,es,clock,hh,hmi⟩:=hm4 b mp hb
    refine ⟨hmay b hb1,es,clock,?_,hmi⟩
    have hlt:b<w4.heap.size:=(Array.getElem?_eq_some_iff.1 hh).1
    rw [Below.heap_setCell _ _ _ _ (fun e=>by rw [e,k3] at hh;simp at hh),Below.heap_setCell _ _ _ _ (fun e=>by rw [e,k2] at hh;simp at hh),Below.heap_alloc _ _ _ hlt]
    exact hh
end Go.Proofs.YtadghlfkddkelaaGreatDoor.V
namespace Go.Proofs.YtadghlfkddkelaaGreatDoor.V
open Go.RowKit
open Go.Proofs.YtadghlfkddkelaaGreatDoor.Ops (Tr Tk Lv Res Fit OF)
def V8 (t:List PTok) (i j:Nat):List AV:=[.lit (.int .i64 (if j<i then GL t j else 0))]
theorem ZaK (t:List PTok) (i j:Nat):V8 t i j=[.lit (.int .i64 (if j<i then GL t j else 0))]:=rfl
theorem HG (t:List PTok) (i j:Nat) (c:AV) (h:c∈V8 t i j):Closed c:=by
 simp only [V8,List.mem_singleton] at h
 subst h;exact .lit _
set_option maxRecDepth 100000 in
theorem Zk6 (l:List POp) (hl:l.length≤9223372036854775807) (hw:XD l) (z:ByteArray) (hz:z.size≤1048576):VFun Tryz.prog 75 [.agg [.sl 4 l.length (Za l)],.lit (.string z)] (paR l z):=by
 have cl:∀ (i:Nat) (c:AV),i<l.length→c∈Za l i→Closed c:=fun i c _ h=>Zo l i c h
 refine Zd Tryz.func75 (by kernel_rfl) rfl (by simp [Tryz.ntmps75]) ?_;simp only [Tryz.ntmps75,Tryz.results75];simp [go_sem]
 refine Zc (Kw l hl hw) ?_ ?_
 ·simp [go_sem]
  exact Zb (by omega) cl
 ·simp [go_sem]
  refine ⟨fun h0=>Wh (by simp [parZ,h0]),fun h0=>?_⟩
  have hu:=Qk h0
  refine ⟨fun h1=>Wh ?_,fun h1=>?_⟩
  ·have:¬z.size≤20000:=by omega
   simp [parZ,h0,this]
  have hz2:z.size≤20000:=by omega
  have h1:WJ l z=true:=by simp [WJ,h0,hz2]
  refine ZP (Zn4 l hl hw z hz) ?_ ?_
  ·simp [go_sem]
   exact Zb (by omega) cl
  ·rintro av obs (⟨h2,_⟩|⟨_,rfl,rfl⟩)
   ·rw [h1] at h2;cases h2
   simp [go_sem]
   have hends:=HM h1
   obtain ⟨hq1,hq2⟩:=Jf (l:=l) (z:=z) (by omega)
   obtain ⟨t,ht⟩:∃ t,t=UD l z:=⟨_,rfl⟩
   have hpar:parZ l z=parK l t:=by rw [parZ,if_neg (by omega),if_neg (by omega),←ht]
   rw [←ht] at hends hq1 hq2 ⊢
   have clt:∀ (i:Nat) (c:AV),i<t.length→c∈Zk t i→Closed c:=fun i c _ h=>Zm t i c h
   have hto:t.length+Xn t≤1048576:=by omega
   refine ⟨by omega,by omega,by omega,by omega,?_⟩
   refine ZN (fun i:Nat=>i≤t.length) (fun i=>t.length-i) (fun i=>.of [(2,.ptr 0 1 0 0),(4,.ptr 1 1 0 0),(5,.lit (.int .i64 0)),(6,.lit (.int .i64 0)),(7,.own 2),(9,.own 3),(10,.lit (.int .i64 (Xn (t.take i)))),(36,.own 2),(37,.lit (.int .i64 t.length)),(38,.lit (.int .i64 i))] [some ⟨55,1,1,fun _=>[.sl 4 l.length (Za l)]⟩,some ⟨80,1,1,fun _=>[.lit (.slice none 0 0)]⟩,some ⟨127,3,t.length,Zk t⟩,some ⟨3,1,t.length,V8 t i⟩]) ⟨0,by omega,?_⟩ (fun i hi=>?_)
   ·simp [go_sem,V8,Xn]
    exact ⟨cl,fun i hi c hc=>.closed _ (clt i c hi hc)⟩
   ·by_cases h:i<t.length
    ·have hup:∀ x:AV,Hp t.length (V8 t i) i 0 [x] i=[x]:=fun x=>by
      rw [WO h h,if_pos rfl];rfl
     have htk:=H9 t i h
     have htl:=Ul t (i+1)
     have hsz:V7 (t.getD i default)=(Zf t i).gap.size+(Zf t i).text.size:=rfl
     have ew:IntKind.i64.wrap (((Xn (t.take i):Nat):Int)+(Zf t i).gap.size)=GL t i:=by rw [wrap_i64 (by omega)];simp [GL]
     have ew2:IntKind.i64.wrap (GL t i+(Zf t i).text.size)=((Xn (t.take (i+1)):Nat):Int):=by unfold GL;rw [wrap_i64 (by omega),htk,hsz];omega
     simp [go_sem,Zg,h,ew]
     refine Zn [] (.q 0 <| .q 1 <| .q 2 <| .q 3 <| .q 4 <| .q 5 <| .q 6 <| .q 7 <| .q 8 <| .done) (by kernel_rfl) ?_
     simp [go_sem,Zg,h,hup,ew2]
     refine ⟨i+1,by omega,by omega,⟨rfl,Zj (by omega)⟩,cl,fun j hj=>⟨?_,fun c hc=>.closed _ (HG _ _ _ c hc)⟩⟩
     rw [WO h hj]
     by_cases hji:j=i
     ·subst hji
      simp [V8,Y5]
     ·rw [if_neg hji]
      simp only [V8]
      by_cases h2:j<i
      ·rw [if_pos h2,if_pos (by omega)]
      ·rw [if_neg h2,if_neg (by omega)]
    ·obtain rfl:i=t.length:=by omega
     simp [go_sem]
     refine ⟨by omega,?_⟩
     refine ZC (fun i:Nat=>i≤t.length∧∀ j,j<i→(Zf t j).kind≠6) (fun i=>t.length-i) (fun i=>.of [(2,.ptr 0 1 0 0),(4,.ptr 1 1 0 0),(5,.lit (.int .i64 0)),(6,.lit (.int .i64 0)),(7,.sl 3 t.length (Zk t)),(9,.own 3),(60,.sl 3 t.length (Zk t)),(61,.lit (.int .i64 t.length)),(62,.lit (.int .i64 i))] [some ⟨55,1,1,fun _=>[.sl 4 l.length (Za l)]⟩,some ⟨80,1,1,fun _=>[.lit (.slice none 0 0)]⟩,none,some ⟨3,1,t.length,V8 t t.length⟩]) ⟨0,⟨by omega,by simp⟩,?_⟩ (fun i hi=>?_)
     ·refine (Ent.give [7,60] 2 rfl (fun i hi c hc=>clt i c hi hc) (by simp [lk])).trans (Ent.of_le ?_)
      simp [go_sem]
      exact ⟨clt,cl,fun i hi c hc=>.closed _ (HG _ _ _ c hc)⟩
     ·by_cases h:i<t.length
      ·by_cases hk:(Zf t i).kind=6
       ·simp [go_sem,Zg,h,hk]
        refine Zn [5] (.q 0 <| .or 1 (.or 2 (.or 3 (.or 4 (.or 5 (.q 6 <| .q 7 <| .done) (.nil)) (.or 5 (.q 4 <| .q 6 <| .q 7 <| .done) (.nil))) (.or 5 (.q 3 <| .q 4 <| .q 6 <| .q 7 <| .done) (.nil))) (.or 5 (.q 2 <| .q 3 <| .q 4 <| .q 6 <| .q 7 <| .done) (.nil))) (.or 2 (.or 1 (.or 3 (.or 4 (.or 5 (.q 6 <| .q 7 <| .done) (.nil)) (.or 5 (.q 4 <| .q 6 <| .q 7 <| .done) (.nil))) (.or 5 (.q 3 <| .q 4 <| .q 6 <| .q 7 <| .done) (.nil))) (.or 5 (.q 1 <| .q 3 <| .q 4 <| .q 6 <| .q 7 <| .done) (.nil))) (.or 5 (.q 1 <| .q 2 <| .q 3 <| .q 4 <| .q 6 <| .q 7 <| .done) (.nil)))) (by kernel_rfl) ?_
        simp [go_sem,ZaK,h]
        exact Wh (by rw [hpar,ZaH (Zby h hi.2 hk)])
       ·simp [go_sem,Zg,h,hk]
        refine ⟨i+1,⟨by omega,fun j hj=>?_⟩,by omega,Ent.of_le ?_⟩
        ·rcases Nat.lt_succ_iff_lt_or_eq.mp hj with hj|rfl
         ·exact hi.2 j hj
         ·exact hk
        ·simp [go_sem]
         exact ⟨⟨clt,Zj (by omega)⟩,cl,fun i hi c hc=>.closed _ (HG _ _ _ c hc)⟩
      ·obtain rfl:i=t.length:=by omega
       have hnb:=Zbz hi.2
       simp [go_sem]
       refine ZP (Zk5 l hl hw t (by omega) (fun i hi=>by have:=Zgi hi;unfold V7 at this;simp only [maxLen];omega)) ?_ ?_
       ·simp [go_sem]
        exact ⟨Zb (by omega) cl,Zb (by omega) clt⟩
       ·rintro av obs ⟨rfl,rfl⟩
        simp [go_sem]
        rcases Hw h0 hends with ⟨hr,hR⟩|⟨hr,hlt⟩
        ·rw [hr,hR]
         simp [go_sem]
         have F:=ZdG h0 hr
         refine Zx [] (HT l hl hw) (by simp) ?_ ?_ trivial ?_
         ·simp [go_sem]
          exact cl
         ·simp [go_sem]
         ·rintro av mem maps ⟨b1,b2,esA,esT,rfl,rfl,rfl,hb,hat,_⟩
          simp [go_sem]
          refine Zga [] 109 (Zfq l t b1 b2 esA hu (JP h0) hw hat) (by simp) ?_ ?_ ?_ ?_
          ·simp [go_sem]
           exact clt
          ·simp [go_sem]
          ·simp [go_sem]
           exact fun e=>hb e.symm
          ·rintro av mem' maps' N vs as1 ⟨lo,bp,bo,b3,b4,esN,esL,⟨n13,n14,n34⟩,rfl,rfl,rfl,rfl,rfl,rfl,hP⟩
           simp [go_sem]
           obtain ⟨E,hE⟩:∃ E:PEnv,E=⟨l,lo,t,bp,bo,b1,b2,b3,b4,esA,esN,esL,hP,by omega,fun i hi=>by have:=Zgi hi;unfold V7 at this;simp only [maxLen];omega,n13,n14,n34⟩:=⟨_,rfl⟩
           obtain ⟨r,hrun,hcase⟩:=ZmF h0 F
           have ho:=ZiY E _ 0 0 0 (toksZ l t) r (by rw [hE];exact F.toks) F.fit hrun
           have hfam:∀ i,i<lo.length+1→Rn (fun j=>[5].getD j 0) 1 (Zil (YV [] 5) (asP lo i)) (asP lo i):=fun i _=>by
            cases i with
            |zero=>
             refine .bptr _ _ (by simp) fun j a b h1 h2=>?_
             match j with
             |0=>
              simp [YV,Ww] at h1 h2
              subst h1;subst h2
              exact .ptr (f:=fun j=>[5].getD j 0) 0 6 0 0 (by omega)
             |j+1=>simp at h1
            |succ j=>
             have e:Zil (YV [] 5) (asP lo (j+1))=asP lo (j+1):=by simp [asP,Zil,POp.cells,Ww]
             rw [e]
             exact .closed _ (.bptr _ fun c hc=>by
              simp [POp.cells] at hc
              rcases hc with rfl|rfl|rfl|rfl<;>exact .lit _)
           have hob:Option.map (VM (YV [] 5)) (pOb b1 b2 b3 b4 t 0)=pOb b1 b2 b3 b4 t 0:=by simp [pOb,VM,Ww]
           rw [hob]
           have hml:=E.mpsLe [(b2,⟨9,esT⟩),(b1,⟨109,esA⟩)]
           rw [hE] at hml
           cases r with
           |none=>
            simp only at hcase
            have cw:=ZdM E 0 ho
            rw [hE] at cw
            refine Yr [5] 109 cw (by simp) rfl hfam ?_ ?_ ?_ ?_
            ·simp [go_sem]
            ·simp [go_sem,PEnv.ob,pOb]
             exact clt
            ·exact hml
            ·rintro av mem maps ⟨⟨rfl,rfl⟩,rfl⟩
             simp [go_sem]
             exact Wh (by rw [hpar,Kk hnb hr hcase])
           |some x=>
            obtain ⟨e,rest⟩:=x
            simp only at hcase
            obtain ⟨hat7,hcase⟩:=hcase
            have ea:E.at_ rest=t.length-1-rest.length:=by rw [hE];rfl
            have eT:E.t=t:=by rw [hE]
            have cw:=ZdL E 0 e rest (by rw [ea,eT];exact hat7) ho
            rw [ea,eT] at cw
            rcases hcase with ⟨hp,hk7⟩|⟨hp,hk7⟩
            ·rw [hk7,hE] at cw
             obtain ⟨e1,e2,e3,e4,e5⟩:=ZaG F hp
             obtain ⟨T,u,hT,_,fh,hmh,ch⟩:=Uo e
             obtain ⟨T',u',hT',fn,hmn,cn⟩:=U8 e [] e5 (by have:=Wx e [];have:=F.len;rw [e2] at *;simp only [List.length_nil] at *;omega)
             rw [hT] at cw hT'
             simp only [Value.iface.injEq] at hT'
             obtain ⟨rfl,rfl⟩:=hT'
             refine Yr [5] 109 cw (by simp) rfl hfam ?_ ?_ ?_ ?_
             ·simp [go_sem]
             ·simp [go_sem,PEnv.ob,pOb]
              exact clt
             ·exact hml
             ·rintro av mem maps ⟨⟨rfl,rfl⟩,hM⟩
              simp [go_sem,hmh]
              refine Zc ch ?_ ?_
              ·simp [go_sem]
              ·simp [go_sem,hmn]
               refine ⟨fun h6=>Wh (by rw [hpar,Hz hnb hr hp (by omega)]),fun h6=>?_⟩
               refine Zx [] (VProc.adoptNil (by omega) cn) (by simp) ?_ ?_ trivial ?_
               ·simp [go_sem]
               ·simp [go_sem]
               ·rintro av mem maps ⟨rfl,rfl,rfl⟩
                simp [go_sem,Zi]
                refine ⟨_,obsSame_one.mpr ⟨⟨137,4,(lay e []).length,ZE (lay e [])⟩,⟨rfl,rfl,rfl,fun j hj=>⟨rfl,Xc _ j⟩⟩,rfl⟩,.inl ?_⟩
                rw [hpar,Zdi hnb hr hp h6]
                exact ⟨rfl,rfl⟩
            ·have hk7':decide ((Zf t (t.length-1-rest.length)).kind=7)=false:=decide_eq_false hk7
             rw [hk7',hE] at cw
             refine Yr [5] 109 cw (by simp) rfl hfam ?_ ?_ ?_ ?_
             ·simp [go_sem]
             ·simp [go_sem,PEnv.ob,pOb]
              exact clt
             ·exact hml
             ·rintro av mem maps ⟨⟨rfl,rfl⟩,hM⟩
              simp [go_sem]
              exact Wh (by rw [hpar,Kk hnb hr hp])
        ·obtain ⟨q,hq⟩:∃ q:Nat,(ZW l t).2=q:=⟨(ZW l t).2.toNat,by omega⟩
         have hk:=K9 hnb hr
         rw [hq] at hr hlt hk ⊢
         simp only [Int.toNat_natCast] at hk
         have hq':q<t.length:=by omega
         refine ⟨fun _=>Zn [5] (.q 0 <| .or 1 (.or 2 (.or 3 (.or 4 (.or 5 (.q 6 <| .q 7 <| .done) (.nil)) (.or 5 (.q 4 <| .q 6 <| .q 7 <| .done) (.nil))) (.or 5 (.q 3 <| .q 4 <| .q 6 <| .q 7 <| .done) (.nil))) (.or 5 (.q 2 <| .q 3 <| .q 4 <| .q 6 <| .q 7 <| .done) (.nil))) (.or 2 (.or 1 (.or 3 (.or 4 (.or 5 (.q 6 <| .q 7 <| .done) (.nil)) (.or 5 (.q 4 <| .q 6 <| .q 7 <| .done) (.nil))) (.or 5 (.q 3 <| .q 4 <| .q 6 <| .q 7 <| .done) (.nil))) (.or 5 (.q 1 <| .q 3 <| .q 4 <| .q 6 <| .q 7 <| .done) (.nil))) (.or 5 (.q 1 <| .q 2 <| .q 3 <| .q 4 <| .q 6 <| .q 7 <| .done) (.nil)))) (by kernel_rfl) ?_,fun h=>by omega⟩
         simp [go_sem,ZaK,hq']
         exact Wh (by rw [hpar,hk])
theorem Zl9 (l:List POp) (hl:l.length≤9223372036854775807) (hw:XD l) (z:ByteArray) (hz:z.size≤1048576):VFun Tryz.prog 75 [.agg [.sl 4 l.length (Za l)],.lit (.string z)] (fun av obs=>av=.tup [.agg [.own 0],.lit (.int .i64 (parZ l z).2.1),.lit (.int .i64 (parZ l z).2.2)]∧obs=[⟨137,4,(parZ l z).1.length,ZE (parZ l z).1⟩]):=
 (Zk6 l hl hw z hz).adoptA 137 4 (by omega) (ZE []) fun av obs h=>Zhy h
end Go.Proofs.YtadghlfkddkelaaGreatDoor.V
namespace Go.Proofs.YtadghlfkddkelaaGreatDoor.V
open Go.RowKit
def Zgg (L:List PMod) (av:AV) (mem:List (Option Ob)) (maps:List (Nat×Mp)):Prop:=
 (¬(treesC L).1=0∧treesN L=0∧av=.tup [.lit (.pointer none),.lit (.slice none 0 0),.lit (.int .i64 (treesC L).1),.lit (.int .i64 (treesC L).2)]∧mem=[])∨
 ((treesC L).1=0∧treesN L=L.length∧∃ cs,av=.tup [.bptr cs,.own 0,.lit (.int .i64 (treesC L).1),.lit (.int .i64 (treesC L).2)]∧mem=Yz L.length::Rw (fun a=>YD (trL L a)) L.length)
set_option maxRecDepth 100000 in
set_option maxHeartbeats 1000000 in
theorem ZgQ (L:List PMod) (hn:L.length≤1048576) (hz:∀ i,(Zq L i).name.size≤1048576∧(Zq L i).text.size≤1048576) (vs0:Nat→Value) (as0:Nat→AV):VProcG Tryz.prog 46 [.sl 2 L.length (Zh L)] 0 vs0 as0 [] [] (Zgg L):=by
 have mcl:∀ (i:Nat) (c:AV),i<L.length→c∈Zh L i→Closed c:=fun i c _ h=>ZI _ i c h
 refine XA Tryz.func46 (by kernel_rfl) rfl (by simp [Tryz.ntmps46]) ?_;simp only [Tryz.ntmps46,Tryz.results46];simp [go_sem]
 refine QN [] 65 65 (ZbW L hn hz vs0 as0) (by simp) rfl (fun q h=>absurd h (Nat.not_lt_zero q)) (by simp [go_sem,KP]) trivial (by simp [go_sem]) ?_
 rintro av mem maps N vs as' (⟨hc,rfl,rfl⟩|⟨hc,hok,hNm,S,b1,b2,js,hS,hb,hm,rfl,has,rfl,rfl,rfl⟩)
 ·simp [go_sem]
  obtain ⟨e1,e2⟩:=Zhs hc
  refine ⟨fun _=>?_,fun e=>absurd e hc⟩
  exact uF [] [] (hR:=.inl ⟨by rw [e1];exact hc,e2,by rw [e1];simp [go_sem],rfl⟩)
 ·have hL:=hok.few
  simp [go_sem,KP]
  refine ⟨by omega,?_⟩
  refine ZC (fun x:Nat×List Nat×(Nat→Value)=>(x.1≤L.length∧MemoOk L x.2.1)∧∀ j,j<x.1→badT L j=false) (fun x=>L.length-x.1)
   (fun x=>⟨[(6,.bptr (Yo L S b1 b2)),(9,.own 0),(26,.sl 2 L.length (Zh L)),(27,.lit (.int .i64 L.length)),(28,.lit (.int .i64 x.1)),(65,.fam x.2.1.length x.2.2 (Uq L x.2.1))],Yz x.1::Rw (fun a=>YD (trL L a)) x.1,[(b1,⟨9,WU L L.length⟩),(b2,⟨9,WD L x.2.1 x.2.2⟩)],0⟩) ⟨(0,js,vs),⟨⟨Nat.zero_le _,hm⟩,fun j h=>absurd h (Nat.not_lt_zero j)⟩,?_⟩ (fun x hx=>?_)
  ·exact uE [0] (h1:=by simp [go_sem,KP];exact .fam _ _ _ _ fun q hq=>by rw [has q hq];exact .closed _ (Ye _)) (h4:=by simp [go_sem,KTr,Rw]) (hM:=by simp [go_sem,hb])
  obtain ⟨i,js,vs⟩:=x
  simp only at hx
  obtain ⟨⟨hi,hm⟩,hbt⟩:=hx
  simp [go_sem,KP,KTr]
  refine ⟨fun h=>?_,fun h=>?_⟩
  ·refine ⟨h,?_⟩
   simp [go_sem,KP,KTr,ZD]
   refine Zn [21,3,15] (.q 0 <| .q 1 <| .q 2 <| .q 4 <| .q 5 <| .q 6 <| .q 8 <| .or 3 (.q 7 <| .q 9 <| .q 10 <| .q 11 <| .q 12 <| .q 13 <| .q 14 <| .or 15 (.q 16 <| .q 17 <| .q 18 <| .q 19 <| .or 20 (.or 21 (.q 22 <| .q 23 <| .done) (.nil)) (.nil)) (.or 20 (.or 15 (.q 16 <| .q 17 <| .q 18 <| .q 19 <| .or 21 (.q 22 <| .q 23 <| .done) (.nil)) (.nil)) (.nil))) (.or 7 (.or 3 (.q 9 <| .q 10 <| .q 11 <| .q 12 <| .q 13 <| .q 14 <| .or 15 (.q 16 <| .q 17 <| .q 18 <| .q 19 <| .or 20 (.or 21 (.q 22 <| .q 23 <| .done) (.nil)) (.nil)) (.or 20 (.or 15 (.q 16 <| .q 17 <| .q 18 <| .q 19 <| .or 21 (.q 22 <| .q 23 <| .done) (.nil)) (.nil)) (.nil))) (.or 9 (.or 3 (.q 10 <| .q 11 <| .q 12 <| .q 13 <| .q 14 <| .or 15 (.q 16 <| .q 17 <| .q 18 <| .q 19 <| .or 20 (.or 21 (.q 22 <| .q 23 <| .done) (.nil)) (.nil)) (.or 20 (.or 15 (.q 16 <| .q 17 <| .q 18 <| .q 19 <| .or 21 (.q 22 <| .q 23 <| .done) (.nil)) (.nil)) (.nil))) (.or 10 (.q 11 <| .q 12 <| .q 13 <| .or 3 (.q 14 <| .or 15 (.q 16 <| .q 17 <| .q 18 <| .q 19 <| .or 20 (.or 21 (.q 22 <| .q 23 <| .done) (.nil)) (.nil)) (.or 20 (.or 15 (.q 16 <| .q 17 <| .q 18 <| .q 19 <| .or 21 (.q 22 <| .q 23 <| .done) (.nil)) (.nil)) (.nil))) (.or 14 (.or 3 (.or 15 (.q 16 <| .q 17 <| .q 18 <| .q 19 <| .or 20 (.or 21 (.q 22 <| .q 23 <| .done) (.nil)) (.nil)) (.or 20 (.or 15 (.q 16 <| .q 17 <| .q 18 <| .q 19 <| .or 21 (.q 22 <| .q 23 <| .done) (.nil)) (.nil)) (.nil))) (.or 20 (.or 3 (.or 15 (.q 16 <| .q 17 <| .q 18 <| .q 19 <| .or 21 (.q 22 <| .q 23 <| .done) (.nil)) (.nil)) (.nil)) (.nil))) (.or 20 (.or 3 (.q 14 <| .or 15 (.q 16 <| .q 17 <| .q 18 <| .q 19 <| .or 21 (.q 22 <| .q 23 <| .done) (.nil)) (.nil)) (.or 14 (.or 3 (.or 15 (.q 16 <| .q 17 <| .q 18 <| .q 19 <| .or 21 (.q 22 <| .q 23 <| .done) (.nil)) (.nil)) (.nil)) (.nil))) (.nil)))) (.or 20 (.or 3 (.q 10 <| .q 11 <| .q 12 <| .q 13 <| .q 14 <| .or 15 (.q 16 <| .q 17 <| .q 18 <| .q 19 <| .or 21 (.q 22 <| .q 23 <| .done) (.nil)) (.nil)) (.or 10 (.q 11 <| .q 12 <| .q 13 <| .or 3 (.q 14 <| .or 15 (.q 16 <| .q 17 <| .q 18 <| .q 19 <| .or 21 (.q 22 <| .q 23 <| .done) (.nil)) (.nil)) (.or 14 (.or 3 (.or 15 (.q 16 <| .q 17 <| .q 18 <| .q 19 <| .or 21 (.q 22 <| .q 23 <| .done) (.nil)) (.nil)) (.nil)) (.nil))) (.nil))) (.nil)))) (.or 20 (.or 3 (.q 9 <| .q 10 <| .q 11 <| .q 12 <| .q 13 <| .q 14 <| .or 15 (.q 16 <| .q 17 <| .q 18 <| .q 19 <| .or 21 (.q 22 <| .q 23 <| .done) (.nil)) (.nil)) (.or 9 (.or 3 (.q 10 <| .q 11 <| .q 12 <| .q 13 <| .q 14 <| .or 15 (.q 16 <| .q 17 <| .q 18 <| .q 19 <| .or 21 (.q 22 <| .q 23 <| .done) (.nil)) (.nil)) (.or 10 (.q 11 <| .q 12 <| .q 13 <| .or 3 (.q 14 <| .or 15 (.q 16 <| .q 17 <| .q 18 <| .q 19 <| .or 21 (.q 22 <| .q 23 <| .done) (.nil)) (.nil)) (.or 14 (.or 3 (.or 15 (.q 16 <| .q 17 <| .q 18 <| .q 19 <| .or 21 (.q 22 <| .q 23 <| .done) (.nil)) (.nil)) (.nil)) (.nil))) (.nil))) (.nil))) (.nil)))) (.or 20 (.or 3 (.q 7 <| .q 9 <| .q 10 <| .q 11 <| .q 12 <| .q 13 <| .q 14 <| .or 15 (.q 16 <| .q 17 <| .q 18 <| .q 19 <| .or 21 (.q 22 <| .q 23 <| .done) (.nil)) (.nil)) (.or 7 (.or 3 (.q 9 <| .q 10 <| .q 11 <| .q 12 <| .q 13 <| .q 14 <| .or 15 (.q 16 <| .q 17 <| .q 18 <| .q 19 <| .or 21 (.q 22 <| .q 23 <| .done) (.nil)) (.nil)) (.or 9 (.or 3 (.q 10 <| .q 11 <| .q 12 <| .q 13 <| .q 14 <| .or 15 (.q 16 <| .q 17 <| .q 18 <| .q 19 <| .or 21 (.q 22 <| .q 23 <| .done) (.nil)) (.nil)) (.or 10 (.q 11 <| .q 12 <| .q 13 <| .or 3 (.q 14 <| .or 15 (.q 16 <| .q 17 <| .q 18 <| .q 19 <| .or 21 (.q 22 <| .q 23 <| .done) (.nil)) (.nil)) (.or 14 (.or 3 (.or 15 (.q 16 <| .q 17 <| .q 18 <| .q 19 <| .or 21 (.q 22 <| .q 23 <| .done) (.nil)) (.nil)) (.nil)) (.nil))) (.nil))) (.nil))) (.nil))) (.nil)))) (by kernel_rfl) ?_
   have hsl:(scL L i).length≤2000100:=hok.scl_len _ _ h
   have hfit:=JH hok i h
   have hsi:=hS.unt i h
   have wri:IntKind.i64.wrap ((i:Int)+1)=(i:Int)+1:=wrap_i64 (by omega)
   have hP:=Zl9 (scL L i) (by omega) hfit.1 (ZA L i).body (ZcI hz i)
   have hSc:=ZhS L S b1 b2 hb hS hok hNm (fun i=>(hz i).1) _ i h (Nat.lt_succ_self _) js vs hm
   have good:(parZ (scL L i) (ZA L i).body).2.1=0→badT L i=false:=fun h3=>by simp [badT,trP,h3]
   have bad:¬(parZ (scL L i) (ZA L i).body).2.1=0→∀ (t:List (Nat×AV)) (m:List (Option Ob)) (M:List (Nat×Mp)),VJ [] (Zgg L) ⟨t,m,M,0⟩ (.tup [.lit (.pointer none),.lit (.slice none 0 0),.lit (.int .i64 (IntKind.i64.wrap (10+(parZ (scL L i) (ZA L i).body).2.1))),.lit (.int .i64 i)]):=fun h3 t m M=>by
    obtain ⟨e1,e2⟩:=Zca hc (Ym h (by simp [badT,trP,h3]) hbt)
    have hcd:=Zco (scL L i) (ZA L i).body
    rw [wrap_i64 (by omega)]
    exact uF [] [] (hR:=.inl ⟨by rw [e1];show ¬10+(parZ (scL L i) (ZA L i).body).2.1=0;omega,e2,by rw [e1];simp [go_sem,trP],rfl⟩)
   simp [go_sem,KP,KTr,ZD,VL]
   repeat' refine And.intro ?_ ?_
   all_goals try exact h
   all_goals
    refine QN [] 65 65 hSc (by simp) rfl (fun q _=>.closed _ (Ye _)) (by simp [go_sem,KP]) trivial (by simp [go_sem,hb]) ?_
    rintro av mem maps N' vs' as' ⟨js',hm',hr',rfl,has,rfl,rfl,rfl⟩
    simp [go_sem,KP,KTr,Ga,ZD,VL,hb,hsi]
    repeat' refine And.intro ?_ ?_
    all_goals try exact h
    all_goals
     refine ZP hP (by simp [go_sem];exact Zb (by omega) fun i c _ h=>Zo _ i c h) ?_
     rintro av obs ⟨rfl,rfl⟩
     simp [go_sem,KP,KTr,hb]
     repeat' refine And.intro ?_ ?_
     all_goals try intro h3
     all_goals try exact bad h3 _ _ _
     all_goals
      refine ⟨by omega,by omega,i+1,js',⟨⟨h,hm'⟩,XR hbt (good h3)⟩,by omega,vs',?_⟩
      first
       |refine J7 (i+4+1) (i+1+1) i (by simp [go_sem,KP,wri];exact .fam _ _ _ _ fun q hq=>by rw [has q hq];exact .closed _ (Ye _)) (by rw [List.getElem?_cons_succ];exact Xr _ i 4 _) ?_ (by omega) (fun a ha=>⟨_,by rw [List.getElem?_cons_succ];exact Uf _ _ ha,XE (fun _ _=>rfl) fun _ _ h=>ZQ _ _ _ h⟩) ⟨_,by rw [List.getElem?_cons_succ];exact Xr _ i 1 _,XE (fun _ _=>rfl) fun _ _ h=>ZQ _ _ _ h⟩ (by simp [go_sem,hb])
       |refine J7 (i+4+1) (i+2+1) i (by simp [go_sem,KP,wri];exact .fam _ _ _ _ fun q hq=>by rw [has q hq];exact .closed _ (Ye _)) (by rw [List.getElem?_cons_succ];exact Xr _ i 4 _) ?_ (by omega) (fun a ha=>⟨_,by rw [List.getElem?_cons_succ];exact Uf _ _ ha,XE (fun _ _=>rfl) fun _ _ h=>ZQ _ _ _ h⟩) ⟨_,by rw [List.getElem?_cons_succ];exact Xr _ i 2 _,XE (fun _ _=>rfl) fun _ _ h=>ZQ _ _ _ h⟩ (by simp [go_sem,hb])
      refine ⟨rfl,rfl,rfl,fun a ha=>?_⟩
      simp only [ZH]
      have ha:a<i+1:=ha
      split
      ·rename_i h8
       simp [go_sem,Za7 h8];omega
      ·obtain rfl:a=i:=by omega
       simp [go_sem,ZdE]
  ·obtain rfl:i=L.length:=by omega
   obtain ⟨e1,e2⟩:=Zek hc (Xe hbt)
   exact uFR 0 1 L.length 80 (fun a=>YD (trL L a)) rfl (fun a ha=>by rw [List.getElem?_cons_succ];exact Vh _ ha) (fun a _ i=>rfl) (by omega) (by simp [go_sem];exact .inr (K8 _ _ _ _)) (.inr ⟨by rw [e1],e2,_,by rw [e1];simp [go_sem,YX,UF];rfl,rfl⟩)
theorem ZiV (L:List PMod) (hn:L.length≤1048576) (hz:∀ i,(Zq L i).name.size≤1048576∧(Zq L i).text.size≤1048576):VProc Tryz.prog 46 [.sl 2 L.length (Zh L)] [] [] (fun av mem maps=>Zgg L av mem []∧maps=[]):=
 (ZgQ L hn hz (fun _=>undef) (fun _=>.undef)).proc.fewMaps fun av mem maps h=>⟨[],fun b mp hb=>by simp [lkm] at hb,fun b hb=>hb,h,rfl⟩
set_option maxRecDepth 100000 in
theorem ZdS (L:List PMod) (hn:L.length≤1048576) (hz:∀ i,(Zq L i).name.size≤1048576∧(Zq L i).text.size≤1048576):VProc Tryz.prog 17 [.sl 2 L.length (Zh L)] [] []
  (fun av mem maps=>((treesN L=0∧av=.tup [.lit (.slice none 0 0),.lit (.int .i64 (treesC L).1),.lit (.int .i64 (treesC L).2)]∧mem=[])∨(treesN L=L.length∧av=.tup [.own 0,.lit (.int .i64 (treesC L).1),.lit (.int .i64 (treesC L).2)]∧mem=Yz L.length::Rw (fun a=>YD (trL L a)) L.length))∧maps=[]):=by
 have mcl:∀ (i:Nat) (c:AV),i<L.length→c∈Zh L i→Closed c:=fun i c _ h=>ZI _ i c h
 refine Zu Tryz.func17 (by kernel_rfl) rfl (by simp [Tryz.ntmps17]) ?_;simp only [Tryz.ntmps17,Tryz.results17];simp [go_sem]
 refine uS [] (ZiV L hn hz) ?_ (ha:=by simp [go_sem];exact mcl)
 rintro av mem maps ⟨⟨h0,hN,rfl,rfl⟩|⟨h0,hN,cs,rfl,rfl⟩,rfl⟩
 ·simp [go_sem]
  exact uF [] [] (hR:=⟨.inl ⟨hN,by simp [go_sem],rfl⟩,rfl⟩)
 ·have rwL:∀ h:Nat→Nat,Rw (fun a=>(⟨(YD (trL L a)).ty,(YD (trL L a)).sz,(YD (trL L a)).n,fun i=>((YD (trL L a)).f i).map (Ww h)⟩:Ob)) L.length=Rw (fun a=>YD (trL L a)) L.length:=fun h=>Kf fun a _=>K6 fun i=>Xc _ i
  simp [go_sem,KTr,rwL]
  exact uFR 0 1 L.length 80 (fun a=>YD (trL L a)) rfl (fun a ha=>by rw [List.getElem?_cons_succ];exact Vh _ ha) (fun a _ i=>rfl) (by omega) (by simp [go_sem]) ⟨.inr ⟨hN,by simp [go_sem,YX,UF],rfl⟩,rfl⟩
theorem GD (L:List PMod) (hn:L.length≤1048576) (hz:∀ i,(Zq L i).name.size≤1048576∧(Zq L i).text.size≤1048576):VProc Tryz.prog 17 [.sl 2 L.length (Zh L)] [] []
  (fun av mem maps=>av=.tup [.own 0,.lit (.int .i64 (treesC L).1),.lit (.int .i64 (treesC L).2)]∧mem=Yz (treesN L)::Rw (fun a=>YD (trL L a)) (treesN L)∧maps=[]):=
 (ZdS L hn hz).adoptT 80 1 Nat.one_pos (fun a=>[.own (a+1)]) fun av mem maps h=>by
  obtain ⟨⟨h1,rfl,rfl⟩|⟨h1,rfl,rfl⟩,rfl⟩:=h
  ·refine .inr ⟨[.int .i64 (treesC L).1,.int .i64 (treesC L).2],rfl,rfl,rfl,?_,rfl⟩
   rw [h1];rfl
  ·rw [h1];exact .inl ⟨rfl,rfl,rfl⟩
theorem ZdR (L:List PMod) (hn:L.length≤1048576) (hz:∀ i,(Zq L i).name.size≤1048576∧(Zq L i).text.size≤1048576):VProc Tryz.prog 17 [.sl 2 L.length (Zh L)] [] []
  (fun av mem maps=>av=.tup [.sl 1 (treesN L) (Wf (trL L)),.lit (.int .i64 (treesC L).1),.lit (.int .i64 (treesC L).2)]∧mem=[]∧maps=[]):=
 (GD L hn hz).giveRR fun av mem maps h=>by
  obtain ⟨rfl,rfl,rfl⟩:=h
  exact .inr ⟨80,treesN L,fun a=>YD (trL L a),[.int .i64 (treesC L).1,.int .i64 (treesC L).2],fun a _ i _ c hc=>ZQ _ i c hc,rfl,rfl,.inr ⟨rfl,rfl,rfl,rfl⟩⟩
theorem ZdN (L:List PMod) (hn:L.length≤1048576) (hz:∀ i,(Zq L i).name.size≤1048576∧(Zq L i).text.size≤1048576):VProc Tryz.prog 16 [.sl 2 L.length (Zh L)] [] []
  (fun av mem maps=>av=.tup [.sl 1 (treesN L) (Wf (trL L)),.lit (.int .i64 (treesC L).1),.lit (.int .i64 (treesC L).2)]∧mem=[]∧maps=[]):=
 (ZdO L hn hz).giveRR fun av mem maps h=>by
  obtain ⟨rfl,rfl,rfl⟩:=h
  exact .inr ⟨80,treesN L,fun a=>YD (trL L a),[.int .i64 (treesC L).1,.int .i64 (treesC L).2],fun a _ i _ c hc=>ZQ _ i c hc,rfl,rfl,.inr ⟨rfl,rfl,rfl,rfl⟩⟩
theorem Zia (L:List PMod):treesN L≤100∧∀ i,i<treesN L→(trL L i).length≤300000:=by
 refine ⟨?_,fun i _=>Zlr L i⟩
 unfold treesN
 split
 ·rename_i h
  exact (Zcv h.1).few
 ·omega
set_option maxRecDepth 100000 in
theorem Zbv (L:List PMod) (hl:L.length≤maxLen) (ho:∀ i,i<L.length→(Zq L i).wf):VFun Tryz.prog 4 [.sl 2 L.length (Zh L)] (fun av _=>av=.lit (.bool true)):=by
 have hl':=hl
 simp only [maxLen] at hl'
 have hlit:∀ i,(Zh L i).all YL=true:=fun i=>rfl
 refine Zd Tryz.func4 (by kernel_rfl) rfl (by simp [Tryz.ntmps4]) ?_;simp only [Tryz.ntmps4,Tryz.results4];simp [go_sem]
 refine ZP (Zfl L 1048576 hl ho (by decide) (by decide)) (by simp [go_sem];exact Zb (by omega) fun i c _ h=>ZI _ i c h) ?_
 rintro av obs ⟨rfl,rfl|⟨h0,rfl⟩⟩
 ·simp [go_sem]
 simp [go_sem]
 refine fun _=>?_
 have hn:L.length≤1048576:=by omega
 have hz:∀ i,(Zq L i).name.size≤1048576∧(Zq L i).text.size≤1048576:=fun i=>by
  have:=Zis L i
  omega
 refine uS [] (QA L hn) ?_ (ha:=by simp [go_sem];exact fun i c _ h=>ZI _ i c h)
 rintro av mem maps ⟨rfl,rfl,rfl⟩
 simp [go_sem]
 refine uS [] (ZdN L hn hz) ?_ (ha:=by simp [go_sem];exact fun i c _ h=>ZI _ i c h)
 rintro av mem maps ⟨rfl,rfl,rfl⟩
 obtain ⟨hN,hS⟩:=Zia L
 have hcode:∃ C:Int×Nat,treesC L=C:=⟨_,rfl⟩
 obtain ⟨C,hC⟩:=hcode
 have hld:=GD L hn hz
 have hldB:=ZdR L hn hz
 rw [hC] at hld hldB ⊢
 generalize treesN L=N at *
 generalize trL L=S at *
 simp [go_sem]
 refine ZP (GA L hn) (by simp [go_sem];exact Zb (by omega) fun i c _ h=>ZI _ i c h) ?_
 rintro av obs ⟨rfl,rfl⟩
 simp [go_sem]
 have rwL:∀ h:Nat→Nat,Rw (fun a=>(⟨(YD (S a)).ty,(YD (S a)).sz,(YD (S a)).n,fun i=>((YD (S a)).f i).map (Ww h)⟩:Ob)) N=Rw (fun a=>YD (S a)) N:=fun h=>Kf fun a _=>K6 fun i=>Xc _ i
 have owL:(fun i:Nat=>[AV.own (1+(i+1))])=fun i=>[.own (i+1+1)]:=by funext i;rw [Nat.add_comm 1]
 have opL:∀ (a i:Nat),((YD (S a)).f i).all YL=true:=fun a i=>Xc _ i
 have mkL:∀ (k a i:Nat),((Yw S k a).f i).all YL=true:=fun k a i=>rfl
 refine Jz [] hld (by simp) ?_ trivial trivial ?_
 ·simp [go_sem]
  exact .inr (.inl ⟨by simp,Vz (k:=0) rfl (by omega) fun i c _ h=>ZI _ i c h,fun i _=>hlit i⟩)
 rintro av mem maps ⟨rfl,rfl,rfl⟩
 refine ⟨fun k ob hk i hi=>?_,?_⟩
 ·cases k with
  |zero=>
   cases hk
   rfl
  |succ k=>
   rw [List.getElem?_cons_succ] at hk
   obtain ⟨_,rfl⟩:=Zg9 hk
   exact Ks (opL k i)
 simp [go_sem,KTr,rwL,owL]
 have eqT:=Zja N N (by omega) S S (fun i h=>by have:=hS i h;omega) fun i h=>by have:=hS i h;omega
 rw [Zav] at eqT
 refine uB (ty:=80) (n:=N) eqT (by simp [go_sem];exact ⟨by rw [V9];rfl,fun i c _ h=>QQ _ i c h⟩) opL ?_
 rintro av mem maps ⟨rfl,rfl,rfl⟩
 refine ⟨_,_,rfl,rfl,rfl,opL,?_⟩
 simp [go_sem,ZbL]
 refine uS [] (QA L hn) ?_ (ha:=by simp [go_sem];exact fun i c _ h=>ZI _ i c h)
 rintro av mem maps ⟨rfl,rfl,rfl⟩
 simp [go_sem,ZbL]
 have eqM:=ZfG L L (by omega) (by omega)
 rw [ZeT] at eqM
 refine Zc eqM (by
  simp [go_sem]
  exact ⟨Xq (sz:=2) rfl (by omega) rfl (fun _ _=>rfl) fun i c _ h=>ZI _ i c h,Zb (by omega) fun i c _ h=>ZI _ i c h⟩) ?_
 simp [go_sem,ZbL]
 refine uS [0] (ZbV L 1 hn (by omega)) ?_ (hs:=by simp [go_sem,Zgx,ZD])
 rintro av mem maps ⟨rfl,rfl,rfl⟩
 simp [go_sem,ZbL]
 refine ⟨fun _=>?_,by omega⟩
 refine uB (ty:=80) (n:=N) eqT (by simp [go_sem];exact ⟨by rw [V9];rfl,fun i c _ h=>QQ _ i c h⟩) opL ?_
 rintro av mem maps ⟨rfl,rfl,rfl⟩
 refine ⟨_,_,rfl,rfl,rfl,opL,?_⟩
 simp [go_sem,ZbL]
 refine uB (ty:=80) (n:=N) (Zfs N hN S hS 1 (by omega)) (by simp [go_sem];rw [V9];rfl) opL ?_
 rintro av mem maps ⟨rfl,rfl,rfl⟩
 refine ⟨_,_,rfl,rfl,rfl,mkL 1,?_⟩
 simp [go_sem,ZbL]
 have held:=ZfD N hN S hS 1 (by omega)
 refine uB (ty:=80) (n:=N) held (by simp [go_sem];rw [V9];rfl) (mkL 1) ?_
 rintro av mem maps ⟨rfl,rfl,rfl⟩
 refine ⟨_,_,rfl,rfl,rfl,mkL 1,?_⟩
 simp [go_sem,ZbL]
 refine uS [] (QA L hn) ?_ (ha:=by simp [go_sem];exact fun i c _ h=>ZI _ i c h)
 rintro av mem maps ⟨rfl,rfl,rfl⟩
 simp [go_sem,ZbL]
 refine uS [] hldB ?_ (ha:=by simp [go_sem];exact fun i c _ h=>ZI _ i c h)
 rintro av mem maps ⟨rfl,rfl,rfl⟩
 simp [go_sem,ZbL]
 have eqB:=ZgZ N N (by omega) S S (fun i h=>by have:=hS i h;omega) fun i h=>by have:=hS i h;omega
 rw [Zav] at eqB
 refine Zc eqB (by
  simp [go_sem]
  exact Zb (by omega) fun i c _ h=>QQ _ i c h) ?_
 simp [go_sem,ZbL]
 refine uB (ty:=80) (n:=N) held (by simp [go_sem];rw [V9];rfl) (mkL 1) ?_
 rintro av mem maps ⟨rfl,rfl,rfl⟩
 refine ⟨_,_,rfl,rfl,rfl,mkL 1,?_⟩
 simp [go_sem,ZbL]
structure Rd where
 n:Nat
 f:Nat→Nat
 p:Nat
def Rd.v (r:Rd):Nat:=if r.p<r.n then r.f r.p else 0
def Rd.nx (r:Rd):Rd:=if r.p<r.n then { r with p:=r.p+1 } else r
end Go.Proofs.YtadghlfkddkelaaGreatDoor.V
namespace Go.Proofs.YtadghlfkddkelaaGreatDoor.V
open Go.ChangeShapes Go.WideShapes Go.ChangeAt Go.RowKit
theorem ZaD {H:Type} {enc:TypeId×Value→H} {a:Assume} {C:Checked} {os:Os} {f:FuncId} {fn:Func} {s:ChangeSpec} {conds:List PathCond} {apart fresh handsOn again:Bool} {X:World→Array Value→Prop}
  (hX:∀ (w w':World) (args:Array Value),w.heap=w'.heap→X w args→X w' args)
  (own:ownKnob C.prog.godebug=none) (started:os.Started) (noInit:C.prog.inits.idxOf? f=none) (hfn:C.prog.funcs[f]?=some fn)
  (witness:∃ (w:World) (tape:Tape) (i:Input),w.os=os∧(w.forCall tape i).Shaped C.prog∧i.vars=[]∧Input.okWide C.prog (w.forCall tape i) .any w.heap.size f i∧
   ((s.pre enc C.prog fn conds apart (w.forCall tape i).memory i.args∧X (w.forCall tape i).memory i.args)∧sizedMet enc C.prog fn (OpenSpec.ofChange s) apart (w.forCall tape i).memory i.args)∧a.holds C.prog (lone (Frame.enter C.prog f i.args .normal) [] (w.forCall tape i)))
  (contract:∀ (W:World) (base:Nat) (args:Array Value) (ds gs:List (DataW H)) (before:List MemPlace),
   (∀ (j:Nat) t v,fn.params[j]?=some t→args[j]?=some v→Value.okWide C.prog W .any base t v)→
   DataW.Whole enc C.prog fn.params.toList s.vars apart W args.toList ds gs before→
   conds.all (PathCond.test C.prog ⟨fn.params.toList,ds,s.plain.varTypes C.prog,gs⟩)=true→
   X W args→W.ShapedOpen C.prog→
   Calls C.prog f args W fun e W'=>∃ v,e=.returned v∧s.post enc C.prog fn apart fresh handsOn again W args v W') :
  ReturnsInHanded a C os f .any (fun w args=>(s.pre enc C.prog fn conds apart w args∧X w args)∧sizedMet enc C.prog fn (OpenSpec.ofChange s) apart w args) (s.post enc C.prog fn apart fresh handsOn again):=by
 refine returnsInHanded_of_calls own started noInit witness ?_
 intro w tape i _ hsh _ hok hpre hholds
 obtain ⟨_,_,_,fn',hfn',_,_,_,_,hval⟩:=hok
 have e:fn'=fn:=Option.some.inj (hfn'.symm.trans hfn)
 subst e
 obtain ⟨⟨⟨ds,gs,before,hw,hc⟩,hx⟩,hz⟩:=hpre
 have hw':=DataW.Whole.of_heap (w':=w.forCall tape i) (by rfl) hw
 refine (contract (w.forCall tape i) w.heap.size i.args ds gs before hval hw' hc (hX _ _ _ (by rfl) hx) hsh).mono fun e W' ⟨v,he,hp⟩=>?_
 subst he
 exact ChangeSpec.post_blind hp
def Zmg (P:Program) (name:String):Bool:=match P.globalNamed name with
 |none=>false
 |some g=>match (P.globals[g]?).map (·.type) with
  |none=>false
  |some t=>match P.underlying t with
   |some (.array n e)=>(match P.underlying e with
    |some (.int .u64)=>true
    | _=>false)&&P.cellsOf e==1&&P.cellsOf t==n
   | _=>false
theorem Zj1 {P:Program} {name:String} {W:World} {zs:List Int} (h:Zmg P name=true) (hl:laidMet P [(name,Lib.tabData .u64 zs)] W):Lib.TabIs P W name .u64 zs:=by
 unfold Zmg at h
 split at h
 ·cases h
 ·rename_i g hg
  split at h
  ·cases h
  ·rename_i t ht
   split at h
   ·rename_i n e hu
    simp only [Bool.and_eq_true,beq_iff_eq] at h
    obtain ⟨⟨h1,h2⟩,h3⟩:=h
    split at h1
    ·rename_i he
     exact Lib.tabIs_of_head hg ht hu he h2 h3 hl
    ·cases h1
   ·cases h
set_option maxRecDepth 100000 in
theorem Zic (n:Nat) (xs:List AV) (h:Vg Tryz.prog (n+2) 58 xs):∃ o:PMod,o.wf∧xs=o.cells:=by
 obtain ⟨parts,h0,rfl⟩:=Zda Tryz.underlying58 h
 clear h
 simp only [List.toList_toArray,ZcM,ZfS] at h0
 obtain ⟨_,_,rfl,⟨_,h1⟩,_,_,rfl,⟨_,h2⟩,rfl⟩:=h0
 obtain ⟨g,rfl,hg⟩:=JF Tryz.underlying9 h1
 obtain ⟨z,rfl,hz⟩:=JF Tryz.underlying9 h2
 exact ⟨⟨g,z⟩,⟨hg,hz⟩,rfl⟩
set_option maxRecDepth 100000 in
theorem Zgo (n:Nat) (xs:List AV) (h:Vg Tryz.prog (n+3) 22 xs):∃ l:List PMod,l.length≤maxLen∧(∀ i,i<l.length→(Zq l i).wf)∧∃ f,xs=[.sl 2 l.length f]∧∀ i,i<l.length→f i=Zh l i:=by
 obtain ⟨m,f,rfl,hm,hf⟩:=Zer Tryz.underlying22 h
 have hc:Tryz.prog.cellsOf 58=2:=by kernel_rfl
 obtain ⟨l,rfl,h2,h3⟩:=Zlz PMod.cells PMod.wf fun i hi=>Zic n (f i) (hf i hi).2
 exact ⟨l,hm,h2,f,by rw [hc],h3⟩
end Go.Proofs.YtadghlfkddkelaaGreatDoor.V
