import Derived.Test.YtadghlfkddkelaaGreatDoorTC
set_option linter.unusedVariables false
set_option linter.unusedSimpArgs false
set_option linter.constructorNameAsVariable false
namespace Go.Proofs.YtadghlfkddkelaaGreatDoor.V
open Go.RowKit
structure PMod where
 name:ByteArray
 text:ByteArray
deriving Inhabited
def PMod.cells (m:PMod):List AV:=[.lit (.string m.name),.lit (.string m.text)]
def Zq (L:List PMod) (i:Nat):PMod:=L.getD i default
def Zh (L:List PMod) (i:Nat):List AV:=(Zq L i).cells
theorem ZD (L:List PMod) (i:Nat):Zh L i=[.lit (.string (Zq L i).name),.lit (.string (Zq L i).text)]:=rfl
theorem Zky (L:List PMod) (i:Nat):(Zh L i).all YL=true:=rfl
theorem ZI (L:List PMod) (i:Nat) (c:AV) (h:c∈Zh L i):Closed c:=Closed.of_lit (List.all_eq_true.1 (Zky L i) c h)
def Zgx (L:List PMod):Option Ob:=some ⟨52,2,L.length,Zh L⟩
def Z3 (L:List PMod) (x:ByteArray):Nat:=L.findIdx fun m=>decide (m.name=x)
theorem Ud (L:List PMod) (x:ByteArray):Z3 L x≤L.length:=List.findIdx_le_length
theorem Ziq {L:List PMod} {x:ByteArray} {i:Nat} (hi:i<L.length) (h:(Zq L i).name=x) (hb:∀ j,j<i→¬(Zq L j).name=x):Z3 L x=i:=by
 have hm:∀ j (hj:j<L.length),Zq L j=L[j]:=fun j hj=>by
  unfold Zq;rw [List.getD_eq_getElem?_getD,List.getElem?_eq_getElem hj];rfl
 unfold Z3
 rw [List.findIdx_eq hi]
 refine ⟨by rw [←hm i hi];simpa using h,fun j hj=>?_⟩
 have:=hb j hj
 rw [hm j (by omega)] at this
 simpa using this
theorem ZeQ {L:List PMod} {x:ByteArray} (hb:∀ j,j<L.length→¬(Zq L j).name=x):Z3 L x=L.length:=by
 unfold Z3
 rw [List.findIdx_eq_length]
 intro m hm
 obtain ⟨j,hj,rfl⟩:=List.getElem_of_mem hm
 have:=hb j hj
 unfold Zq at this
 rw [List.getD_eq_getElem?_getD,List.getElem?_eq_getElem hj] at this
 simpa using this
theorem QW {L:List PMod} {x:ByteArray} (h:Z3 L x<L.length):(Zq L (Z3 L x)).name=x:=by
 have:=List.findIdx_getElem (w:=h)
 unfold Zq
 rw [List.getD_eq_getElem?_getD,List.getElem?_eq_getElem h]
 exact of_decide_eq_true this
theorem Vt {L:List PMod} {x:ByteArray} {j:Nat} (h:j<Z3 L x):¬(Zq L j).name=x:=by
 have h1:=Ud L x
 have:=List.not_of_lt_findIdx h
 unfold Zq
 rw [List.getD_eq_getElem?_getD,List.getElem?_eq_getElem (by omega)]
 simpa using this
def ZA (L:List PMod) (i:Nat):Unt:=(Z2 (Zq L i).text).1
def usI (L:List PMod) (i:Nat):List Nat:=if i<L.length then (ZA L i).uses.map (Z3 L) else []
def opI (L:List PMod) (i:Nat):List POp:=(ZA L i).ops
def Xu (L:List PMod) (i j:Nat):Bool:=(usI L i).any fun u=>u==j
def scL (L:List PMod) (i:Nat):List POp:=scF (opI L) (usI L) L.length i
def ZZ (n:Nat) (p:Nat→Bool):Option Nat:=(List.range n).find? p
theorem Ym {n i:Nat} {p:Nat→Bool} (hi:i<n) (hp:p i=true) (hb:∀ j,j<i→p j=false):ZZ n p=some i:=by
 unfold ZZ
 rw [List.find?_range_eq_some]
 exact ⟨hp,List.mem_range.2 hi,fun j hj=>by simpa using hb j hj⟩
theorem Xe {n:Nat} {p:Nat→Bool} (hb:∀ j,j<n→p j=false):ZZ n p=none:=by
 unfold ZZ
 rw [List.find?_eq_none]
 intro j hj
 rw [hb j (List.mem_range.1 hj)];simp
theorem ZcC {n:Nat} {p:Nat→Bool} (h:ZZ n p=none):∀ j,j<n→p j=false:=fun j hj=>by
 unfold ZZ at h
 rw [List.find?_eq_none] at h
 simpa using h j (List.mem_range.2 hj)
def U1 (L:List PMod) (i:Nat):Bool:=decide (¬(Z2 (Zq L i).text).2.1=0)||(!Qo (Zq L i).name||decide (64<(Zq L i).name.size))
def KB (L:List PMod) (i:Nat):Bool:=decide (Z3 L (Zq L i).name<i)
def Kd (L:List PMod) (i:Nat):Bool:=(usI L i).any fun u=>u==L.length
def ZdV (L:List PMod) (i:Nat):Bool:=XL (Xu L) L.length i i
def ZbA (L:List PMod) (i:Nat):Bool:=decide (¬XM (scL L i)=0)
def YE (L:List PMod):Int×Nat:=
 if 100<L.length then (1,100) else
 match ZZ L.length (U1 L) with
 |some i=>(2,i)
 |none=>match ZZ L.length (KB L) with
  |some i=>(3,i)
  |none=>match ZZ L.length (Kd L) with
   |some i=>(4,i)
   |none=>match ZZ L.length (ZdV L) with
    |some i=>(5,i)
    |none=>match ZZ L.length (ZbA L) with
     |some i=>(6,i)
     |none=>(0,0)
theorem opEq_is {a b:POp}:Zdk a b=true↔a=b:=by
 obtain ⟨a1,a2,a3,a4⟩:=a
 obtain ⟨b1,b2,b3,b4⟩:=b
 simp only [Zdk,HZ,X3,Bool.and_eq_true,decide_eq_true_eq,POp.mk.injEq]
 exact ⟨fun ⟨⟨⟨h1,h2⟩,h3⟩,h4⟩=>⟨h1,h2,h3,h4⟩,fun ⟨h1,h2,h3,h4⟩=>⟨⟨⟨h1,h2⟩,h3⟩,h4⟩⟩
theorem uniq_mem {l:List POp} {o:POp}:∀ {i},o∈uniq l i↔∃ j,j<i∧o=Zl l j
 |0=>by simp [uniq]
 |i+1=>by
  have ih:=uniq_mem (l:=l) (o:=o) (i:=i)
  simp only [uniq]
  split
  ·rename_i h
   rw [ih]
   constructor
   ·rintro ⟨j,hj,e⟩;exact ⟨j,by omega,e⟩
   ·rintro ⟨j,hj,e⟩
    by_cases e2:j=i
    ·subst e2
     simp only [UY,List.any_eq_true,List.mem_range] at h
     obtain ⟨k,hk,e3⟩:=h
     exact ⟨k,hk,e.trans (opEq_is.1 e3).symm⟩
    ·exact ⟨j,by omega,e⟩
  ·rw [List.mem_append,ih,List.mem_singleton]
   constructor
   ·rintro (⟨j,hj,e⟩|e)
    ·exact ⟨j,by omega,e⟩
    ·exact ⟨i,by omega,e⟩
   ·rintro ⟨j,hj,e⟩
    by_cases e2:j=i
    ·subst e2;exact .inr e
    ·exact .inl ⟨j,by omega,e⟩
theorem Uk {l:List POp}:∀ i,(uniq l i).Nodup
 |0=>by simp [uniq]
 |i+1=>by
  have ih:=Uk (l:=l) i
  simp only [uniq]
  split
  ·exact ih
  ·rename_i h
   rw [List.nodup_append]
   refine ⟨ih,by simp,fun a ha b hb=>?_⟩
   rw [List.mem_singleton] at hb
   subst hb
   intro e
   subst e
   obtain ⟨j,hj,e⟩:=uniq_mem.1 ha
   apply h
   simp only [UY,List.any_eq_true,List.mem_range]
   exact ⟨j,hj,opEq_is.2 e.symm⟩
theorem union_mem {a b:List POp} {o:POp}:o∈WF a b↔o∈a∨o∈b:=by
 unfold WF
 rw [uniq_mem,←List.mem_append,←List.length_append]
 constructor
 ·rintro ⟨j,hj,rfl⟩
  unfold Zl
  rw [List.getD_eq_getElem?_getD,List.getElem?_eq_getElem hj]
  exact List.getElem_mem hj
 ·intro h
  obtain ⟨j,hj,rfl⟩:=List.getElem_of_mem h
  refine ⟨j,hj,?_⟩
  unfold Zl
  rw [List.getD_eq_getElem?_getD,List.getElem?_eq_getElem hj];rfl
theorem fold_mem {α:Type} {g:α→List POp} {o:POp}:∀ {l:List α} {t:List POp},o∈l.foldl (fun t u=>WF t (g u)) t↔o∈t∨∃ u,u∈l∧o∈g u
 |[],t=>by simp
 |a::l,t=>by
  rw [List.foldl_cons,fold_mem,union_mem]
  simp only [List.mem_cons]
  constructor
  ·rintro ((h|h)|⟨u,hu,h⟩)
   ·exact .inl h
   ·exact .inr ⟨a,.inl rfl,h⟩
   ·exact .inr ⟨u,.inr hu,h⟩
  ·rintro (h|⟨u,rfl|hu,h⟩)
   ·exact .inl (.inl h)
   ·exact .inl (.inr h)
   ·exact .inr ⟨u,hu,h⟩
theorem Ji {α:Type} {g:α→List POp}:∀ {l:List α} {t:List POp},t.Nodup→(l.foldl (fun t u=>WF t (g u)) t).Nodup
 |[],t,h=>h
 |a::l,t,h=>by rw [List.foldl_cons];exact Ji (Uk _)
theorem Zid {O:Nat→List POp} {U:Nat→List Nat}:∀ (f i:Nat),(scF O U f i).Nodup
 |0,i=>Uk _
 |f+1,i=>Ji (Uk _)
theorem JI {O:Nat→List POp} {U:Nat→List Nat} {n:Nat} (hU:∀ i u,u∈U i→u<n) {o:POp}:∀ (f i:Nat),i<n→o∈scF O U f i→∃ j,j<n∧o∈O j
 |0,i,hi,h=>by
  rcases union_mem.1 h with h|h
  ·exact ⟨i,hi,h⟩
  ·simp at h
 |f+1,i,hi,h=>by
  rcases fold_mem.1 h with h|⟨u,hu,h⟩
  ·rcases union_mem.1 h with h|h
   ·exact ⟨i,hi,h⟩
   ·simp at h
  ·exact JI hU f u (hU i u hu) h
theorem JQ {α:Type} [DecidableEq α]:∀ {l m:List α},l.Nodup→(∀ x,x∈l→x∈m)→l.length≤m.length
 |[],m,_,_=>Nat.zero_le _
 |a::l,m,hn,hs=>by
  rw [List.nodup_cons] at hn
  have ha:a∈m:=hs a (by simp)
  have:=JQ (l:=l) (m:=m.erase a) hn.2 fun x hx=>(List.mem_erase_of_ne (fun e=>hn.1 (by rw [←e];exact hx))).2 (hs x (by simp [hx]))
  rw [List.length_erase_of_mem ha] at this
  have:=List.length_pos_of_mem ha
  simp only [List.length_cons];omega
instance:DecidableEq POp:=fun a b=>if h:Zdk a b=true then isTrue (opEq_is.1 h) else isFalse fun e=>h (opEq_is.2 e)
theorem ZdF {O:Nat→List POp} {c:Nat} (h:∀ i,(O i).length≤c):∀ n,((List.range n).flatMap O).length≤n*c
 |0=>by simp
 |n+1=>by
  have:=ZdF h n
  have:=h n
  rw [List.range_succ,List.flatMap_append,List.length_append,Nat.succ_mul,List.flatMap_singleton]
  omega
theorem Zly {O:Nat→List POp} {U:Nat→List Nat} {n c:Nat} (hU:∀ i u,u∈U i→u<n) (hO:∀ i,(O i).length≤c) (f i:Nat) (hi:i<n):(scF O U f i).length≤n*c:=
 Nat.le_trans (JQ (m:=(List.range n).flatMap O) (Zid f i) fun x hx=>by
  obtain ⟨j,hj,h⟩:=JI hU f i hi hx
  exact List.mem_flatMap.2 ⟨j,List.mem_range.2 hj,h⟩) (ZdF hO n)
theorem G1 (L:List PMod) (i:Nat):(opI L i).length≤20001:=(Zb8 _).2
theorem Kh (L:List PMod) (i:Nat):(ZA L i).uses.length≤20001:=(Zb8 _).1
structure LoadOk (L:List PMod):Prop where
 few:L.length≤100
 named:∀ i u,u∈usI L i→u<L.length
 calm:∀ i,i<L.length→XL (Xu L) L.length i i=false
theorem LoadOk.of {L:List PMod} (h1:L.length≤100) (h4:∀ i,i<L.length→Kd L i=false) (h5:∀ i,i<L.length→ZdV L i=false):LoadOk L:=by
 refine ⟨h1,fun i u hu=>?_,h5⟩
 by_cases hi:i<L.length
 ·have:=h4 i hi
  unfold Kd at this
  rw [List.any_eq_false] at this
  have h2:=this u hu
  unfold usI at hu
  rw [if_pos hi,List.mem_map] at hu
  obtain ⟨x,_,rfl⟩:=hu
  have:=Ud L x
  have:¬Z3 L x=L.length:=by simpa using h2
  omega
 ·unfold usI at hu
  rw [if_neg hi] at hu
  simp at hu
theorem LoadOk.rank {L:List PMod} (h:LoadOk L):∀ i u,u∈usI L i→U6 (Xu L) L.length u<U6 (Xu L) L.length i:=fun i u hu=>
 ZlD (h.calm u (h.named i u hu)) (h.named i u hu) (by unfold Xu;rw [List.any_eq_true];exact ⟨u,hu,by simp⟩)
theorem LoadOk.scl_len {L:List PMod} (h:LoadOk L) (f i:Nat) (hi:i<L.length):(scF (opI L) (usI L) f i).length≤2000100:=by
 have:=Zly (O:=opI L) (U:=usI L) (n:=L.length) (c:=20001) h.named (G1 L) f i hi
 have h1:=h.few
 have:L.length*20001≤100*20001:=Nat.mul_le_mul_right _ h1
 omega
theorem LoadOk.step {L:List PMod} (h:LoadOk L) (i:Nat) (hi:i<L.length):scL L i=(usI L i).foldl (fun t u=>WF t (scL L u)) (WF (opI L i) []):=by
 unfold scL
 match hn:L.length with
 |0=>omega
 |n+1=>
  show (usI L i).foldl _ _=_
  refine Jh fun t u hu=>?_
  have h1:=h.rank i u hu
  have h2:=h.named i u hu
  have h3:=Zcm hi (h.calm i hi)
  rw [hn] at h1 h3
  rw [ZaC (rk:=U6 (Xu L) L.length) h.rank n (n+1) u (by rw [hn];omega) (by rw [hn];omega)]
theorem LoadOk.fin {L:List PMod} (h:LoadOk L):∀ i,i<L.length→rnD (usI L) L.length L.length i=true:=fun i hi=>
 ZeB (rk:=U6 (Xu L) L.length) (fun i u _ hu=>⟨h.named i u hu,h.rank i u hu⟩) _ i hi (Zcm hi (h.calm i hi))
def scJ (L:List PMod) (i j:Nat):List POp:=((usI L i).take j).foldl (fun t u=>WF t (scL L u)) (WF (opI L i) [])
theorem Zhu {L:List PMod} (h:LoadOk L) (i j:Nat) (hi:i<L.length):(scJ L i j).length≤2000100:=by
 have h1:(scJ L i j).length≤((List.range L.length).flatMap (opI L)).length:=by
  refine JQ (Ji (Uk _)) fun x hx=>?_
  rcases fold_mem.1 hx with hx|⟨u,hu,hx⟩
  ·rcases union_mem.1 hx with hx|hx
   ·exact List.mem_flatMap.2 ⟨i,List.mem_range.2 hi,hx⟩
   ·simp at hx
  ·obtain ⟨j,hj,h2⟩:=JI h.named _ u (h.named i u (List.mem_of_mem_take hu)) hx
   exact List.mem_flatMap.2 ⟨j,List.mem_range.2 hj,h2⟩
 have h2:=ZdF (G1 L) L.length
 have h3:=h.few
 have:L.length*20001≤100*20001:=Nat.mul_le_mul_right _ h3
 omega
theorem Zet {L:List PMod} {i j:Nat} (hj:j<(usI L i).length):scJ L i (j+1)=WF (scJ L i j) (scL L ((usI L i).getD j 0)):=by
 unfold scJ
 rw [List.take_succ_eq_append_getElem hj,List.foldl_append,List.getD_eq_getElem?_getD,List.getElem?_eq_getElem hj]
 rfl
theorem Zeu {L:List PMod} (h:LoadOk L) {i:Nat} (hi:i<L.length):scJ L i (usI L i).length=scL L i:=by
 rw [h.step i hi];unfold scJ;rw [List.take_length]
theorem Ho {L:List PMod} {i:Nat} (hi:i<L.length):(usI L i).length=(ZA L i).uses.length∧∀ j,j<(ZA L i).uses.length→(usI L i).getD j 0=Z3 L (Zs (ZA L i).uses j):=by
 unfold usI
 rw [if_pos hi]
 refine ⟨by simp,fun j hj=>?_⟩
 unfold Zs
 rw [List.getD_eq_getElem?_getD,List.getElem?_map,List.getElem?_eq_getElem hj,List.getD_eq_getElem?_getD,List.getElem?_eq_getElem hj]
 rfl
theorem Zhp (L:List (List ByteArray)):∀ i o,o∈(usR L i).ops→∃ j,j<i∧Xa (L.getD j [])=some o
 |0,o,h=>by simp [usR] at h
 |i+1,o,h=>by
  have up:o∈(usR L i).ops→∃ j,j<i+1∧Xa (L.getD j [])=some o:=fun h=>by
   obtain ⟨j,hj,e⟩:=Zhp L i o h
   exact ⟨j,by omega,e⟩
  have h:o∈(Xw (usR L i) i (L.getD i [])).ops:=h
  unfold Xw at h
  split at h
  ·exact up h
  ·split at h
   ·rename_i o2 h2
    simp only [List.mem_append,List.mem_singleton] at h
    rcases h with h|rfl
    ·exact up h
    ·exact ⟨i,by omega,h2⟩
   ·split at h
    ·exact up h
    ·exact up h
theorem WZ {z:ByteArray} {o:POp} (h:o∈(Z2 z).1.ops):o.wf∧o.rng∧z.size≤20000:=by
 unfold Z2 at h
 split at h
 ·simp at h
 ·have key:∀ k,o∈(usR (Zt z) k).ops→o.wf∧o.rng∧z.size≤20000:=fun k h=>by
   obtain ⟨j,hj,e⟩:=Zhp _ _ _ h
   obtain ⟨h1,h2⟩:=Zbe e fun i=>by rw [Gq];have:=Qu z j i;omega
   exact ⟨h1,h2,by omega⟩
  split at h
  ·split at h<;>simp at h
  ·split at h
   ·exact key _ h
   ·simp at h
theorem ZeK {l:List POp} {i:Nat} (h:i<l.length):Zl l i∈l:=by
 unfold Zl
 rw [List.getD_eq_getElem?_getD,List.getElem?_eq_getElem h]
 exact List.getElem_mem h
theorem Zgt {l:List POp} (h:∀ o,o∈l→o.wf∧o.rng):XD l∧HB l:=⟨fun i hi=>(h _ (ZeK hi)).1,fun i hi=>(h _ (ZeK hi)).2⟩
theorem ZhD (L:List PMod) (i:Nat):XD (opI L i)∧HB (opI L i):=Zgt fun o h=>⟨(WZ h).1,(WZ h).2.1⟩
theorem JH {L:List PMod} (h:LoadOk L) (i:Nat) (hi:i<L.length):XD (scL L i)∧HB (scL L i):=Zgt fun o ho=>by
 obtain ⟨j,_,h2⟩:=JI h.named _ i hi ho
 exact ⟨(WZ h2).1,(WZ h2).2.1⟩
theorem Zlx {L:List PMod} (h:LoadOk L) (i j:Nat) (hi:i<L.length):XD (scJ L i j)∧HB (scJ L i j):=Zgt fun o ho=>by
 rcases fold_mem.1 ho with hx|⟨u,hu,hx⟩
 ·rcases union_mem.1 hx with hx|hx
  ·exact ⟨(WZ hx).1,(WZ hx).2.1⟩
  ·simp at hx
 ·obtain ⟨j,_,h2⟩:=JI h.named _ u (h.named i u (List.mem_of_mem_take hu)) hx
  exact ⟨(WZ h2).1,(WZ h2).2.1⟩
theorem Zei (L:List (List ByteArray)):∀ i x,x∈(usR L i).uses→∃ j,j<i∧x=WV (L.getD j []) 1
 |0,x,h=>by simp [usR] at h
 |i+1,x,h=>by
  have up:x∈(usR L i).uses→∃ j,j<i+1∧x=WV (L.getD j []) 1:=fun h=>by
   obtain ⟨j,hj,e⟩:=Zei L i x h
   exact ⟨j,by omega,e⟩
  have h:x∈(Xw (usR L i) i (L.getD i [])).uses:=h
  unfold Xw at h
  split at h
  ·exact up h
  ·split at h
   ·exact up h
   ·split at h
    ·simp only [List.mem_append,List.mem_singleton] at h
     rcases h with h|rfl
     ·exact up h
     ·exact ⟨i,by omega,rfl⟩
    ·exact up h
theorem Zgc {z x:ByteArray} (h:x∈(Z2 z).1.uses):x.size≤20000:=by
 unfold Z2 at h
 split at h
 ·simp at h
 ·have key:∀ k,x∈(usR (Zt z) k).uses→x.size≤20000:=fun k h=>by
   obtain ⟨j,hj,e⟩:=Zei _ _ _ h
   have:=Qu z j 1
   rw [←Gq] at this
   rw [e]
   have h2:(WV ((Zt z).getD j []) 1).size≤z.size:=this
   omega
  split at h
  ·split at h<;>simp at h
  ·split at h
   ·exact key _ h
   ·simp at h
theorem ZjT (L:List PMod) (i k:Nat):(Zs (ZA L i).uses k).size≤20000:=by
 by_cases h:k<(ZA L i).uses.length
 ·refine Zgc (z:=(Zq L i).text) ?_
  unfold Zs
  rw [List.getD_eq_getElem?_getD,List.getElem?_eq_getElem h]
  exact List.getElem_mem h
 ·unfold Zs
  rw [List.getD_eq_getElem?_getD,List.getElem?_eq_none (by omega)]
  exact Nat.zero_le _
structure PSrc where
 u:Unt
 hd:List ByteArray
 b:Nat
 n:Nat
instance:Inhabited PSrc:=⟨⟨⟨[],[],⟨#[]⟩⟩,[],0,0⟩⟩
def PSrc.cells (c:PSrc):List AV:=[.sl 1 c.u.uses.length (Zp c.u.uses),.sl 4 c.u.ops.length (Za c.u.ops),.lit (.string c.u.body),.sl 1 c.hd.length (Zp c.hd),.lit (.map (some c.b)),.lit (.int .i64 c.n)]
def WG (S:List PSrc) (i:Nat):PSrc:=S.getD i default
def YI (S:List PSrc) (i:Nat):List AV:=[.bptr (WG S i).cells]
theorem VL (S:List PSrc) (i:Nat):YI S i=[.bptr [.sl 1 (WG S i).u.uses.length (Zp (WG S i).u.uses),.sl 4 (WG S i).u.ops.length (Za (WG S i).u.ops),.lit (.string (WG S i).u.body),.sl 1 (WG S i).hd.length (Zp (WG S i).hd),.lit (.map (some (WG S i).b)),.lit (.int .i64 (WG S i).n)]]:=rfl
theorem PSrc.closed (p:PSrc):Closed (.bptr p.cells):=.bptr _ fun c h=>by
 unfold PSrc.cells at h
 simp at h
 rcases h with rfl|rfl|rfl|rfl|rfl|rfl
 ·exact .sl _ _ _ fun i c _ h=>Yg _ i c h
 ·exact .sl _ _ _ fun i c _ h=>Zo _ i c h
 ·exact .lit _
 ·exact .sl _ _ _ fun i c _ h=>Yg _ i c h
 ·exact .lit _
 ·exact .lit _
theorem Kj (S:List PSrc) (i:Nat) (c:AV) (h:c∈YI S i):Closed c:=by
 unfold YI at h
 rw [List.mem_singleton] at h
 subst h
 exact (WG S i).closed
def Yo (L:List PMod) (S:List PSrc) (b1 b2:Nat):List AV:=[.sl 2 L.length (Zh L),.sl 1 L.length (YI S),.lit (.map (some b1)),.lit (.map (some b2))]
theorem K8 (L:List PMod) (S:List PSrc) (b1 b2:Nat):Closed (.bptr (Yo L S b1 b2)):=.bptr _ fun c h=>by
 unfold Yo at h
 simp at h
 rcases h with rfl|rfl|rfl|rfl
 ·exact .sl _ _ _ fun i c _ h=>ZI _ i c h
 ·exact .sl _ _ _ fun i c _ h=>Kj _ i c h
 ·exact .lit _
 ·exact .lit _
structure SrcIs (L:List PMod) (S:List PSrc):Prop where
 len:S.length=L.length
 unt:∀ i,i<L.length→(WG S i).u=ZA L i
def WU (L:List PMod) (k:Nat):List (Value×Value):=(List.range k).map fun i=>(.string (Zq L i).name,.int .i64 i)
theorem ZhV (L:List PMod) {k i:Nat} (h:i<k):(WU L k)[i]?=some (.string (Zq L i).name,.int .i64 i):=by
 unfold WU
 rw [List.getElem?_map,List.getElem?_range h];rfl
theorem Zjh (L:List PMod) (k:Nat):WU L (k+1)=WU L k++[(.string (Zq L k).name,.int .i64 k)]:=by
 unfold WU;rw [List.range_succ,List.map_append];rfl
theorem ZbE {L:List PMod} {k i:Nat} {p:Value×Value} (h:(WU L k)[i]?=some p):i<k∧p=(.string (Zq L i).name,.int .i64 i):=by
 have hi:i<k:=by
  have:=(List.getElem?_eq_some_iff.1 h).1
  unfold WU at this
  simpa using this
 rw [ZhV L hi] at h
 exact ⟨hi,(Option.some.inj h).symm⟩
theorem Qt {L:List PMod} {k:Nat} {x:ByteArray} (h:Z3 L x<k) (hk:k≤L.length):mget (WU L k) (.string x)=some (.int .i64 (Z3 L x)):=by
 refine JU (j:=Z3 L x) ?_ fun i p hi hp=>?_
 ·rw [ZhV L h,QW (by omega)]
 ·obtain ⟨_,rfl⟩:=ZbE hp
  simp only [ne_eq,Value.string.injEq]
  exact Vt hi
theorem ZaR {L:List PMod} {k:Nat} {x:ByteArray} (h:k≤Z3 L x):mget (WU L k) (.string x)=none:=by
 refine JT fun p hp=>?_
 obtain ⟨i,hi⟩:=List.getElem?_of_mem hp
 obtain ⟨h1,rfl⟩:=ZbE hi
 simp only [ne_eq,Value.string.injEq]
 exact Vt (by omega)
theorem ZeS {L:List PMod} {k:Nat} (h:k≤Z3 L (Zq L k).name):mput (WU L k) (.string (Zq L k).name) (.int .i64 k)=WU L (k+1):=by
 rw [Zjh]
 refine QX fun p hp=>?_
 obtain ⟨i,hi⟩:=List.getElem?_of_mem hp
 obtain ⟨h1,rfl⟩:=ZbE hi
 simp only [ne_eq,Value.string.injEq]
 exact Vt (by omega)
def NamesOk (L:List PMod):Prop:=∀ i,i<L.length→Z3 L (Zq L i).name=i
theorem NamesOk.of {L:List PMod} (h:∀ i,i<L.length→KB L i=false):NamesOk L:=fun i hi=>by
 have h1:=h i hi
 unfold KB at h1
 have h1:¬Z3 L (Zq L i).name<i:=by simpa using h1
 by_cases e:Z3 L (Zq L i).name≤i
 ·omega
 ·exact absurd rfl (Vt (show i<Z3 L (Zq L i).name by omega))
theorem NamesOk.inj {L:List PMod} (h:NamesOk L) {i j:Nat} (hi:i<L.length) (hj:j<L.length) (e:(Zq L i).name=(Zq L j).name):i=j:=by
 rw [←h i hi,e,h j hj]
structure Srch (L:List PMod) (i0:Nat) (T:List Nat) (p:Nat) (es:List (Value×Value)):Prop where
 lt0:i0<L.length
 lt:∀ q,q∈T→q<L.length
 nodup:(i0::T).Nodup
 from_:∀ q,q∈T→Pth (Xu L) L.length i0 q
 done:∀ j,j<p→∀ u,u∈usI L ((i0::T).getD j 0)→u∈T
 keys:∀ x:ByteArray,(mget es (.string x)).isSome=true↔∃ q,q∈T∧x=(Zq L q).name
theorem Srch.start {L:List PMod} {i0:Nat} (h:i0<L.length):Srch L i0 [] 0 []:=
 ⟨h,fun q hq=>by simp at hq,by simp,fun q hq=>by simp at hq,fun j hj=>by omega,fun x=>by simp [mget]⟩
theorem Zkv {n:Nat} {l:List Nat} (hn:l.Nodup) (h:∀ q,q∈l→q<n):l.length≤n:=by
 have:=JQ (m:=List.range n) hn fun q hq=>List.mem_range.2 (h q hq)
 rwa [List.length_range] at this
theorem Srch.len {L:List PMod} {i0 p:Nat} {T:List Nat} {es:List (Value×Value)} (h:Srch L i0 T p es):T.length+1≤L.length:=by
 have:=Zkv h.nodup fun q hq=>by
  rcases List.mem_cons.1 hq with rfl|hq
  ·exact h.lt0
  ·exact h.lt q hq
 simpa using this
theorem Srch.at_lt {L:List PMod} {i0 p:Nat} {T:List Nat} {es:List (Value×Value)} (h:Srch L i0 T p es) {j:Nat} (hj:j<T.length+1):(i0::T).getD j 0<L.length:=by
 cases j with
 |zero=>exact h.lt0
 |succ j=>
  rw [List.getD_eq_getElem?_getD,List.getElem?_cons_succ,List.getElem?_eq_getElem (by omega)]
  exact h.lt _ (List.getElem_mem _)
theorem Srch.at_from {L:List PMod} {i0 p:Nat} {T:List Nat} {es:List (Value×Value)} (h:Srch L i0 T p es) {j u:Nat} (hj:j<T.length+1) (hu:u∈usI L ((i0::T).getD j 0)):Pth (Xu L) L.length i0 u:=by
 have hR:∀ q,u∈usI L q→Xu L q u=true:=fun q hq=>by unfold Xu;rw [List.any_eq_true];exact ⟨u,hq,by simp⟩
 have hl:=h.at_lt hj
 cases j with
 |zero=>exact .one (hR _ hu)
 |succ j=>
  have hm:(i0::T).getD (j+1) 0∈T:=by
   rw [List.getD_eq_getElem?_getD,List.getElem?_cons_succ,List.getElem?_eq_getElem (by omega)]
   exact List.getElem_mem _
  exact (h.from_ _ hm).app hl (.one (hR _ hu))
theorem Srch.add {L:List PMod} {i0 p u:Nat} {T:List Nat} {es:List (Value×Value)} (h:Srch L i0 T p es) (hp:p≤T.length+1) (hu:u<L.length) (h0:u≠i0) (hn:u∉T) (hf:Pth (Xu L) L.length i0 u) {v:Value}:Srch L i0 (T++[u]) p (mput es (.string (Zq L u).name) v):=by
 refine ⟨h.lt0,fun q hq=>?_,?_,fun q hq=>?_,fun j hj w hw=>?_,fun x=>?_⟩
 ·rcases List.mem_append.1 hq with hq|hq
  ·exact h.lt q hq
  ·rw [List.mem_singleton] at hq;subst hq;exact hu
 ·rw [←List.cons_append,List.nodup_append]
  refine ⟨h.nodup,by simp,fun a ha b hb e=>?_⟩
  rw [List.mem_singleton] at hb
  subst hb;subst e
  rcases List.mem_cons.1 ha with e|ha
  ·exact h0 e
  ·exact hn ha
 ·rcases List.mem_append.1 hq with hq|hq
  ·exact h.from_ q hq
  ·rw [List.mem_singleton] at hq;subst hq;exact hf
 ·have e:(i0::(T++[u])).getD j 0=(i0::T).getD j 0:=by
   rw [←List.cons_append,List.getD_eq_getElem?_getD,List.getD_eq_getElem?_getD,List.getElem?_append_left (by simp;omega)]
  rw [e] at hw
  exact List.mem_append_left _ (h.done j hj w hw)
 ·rw [Yi]
  split
  ·rename_i e
   simp only [Value.string.injEq] at e
   simp only [Option.isSome_some,true_iff]
   exact ⟨u,by simp,e.symm⟩
  ·rename_i e
   rw [h.keys]
   constructor
   ·rintro ⟨q,hq,rfl⟩;exact ⟨q,by simp [hq],rfl⟩
   ·rintro ⟨q,hq,rfl⟩
    rcases List.mem_append.1 hq with hq|hq
    ·exact ⟨q,hq,rfl⟩
    ·rw [List.mem_singleton] at hq;subst hq;exact absurd rfl e
theorem Srch.next {L:List PMod} {i0 p:Nat} {T:List Nat} {es:List (Value×Value)} (h:Srch L i0 T p es) (hu:∀ u,u∈usI L ((i0::T).getD p 0)→u∈T):Srch L i0 T (p+1) es:=
 ⟨h.lt0,h.lt,h.nodup,h.from_,fun j hj=>by
  by_cases e:j=p
  ·rw [e];exact hu
  ·exact h.done j (by omega),h.keys⟩
theorem Srch.fin {L:List PMod} {i0 p:Nat} {T:List Nat} {es:List (Value×Value)} (h:Srch L i0 T p es) (hp:T.length+1≤p):XL (Xu L) L.length i0 i0=false:=by
 have step:∀ x,x∈i0::T→∀ y,Xu L x y=true→y∈T:=fun x hx y hy=>by
  obtain ⟨j,hj,rfl⟩:=List.getElem_of_mem hx
  unfold Xu at hy
  rw [List.any_eq_true] at hy
  obtain ⟨u,hu,e⟩:=hy
  have e:u=y:=by simpa using e
  subst e
  simp only [List.length_cons] at hj
  refine h.done j (by omega) u ?_
  rw [List.getD_eq_getElem?_getD,List.getElem?_eq_getElem (by simpa using hj)]
  exact hu
 have key:∀ x y,Pth (Xu L) L.length x y→x∈i0::T→y∈T:=fun x y hp=>by
  induction hp with
  |one h=>exact fun hx=>step _ hx _ h
  |cons h _ _ ih=>exact fun hx=>ih (List.mem_cons_of_mem _ (step _ hx _ h))
 cases hw:XL (Xu L) L.length i0 i0 with
 |false=>rfl
 |true=>
  have:=key i0 i0 ((Xz _ _ _).1 hw) (by simp)
  have hn:=h.nodup
  rw [List.nodup_cons] at hn
  exact absurd this hn.1
end Go.Proofs.YtadghlfkddkelaaGreatDoor.V
namespace Go.Proofs.YtadghlfkddkelaaGreatDoor.V
open Go.RowKit
def Rw (g:Nat→Ob) (n:Nat):List (Option Ob):=(List.range n).map fun i=>some (g i)
@[go_sem] theorem XT (g:Nat→Ob) (n:Nat):(Rw g n).length=n:=by simp [Rw]
theorem Vh (g:Nat→Ob) {n i:Nat} (h:i<n):(Rw g n)[i]?=some (some (g i)):=by
 unfold Rw
 rw [List.getElem?_map,List.getElem?_range h];rfl
@[go_sem] theorem Rw_elem (g:Nat→Ob) {n i:Nat} (h:i<(Rw g n).length):(Rw g n)[i]'h=some (g i):=by
 have hi:i<n:=by rwa [XT] at h
 have:=Vh g hi
 rw [List.getElem?_eq_getElem h] at this
 simpa using this
theorem Zg9 {g:Nat→Ob} {n i:Nat} {o:Ob} (h:(Rw g n)[i]?=some (some o)):i<n∧o=g i:=by
 have hi:i<n:=by have:=(List.getElem?_eq_some_iff.1 h).1;rwa [XT] at this
 rw [Vh g hi] at h
 cases h;exact ⟨hi,rfl⟩
@[go_sem] theorem Zjl (g:Nat→Ob) (n:Nat) (l:List (Option Ob)):(Rw g n++l)[n]?=l[0]?:=by
 rw [List.getElem?_append_right (by rw [XT];exact Nat.le_refl _),XT,Nat.sub_self]
@[go_sem] theorem Xr (g:Nat→Ob) (n k:Nat) (l:List (Option Ob)):(Rw g n++l)[n+k]?=l[k]?:=by
 rw [List.getElem?_append_right (by rw [XT];omega),XT,Nat.add_sub_cancel_left]
theorem Uf (g:Nat→Ob) {n i:Nat} (l:List (Option Ob)) (h:i<n):(Rw g n++l)[i]?=some (some (g i)):=by
 rw [List.getElem?_append_left (by rw [XT];exact h),Vh g h]
theorem Zg8 (g:Nat→Ob) {n i:Nat} (h:i<n) (x:Ob):(Rw g n).set i (some x)=Rw (fun a=>if a=i then x else g a) n:=by
 apply List.ext_getElem?
 intro k
 by_cases hk:k<n
 ·rw [Vh _ hk]
  by_cases e:i=k
  ·subst e
   rw [List.getElem?_set_self (by rw [XT];exact h),if_pos rfl]
  ·rw [List.getElem?_set_ne e,Vh _ hk,if_neg (fun e2=>e e2.symm)]
 ·rw [List.getElem?_eq_none (by rw [List.length_set,XT];omega),List.getElem?_eq_none (by rw [XT];omega)]
theorem Kf {g g':Nat→Ob} {n:Nat} (h:∀ i,i<n→g i=g' i):Rw g n=Rw g' n:=by
 unfold Rw
 exact List.map_congr_left fun i hi=>by rw [h i (List.mem_range.1 hi)]
@[go_sem] theorem ZmX (g:Nat→Ob) (n:Nat) (h:Nat→Nat):(Rw g n).map (Option.map (VM h))=Rw (fun a=>VM h (g a)) n:=by
 unfold Rw;rw [List.map_map];rfl
def Zdm (K off j:Nat):Nat:=if j=0 then K else (j-1)+off
@[go_sem] theorem Zdl (K off:Nat):Zdm K off 0=K:=if_pos rfl
@[go_sem] theorem HF (K off j:Nat):Zdm K off (j+1)=j+off:=by unfold Zdm;rw [if_neg (by omega)];rfl
theorem Zbc (K off:Nat) {t t':List (Nat×AV)} {m:List (Option Ob)} {M M':List (Nat×Mp)} {o o':Ob} {n:Nat} {g:Nat→Ob}
  (h1:Ke (Zdm K off) (n+1) t t') (hK:m[K]?=some (some o)) (ho:ZbH (Zdm K off) (n+1) o o')
  (hr:∀ a,a<n→K≠a+off∧∃ ob,m[a+off]?=some (some ob)∧(GR (Zdm K off) (n+1) ob (g a)∨ZbH (Zdm K off) (n+1) ob (g a))) (hM:Yc M M':=by simp [go_sem]):Ent ⟨t,m,M,0⟩ ⟨t',some o'::Rw g n,M',0⟩:=by
 have hl:(some o'::Rw g n).length=n+1:=by rw [List.length_cons,XT]
 refine Ent.of_leS (f:=Zdm K off) ⟨⟨rfl,Nat.zero_le _,fun k hk=>absurd hk (Nat.not_lt_zero k)⟩,Z7 hM,by rw [hl];exact U3 h1,fun k hk=>?_,fun k k' hk hk' e=>?_,fun k ob' hk=>?_⟩
 ·simp only [hl] at hk
  cases k with
  |zero=>rw [Zdl];exact (List.getElem?_eq_some_iff.1 hK).1
  |succ k=>
   rw [HF]
   obtain ⟨_,ob,h2,_⟩:=hr k (by omega)
   exact (List.getElem?_eq_some_iff.1 h2).1
 ·simp only [hl] at hk hk'
  cases k with
  |zero=>cases k' with
   |zero=>rfl
   |succ k'=>rw [Zdl,HF] at e;exact absurd e (hr k' (by omega)).1
  |succ k=>cases k' with
   |zero=>rw [Zdl,HF] at e;exact absurd e.symm (hr k (by omega)).1
   |succ k'=>rw [HF,HF] at e;omega
 ·simp only [hl]
  cases k with
  |zero=>
   simp only [List.getElem?_cons_zero,Option.some.injEq] at hk
   subst hk
   rw [Zdl]
   exact ⟨o,hK,.inr ho⟩
  |succ k=>
   simp only [List.getElem?_cons_succ] at hk
   obtain ⟨hk2,rfl⟩:=Zg9 hk
   rw [HF]
   exact (hr k hk2).2
theorem ZaU {idx:Nat→Nat} {all:List Nat} {m:List (Option Ob)} {α:Type} (p:α→Nat) (q:α→Ob):∀ {l:List α},(∀ a,a∈l→WN idx all (q a) (m[p a]?))→UC idx all m (l.map p) (l.map fun a=>some (q a))
 |[],_=>trivial
 |a::l,h=>⟨h a (by simp),ZaU p q fun b hb=>h b (by simp [hb])⟩
def UF (K off n:Nat):List Nat:=K::(List.range n).map (·+off)
theorem Zbb {K off n:Nat} (h:K<off∨off+n≤K):(UF K off n).Nodup:=by
 unfold UF
 rw [List.nodup_cons]
 refine ⟨fun hm=>?_,?_⟩
 ·rw [List.mem_map] at hm
  obtain ⟨a,ha,e⟩:=hm
  rw [List.mem_range] at ha
  omega
 ·unfold List.Nodup
  rw [List.pairwise_map]
  exact List.Pairwise.imp (fun h e=>h (by omega)) (List.nodup_range (n:=n))
theorem ZkO {K off n a:Nat} (h:K<off∨off+n≤K) (ha:a<n):(UF K off n).idxOf (a+off)=a+1:=by
 have hx:(UF K off n)[a+1]?=some (a+off):=by
  unfold UF
  rw [List.getElem?_cons_succ,List.getElem?_map,List.getElem?_range ha];rfl
 obtain ⟨h1,h2⟩:=List.getElem?_eq_some_iff.1 hx
 have hd:=Zbb h
 have hlt:=List.idxOf_lt_length_of_mem (List.mem_of_getElem? hx)
 exact (List.getElem_inj hd).1 ((List.getElem_idxOf hlt).trans h2.symm)
theorem uFR {maps0:List (Nat×Mp)} {R:AV→List (Option Ob)→List (Nat×Mp)→Prop} {t:List (Nat×AV)} {m:List (Option Ob)} {M:List (Nat×Mp)} {av:AV} (K off n ty:Nat) (g:Nat→Ob)
  (hK:m[K]?=some (some ⟨ty,1,n,fun i=>[.own (i+off)]⟩)) (hr:∀ a,a<n→m[a+off]?=some (some (g a))) (hg:∀ a,a<n→∀ i,((g a).f i).all YL=true) (hd:K<off∨off+n≤K)
  (hav:(∀ q,q∈Wi av→q=K)∧clW av) (hR:R (ren (YX 0 (UF K off n)) av) (some ⟨ty,1,n,fun i=>[.own (i+1)]⟩::Rw g n) M) (hM:∀ b,(lkm maps0 b).isSome=true→(lkm M b).isSome=true:=by simp [go_sem]):VJ maps0 R ⟨t,m,M,0⟩ av:=by
 have e0:XY 0 (UF K off n)=UF K off n:=by unfold XY;simp
 refine ⟨rfl,UF K off n,some ⟨ty,1,n,fun i=>[.own (i+1)]⟩::Rw g n,Zbb hd,fun e he=>⟨Nat.zero_le _,?_⟩,⟨fun q hq=>?_,hav.2⟩,?_,hM,hR⟩
 ·unfold UF at he
  rw [List.mem_cons,List.mem_map] at he
  rcases he with rfl|⟨a,ha,rfl⟩
  ·exact (List.getElem?_eq_some_iff.1 hK).1
  ·exact (List.getElem?_eq_some_iff.1 (hr a (List.mem_range.1 ha))).1
 ·rw [hav.1 q hq]
  show K∈XY 0 (UF K off n)
  rw [e0];unfold UF;simp
 ·show UC (YX 0 (UF K off n)) (XY 0 (UF K off n)) m (XY 0 (UF K off n)) _
  rw [e0]
  have hx:∀ k,YX 0 (UF K off n) k=(UF K off n).idxOf k:=fun k=>by unfold YX;rw [if_neg (by omega),Nat.zero_add]
  refine ⟨?_,?_⟩
  ·rw [hK]
   refine ⟨rfl,rfl,rfl,fun i hi=>⟨?_,fun c hc=>?_,fun c hc q hq=>?_⟩⟩
   ·simp only [List.map_cons,List.map_nil,Ww,hx]
    rw [ZkO hd hi]
   ·simp only [List.mem_singleton] at hc
    subst hc;exact .inl rfl
   ·simp only [List.mem_singleton] at hc
    subst hc
    simp only [WI,List.mem_singleton] at hq
    subst hq
    unfold UF
    simp only [List.mem_cons,List.mem_map,List.mem_range]
    exact .inr ⟨i,hi,rfl⟩
  ·unfold Rw
   refine ZaU (·+off) g fun a ha=>?_
   rw [List.mem_range] at ha
   rw [hr a ha]
   have:=hg a ha
   generalize g a=ob at this
   obtain ⟨ty,sz,n',f⟩:=ob
   exact Wr (fun _ _=>rfl) fun i _=>this i
section
variable {P:Program} {n:Nat} {base:Fr} {w0 w:World} {hd:Nat→Value} {s:VS} {a:Act}
def RwG (g:Nat→Ob) (n j:Nat):List (Option Ob):=(List.range n).map fun i=>if i<j then none else some (g i)
def We (g:Nat→Ob) (j i:Nat):List AV:=if i<j then [.sl (g i).sz (g i).n (g i).f] else [.own (i+1)]
theorem Gx {ty n:Nat} {g:Nat→Ob} (hg:∀ a,a<n→∀ i,i<(g a).n→∀ c,c∈(g a).f i→Closed c) (t:List (Nat×AV)) (M:List (Nat×Mp)):∀ j,j≤n→Ent ⟨t,some ⟨ty,1,n,fun i=>[.own (i+1)]⟩::Rw g n,M,0⟩ ⟨t,some ⟨ty,1,n,We g j⟩::RwG g n j,M,0⟩
 |0,_=>by
  have e1:We g 0=fun i=>[.own (i+1)]:=by funext i;unfold We;rw [if_neg (by omega)]
  have e2:RwG g n 0=Rw g n:=by unfold RwG Rw;exact List.map_congr_left fun i _=>if_neg (by omega)
  rw [e1,e2];exact Ent.refl _
 |j+1,hj=>by
  refine (Gx hg t M j (by omega)).trans ?_
  have hk:(some (⟨ty,1,n,We g j⟩:Ob)::RwG g n j)[j+1]?=some (some (g j)):=by
   rw [List.getElem?_cons_succ]
   unfold RwG
   rw [List.getElem?_map,List.getElem?_range (by omega),Option.map_some,if_neg (by omega)]
  have h:=Ent.giveAt (s:=⟨t,some ⟨ty,1,n,We g j⟩::RwG g n j,M,0⟩) 0 (j+1) j 0 hk (hg j (by omega)) rfl (by omega) (by show (We g j j)[0]?=_;unfold We;rw [if_neg (by omega)];rfl)
  refine h.trans ?_
  have e1:(fun i=>if i=j then (We g j i).set 0 (.sl (g j).sz (g j).n (g j).f) else We g j i)=We g (j+1):=by
   funext i
   unfold We
   by_cases e:i=j
   ·subst e;rw [if_pos rfl,if_neg (by omega),if_pos (by omega)];rfl
   ·rw [if_neg e]
    by_cases h:i<j
    ·rw [if_pos h,if_pos (by omega)]
    ·rw [if_neg h,if_neg (by omega)]
  have e2:(RwG g n j).set j none=RwG g n (j+1):=by
   unfold RwG
   apply List.ext_getElem?
   intro k
   by_cases hk:k<n
   ·rw [List.getElem?_map,List.getElem?_range hk,Option.map_some]
    by_cases e:j=k
    ·subst e
     rw [List.getElem?_set_self (by simp;omega),if_pos (by omega)]
    ·rw [List.getElem?_set_ne e,List.getElem?_map,List.getElem?_range hk,Option.map_some]
     by_cases h:k<j
     ·rw [if_pos h,if_pos (by omega)]
     ·rw [if_neg h,if_neg (by omega)]
   ·rw [List.getElem?_eq_none (by simp;omega),List.getElem?_eq_none (by simp;omega)]
  simp only [List.set_cons_succ,List.set_cons_zero,e1,e2]
  exact Ent.refl _
end
theorem VProc.giveRR {P:Program} {f:FuncId} {args:List AV} {R R':AV→List (Option Ob)→List (Nat×Mp)→Prop} (h:VProc P f args [] [] R)
  (hr:∀ av mem maps,R av mem maps→R' av mem maps∨∃ (ty n:Nat) (g:Nat→Ob) (xs:List Value),(∀ a,a<n→∀ i,i<(g a).n→∀ c,c∈(g a).f i→Closed c)∧mem=some ⟨ty,1,n,fun i=>[.own (i+1)]⟩::Rw g n∧maps=[]∧
   ((av=.own 0∧R' (.sl 1 n fun i=>[.sl (g i).sz (g i).n (g i).f]) [] [])∨(av=.tup (.own 0::xs.map .lit)∧R' (.tup ((.sl 1 n fun i=>[.sl (g i).sz (g i).n (g i).f])::xs.map .lit)) [] []))):VProc P f args [] [] R':=by
 refine ⟨h.1,fun w vs hd0 hl hv hm hmp ht=>(h.2 w vs hd0 hl hv hm hmp ht).mono fun e w' ⟨v,e1,gb,hd,av,mem,maps,r,po,hx,me,mp,rp⟩=>?_⟩
 rcases hr av mem maps r with r'|⟨ty,n,g,xs,hcl,rfl,rfl,hav⟩
 ·exact ⟨v,e1,gb,hd,av,mem,maps,r',po,hx,me,mp,rp⟩
 have hcl1:∀ i,i<n→∀ c,c∈We g n i→Closed c:=fun i hi c hc=>by
  unfold We at hc
  rw [if_pos hi,List.mem_singleton] at hc
  subst hc
  exact .sl _ _ _ fun k c hk hc=>hcl i hi k hk c hc
 have hcl2:Closed (.sl 1 n fun i=>[.sl (g i).sz (g i).n (g i).f]):=.sl _ _ _ fun i c hi hc=>by
  rw [List.mem_singleton] at hc
  subst hc
  exact .sl _ _ _ fun k c hk hc=>hcl i hi k hk c hc
 have key:∀ x,Rep w' (Zw (some ⟨ty,1,n,fun i=>[.own (i+1)]⟩::Rw g n) hd) hd (some (⟨ty,1,n,fun i=>[.own (i+1)]⟩:Ob)::Rw g n).length (.own 0) x→∃ hd',TailEq hd0 hd'∧Rep w' (Zw [] hd') hd' 0 (.sl 1 n fun i=>[.sl (g i).sz (g i).n (g i).f]) x:=fun x hxr=>by
  have h:RelH 1 ⟨P,Sh w hd0 [] [],hd0,[]⟩ w hd ⟨[(0,.own 0)],some ⟨ty,1,n,fun i=>[.own (i+1)]⟩::Rw g n,[],0⟩ ⟨#[x],[]⟩ w':=
   ⟨rfl,rfl,gb,⟨fun b hb=>.inl hb,hl.2.1,hl.2.2⟩,Nat.zero_le _,⟨fun k hk=>absurd hk (Nat.not_lt_zero k),hx.2,ht⟩,mp,fun t=>by
    cases t with
    |zero=>exact hxr
    |succ t=>exact .undef _,me⟩
  obtain ⟨hd1,h1⟩:=Gx hcl [(0,.own 0)] [] n (Nat.le_refl _) _ _ _ _ _ _ h
  obtain ⟨hd2,h2⟩:=Ent.give (s:=⟨[(0,.own 0)],some ⟨ty,1,n,We g n⟩::RwG g n n,[],0⟩) [0] 0 rfl hcl1 (fun t ht=>by simp at ht;subst ht;rfl) _ _ _ _ _ _ h1
  have h3:=h2.tm 0
  refine ⟨hd2,h2.fix.2.1,?_⟩
  have h4:Rep w' (Zw ((some (⟨ty,1,n,We g n⟩:Ob)::RwG g n n).set 0 none) hd2) hd2 ((some (⟨ty,1,n,We g n⟩:Ob)::RwG g n n).set 0 none).length (.sl 1 n (We g n)) x:=h3
  have h5:=h4.slExt (f':=fun i=>[.sl (g i).sz (g i).n (g i).f]) fun i hi=>by unfold We;rw [if_pos hi]
  exact Rep.closed hcl2 (fun ad u g1 g2=>⟨g2,fun k ob hk=>by simp at hk,g1.2⟩) h5
 have fin:∀ (v:Value) (hd':Nat→Value) (av':AV),TailEq hd0 hd'→clW av'→Rep w' (Zw [] hd') hd' 0 av' v→R' av' [] []→∃ v',Ending.returned v=Ending.returned v'∧Bel (Sh w hd0 [] []) w w'∧∃ hd av mem maps,R' av mem maps∧PostOk [] [] av mem maps∧
   ((∀ k,k<([]:List (Option Ob)).length→hd k=hd0 k)∧TailEq hd0 hd)∧MemRel (Sh w hd0 [] []) w' hd mem∧MapRel P (Sh w hd0 [] []) w' maps∧Rep w' (Zw mem hd) hd mem.length av v':=fun v hd' av' h1 h2 h3 h4=>
  ⟨v,rfl,gb,hd',av',[],[],h4,⟨Nat.zero_le _,h2,fun k ob hk=>by simp at hk,fun b hb=>hb⟩,⟨fun k hk=>absurd hk (Nat.not_lt_zero k),h1⟩,⟨fun k ob hk=>by simp at hk,fun k ob hk=>by simp at hk,fun k hk=>absurd hk (Nat.not_lt_zero k),fun k k' o o' hk=>by simp at hk⟩,mp,h3⟩
 subst e1
 rcases hav with ⟨rfl,r'⟩|⟨rfl,r'⟩
 ·obtain ⟨hd',h1,h2⟩:=key v rp
  exact fin _ hd' (.sl 1 n fun i=>[.sl (g i).sz (g i).n (g i).f]) h1 (Or.inr hcl2:GO (.sl 1 n fun i=>[.sl (g i).sz (g i).n (g i).f])) h2 r'
 ·cases rp with
  |tup _ us hl2 hr2=>
   match us,hl2,hr2 with
   |x::us,hl2,hr2=>
    obtain ⟨hd',h1,h2⟩:=key x (hr2 0 _ x rfl rfl)
    have hl3:((AV.sl 1 n fun i=>[.sl (g i).sz (g i).n (g i).f])::xs.map .lit).length=(x::us).length:=by simpa using hl2
    refine fin _ hd' (.tup ((.sl 1 n fun i=>[.sl (g i).sz (g i).n (g i).f])::xs.map .lit)) h1 ?_ (.tup _ (x::us) hl3 fun j a u ha hu=>?_) r'
    ·show ∀ c,c∈_→GO c
     intro c hc
     rw [List.mem_cons,List.mem_map] at hc
     rcases hc with rfl|⟨y,_,rfl⟩
     ·exact .inr hcl2
     ·exact .inl rfl
    ·cases j with
     |zero=>
      simp only [List.getElem?_cons_zero,Option.some.injEq] at ha hu
      subst ha;subst hu
      exact h2
     |succ j=>
      simp only [List.getElem?_cons_succ] at ha hu
      have:=hr2 (j+1) a u (by simpa using ha) (by simpa using hu)
      rw [List.getElem?_map,Option.map_eq_some_iff] at ha
      obtain ⟨y,hy,rfl⟩:=ha
      cases this
      exact .lit _
theorem Zmc (g:Nat→Ob) {n a:Nat} (x:Ob) (h:a<n+1):(Rw g n++[some x])[a]?=some (some (if a=n then x else g a)):=by
 by_cases e:a=n
 ·subst e;rw [Zjl,if_pos rfl];rfl
 ·rw [Uf g _ (by omega),if_neg e]
theorem XE {f:Nat→Nat} {m ty sz n:Nat} {F F':Nat→List AV} (h:∀ i,i<n→F i=F' i) (hc:∀ i c,c∈F' i→Closed c):GR f m ⟨ty,sz,n,F⟩ ⟨ty,sz,n,F'⟩:=⟨rfl,rfl,rfl,fun i hi=>⟨h i hi,fun c hc'=>hc i c hc'⟩⟩
def ZhX (t:List (Nat×AV)):List (Nat×AV)→Prop
 |[]=>True
 | (u,v)::r=>lk t u=v∧ZhX t r
theorem Y6 {t t':List (Nat×AV)} {m:List (Option Ob)} {M:List (Nat×Mp)} {x:Nat} (h:ZhX t t'):Ent ⟨t,m,M,x⟩ ⟨t',m,M,x⟩:=fun n base w0 hd a w hr=>by
 refine ⟨hd,hr.weak rfl rfl rfl fun u=>?_⟩
 have key:∀ l:List (Nat×AV),ZhX t l→lk l u=.undef∨lk l u=lk t u:=fun l=>by
  induction l with
  |nil=>intro _;exact .inl rfl
  |cons p l ih=>
   obtain ⟨v,y⟩:=p
   intro h
   simp only [lk]
   split
   ·rename_i e;subst e;exact .inr h.1.symm
   ·exact ih h.2
 exact key t' h
attribute [go_sem] ZhX
end Go.Proofs.YtadghlfkddkelaaGreatDoor.V
namespace Go.Proofs.YtadghlfkddkelaaGreatDoor.V
open Go.RowKit
theorem Ent.asSub {s:VS} (t:Nat) {k:Nat} {ob:Ob} (hk:s.mem[k]?=some (some ob)) (ht:lk s.tmps t=.own k):Ent s { s with tmps:=(t,.sub k ob.sz 0 ob.n)::s.tmps }:=by
 intro n base w0 hd a w h
 refine ⟨hd,h.defers,h.size,h.below,h.le,h.fixl,h.fix,h.mp,fun u=>?_,h.me⟩
 simp only [lk]
 split
 ·rename_i e;subst e
  have:=h.tm t
  rw [ht] at this
  generalize a.tmps.getD t undef=v at this
  cases this with
  |own _ hlt=>
   obtain ⟨hs,vals,ho,_⟩:=h.me.obs k ob hk
   rcases ho.2 with ⟨e,h0⟩|⟨g,cap,cur,e,_,h1,_⟩
   ·rw [e,h0]
    exact .sub _ _ _ _ _ _ hlt (Nat.le_refl _) fun hp=>absurd hp (Nat.lt_irrefl 0)
   ·rw [e]
    exact .sub _ _ _ _ _ _ hlt h1 fun _=>⟨g,ob.n,cap,e,by rw [Nat.zero_mul],by omega⟩
 ·exact h.tm u
theorem VProc.fewMaps {P:Program} {f:FuncId} {args:List AV} {mem0:List (Option Ob)} {maps0:List (Nat×Mp)} {R R':AV→List (Option Ob)→List (Nat×Mp)→Prop} (h:VProc P f args mem0 maps0 R)
  (hr:∀ av mem maps,R av mem maps→∃ maps',(∀ b mp,lkm maps' b=some mp→lkm maps b=some mp)∧(∀ b,(lkm maps0 b).isSome=true→(lkm maps' b).isSome=true)∧R' av mem maps'):VProc P f args mem0 maps0 R':=
 ⟨h.1,fun w vs hd0 hl hv hm hmp ht=>(h.2 w vs hd0 hl hv hm hmp ht).mono fun e w' ⟨v,e1,g,hd,av,mem,maps,r,po,hx,me,mp,rp⟩=>by
  obtain ⟨maps',h1,h2,r'⟩:=hr av mem maps r
  exact ⟨v,e1,g,hd,av,mem,maps',r',⟨po.len,po.flat,po.cells,h2⟩,hx,me,fun b m hb=>mp b m (h1 b m hb),rp⟩⟩
noncomputable def addEsS (es:List (Value×Value)) (x:ByteArray):List (Value×Value):=if (mget es (.string x)).isSome then es else mput es (.string x) (.int .i64 es.length)
theorem ZmU (b:Nat) (es:List (Value×Value)) (x:ByteArray) (hx:x.size≤maxLen):VProc Tryz.prog 92 [.lit (.map (some b)),.lit (.string x)] [] [(b,⟨9,es⟩)] (fun av mem maps=>av=.lit (.bool !(mget es (.string x)).isSome)∧mem=[]∧maps=[(b,⟨9,addEsS es x⟩)]):=by
 have hk:=YJ hx
 refine Zu Tryz.func92 (by kernel_rfl) rfl (by simp [Tryz.ntmps92]) ?_;simp only [Tryz.ntmps92,Tryz.results92];simp [go_sem]
 refine Yj ZS hk _ VB ?_
 cases hm:mget es (.string x) with
 |some v=>
  simp [go_sem]
  exact uF [] [] (hR:=by simp [go_sem,addEsS,hm])
 |none=>
  simp [go_sem]
  refine Y0 ZS hk ?_
  simp [go_sem]
  exact uF [] [] (hR:=by simp [go_sem,addEsS,hm])
@[go_sem] theorem rn_sub {f:Nat→Nat} {m:Nat} {x:AV} {k sz lo n:Nat}:Rn f m x (.sub k sz lo n)=(k<m∧x=.sub (f k) sz lo n):=propext ⟨fun h=>by cases h with
 |sub _ _ _ _ h=>exact ⟨h,rfl⟩
 |closed _ h=>(cases h),fun h=>by rw [h.2];exact .sub k sz lo n h.1⟩
theorem KP:(∀ f m L S (b1 b2:Nat),Rn f m (.bptr [.sl 2 L.length (Zh L),.sl 1 L.length (YI S),.lit (.map (some b1)),.lit (.map (some b2))]) (.bptr [.sl 2 L.length (Zh L),.sl 1 L.length (YI S),.lit (.map (some b1)),.lit (.map (some b2))])=True)∧(∀ f m S i,Rn f m (.bptr (WG S i).cells) (.bptr (WG S i).cells)=True)∧(∀ L S b1 b2,Yo L S b1 b2=[.sl 2 L.length (Zh L),.sl 1 L.length (YI S),.lit (.map (some b1)),.lit (.map (some b2))])∧(∀ S i c,(c∈YI S i→Closed c)=True)∧(∀ L i c,(c∈Zh L i→Closed c)=True):=
 ⟨fun _ _ _ _ _ _=>eq_true (.closed _ (K8 _ _ _ _)),fun _ _ S i=>eq_true (.closed _ (WG S i).closed),fun _ _ _ _=>rfl,fun _ _ _=>eq_true (Kj _ _ _),fun _ _ _=>eq_true (ZI _ _ _)⟩
theorem KP1:(∀ f m L S b1 b2,Rn f m (.bptr (Yo L S b1 b2)) (.bptr (Yo L S b1 b2))=True)∧(∀ f m S i,Rn f m (.bptr (WG S i).cells) (.bptr (WG S i).cells)=True):=⟨KP.1,KP.2.1⟩
def ZeP (L:List PMod) (q:Nat):ByteArray:=(Zq L q).name
structure Todo (L:List PMod) (Q:List Nat) (p:Nat) (row:List ByteArray) (lo:Nat):Prop where
 eq:row.drop lo=(Q.drop p).map (ZeP L)
 lo:lo≤row.length
 le:row.length≤Q.length
 p:p≤Q.length
theorem Todo.len {L:List PMod} {Q:List Nat} {p lo:Nat} {row:List ByteArray} (h:Todo L Q p row lo):row.length-lo=Q.length-p:=by
 have:=congrArg List.length h.eq
 simpa using this
theorem Todo.fst {L:List PMod} {Q:List Nat} {p lo:Nat} {row:List ByteArray} (h:Todo L Q p row lo) (hp:p<Q.length):Zs row lo=ZeP L (Q.getD p 0):=by
 have h1:=congrArg (fun l=>l[0]?) h.eq
 simp only [List.getElem?_drop,List.getElem?_map,Nat.add_zero] at h1
 unfold Zs
 rw [List.getD_eq_getElem?_getD,h1,List.getD_eq_getElem?_getD,List.getElem?_eq_getElem hp]
 rfl
theorem Todo.pop {L:List PMod} {Q:List Nat} {p lo:Nat} {row:List ByteArray} (h:Todo L Q p row lo) (hp:p<Q.length):Todo L Q (p+1) row (lo+1):=by
 have:=h.len
 have:=h.lo
 refine ⟨?_,by omega,h.le,hp⟩
 rw [←List.drop_drop,←List.drop_drop,h.eq,List.map_drop,List.map_drop,List.map_drop]
theorem Todo.app {L:List PMod} {Q:List Nat} {p lo u:Nat} {row:List ByteArray} (h:Todo L Q p row lo):Todo L (Q++[u]) p (row++[ZeP L u]) lo:=by
 refine ⟨?_,by have:=h.lo;simp;omega,by have:=h.le;simp;omega,by have:=h.p;simp;omega⟩
 rw [List.drop_append_of_le_length h.lo,List.drop_append_of_le_length h.p,h.eq,List.map_append];rfl
theorem Todo.new {L:List PMod} {Q:List Nat} {p lo u:Nat} {row:List ByteArray} (h:Todo L Q p row lo):Todo L (Q++[u]) p (row.drop lo++[ZeP L u]) 0:=by
 refine ⟨?_,Nat.zero_le _,by have:=h.le;simp;omega,by have:=h.p;simp;omega⟩
 rw [List.drop_zero,List.drop_append_of_le_length h.p,h.eq,List.map_append];rfl
set_option maxRecDepth 100000 in
set_option maxHeartbeats 1000000 in
theorem ZkV (L:List PMod) (S:List PSrc) (b1 b2:Nat) (hS:SrcIs L S) (hL:L.length≤100) (hn:∀ i u,u∈usI L i→u<L.length) (hN:NamesOk L) (hz:∀ i,(Zq L i).name.size≤1048576) (i0:Nat) (h0:i0<L.length) :
  VProc Tryz.prog 67 [.bptr (Yo L S b1 b2),.lit (.string (Zq L i0).name)] [] [(b1,⟨9,WU L L.length⟩)] (fun av mem maps=>av=.lit (.bool (XL (Xu L) L.length i0 i0))∧mem=[]∧lkm maps b1=some ⟨9,WU L L.length⟩):=by
 have hSl:=hS.len
 refine Zu Tryz.func67 (by kernel_rfl) rfl (by simp [Tryz.ntmps67]) ?_;simp only [Tryz.ntmps67,Tryz.results67];simp [go_sem]
 intro bs hbs
 have hbs:¬b1=bs:=hbs
 have hbs':¬bs=b1:=fun e=>hbs e.symm
 refine ZC (fun x:List Nat×Nat×List (Value×Value)×List ByteArray×Nat=>Srch L i0 x.1 x.2.1 x.2.2.1∧Todo L (i0::x.1) x.2.1 x.2.2.2.1 x.2.2.2.2) (fun x=>L.length-x.2.1)
  (fun x=>⟨[(0,.bptr (Yo L S b1 b2)),(1,.lit (.string (Zq L i0).name)),(5,.lit (.map (some bs))),(6,.sub 0 1 x.2.2.2.2 (x.2.2.2.1.length-x.2.2.2.2))],[UI x.2.2.2.1],[(bs,⟨9,x.2.2.1⟩),(b1,⟨9,WU L L.length⟩)],0⟩) ⟨([],0,[],[(Zq L i0).name],0),⟨.start h0,⟨rfl,by simp,by simp,by simp⟩⟩,?_⟩ (fun x hx=>?_)
 ·refine (Ent.asSub 6 rfl rfl).trans ?_
  exact uE [0] (h1:=by simp [go_sem,KP1]) (h4:=by simp [go_sem,K5];exact .inl rfl) (hM:=by simp [go_sem,hbs'])
 obtain ⟨T,p,es,row,lo⟩:=x
 simp only at hx
 obtain ⟨hs,ht⟩:=hx
 have hTl:=hs.len
 have htl:=ht.len
 have hlo:=ht.lo
 have hle:=ht.le
 simp only [List.length_cons] at htl hle
 simp [go_sem,K5]
 refine ⟨by omega,fun hpos=>?_,fun hz0=>?_⟩
 ·have hp:p<T.length+1:=by omega
  have hq:=hs.at_lt hp
  have hfst:=ht.fst (by simpa using hp)
  have hname:Z3 L (ZeP L ((i0::T).getD p 0))=(i0::T).getD p 0:=hN _ hq
  have hpop:=ht.pop (by simpa using hp)
  have hfrom:=fun u=>hs.at_from (u:=u) hp
  generalize hqe:(i0::T).getD p 0=q at *
  have hky:∃ l,keyOf Tryz.prog 9 (.string (Zs row lo))=some l:=YJ (by rw [hfst];have:=hz q;unfold ZeP;simp only [maxLen];omega)
  have hget:mget (WU L L.length) (.string (Zs row lo))=some (.int .i64 q):=by rw [hfst,Qt (by rw [hname];exact hq) (Nat.le_refl _),hname]
  refine Zn [] (.q 0 <| .q 1 <| .q 2 <| .q 3 <| .q 4 <| .q 5 <| .q 6 <| .q 7 <| .q 8 <| .q 9 <| .q 10 <| .q 11 <| .q 12 <| .q 13 <| .q 14 <| .done) (by kernel_rfl) ?_
  simp [go_sem,K5,KP,Zr,hbs']
  refine ⟨hpos,by omega,Yj ZS hky _ VB ?_⟩
  rw [hget]
  simp [go_sem,K5,KP,hSl,VL,hS.unt q hq]
  have hul:=Kh L q
  obtain ⟨hul2,hua⟩:=Ho (L:=L) hq
  refine ⟨hq,by omega,by omega,?_⟩
  refine ZC (fun x:List Nat×List (Value×Value)×List ByteArray×Nat×Nat=>Srch L i0 x.1 p x.2.1∧Todo L (i0::x.1) (p+1) x.2.2.1 x.2.2.2.1∧x.2.2.2.2≤(ZA L q).uses.length∧(∀ j,j<x.2.2.2.2→(usI L q).getD j 0∈x.1)∧(i0::x.1).getD p 0=q) (fun x=>(ZA L q).uses.length-x.2.2.2.2)
   (fun x=>⟨[(0,.bptr (Yo L S b1 b2)),(1,.lit (.string (Zq L i0).name)),(5,.lit (.map (some bs))),(6,.sub 0 1 x.2.2.2.1 (x.2.2.1.length-x.2.2.2.1)),(36,.sl 1 (ZA L q).uses.length (Zp (ZA L q).uses)),(37,.lit (.int .i64 (ZA L q).uses.length)),(38,.lit (.int .i64 x.2.2.2.2))],[UI x.2.2.1],[(bs,⟨9,x.2.1⟩),(b1,⟨9,WU L L.length⟩)],0⟩) ⟨(T,es,row,lo+1,0),⟨hs,hpop,Nat.zero_le _,fun j hj=>absurd hj (Nat.not_lt_zero j),hqe⟩,?_⟩ (fun x hx=>?_)
  ·exact uE [0] (h1:=by simp [go_sem,KP,K5,Nat.sub_sub]) (h4:=by simp [go_sem,K5]) (hM:=by simp [go_sem,hbs'])
  clear hs ht hTl htl hlo hle hpop hfrom hqe hfst hky hget hpos
  obtain ⟨T,es,row,lo,k⟩:=x
  simp only at hx
  obtain ⟨hs,ht,hk,hdn,hqe⟩:=hx
  have hTl:=hs.len
  have htl:=ht.len
  have hlo:=ht.lo
  have hle:=ht.le
  have htp:=ht.p
  simp only [List.length_cons] at htl hle htp
  simp [go_sem,KP,K5,Zr]
  have wrk:IntKind.i64.wrap ((k:Int)+1)=(k:Int)+1:=wrap_i64 (by omega)
  refine ⟨fun hk2=>⟨hk2,?_⟩,fun hk2=>?_⟩
  ·have hx:=hua k hk2
   have hm:(usI L q).getD k 0∈usI L q:=by
    rw [List.getD_eq_getElem?_getD,List.getElem?_eq_getElem (by omega)]
    exact List.getElem_mem _
   have hlt:=hn q _ hm
   have hnm:Zs (ZA L q).uses k=ZeP L ((usI L q).getD k 0):=by rw [hx] at hlt ⊢;exact (QW hlt).symm
   have hfr:=hs.at_from (j:=p) (u:=(usI L q).getD k 0) (by omega) (by rw [hqe];exact hm)
   generalize hw:(usI L q).getD k 0=w at *
   simp [go_sem,KP,K5,Zr,XQ]
   refine ⟨fun e=>?_,fun e=>?_⟩
   ·have e2:w=i0:=hN.inj hlt h0 (by rw [←e,hnm];rfl)
    have e3:XL (Xu L) L.length i0 i0=true:=(Xz _ _ _).2 (by rw [e2] at hfr;exact hfr)
    exact uF [] [] (hR:=by simp [go_sem,e3,hbs']) (hM:=by simp [go_sem,hbs'])
   ·have hw0:w≠i0:=fun e2=>e (by rw [hnm,e2];rfl)
    have hxs:(Zs (ZA L q).uses k).size≤maxLen:=by rw [hnm];have:=hz w;unfold ZeP;simp only [maxLen];omega
    have hkeys:=hs.keys (Zs (ZA L q).uses k)
    refine uS [] (ZmU bs es (Zs (ZA L q).uses k) hxs) ?_ (hm:=by simp [go_sem])
    rintro av mem maps ⟨rfl,rfl,rfl⟩
    simp [go_sem,KP,K5,Zr]
    have hdn2:∀ T':List Nat,(∀ x,x∈T→x∈T')→w∈T'→∀ j,j<k+1→(usI L q).getD j 0∈T':=fun T' h1 h2 j hj=>by
     by_cases e3:j=k
     ·rw [e3,hw];exact h2
     ·exact h1 _ (hdn j (by omega))
    refine ⟨fun e2=>?_,fun e2=>?_⟩
    ·have hw2:w∉T:=fun h=>by
      have:=hkeys.2 ⟨w,h,hnm⟩
      rw [e2] at this;cases this
     have hes:addEsS es (Zs (ZA L q).uses k)=mput es (.string (Zq L w).name) (.int .i64 es.length):=by
      unfold addEsS
      rw [if_neg (by rw [e2];simp),hnm];rfl
     have hs2:=hs.add (by omega) hlt hw0 hw2 hfr (v:=.int .i64 es.length)
     have hq2:(i0::(T++[w])).getD p 0=q:=by
      rw [←hqe,←List.cons_append,List.getD_eq_getElem?_getD,List.getD_eq_getElem?_getD,List.getElem?_append_left (by simp;omega)]
     have hd2:=hdn2 (T++[w]) (fun x hx=>by simp [hx]) (by simp)
     have tA:Todo L (i0::(T++[w])) (p+1) (row++[Zs (ZA L q).uses k]) lo:=by rw [hnm];exact ht.app
     have tB:Todo L (i0::(T++[w])) (p+1) (row.drop lo++[Zs (ZA L q).uses k]) 0:=by rw [hnm];exact ht.new
     have l1:row.length+1-lo=row.length-lo+1:=by omega
     have rB:RowIs (ZH (row.length-lo) (fun i=>[.lit (.string (Zs row (lo+i)))]) fun i=>[[.lit (.string (Zs (ZA L q).uses k))]][i]?.getD []) (row.drop lo++[Zs (ZA L q).uses k]):=by
      refine RowIs.join (fun i hi=>?_) RowIs.one (by simp)
      unfold Zp Zs
      rw [List.getD_eq_getElem?_getD,List.getD_eq_getElem?_getD,List.getElem?_drop]
     rw [hes]
     refine ⟨by omega,by omega,by omega,⟨T++[w],_,row++[Zs (ZA L q).uses k],lo,k+1,⟨hs2,tA,hk2,hd2,hq2⟩,by omega,?_⟩,T++[w],_,row.drop lo++[Zs (ZA L q).uses k],0,k+1,⟨hs2,tB,hk2,hd2,hq2⟩,by omega,?_⟩
     ·exact uE [2] (h1:=by simp [go_sem,KP,K5,wrk,l1]) (h4:=by simp [go_sem,K5,Hq]) (hM:=by simp [go_sem,hbs'])
     ·refine uE [2] (h1:=by simp [go_sem,KP,K5,wrk]) (h4:=?_) (hM:=by simp [go_sem,hbs'])
      simp only [Zha,ZlK,List.getElem?_cons_succ,List.getElem?_cons_zero,and_true]
      refine .inl ⟨rfl,rfl,by simp,fun i hi=>⟨rB i (by simpa using hi),fun c hc=>Yg _ i c hc⟩⟩
    ·have hw2:w∈T:=by
      obtain ⟨v,hv,e4⟩:=hkeys.1 e2
      have:w=v:=hN.inj hlt (hs.lt v hv) (by rw [←e4,hnm];rfl)
      rw [this];exact hv
     have hes:addEsS es (Zs (ZA L q).uses k)=es:=by unfold addEsS;rw [if_pos e2]
     refine ⟨T,es,row,lo,k+1,⟨hs,ht,hk2,hdn2 T (fun _ h=>h) hw2,hqe⟩,by omega,?_⟩
     exact uE [0] (h1:=by simp [go_sem,KP,K5,wrk]) (h4:=by simp [go_sem,K5]) (hM:=by simp [go_sem,hbs',hes])
  ·obtain rfl:k=(ZA L q).uses.length:=by omega
   have hall:∀ u,u∈usI L ((i0::T).getD p 0)→u∈T:=fun u hu=>by
    rw [hqe] at hu
    obtain ⟨j,hj,rfl⟩:=List.getElem_of_mem hu
    have:=hdn j (by omega)
    rwa [List.getD_eq_getElem?_getD,List.getElem?_eq_getElem hj] at this
   refine ⟨T,p+1,es,row,lo,⟨hs.next hall,ht⟩,by omega,?_⟩
   exact uE [0] (h1:=by simp [go_sem,KP,K5]) (h4:=by simp [go_sem,K5]) (hM:=by simp [go_sem,hbs'])
 ·have hf:=hs.fin (by omega)
  exact uF [] [] (hR:=by simp [go_sem,hf,hbs']) (hM:=by simp [go_sem,hbs'])
theorem Zl3 (L:List PMod) (S:List PSrc) (b1 b2:Nat) (hS:SrcIs L S) (hL:L.length≤100) (hn:∀ i u,u∈usI L i→u<L.length) (hN:NamesOk L) (hz:∀ i,(Zq L i).name.size≤1048576) (i0:Nat) (h0:i0<L.length) :
  VProc Tryz.prog 67 [.bptr (Yo L S b1 b2),.lit (.string (Zq L i0).name)] [] [(b1,⟨9,WU L L.length⟩)] (fun av mem maps=>av=.lit (.bool (XL (Xu L) L.length i0 i0))∧mem=[]∧maps=[(b1,⟨9,WU L L.length⟩)]):=
 (ZkV L S b1 b2 hS hL hn hN hz i0 h0).fewMaps fun av mem maps h=>by
  obtain ⟨rfl,rfl,h⟩:=h
  refine ⟨[(b1,⟨9,WU L L.length⟩)],fun b mp hb=>?_,fun b hb=>hb,rfl,rfl,rfl⟩
  simp only [lkm] at hb
  split at hb
  ·rename_i e;subst e;rw [←hb];exact h
  ·cases hb
def Zkx (L:List PMod) (x:ByteArray):Int:=if Z3 L x<L.length then Z3 L x else -1
theorem Km {L:List PMod} {x:ByteArray} (h:Z3 L x<L.length):Zkx L x=Z3 L x:=if_pos h
set_option maxRecDepth 100000 in
theorem Qd (L:List PMod) (x:ByteArray) (hL:L.length≤1048576):VFun Tryz.prog 31 [.sl 2 L.length (Zh L),.lit (.string x)] (fun av obs=>obs=[]∧av=.lit (.int .i64 (Zkx L x))):=by
 have cl:∀ (i:Nat) (c:AV),i<L.length→c∈Zh L i→Closed c:=fun i c _ h=>ZI L i c h
 refine Zd Tryz.func31 (by kernel_rfl) rfl (by simp [Tryz.ntmps31]) ?_;simp only [Tryz.ntmps31,Tryz.results31];simp [go_sem]
 refine ZN (fun i:Nat=>i≤L.length∧∀ j,j<i→¬(Zq L j).name=x) (fun i=>L.length-i) (fun i=>.of [(0,.sl 2 L.length (Zh L)),(1,.lit (.string x)),(5,.lit (.int .i64 i))] []) ⟨0,⟨by omega,fun j h=>by omega⟩,?_⟩ (fun i hi=>?_)
 ·simp [go_sem]
  exact cl
 ·obtain ⟨hi,hb⟩:=hi
  simp [go_sem]
  refine ⟨by omega,fun h=>⟨h,?_⟩,fun h=>?_⟩
  ·simp [go_sem,ZD,XQ]
   refine ⟨fun e=>?_,fun e=>⟨i+1,⟨h,fun j hj=>?_⟩,by omega,⟨?_,Zj (by omega)⟩⟩⟩
   ·have:=Ziq h e hb
    rw [Km (by omega),this]
   ·by_cases e2:j=i
    ·rw [e2];exact e
    ·exact hb j (by omega)
   ·simpa [ZD] using cl
  ·have:Z3 L x=L.length:=ZeQ fun j hj=>hb j (by omega)
   unfold Zkx
   rw [if_neg (by omega)]
instance:Inhabited Unt:=⟨⟨[],[],⟨#[]⟩⟩⟩
def Y8 (L:List PMod):List Unt:=L.map fun m=>(Z2 m.text).1
def V3 (U:List Unt) (i:Nat):Unt:=U.getD i default
def ZF (U:List Unt) (i:Nat):List AV:=[.sl 1 (V3 U i).uses.length (Zp (V3 U i).uses),.sl 4 (V3 U i).ops.length (Za (V3 U i).ops),.lit (.string (V3 U i).body)]
theorem Y4 (U:List Unt) (i:Nat):ZF U i=[.sl 1 (V3 U i).uses.length (Zp (V3 U i).uses),.sl 4 (V3 U i).ops.length (Za (V3 U i).ops),.lit (.string (V3 U i).body)]:=rfl
theorem Ub (U:List Unt) (i:Nat) (c:AV) (h:c∈ZF U i):Closed c:=by
 rw [Y4] at h
 simp at h
 rcases h with rfl|rfl|rfl
 ·exact .sl _ _ _ fun i c _ h=>Yg _ i c h
 ·exact .sl _ _ _ fun i c _ h=>Zo _ i c h
 ·exact .lit _
@[go_sem] theorem unsCells_ren (f:Nat→Nat) (U:List Unt) (i:Nat):(ZF U i).map (Ww f)=ZF U i:=rfl
@[go_sem] theorem unsCells_one (U:List Unt) (i:Nat):(ZF U i).all Xg=true:=rfl
def Zc5 (U:List Unt):Option Ob:=some ⟨44,3,U.length,ZF U⟩
theorem Zmx {g:Nat→Nat} {ks:List Nat} {ty n:Nat} {U:List Unt}:WN g ks ⟨ty,3,n,ZF U⟩ (some (some ⟨ty,3,n,ZF U⟩)):=
 ⟨rfl,rfl,rfl,fun i hi=>⟨rfl,fun c hc=>by
  have hc:c∈ZF U i:=hc
  have hcl:=Ub U i c hc
  rw [Y4] at hc
  simp at hc
  rcases hc with rfl|rfl|rfl
  ·exact .inr ⟨⟨_,_,_,rfl⟩,hcl⟩
  ·exact .inr ⟨⟨_,_,_,rfl⟩,hcl⟩
  ·exact .inl rfl,fun c hc q hq=>by
  have hc:c∈ZF U i:=hc
  rw [Y4] at hc
  simp at hc
  rcases hc with rfl|rfl|rfl<;>simp [WI] at hq⟩⟩
theorem KU:(∀ U,Zc5 U=some ⟨44,3,U.length,ZF U⟩)∧(∀ U i c,(c∈ZF U i→Closed c)=True)∧(∀ g m U i,ZO g m (ZF U i) (ZF U i)=True)∧(∀ (g:Nat→Nat) ks ty n U,WN g ks ⟨ty,3,n,ZF U⟩ (some (some ⟨ty,3,n,ZF U⟩))=True)∧(∀ L i c,(c∈Zh L i→Closed c)=True):=
 ⟨fun _=>rfl,fun _ _ _=>eq_true (Ub _ _ _),fun _ _ U i=>eq_true (YR fun c h=>Ub U i c h),fun _ _ _ _ _=>eq_true Zmx,fun _ _ _=>eq_true (ZI _ _ _)⟩
theorem Zh7 (T:List Unt) (x:Unt) (i:Nat) (hi:i<T.length+1):V3 (T++[x]) i=if i=T.length then x else V3 T i:=by
 unfold V3
 by_cases h:i=T.length
 ·subst h
  rw [if_pos rfl,List.getD_eq_getElem?_getD,List.getElem?_append_right (Nat.le_refl _)];simp
 ·rw [if_neg h,List.getD_eq_getElem?_getD,List.getD_eq_getElem?_getD,List.getElem?_append_left (by omega)]
theorem Zlp {g:Nat→Nat} {m k k2 N:Nat} (T:List Unt) (x:Unt) (hN:N=T.length):(∀ i,i<N+1→ZO g m (if i=N then (if i=N then (ZH N (ZF T) (fun q=>[[AV.own k,AV.own k2,AV.lit (.string x.body)]][q]?.getD []) i).set 0 (.sl 1 x.uses.length (Zp x.uses)) else ZH N (ZF T) (fun q=>[[AV.own k,AV.own k2,AV.lit (.string x.body)]][q]?.getD []) i).set 1 (.sl 4 x.ops.length (Za x.ops)) else if i=N then (ZH N (ZF T) (fun q=>[[AV.own k,AV.own k2,AV.lit (.string x.body)]][q]?.getD []) i).set 0 (.sl 1 x.uses.length (Zp x.uses)) else ZH N (ZF T) (fun q=>[[AV.own k,AV.own k2,AV.lit (.string x.body)]][q]?.getD []) i) (ZF (T++[x]) i)):=fun i hi=>by
 subst hN
 have e:(if i=T.length then (if i=T.length then (ZH T.length (ZF T) (fun q=>[[AV.own k,AV.own k2,AV.lit (.string x.body)]][q]?.getD []) i).set 0 (.sl 1 x.uses.length (Zp x.uses)) else ZH T.length (ZF T) (fun q=>[[AV.own k,AV.own k2,AV.lit (.string x.body)]][q]?.getD []) i).set 1 (.sl 4 x.ops.length (Za x.ops)) else if i=T.length then (ZH T.length (ZF T) (fun q=>[[AV.own k,AV.own k2,AV.lit (.string x.body)]][q]?.getD []) i).set 0 (.sl 1 x.uses.length (Zp x.uses)) else ZH T.length (ZF T) (fun q=>[[AV.own k,AV.own k2,AV.lit (.string x.body)]][q]?.getD []) i)=ZF (T++[x]) i:=by
  rw [Y4,Zh7 T x i hi]
  by_cases h:i=T.length
  ·subst h
   simp [ZH]
  ·rw [if_neg h,if_neg h,if_neg h]
   unfold ZH
   rw [if_pos (by omega)]
   rfl
 rw [e]
 exact YR fun c h=>Ub _ i c h
theorem Vl (L:List PMod):(Y8 L).length=L.length:=by simp [Y8]
theorem QP (L:List PMod) {i:Nat} (h:i<L.length):V3 (Y8 L) i=ZA L i:=by
 unfold V3 Y8 ZA Zq
 rw [List.getD_eq_getElem?_getD,List.getElem?_map,List.getElem?_eq_getElem h,List.getD_eq_getElem?_getD,List.getElem?_eq_getElem h]
 rfl
set_option maxRecDepth 100000 in
theorem Zi1 (L:List PMod) (hL:L.length≤1048576) (hz:∀ i,(Zq L i).text.size≤1048576):VProc Tryz.prog 32 [.sl 2 L.length (Zh L)] [] [] (fun av mem maps=>av=.own 0∧mem=[Zc5 (Y8 L)]∧maps=[]):=by
 refine Zu Tryz.func32 (by kernel_rfl) rfl (by simp [Tryz.ntmps32]) ?_;simp only [Tryz.ntmps32,Tryz.results32];simp [go_sem]
 refine ZC (fun i:Nat=>i≤L.length) (fun i=>L.length-i) (fun i=>.of [(0,.sl 2 L.length (Zh L)),(3,.own 0),(4,.lit (.int .i64 i))] [Zc5 ((Y8 L).take i)]) ⟨0,by omega,?_⟩ (fun i hi=>?_)
 ·exact uE [0] (h1:=by simp [go_sem,KU]) (h4:=by simp [go_sem,KU])
 ·have hmin:min i (Y8 L).length=i:=by rw [Vl];omega
  have h1:=Q9 (Zq L i).text (hz i)
  simp [go_sem,KU,hmin]
  refine ⟨by omega,fun h=>⟨h,?_⟩,fun h=>?_⟩
  ·simp [go_sem,ZD]
   refine ZP h1 (by simp [go_sem]) ?_
   rintro av obs ⟨rfl,rfl⟩
   have wr:IntKind.i64.wrap ((i:Int)+1)=(i:Int)+1:=wrap_i64 (by omega)
   have hT:(Y8 L).take (i+1)=(Y8 L).take i++[ZA L i]:=by
    rw [List.take_succ_eq_append_getElem (by rw [Vl];exact h)]
    congr 2
    rw [←QP L h]
    unfold V3
    rw [List.getD_eq_getElem?_getD,List.getElem?_eq_getElem (by rw [Vl];exact h)];rfl
   have hu:(Z2 (Zq L i).text).1=ZA L i:=rfl
   rw [hu]
   simp [go_sem,KU,hmin]
   refine ⟨by omega,by omega,i+1,h,by omega,?_⟩
   have hm2:min (i+1) (Y8 L).length=i+1:=by rw [Vl];omega
   have hl:i=((Y8 L).take i).length:=by rw [List.length_take,hmin]
   refine (Ent.giveAt 5 1 i 0 rfl (fun q _ c h=>Yg _ q c h) rfl (by decide) (by simp [ZH])).trans ?_
   refine (Ent.giveAt 5 2 i 1 rfl (fun q _ c h=>Zo _ q c h) rfl (by decide) (by simp [ZH])).trans ?_
   simp only [List.set_cons_succ,List.set_cons_zero]
   exact uE [5] (h1:=by simp [go_sem,KU,wr]) (h4:=by simp [go_sem,KU,hm2,hT];exact .inr (Zlp _ _ hl))
  ·obtain rfl:i=L.length:=by omega
   have e:(Y8 L).take L.length=Y8 L:=by rw [←Vl,List.take_length]
   rw [e]
   exact uF [0] [Zc5 (Y8 L)] (hm:=by simp [go_sem,KU,Vl]) (hR:=by simp [go_sem,KU])
def YA (l:List Int) (i:Nat):Int:=l.getD i 0
def Zy (l:List Int) (i:Nat):List AV:=[.lit (.int .i64 (YA l i))]
theorem ZT (l:List Int) (i:Nat):Zy l i=[.lit (.int .i64 (YA l i))]:=rfl
theorem Z8 (l:List Int) (i:Nat) (c:AV) (h:c∈Zy l i):Closed c:=by
 simp [Zy] at h
 subst h
 exact .lit _
theorem ZeZ (l:List POp) (z:ByteArray) (i:Nat):∀ n,1≤Wm l z i n
 |0=>by simp [Wm]
 |n+1=>by
  unfold Wm
  split
  ·omega
  ·split
   ·omega
   ·exact ZeZ l z i n
theorem ZeY (l:List POp) (z:ByteArray) (i:Nat):∀ n,Wm l z i n≤n∨Wm l z i n=1
 |0=>by simp [Wm]
 |n+1=>by
  unfold Wm
  split
  ·omega
  ·split
   ·omega
   ·rcases ZeY l z i n with h|h<;>omega
theorem Vv (l:List POp) (z:ByteArray) (i:Nat):1≤ZL l z i:=ZeZ _ _ _ _
theorem Ur (l:List POp) (z:ByteArray) (i:Nat) (hi:i<z.size):i+ZL l z i≤z.size:=by
 have:=U5 z i hi
 unfold ZL
 rcases ZeY l z i (YW z i) with h|h<;>omega
def YY (l:List POp) (z:ByteArray) (f:Nat):List PTok:=
 if h:f+run Xd z f<z.size then
  ⟨XZ l (z.extract (f+run Xd z f) (f+run Xd z f+ZL l z (f+run Xd z f))),z.extract f (f+run Xd z f),z.extract (f+run Xd z f) (f+run Xd z f+ZL l z (f+run Xd z f))⟩::
   YY l z (f+run Xd z f+ZL l z (f+run Xd z f))
 else [⟨7,z.extract f (f+run Xd z f),⟨#[]⟩⟩]
termination_by z.size-f
decreasing_by
 have:=Vv l z (f+run Xd z f)
 omega
theorem VN {l:List POp} {z:ByteArray} {f i:Nat} (hi:i=f+run Xd z f) (h:¬i<z.size):YY l z f=[⟨7,z.extract f i,⟨#[]⟩⟩]:=by
 subst hi;rw [YY,dif_neg h]
theorem Uu {l:List POp} {z:ByteArray} {f i:Nat} (hi:i=f+run Xd z f) (h:i<z.size):YY l z f=⟨XZ l (z.extract i (i+ZL l z i)),z.extract f i,z.extract i (i+ZL l z i)⟩::YY l z (i+ZL l z i):=by
 subst hi;rw [YY,dif_pos h]
def WJ (l:List POp) (z:ByteArray):Bool:=decide (XM l=0)&&decide (z.size≤20000)
def UD (l:List POp) (z:ByteArray):List PTok:=if WJ l z then YY l z 0 else []
theorem Zib (a b:List PTok) (i:Nat):Zf (a++b) i=if i<a.length then Zf a i else Zf b (i-a.length):=by
 unfold Zf
 by_cases h:i<a.length
 ·rw [if_pos h,List.getD_eq_getElem?_getD,List.getD_eq_getElem?_getD,List.getElem?_append_left h]
 ·rw [if_neg h,List.getD_eq_getElem?_getD,List.getD_eq_getElem?_getD,List.getElem?_append_right (by omega)]
theorem Zc7 (l:List PTok) (o:PTok) (i:Nat) (h:i<l.length+1):ZH l.length (Zk l) (fun _=>o.cells) i=Zk (l++[o]) i:=by
 unfold ZH
 simp only [Zg,Zib]
 split
 ·rfl
 ·have:i-l.length=0:=by omega
  rw [this];rfl
theorem JB (toks:List PTok) (k:Int) (g x:ByteArray) (i:Nat) (hi:i<toks.length+1):ZH toks.length (Zk toks) (fun i=>[[AV.lit (.int .i64 k),AV.lit (.string g),AV.lit (.string x)]][i]?.getD []) i=Zk (toks++[⟨k,g,x⟩]) i:=by
 rw [←Zc7 toks ⟨k,g,x⟩ i hi]
 unfold ZH
 split
 ·rfl
 ·have:i-toks.length=0:=by omega
  rw [this];rfl
@[go_sem] theorem tokOne (l:List PTok) (i:Nat):(Zk l i).all Xg=true:=rfl
theorem ZiW (l:List POp) (hl:l.length≤9223372036854775807) (hw:XD l) (z:ByteArray) (hz:z.size≤1048576):VFun Tryz.prog 70 [.agg [.sl 4 l.length (Za l)],.lit (.string z)] (fun av obs=>av=.tup [.own 0,.lit (.bool (WJ l z))]∧obs=[⟨127,3,(UD l z).length,Zk (UD l z)⟩]):=by
 have cl:∀ (i:Nat) (c:AV),i<l.length→c∈Za l i→Closed c:=fun i c _ h=>Zo l i c h
 refine Zd Tryz.func70 (by kernel_rfl) rfl (by simp [Tryz.ntmps70]) ?_;simp only [Tryz.ntmps70,Tryz.results70];simp [go_sem]
 refine Zc (VG l hl hw) ?_ ?_
 ·simp [go_sem]
  exact Zb (by omega) cl
 ·simp [go_sem]
  have bad:WJ l z=false→X5 [⟨127,3,0,fun _=>[]⟩] [⟨127,3,(UD l z).length,Zk (UD l z)⟩]∧WJ l z=false:=fun h=>by
   refine ⟨?_,h⟩
   have e:UD l z=[]:=by simp [UD,h]
   rw [e]
   exact obsSame_one.mpr ⟨⟨127,3,0,Zk []⟩,⟨rfl,rfl,rfl,fun j hj=>by simp at hj⟩,rfl⟩
  refine ⟨fun h0=>⟨fun h1=>bad (by simp [WJ];omega),fun h1=>?_⟩,fun h0=>bad (by simp [WJ,h0])⟩
  have hok:WJ l z=true:=by simp [WJ,h0];omega
  have hz2:z.size≤20000:=by omega
  refine ZC (fun p:List PTok×Nat=>p.2≤z.size∧p.1.length≤p.2∧YY l z 0=p.1++YY l z p.2) (fun p=>z.size-p.2) (fun p=>.of [(1,.lit (.string z)),(2,.ptr 0 1 0 0),(6,.own 1),(7,.lit (.int .i64 p.2))] [some ⟨55,1,1,fun _=>[.sl 4 l.length (Za l)]⟩,some ⟨127,3,p.1.length,Zk p.1⟩]) ⟨([],0),⟨by omega,by simp,by simp⟩,?_⟩ (fun p hp=>?_)
  ·refine ZU [0,1] (by simp) (by simp) (by simp) (by simp) trivial ?_ ?_
   ·simp [go_sem]
   ·simp [go_sem]
    exact cl
  ·obtain ⟨toks,f⟩:=p
   obtain ⟨hp1,hp2,hp3⟩:=hp
   simp only at hp1 hp2 hp3
   simp [go_sem]
   refine ZN (fun j:Nat=>f≤j∧j≤z.size∧f+run Xd z f=j+run Xd z j) (fun j=>z.size-j) (fun j=>.of [(1,.lit (.string z)),(2,.ptr 0 1 0 0),(6,.own 1),(7,.lit (.int .i64 j)),(8,.lit (.int .i64 f))] [some ⟨55,1,1,fun _=>[.sl 4 l.length (Za l)]⟩,some ⟨127,3,toks.length,Zk toks⟩]) ⟨f,⟨by omega,by omega,by omega⟩,?_⟩ (fun j hj=>?_)
   ·simp [go_sem]
    exact ⟨cl,fun i _ c h=>.closed _ (Zm _ i c h)⟩
   ·obtain ⟨hj1,hj2,hj3⟩:=hj
    simp [go_sem]
    refine ⟨fun h=>⟨h,Zc (Zi7 (Ze z j)) ?_ ?_⟩,fun h=>?_⟩
    ·simp [go_sem]
    ·simp [go_sem]
     refine ⟨fun e=>?_,fun e=>?_⟩
     ·exact ⟨j+1,⟨by omega,by omega,by rw [hj3,Wv h e];omega⟩,by omega,Zj (by omega),cl,fun i _ c h=>.closed _ (Zm _ i c h)⟩
     ·have hj4:j=f+run Xd z f:=by rw [hj3,VW h e];rfl
      have hlo:=Vv l z j
      have hle:=Ur l z j h
      refine ⟨fun e2=>absurd e2 (by omega),fun e2=>Zc (Zfy l hl z hz j h) ?_ ?_⟩
      ·simp [go_sem]
       exact Zb (by omega) cl
      ·simp [go_sem]
       refine Zn [21] (.q 0 <| .q 1 <| .q 2 <| .q 3 <| .q 4 <| .q 5 <| .q 6 <| .q 7 <| .q 9 <| .q 10 <| .q 11 <| .q 12 <| .q 13 <| .q 14 <| .q 15 <| .q 16 <| .q 17 <| .q 18 <| .or 8 (.q 19 <| .or 20 (.or 21 (.q 22 <| .done) (.nil)) (.nil)) (.nil)) (by kernel_rfl) ?_
       simp [go_sem]
       simp only [wrap_i64 (n:=(j:Int)+ZL l z j) (by omega),show ((j:Int)+ZL l z j).toNat=j+ZL l z j by omega]
       refine ⟨by omega,by omega,by omega,by omega,by omega,by omega,Zv (Zfz l hl (z.extract j (j+ZL l z j)) (by rw [ByteArray.size_extract];omega)) ?_ ?_⟩
       ·simp [go_sem]
        exact Zb (by omega) cl
       ·simp [go_sem]
        have hn:YY l z f=⟨XZ l (z.extract j (j+ZL l z j)),z.extract f j,z.extract j (j+ZL l z j)⟩::YY l z (j+ZL l z j):=Uu hj4 h
        refine ⟨by omega,by omega,toks++[⟨XZ l (z.extract j (j+ZL l z j)),z.extract f j,z.extract j (j+ZL l z j)⟩],j+ZL l z j,⟨by omega,by simp;omega,by rw [hp3,hn];simp⟩,by omega,?_⟩
        refine ZU [0,3] (by simp) (by simp) (by simp) (by simp) trivial ?_ ?_
        ·simp [go_sem]
         rw [wrap_i64 (by omega)]
        ·simp [go_sem]
         exact ⟨cl,.inl fun i hi=>⟨JB _ _ _ _ _ hi,fun c h=>Zm _ i c h⟩⟩
    ·have hj5:j=z.size:=by omega
     subst hj5
     have hj4:z.size=f+run Xd z f:=by rw [hj3,VC (by omega)];rfl
     refine ⟨fun e2=>⟨hp1,by omega,by omega,by omega,?_,hok⟩,fun e2=>absurd rfl e2⟩
     have e3:UD l z=toks++[⟨7,z.extract f z.size,⟨#[]⟩⟩]:=by
      simp only [UD,hok,if_true,hp3]
      rw [VN hj4 (by omega)]
     rw [e3]
     refine obsSame_one.mpr ⟨⟨127,3,toks.length+1,Zk (toks++[⟨7,z.extract f z.size,⟨#[]⟩⟩])⟩,⟨rfl,rfl,rfl,fun i hi=>?_⟩,by simp⟩
     exact ⟨JB _ _ _ _ _ hi,rfl⟩
def Yf (l:List POp) (t:List PTok):Nat→Bool
 |0=>false
 |i+1=>decide ((Zf t i).kind=1)||decide ((Zf t i).kind=2)||decide ((Zf t i).kind=5)||(decide ((Zf t i).kind=3)&&Yf l t i&&Z5 l (Zf t i).text 3)
def ZG (t:List PTok):Nat→Int
 |0=>0
 |i+1=>ZG t i+(if (Zf t i).kind=4 then 1 else 0)-(if (Zf t i).kind=5 then 1 else 0)
theorem Kl (t:List PTok):∀ i:Nat,-(i:Int)≤ZG t i∧ZG t i≤i
 |0=>by simp [ZG]
 |i+1=>by
  have:=Kl t i
  simp only [ZG]
  split<;>split<;>omega
def ZB (l:List POp) (t:List PTok) (i:Nat) (b:Bool):Int:=
 if b=false then
  if (Zf t i).kind=1∨(Zf t i).kind=2∨(Zf t i).kind=4 then 0
  else if (Zf t i).kind=3∧Z5 l (Zf t i).text 1=true then 1 else -1
 else if (Zf t i).kind=3∧Z5 l (Zf t i).text 2=true then 2
 else if (Zf t i).kind=3∧Z5 l (Zf t i).text 3=true then 3
 else if (Zf t i).kind=5∧0<ZG t i then 0
 else if (Zf t i).kind=7∧ZG t i=0∧i+1=t.length then 0 else -1
def Yp (l:List POp) (t:List PTok) (n:Nat):List Int:=(List.range n).map fun i=>ZB l t i (Yf l t i)
def Z0 (f:Nat→Bool) (i:Nat):List AV:=[.lit (.bool (f i))]
theorem YC (f:Nat→Bool) (i:Nat):Z0 f i=[.lit (.bool (f i))]:=rfl
theorem ZX (f:Nat→Bool) (i:Nat) (c:AV) (h:c∈Z0 f i):Closed c:=by
 simp [Z0] at h
 subst h
 exact .lit _
@[go_sem] theorem boolOne (f:Nat→Bool) (i:Nat):(Z0 f i).all Xg=true:=rfl
theorem Zfx (t:List PTok) (ht:t.length≤9223372036854775807) (n:Nat) (hn:n≤t.length) (hn2:n≤1048576):VFun Tryz.prog 131 [.sl 3 t.length (Zk t),.lit (.int .i64 n)] (fun av obs=>obs=[]∧av=.lit (.int .i64 (ZG t n))):=by
 have cl:∀ (i:Nat) (c:AV),i<t.length→c∈Zk t i→Closed c:=fun i c _ h=>Zm t i c h
 refine Zd Tryz.func131 (by kernel_rfl) rfl (by simp [Tryz.ntmps131]) ?_;simp only [Tryz.ntmps131,Tryz.results131];simp [go_sem]
 refine ZN (fun i:Nat=>i≤n) (fun i=>n-i) (fun i=>.of [(0,.sl 3 t.length (Zk t)),(1,.lit (.int .i64 n)),(5,.lit (.int .i64 (ZG t i))),(6,.lit (.int .i64 i))] []) ⟨0,by omega,?_⟩ (fun i hi=>?_)
 ·simp [go_sem,ZG]
  exact cl
 ·have ho:=Kl t i
  have cl2:∀ (i:Nat) (c:AV),i<t.length→c=AV.lit (Value.int IntKind.i64 (Zf t i).kind)∨c=AV.lit (Value.string (Zf t i).gap)∨c=AV.lit (Value.string (Zf t i).text)→Closed c:=by
   rintro i c _ (rfl|rfl|rfl)<;>exact .lit _
  simp [go_sem,Zg]
  refine ⟨fun h=>⟨by omega,fun e4=>⟨by omega,fun e5=>by omega,fun e5=>⟨i+1,by omega,by omega,cl2,?_,Zj (by omega)⟩⟩,fun e4=>⟨by omega,fun e5=>⟨i+1,by omega,by omega,cl2,?_,Zj (by omega)⟩,fun e5=>⟨i+1,by omega,by omega,cl2,?_,Zj (by omega)⟩⟩⟩,fun h=>?_⟩
  ·rw [wrap_i64 (by omega)];simp only [ZG,if_pos e4,if_neg e5];omega
  ·rw [wrap_i64 (by omega)];simp only [ZG,if_neg e4,if_pos e5];omega
  ·simp only [ZG,if_neg e4,if_neg e5];omega
  ·have:i=n:=by omega
   rw [this]
theorem ZgY (l:List POp) (hl:l.length≤9223372036854775807) (t:List PTok) (ht:t.length≤1048576):VFun Tryz.prog 99 [.agg [.sl 4 l.length (Za l)],.sl 3 t.length (Zk t)] (fun av obs=>av=.own 0∧obs=[⟨4,1,t.length+1,Z0 (Yf l t)⟩]):=by
 have cl:∀ (i:Nat) (c:AV),i<l.length→c∈Za l i→Closed c:=fun i c _ h=>Zo l i c h
 have clt:∀ (i:Nat) (c:AV),i<t.length→c∈Zk t i→Closed c:=fun i c _ h=>Zm t i c h
 refine Zd Tryz.func99 (by kernel_rfl) rfl (by simp [Tryz.ntmps99]) ?_;simp only [Tryz.ntmps99,Tryz.results99];simp [go_sem]
 refine ZC (fun i:Nat=>i≤t.length) (fun i=>t.length-i) (fun i=>.of [(1,.sl 3 t.length (Zk t)),(2,.ptr 0 1 0 0),(5,.own 1),(6,.lit (.int .i64 i))] [some ⟨55,1,1,fun _=>[.sl 4 l.length (Za l)]⟩,some ⟨4,1,i+1,Z0 (Yf l t)⟩]) ⟨0,by omega,?_⟩ (fun i hi=>?_)
 ·refine ZU [0,1] (by simp) (by simp) (by simp) (by simp) trivial ?_ ?_
  ·simp [go_sem]
   exact clt
  ·simp [go_sem]
   exact ⟨cl,.inl ⟨rfl,ZX _ _⟩⟩
 ·have cl2:∀ (i:Nat) (c:AV),i<t.length→c=AV.lit (Value.int IntKind.i64 (Zf t i).kind)∨c=AV.lit (Value.string (Zf t i).gap)∨c=AV.lit (Value.string (Zf t i).text)→Closed c:=by
   rintro i c _ (rfl|rfl|rfl)<;>exact .lit _
  have hst:∀ v,Yf l t (i+1)=v→∀ j,j<i+1+1→ZH (i+1) (Z0 (Yf l t)) (fun q=>[[AV.lit (.bool v)]][q]?.getD []) j=Z0 (Yf l t) j:=fun v hv j hj=>by
   unfold ZH
   split
   ·rfl
   ·have e:j=i+1:=by omega
    subst e
    simp [Z0,hv]
  by_cases h:i<t.length
  ·by_cases k1:(Zf t i).kind=1
   ·have hv:Yf l t (i+1)=true:=by simp [Yf,k1]
    simp [go_sem,Zg,h,k1]
    refine ⟨by omega,Zn [] (.q 0 <| .q 1 <| .q 2 <| .q 3 <| .q 4 <| .q 5 <| .q 6 <| .q 7 <| .q 8 <| .q 9 <| .q 10 <| .q 11 <| .q 12 <| .q 13 <| .q 14 <| .or 15 (.q 16 <| .q 17 <| .done) (.nil)) (by kernel_rfl) ?_⟩
    simp [go_sem,k1]
    refine ⟨by omega,by omega,i+1,by omega,by omega,?_⟩
    refine ZU [0,3] (by simp) (by simp) (by simp) (by simp) trivial ?_ ?_
    ·simp [go_sem]
     exact ⟨clt,Zj (by omega)⟩
    ·simp [go_sem]
     exact ⟨cl,.inl fun j hj=>⟨hst true hv j hj,ZX _ _⟩⟩
   ·by_cases k2:(Zf t i).kind=2
    ·have hv:Yf l t (i+1)=true:=by simp [Yf,k2]
     simp [go_sem,Zg,h,k2]
     refine ⟨by omega,Zn [] (.q 0 <| .q 1 <| .q 2 <| .q 3 <| .q 4 <| .q 5 <| .q 6 <| .q 7 <| .q 8 <| .q 9 <| .q 10 <| .q 11 <| .q 12 <| .q 13 <| .q 14 <| .or 15 (.q 16 <| .q 17 <| .done) (.nil)) (by kernel_rfl) ?_⟩
     simp [go_sem,k2]
     refine ⟨by omega,by omega,i+1,by omega,by omega,?_⟩
     refine ZU [0,3] (by simp) (by simp) (by simp) (by simp) trivial ?_ ?_
     ·simp [go_sem]
      exact ⟨clt,Zj (by omega)⟩
     ·simp [go_sem]
      exact ⟨cl,.inl fun j hj=>⟨hst true hv j hj,ZX _ _⟩⟩
    ·by_cases k5:(Zf t i).kind=5
     ·have hv:Yf l t (i+1)=true:=by simp [Yf,k5]
      simp [go_sem,Zg,h,k5]
      refine ⟨by omega,Zn [] (.q 0 <| .q 1 <| .q 2 <| .q 3 <| .q 4 <| .q 5 <| .q 6 <| .q 7 <| .q 8 <| .q 9 <| .q 10 <| .q 11 <| .q 12 <| .q 13 <| .q 14 <| .or 15 (.q 16 <| .q 17 <| .done) (.nil)) (by kernel_rfl) ?_⟩
      simp [go_sem,k5]
      refine ⟨by omega,by omega,i+1,by omega,by omega,?_⟩
      refine ZU [0,3] (by simp) (by simp) (by simp) (by simp) trivial ?_ ?_
      ·simp [go_sem]
       exact ⟨clt,Zj (by omega)⟩
      ·simp [go_sem]
       exact ⟨cl,.inl fun j hj=>⟨hst true hv j hj,ZX _ _⟩⟩
     ·by_cases k3:(Zf t i).kind=3
      ·cases hb:Yf l t i with
       |false=>
        have hv:Yf l t (i+1)=false:=by simp [Yf,k3,hb]
        simp [go_sem,Zg,h,k3,YC,hb]
        refine ⟨by omega,Zn [] (.q 0 <| .q 1 <| .q 2 <| .q 3 <| .q 4 <| .q 5 <| .q 6 <| .q 7 <| .q 8 <| .q 9 <| .q 10 <| .q 11 <| .q 12 <| .q 13 <| .q 14 <| .or 15 (.q 16 <| .q 17 <| .done) (.nil)) (by kernel_rfl) ?_⟩
        simp [go_sem,k3,YC,hb]
        refine ⟨by omega,by omega,by omega,i+1,by omega,by omega,?_⟩
        refine ZU [0,3] (by simp) (by simp) (by simp) (by simp) trivial ?_ ?_
        ·simp [go_sem]
         exact ⟨clt,Zj (by omega)⟩
        ·simp [go_sem]
         exact ⟨cl,.inl fun j hj=>⟨hst false hv j hj,ZX _ _⟩⟩
       |true=>
        simp [go_sem,Zg,h,k3,YC,hb]
        refine ⟨by omega,Zn [] (.q 0 <| .q 1 <| .q 2 <| .q 3 <| .q 4 <| .q 5 <| .q 6 <| .q 7 <| .q 8 <| .q 9 <| .q 10 <| .q 11 <| .q 12 <| .q 13 <| .q 14 <| .or 15 (.q 16 <| .q 17 <| .done) (.nil)) (by kernel_rfl) ?_⟩
        simp [go_sem,Zg,k3,YC,hb]
        refine ⟨by omega,h,Yk (UB l hl (Zf t i).text 3) ?_ ?_⟩
        ·simp [go_sem]
         exact Zb (by omega) cl
        ·rintro av obs ⟨rfl,r,rfl,hr⟩
         simp [go_sem]
         refine ⟨fun e1=>?_,fun e1=>?_⟩
         ·have ho:Z5 l (Zf t i).text 3=true:=hr.1 e1
          have hv:Yf l t (i+1)=true:=by simp [Yf,k3,hb,ho]
          refine ⟨by omega,by omega,i+1,by omega,by omega,?_⟩
          refine ZU [0,3] (by simp) (by simp) (by simp) (by simp) trivial ?_ ?_
          ·simp [go_sem]
           exact ⟨clt,Zj (by omega)⟩
          ·simp [go_sem]
           exact ⟨cl,.inl fun j hj=>⟨hst true hv j hj,ZX _ _⟩⟩
         ·have ho:Z5 l (Zf t i).text 3=false:=by
           rw [Bool.eq_false_iff]
           exact fun e2=>absurd (hr.2 e2) (by omega)
          have hv:Yf l t (i+1)=false:=by simp [Yf,k3,hb,ho]
          refine ⟨by omega,by omega,i+1,by omega,by omega,?_⟩
          refine ZU [0,3] (by simp) (by simp) (by simp) (by simp) trivial ?_ ?_
          ·simp [go_sem]
           exact ⟨clt,Zj (by omega)⟩
          ·simp [go_sem]
           exact ⟨cl,.inl fun j hj=>⟨hst false hv j hj,ZX _ _⟩⟩
      ·have hv:Yf l t (i+1)=false:=by simp [Yf,k1,k2,k3,k5]
       have q1:((Zf t i).kind==1)=false:=by simpa using k1
       have q2:((Zf t i).kind==2)=false:=by simpa using k2
       have q3:((Zf t i).kind==3)=false:=by simpa using k3
       have q5:((Zf t i).kind==5)=false:=by simpa using k5
       simp [go_sem,Zg,h,q1,q2,q3,q5]
       refine ⟨by omega,Zn [] (.q 0 <| .q 1 <| .q 2 <| .q 3 <| .q 4 <| .q 5 <| .q 6 <| .q 7 <| .q 8 <| .q 9 <| .q 10 <| .q 11 <| .q 12 <| .q 13 <| .q 14 <| .or 15 (.q 16 <| .q 17 <| .done) (.nil)) (by kernel_rfl) ?_⟩
       simp [go_sem,q1,q2,q3,q5]
       refine ⟨by omega,by omega,i+1,by omega,by omega,?_⟩
       refine ZU [0,3] (by simp) (by simp) (by simp) (by simp) trivial ?_ ?_
       ·simp [go_sem]
        exact ⟨clt,Zj (by omega)⟩
       ·simp [go_sem]
        exact ⟨cl,.inl fun j hj=>⟨hst false hv j hj,ZX _ _⟩⟩
  ·have e:i=t.length:=by omega
   simp [go_sem,h]
   refine ⟨by omega,?_⟩
   rw [e]
   exact obsSame_one.mpr ⟨_,⟨rfl,rfl,rfl,fun j hj=>⟨rfl,rfl⟩⟩,rfl⟩
theorem ZkZ (l:List POp) (hl:l.length≤9223372036854775807) (t:List PTok) (ht:t.length≤1048576) (i:Nat) (hi:i<t.length) (b:Bool):VFun Tryz.prog 100 [.agg [.sl 4 l.length (Za l)],.sl 3 t.length (Zk t),.lit (.int .i64 i),.lit (.bool b)] (fun av obs=>obs=[]∧av=.lit (.int .i64 (ZB l t i b))):=by
 have cl:∀ (i:Nat) (c:AV),i<l.length→c∈Za l i→Closed c:=fun i c _ h=>Zo l i c h
 have clt:∀ (i:Nat) (c:AV),i<t.length→c∈Zk t i→Closed c:=fun i c _ h=>Zm t i c h
 have hopen:=Kl t i
 refine Zd Tryz.func100 (by kernel_rfl) rfl (by simp [Tryz.ntmps100]) ?_;simp only [Tryz.ntmps100,Tryz.results100];simp [go_sem]
 cases b with
 |false=>
  simp [go_sem,Zg,hi]
  by_cases k1:(Zf t i).kind=1
  ·simp [go_sem,k1,ZB]
  ·by_cases k2:(Zf t i).kind=2
   ·simp [go_sem,k1,k2,ZB]
   ·by_cases k4:(Zf t i).kind=4
    ·simp [go_sem,k1,k2,k4,ZB]
    ·simp [go_sem,k1,k2,k4]
     refine Zn [] (.q 0 <| .q 1 <| .q 2 <| .q 3 <| .q 4 <| .q 5 <| .q 6 <| .q 7 <| .q 8 <| .or 9 (.q 10 <| .q 11 <| .done) (.nil)) (by kernel_rfl) ?_
     by_cases k3:(Zf t i).kind=3
     ·simp [go_sem,Zg,k3]
      refine ⟨hi,Yk (UB l hl (Zf t i).text 1) ?_ ?_⟩
      ·simp [go_sem]
       exact Zb (by omega) cl
      ·rintro av obs ⟨rfl,r,rfl,hr⟩
       simp [go_sem]
       refine ⟨fun e1=>?_,fun e1=>?_⟩
       ·have ho:Z5 l (Zf t i).text 1=true:=hr.1 e1
        simp [ZB,k3,ho]
       ·have ho:Z5 l (Zf t i).text 1=false:=by
         rw [Bool.eq_false_iff]
         exact fun e2=>absurd (hr.2 e2) (by omega)
        simp [ZB,k3,ho]
     ·have q3:((Zf t i).kind==3)=false:=by simpa using k3
      simp [go_sem,q3]
      simp [ZB,k1,k2,k3,k4]
 |true=>
  simp [go_sem,Zg,hi]
  refine Zn [] (.q 0 <| .q 1 <| .q 2 <| .q 3 <| .q 4 <| .q 5 <| .q 6 <| .q 7 <| .q 8 <| .or 9 (.q 10 <| .q 11 <| .done) (.nil)) (by kernel_rfl) ?_
  by_cases k3:(Zf t i).kind=3
  ·simp [go_sem,Zg,k3]
   refine ⟨hi,Yk (UB l hl (Zf t i).text 2) ?_ ?_⟩
   ·simp [go_sem]
    exact Zb (by omega) cl
   ·rintro av obs ⟨rfl,r,rfl,hr⟩
    simp [go_sem]
    refine ⟨fun e1=>?_,fun e1=>?_⟩
    ·have ho:Z5 l (Zf t i).text 2=true:=hr.1 e1
     simp [ZB,k3,ho]
    ·have ho:Z5 l (Zf t i).text 2=false:=by
      rw [Bool.eq_false_iff]
      exact fun e2=>absurd (hr.2 e2) (by omega)
     refine Zn [] (.q 0 <| .q 1 <| .q 2 <| .q 3 <| .q 4 <| .q 5 <| .q 6 <| .q 7 <| .q 8 <| .or 9 (.q 10 <| .q 11 <| .done) (.nil)) (by kernel_rfl) ?_
     simp [go_sem,Zg,k3]
     refine ⟨hi,Yk (UB l hl (Zf t i).text 3) ?_ ?_⟩
     ·simp [go_sem]
      exact Zb (by omega) cl
     ·rintro av obs ⟨rfl,r2,rfl,hr2⟩
      simp [go_sem]
      refine ⟨fun e2=>?_,fun e2=>?_⟩
      ·have ho2:Z5 l (Zf t i).text 3=true:=hr2.1 e2
       simp [ZB,k3,ho,ho2]
      ·have ho2:Z5 l (Zf t i).text 3=false:=by
        rw [Bool.eq_false_iff]
        exact fun e3=>absurd (hr2.2 e3) (by omega)
       simp [ZB,k3,ho,ho2]
  ·have q3:((Zf t i).kind==3)=false:=by simpa using k3
   simp [go_sem,q3]
   refine Zn [] (.q 0 <| .q 1 <| .q 2 <| .q 3 <| .q 4 <| .q 5 <| .q 6 <| .q 7 <| .q 8 <| .or 9 (.q 10 <| .q 11 <| .done) (.nil)) (by kernel_rfl) ?_
   simp [go_sem,q3]
   by_cases k5:(Zf t i).kind=5
   ·simp [go_sem,k5]
    refine Zc (Zfx t (by omega) i (by omega) (by omega)) ?_ ?_
    ·simp [go_sem]
     exact Zb (by omega) clt
    ·simp [go_sem]
     refine ⟨fun e=>by simp [ZB,k5,e],fun e=>?_⟩
     have:¬0<ZG t i:=by omega
     simp [ZB,k5,this]
   ·have q5:((Zf t i).kind==5)=false:=by simpa using k5
    simp [go_sem,q5]
    by_cases k7:(Zf t i).kind=7
    ·simp [go_sem,k7]
     refine Zc (Zfx t (by omega) i (by omega) (by omega)) ?_ ?_
     ·simp [go_sem]
      exact Zb (by omega) clt
     ·simp [go_sem]
      rw [wrap_i64 (by omega)]
      refine ⟨fun e=>⟨by omega,fun e2=>?_,fun e2=>?_⟩,fun e=>by simp [ZB,k7,e]⟩
      ·have:i+1=t.length:=by omega
       simp [ZB,k7,e,this]
      ·have:¬i+1=t.length:=by omega
       simp [ZB,k7,e,this]
    ·have q7:((Zf t i).kind==7)=false:=by simpa using k7
     simp [go_sem,q7]
     simp [ZB,k3,k5,k7]
def Uz (l:List POp) (t:List PTok):Option Nat:=(List.range t.length).find? fun i=>decide (ZB l t i (Yf l t i)<0)
def V0 (t:List PTok):Bool:=decide (t.length≠0)&&decide ((Zf t (t.length-1)).kind=7)
def ZW (l:List POp) (t:List PTok):List Int×Int:=
 if XM l≠0 then ([],0) else match Uz l t with
  |some i=>([],i)
  |none=>if V0 t then (Yp l t t.length,-1) else ([],t.length)
theorem KN {l:List POp} {t:List PTok} {i:Nat} (hi:i<t.length) (h:∀ j,j<i→0≤ZB l t j (Yf l t j)) (hb:ZB l t i (Yf l t i)<0):Uz l t=some i:=by
 unfold Uz
 rw [List.find?_range_eq_some]
 refine ⟨by simpa using hb,by simpa using hi,fun j hj=>?_⟩
 simpa using h j hj
theorem U0 {l:List POp} {t:List PTok} (h:∀ j,j<t.length→0≤ZB l t j (Yf l t j)):Uz l t=none:=by
 unfold Uz
 rw [List.find?_eq_none]
 intro j hj
 have:=h j (by simpa using hj)
 simp only [decide_eq_true_eq]
 omega
theorem JK (l:List POp) (t:List PTok) (n:Nat):Yp l t (n+1)=Yp l t n++[ZB l t n (Yf l t n)]:=by simp [Yp,List.range_succ]
theorem UK (l:List POp) (t:List PTok) (n:Nat):(Yp l t n).length=n:=by simp [Yp]
theorem Zde (l:List POp) (t:List PTok) (i:Nat) (b:Bool) : -1≤ZB l t i b∧ZB l t i b≤3:=by
 unfold ZB
 split
 ·split
  ·omega
  ·split<;>omega
 ·split
  ·omega
  ·split
   ·omega
   ·split
    ·omega
    ·split<;>omega
theorem Za5 (a:List Int) (x:Int) (i:Nat) (hi:i<a.length+1):ZH a.length (Zy a) (fun q=>[[AV.lit (.int .i64 x)]][q]?.getD []) i=Zy (a++[x]) i:=by
 unfold ZH
 split
 ·rename_i h
  simp [Zy,YA,List.getD_eq_getElem?_getD,List.getElem?_append_left h]
 ·have e:i=a.length:=by omega
  subst e
  simp [Zy,YA,List.getD_eq_getElem?_getD]
@[go_sem] theorem intOne (a:List Int) (i:Nat):(Zy a i).all Xg=true:=rfl
theorem Zfm (l:List POp) (hl:l.length≤9223372036854775807) (hw:XD l) (t:List PTok) (ht:t.length≤1048576):VFun Tryz.prog 72 [.agg [.sl 4 l.length (Za l)],.sl 3 t.length (Zk t)] (fun av obs=>av=.tup [.own 0,.lit (.int .i64 (ZW l t).2)]∧obs=[⟨3,1,(ZW l t).1.length,Zy (ZW l t).1⟩]):=by
 have cl:∀ (i:Nat) (c:AV),i<l.length→c∈Za l i→Closed c:=fun i c _ h=>Zo l i c h
 have clt:∀ (i:Nat) (c:AV),i<t.length→c∈Zk t i→Closed c:=fun i c _ h=>Zm t i c h
 refine Zd Tryz.func72 (by kernel_rfl) rfl (by simp [Tryz.ntmps72]) ?_;simp only [Tryz.ntmps72,Tryz.results72];simp [go_sem]
 refine Zc (VG l hl hw) ?_ ?_
 ·simp [go_sem]
  exact Zb (by omega) cl
 ·simp [go_sem]
  have none_:∀ (x:Int) (f:Nat→List AV),ZW l t=([],x)→X5 [⟨3,1,0,f⟩] [⟨3,1,(ZW l t).1.length,Zy (ZW l t).1⟩]∧x=(ZW l t).2:=fun x f h=>by
   rw [h]
   exact ⟨obsSame_one.mpr ⟨⟨3,1,0,Zy []⟩,⟨rfl,rfl,rfl,fun j hj=>by simp at hj⟩,rfl⟩,rfl⟩
  refine ⟨fun h0=>none_ 0 _ (by simp [ZW,h0]),fun h0=>?_⟩
  refine ZP (ZgY l hl t ht) ?_ ?_
  ·simp [go_sem]
   exact ⟨Zb (by omega) cl,Zb (by omega) clt⟩
  ·rintro av obs ⟨rfl,rfl⟩
   simp [go_sem]
   refine ZC (fun i:Nat=>i≤t.length∧∀ j,j<i→0≤ZB l t j (Yf l t j)) (fun i=>t.length-i) (fun i=>.of [(1,.sl 3 t.length (Zk t)),(2,.ptr 0 1 0 0),(6,.own 1),(7,.own 2),(8,.lit (.int .i64 i))] [some ⟨55,1,1,fun _=>[.sl 4 l.length (Za l)]⟩,some ⟨3,1,(Yp l t i).length,Zy (Yp l t i)⟩,some ⟨4,1,t.length+1,Z0 (Yf l t)⟩]) ⟨0,⟨by omega,by simp⟩,?_⟩ (fun i hi=>?_)
   ·refine ZU [0,1,2] (by simp) (by simp) (by simp) (by simp) trivial ?_ ?_
    ·simp [go_sem]
     exact clt
    ·simp [go_sem,Yp]
     exact ⟨cl,.inl fun j _=>ZX _ _⟩
   ·have hr:=Zde l t i (Yf l t i)
    have hlen:=UK l t i
    have hsucc:=JK l t i
    simp [go_sem,Zg]
    refine ⟨by omega,fun h=>Zn [] (.q 0 <| .q 1 <| .q 2 <| .q 3 <| .q 4 <| .q 5 <| .q 6 <| .or 7 (.q 8 <| .done) (.nil)) (by kernel_rfl) ?_,fun h=>?_⟩
    ·simp [go_sem,YC]
     refine ⟨by omega,by omega,Zv (ZkZ l hl t ht i h (Yf l t i)) ?_ ?_⟩
     ·simp [go_sem]
      exact ⟨Zb (by omega) cl,Zb (by omega) clt⟩
     ·simp [go_sem,YC]
      refine ⟨fun e=>none_ i _ ?_,fun e=>?_⟩
      ·have:=KN h hi.2 e
       simp [ZW,h0,this]
      ·rw [hlen]
       refine ⟨by omega,by omega,i+1,⟨by omega,fun j hj=>?_⟩,by omega,?_⟩
       ·rcases Nat.lt_succ_iff_lt_or_eq.mp hj with hj|rfl
        ·exact hi.2 j hj
        ·exact e
       ·refine ZU [0,4,2] (by simp) (by simp) (by simp) (by simp) trivial ?_ ?_
        ·simp [go_sem]
         exact ⟨clt,Zj (by omega)⟩
        ·simp [go_sem,hsucc,hlen]
         refine ⟨cl,.inl fun j hj=>⟨?_,Z8 _ _⟩,.inl fun j _=>ZX _ _⟩
         have:=Za5 (Yp l t i) (ZB l t i (Yf l t i)) j (by rw [hlen];exact hj)
         rw [hlen] at this
         exact this
    ·have e:i=t.length:=by omega
     subst e
     have hn:=U0 (l:=l) (t:=t) fun j hj=>hi.2 j hj
     refine ⟨by omega,fun h1=>?_,fun h1=>?_⟩
     ·have hpos:0<t.length:=List.length_pos_iff.2 h1
      have e2:(IntKind.i64.wrap ((t.length:Int)-1))=((t.length-1:Nat):Int):=by rw [wrap_i64 (by omega)];omega
      rw [e2]
      simp only [Int.toNat_natCast]
      refine ⟨by omega,by omega,by omega,fun e=>⟨by omega,none_ _ _ ?_⟩,fun e=>?_⟩
      ·simp [ZW,h0,hn,V0,e]
      ·have hz:ZW l t=(Yp l t t.length,-1):=by simp [ZW,h0,hn,V0,e];omega
       rw [hz]
       exact ⟨obsSame_one.mpr ⟨_,⟨rfl,rfl,rfl,fun j hj=>⟨rfl,rfl⟩⟩,rfl⟩,rfl⟩
     ·refine ⟨by omega,none_ _ _ ?_⟩
      rw [h1] at hn
      simp [ZW,h0,hn,V0,h1]
theorem Zbo (L:List PMod) (hL:L.length≤1048576) (hz:∀ i,(Zq L i).text.size≤1048576):VProc Tryz.prog 32 [.sl 2 L.length (Zh L)] [] [] (fun av mem maps=>av=.sl 3 L.length (ZF (Y8 L))∧mem=[]∧maps=[]):=
 (Zi1 L hL hz).giveR fun av mem maps h=>by
  obtain ⟨rfl,rfl,rfl⟩:=h
  exact ⟨⟨44,3,(Y8 L).length,ZF (Y8 L)⟩,(Y8 L).length,ZF (Y8 L),fun _ _=>rfl,rfl,rfl,Nat.le_refl _,fun i _ c hc=>Ub _ i c hc,.inl ⟨rfl,rfl⟩,by rw [Vl],rfl,rfl⟩
def QF (n:Nat) (f:Nat→Bool):Ob:=⟨4,1,n,Z0 f⟩
def Zgq (L:List PMod) (i k j:Nat):Bool:=((usI L i).take k).any fun u=>u==j
theorem Zie {L:List PMod} {i k:Nat} (hk:k<(usI L i).length) (j:Nat):Zgq L i (k+1) j=if j=(usI L i).getD k 0 then true else Zgq L i k j:=by
 unfold Zgq
 rw [List.take_succ_eq_append_getElem hk,List.any_append,List.getD_eq_getElem?_getD,List.getElem?_eq_getElem hk]
 simp only [List.any_cons,List.any_nil,Bool.or_false,Option.getD_some]
 split
 ·rename_i e;subst e;simp
 ·rename_i e
  have:((usI L i)[k]==j)=false:=by simpa using fun e2=>e e2.symm
  rw [this,Bool.or_false]
theorem Zif (L:List PMod) (i:Nat):Zgq L i (usI L i).length=Xu L i:=by
 funext j;unfold Zgq Xu;rw [List.take_length]
def K7 (L:List PMod) (i k a:Nat):Ob:=QF L.length (if a=i then Zgq L i k else Xu L a)
def Qn (n:Nat):Option Ob:=some ⟨65,1,n,fun a=>[.own (a+1)]⟩
theorem KO:∀ n,Qn n=some ⟨65,1,n,fun a=>[.own (a+1)]⟩:=fun _=>rfl
theorem Zim (L:List PMod) (i k:Nat):K7 L i k i=⟨4,1,L.length,Z0 (Zgq L i k)⟩:=by unfold K7 QF;rw [if_pos rfl]
theorem Qg {mem:List (Option Ob)} {L:List PMod}:QI mem (.sl 2 L.length (Zh L)) 2 L.length (Zh L):=Zb (Nat.succ_pos 1) fun i c _ h=>ZI L i c h
theorem ZhP {t t':List (Nat×AV)} {g g':Nat→Nat→Bool} {n:Nat} (h1:Ke (Zdm 0 1) (n+1) t t') (h:∀ a,a<n→∀ b,b<n→g a b=g' a b) :
  Ent ⟨t,Qn n::Rw (fun a=>QF n (g a)) n,[],0⟩ ⟨t',Qn n::Rw (fun a=>QF n (g' a)) n,[],0⟩:=by
 refine Zbc 0 1 h1 rfl ?_ fun a ha=>⟨by omega,?_⟩
 ·simp [go_sem]
 ·rw [List.getElem?_cons_succ,Vh _ ha]
  refine ⟨_,rfl,.inl (XE (fun b hb=>?_) (ZX _))⟩
  unfold Z0
  rw [h a ha b hb]
set_option maxRecDepth 100000 in
theorem Zi2 (L:List PMod) (hL:L.length≤100) (hn:∀ i u,u∈usI L i→u<L.length):VProc Tryz.prog 33 [.sl 2 L.length (Zh L),.sl 3 L.length (ZF (Y8 L))] [] []
  (fun av mem maps=>av=.own 0∧mem=Qn L.length::Rw (fun a=>QF L.length (fun b=>XL (Xu L) L.length a b)) L.length∧maps=[]):=by
 refine Zu Tryz.func33 (by kernel_rfl) rfl (by simp [Tryz.ntmps33]) ?_;simp only [Tryz.ntmps33,Tryz.results33];simp [go_sem]
 refine ⟨by omega,?_⟩
 refine ZC (fun i:Nat=>i≤L.length) (fun i=>L.length-i) (fun i=>.of [(0,.sl 2 L.length (Zh L)),(1,.sl 3 L.length (ZF (Y8 L))),(5,.lit (.int .i64 L.length)),(6,.own 0),(7,.lit (.int .i64 i))] (Qn i::Rw (fun a=>QF L.length (Xu L a)) i)) ⟨0,by omega,?_⟩ (fun i hi=>?_)
 ·exact uE [0] (h1:=by simp [go_sem,KU]) (h4:=by simp [go_sem,KO,Rw])
 ·simp [go_sem,KU,KO]
  refine ⟨fun h=>?_,fun h=>?_⟩
  ·refine ⟨by omega,by omega,?_⟩
   have hU:=QP L h
   obtain ⟨hl,hua⟩:=Ho (L:=L) h
   have hul:=Kh L i
   refine ZC (fun k:Nat=>k≤(ZA L i).uses.length) (fun k=>(ZA L i).uses.length-k) (fun k=>.of [(0,.sl 2 L.length (Zh L)),(1,.sl 3 L.length (ZF (Y8 L))),(5,.lit (.int .i64 L.length)),(6,.own 0),(7,.lit (.int .i64 i)),(8,.own (i+1)),(9,.lit (.int .i64 k))] (Qn i::Rw (K7 L i k) (i+1))) ⟨0,by omega,?_⟩ (fun k hk=>?_)
   ·refine Zbc 0 1 (by simp [go_sem,KU]) rfl ?_ fun a ha=>⟨by omega,?_⟩
    ·simp [go_sem];omega
    ·rw [List.getElem?_cons_succ,Zmc _ _ ha]
     refine ⟨_,rfl,.inl ?_⟩
     unfold K7
     split
     ·exact XE (fun _ _=>rfl) (ZX _)
     ·exact XE (fun _ _=>rfl) (ZX _)
   ·have r2:=Zg8 (K7 L i k) (Nat.lt_succ_self i)
    simp [go_sem,KU,KO,Y4,hU,Zr]
    refine ⟨h,by omega,fun hk2=>⟨h,hk2,?_⟩,fun hk2=>?_⟩
    ·have hx:=hua k hk2
     have hm:(usI L i).getD k 0∈usI L i:=by
      rw [List.getD_eq_getElem?_getD,List.getElem?_eq_getElem (by omega)]
      exact List.getElem_mem _
     have hlt:=hn i _ hm
     rw [hx] at hlt
     have hI:=Km hlt
     refine Zc (Qd L (Zs (ZA L i).uses k) (by omega)) (by simp [go_sem,Qg]) ?_
     rw [hI]
     simp [go_sem,Zim,r2,KU,KO,Y4]
     refine ⟨hlt,k+1,by omega,by omega,?_⟩
     have wr:IntKind.i64.wrap ((k:Int)+1)=(k:Int)+1:=wrap_i64 (by omega)
     refine Zbc 0 1 (by simp [go_sem,KU,wr]) rfl ?_ fun a ha=>⟨by omega,?_⟩
     ·simp [go_sem];omega
     ·rw [List.getElem?_cons_succ,Vh _ ha]
      refine ⟨_,rfl,.inl ?_⟩
      unfold K7 QF
      split
      ·refine XE (fun j hj=>?_) (ZX _)
       rw [WO hlt hj]
       unfold Z0
       rw [Zie (by omega),hx]
       split
       ·rfl
       ·rfl
      ·exact XE (fun _ _=>rfl) (ZX _)
    ·obtain rfl:k=(ZA L i).uses.length:=by omega
     refine ⟨by omega,by omega,i+1,h,by omega,?_⟩
     have wr:IntKind.i64.wrap ((i:Int)+1)=(i:Int)+1:=wrap_i64 (by omega)
     refine Zbc (i+1+1+1) 1 (by simp [go_sem,KU,wr]) (by rw [List.getElem?_cons_succ];exact Xr _ (i+1) 1 _) ?_ fun a ha=>⟨by omega,?_⟩
     ·refine ⟨rfl,rfl,rfl,fun a ha=>?_⟩
      simp only [ZH]
      split
      ·simp [go_sem];omega
      ·obtain rfl:a=i:=by simp only at ha;omega
       simp [go_sem]
     ·rw [List.getElem?_cons_succ,Uf _ _ ha]
      refine ⟨_,rfl,.inl ?_⟩
      unfold K7
      split
      ·rename_i e;subst e;rw [←hl,Zif];exact XE (fun _ _=>rfl) (ZX _)
      ·exact XE (fun _ _=>rfl) (ZX _)
  ·obtain rfl:i=L.length:=by omega
   refine ZC (fun m:Nat=>m≤L.length) (fun m=>L.length-m) (fun m=>.of [(5,.lit (.int .i64 L.length)),(6,.own 0),(10,.lit (.int .i64 m))] (Qn L.length::Rw (fun a=>QF L.length (XL (Xu L) m a)) L.length)) ⟨0,by omega,?_⟩ (fun m hm=>?_)
   ·exact Y6 (by simp [go_sem])
   ·simp [go_sem,KO]
    refine ⟨fun h=>?_,fun h=>?_⟩
    ·refine ZC (fun i:Nat=>i≤L.length) (fun i=>L.length-i) (fun i=>.of [(5,.lit (.int .i64 L.length)),(6,.own 0),(10,.lit (.int .i64 m)),(11,.lit (.int .i64 i))] (Qn L.length::Rw (fun a=>QF L.length (V5 (Xu L) m i 0 a)) L.length)) ⟨0,by omega,?_⟩ (fun i hi=>?_)
     ·have e:(fun a=>QF L.length (V5 (Xu L) m 0 0 a))=fun a=>QF L.length (XL (Xu L) m a):=by
       funext a;congr 1;funext b;unfold V5;rw [if_neg (by omega)]
      simp only [e]
      exact Y6 (by simp [go_sem])
     ·simp [go_sem,KO]
      refine ⟨fun h2=>?_,fun h2=>?_⟩
      ·refine ZC (fun j:Nat=>j≤L.length) (fun j=>L.length-j) (fun j=>.of [(5,.lit (.int .i64 L.length)),(6,.own 0),(10,.lit (.int .i64 m)),(11,.lit (.int .i64 i)),(12,.lit (.int .i64 j))] (Qn L.length::Rw (fun a=>QF L.length (V5 (Xu L) m i j a)) L.length)) ⟨0,by omega,?_⟩ (fun j hj=>?_)
       ·exact Y6 (by simp [go_sem])
       ·have r3:=fun x=>Zg8 (fun a=>QF L.length (V5 (Xu L) m i j a)) h2 x
        have r1:=Vh (fun a=>QF L.length (V5 (Xu L) m i j a)) h2
        have r2:=Vh (fun a=>QF L.length (V5 (Xu L) m i j a)) h
        simp [go_sem,KO,QF,YC] at r1 r2 r3 ⊢
        simp [go_sem,KO,QF,YC,r1,r2,r3]
        have same:(V5 (Xu L) m i j i m&&V5 (Xu L) m i j m j)=false→∀ a b,V5 (Xu L) m i j a b=V5 (Xu L) m i (j+1) a b:=fun e a b=>by
         rw [Hm]
         split
         ·rename_i e2;rw [e,Bool.or_false,e2.1,e2.2]
         ·rfl
        have wr:IntKind.i64.wrap ((i:Int)+1)=(i:Int)+1:=wrap_i64 (by omega)
        have wrj:IntKind.i64.wrap ((j:Int)+1)=(j:Int)+1:=wrap_i64 (by omega)
        refine ⟨fun h3=>⟨h2,h,fun e1=>⟨h,h3,fun e2=>⟨h2,h3,j+1,h3,by omega,?_⟩,fun e2=>⟨j+1,h3,by omega,?_⟩⟩,fun e1=>⟨j+1,h3,by omega,?_⟩⟩,fun h3=>⟨i+1,h2,by omega,?_⟩⟩
        ·refine Zbc 0 1 (by simp [go_sem,wrj]) rfl ?_ fun a ha=>⟨by omega,?_⟩
         ·simp [go_sem]
         ·rw [List.getElem?_cons_succ,Vh _ ha]
          refine ⟨_,rfl,.inl ?_⟩
          split
          ·rename_i e;subst e
           refine XE (fun b hb=>?_) (ZX _)
           rw [WO h3 hb]
           unfold Z0
           rw [Hm]
           by_cases e:b=j
           ·subst e;rw [if_pos rfl,if_pos ⟨rfl,rfl⟩,e1,e2];simp [Y5]
           ·rw [if_neg e,if_neg (fun h=>e h.2)]
          ·rename_i e
           refine XE (fun b hb=>?_) (ZX _)
           unfold Z0
           rw [Hm,if_neg (fun h=>e h.1)]
        ·exact ZhP (by simp [go_sem,wrj]) fun a _ b _=>same (by rw [e2,Bool.and_false]) a b
        ·exact ZhP (by simp [go_sem,wrj]) fun a _ b _=>same (by rw [e1,Bool.false_and]) a b
        ·exact ZhP (by simp [go_sem,wr]) fun a _ b hb=>by
          unfold V5
          by_cases e:a<i
          ·rw [if_pos (.inl e),if_pos (by omega)]
          ·by_cases e2:a=i
           ·rw [if_pos (.inr ⟨e2,by omega⟩),if_pos (by omega)]
           ·rw [if_neg (by omega),if_neg (by omega)]
      ·have wr:IntKind.i64.wrap ((m:Int)+1)=(m:Int)+1:=wrap_i64 (by omega)
       refine ⟨m+1,h,by omega,ZhP (by simp [go_sem,wr]) fun a ha b hb=>?_⟩
       unfold V5
       rw [if_pos (by omega)]
    ·obtain rfl:m=L.length:=by omega
     exact uFR 0 1 L.length 65 (fun a=>QF L.length (XL (Xu L) L.length a)) rfl (fun a ha=>by rw [List.getElem?_cons_succ];exact Vh _ ha) (fun a _ i=>rfl) (by omega) (by simp [go_sem]) (by simp [go_sem,YX,UF])
def U9 (n:Nat) (g:Nat→Nat→Bool) (a:Nat):List AV:=[.sl 1 n (Z0 (g a))]
theorem ZiA (n:Nat) (g:Nat→Nat→Bool) (a:Nat) (c:AV) (h:c∈U9 n g a):Closed c:=by
 simp [U9] at h;subst h
 exact .sl _ _ _ fun i c _ h=>ZX _ i c h
theorem ZgW (L:List PMod) (hL:L.length≤100) (hn:∀ i u,u∈usI L i→u<L.length):VProc Tryz.prog 33 [.sl 2 L.length (Zh L),.sl 3 L.length (ZF (Y8 L))] [] []
  (fun av mem maps=>av=.sl 1 L.length (U9 L.length fun a b=>XL (Xu L) L.length a b)∧mem=[]∧maps=[]):=
 (Zi2 L hL hn).giveRR fun av mem maps h=>by
  obtain ⟨rfl,rfl,rfl⟩:=h
  exact .inr ⟨65,L.length,fun a=>QF L.length (fun b=>XL (Xu L) L.length a b),[],fun a _ i _ c hc=>ZX _ i c hc,rfl,rfl,.inl ⟨rfl,rfl,rfl,rfl⟩⟩
def QJ (L:List PMod) (d:Nat→Bool) (a:Nat):List AV:=if d a=true then [.sl 4 (scL L a).length (Za (scL L a))] else [.lit (.slice none 0 0)]
theorem K2 (L:List PMod) (d:Nat→Bool) (a:Nat) (c:AV) (h:c∈QJ L d a):Closed c:=by
 unfold QJ at h
 split at h
 ·rw [List.mem_singleton] at h;subst h;exact .sl _ _ _ fun i c _ h=>Zo _ i c h
 ·rw [List.mem_singleton] at h;subst h;exact .lit _
def JC (L:List PMod) (d:Nat→Bool):Option Ob:=some ⟨55,1,L.length,QJ L d⟩
def J8 (n:Nat) (d:Nat→Bool):Option Ob:=some ⟨4,1,n,Z0 d⟩
theorem KD1:(∀ L d,JC L d=some ⟨55,1,L.length,QJ L d⟩)∧(∀ n d,J8 n d=some ⟨4,1,n,Z0 d⟩)∧(∀ L d a c,(c∈QJ L d a→Closed c)=True)∧(∀ f a c,(c∈Z0 f a→Closed c)=True)∧(∀ g m L d a,ZO g m (QJ L d a) (QJ L d a)=True)∧(∀ g m f a,ZO g m (Z0 f a) (Z0 f a)=True):=
 ⟨fun _ _=>rfl,fun _ _=>rfl,fun _ _ _ _=>eq_true (K2 _ _ _ _),fun _ _ _=>eq_true (ZX _ _ _),fun _ _ L d a=>eq_true (YR fun c h=>K2 L d a c h),fun _ _ f a=>eq_true (YR fun c h=>ZX f a c h)⟩
def YO (S:Nat→List POp) (a:Nat):List AV:=[.sl 4 (S a).length (Za (S a))]
theorem U4 (S:Nat→List POp) (a:Nat) (c:AV) (h:c∈YO S a):Closed c:=by
 unfold YO at h
 rw [List.mem_singleton] at h;subst h;exact .sl _ _ _ fun i c _ h=>Zo _ i c h
theorem ZmC {g:Nat→Nat} {ks:List Nat} {ty n:Nat} {S:Nat→List POp} {f:Nat→List AV} (h:∀ a,a<n→f a=YO S a):WN g ks ⟨ty,1,n,YO S⟩ (some (some ⟨ty,1,n,f⟩)):=
 ⟨rfl,rfl,rfl,fun i hi=>by
  have hi:i<n:=hi
  simp only [h i hi]
  refine ⟨rfl,fun c hc=>.inr ⟨?_,U4 S i c hc⟩,fun c hc q hq=>?_⟩
  ·unfold YO at hc;rw [List.mem_singleton] at hc;exact ⟨_,_,_,hc⟩
  ·unfold YO at hc;rw [List.mem_singleton] at hc;subst hc;simp [WI] at hq⟩
def Zgs (L:List PMod) (d:Nat→Bool) (i k:Nat):Bool:=!d i&&((usI L i).take k).all d
theorem Zck {L:List PMod} {d:Nat→Bool} {i k:Nat} (hk:k<(usI L i).length):Zgs L d i (k+1)=(Zgs L d i k&&d ((usI L i).getD k 0)):=by
 unfold Zgs
 rw [List.take_succ_eq_append_getElem hk,List.all_append,List.getD_eq_getElem?_getD,List.getElem?_eq_getElem hk]
 simp [Bool.and_assoc]
theorem ZbG {mem:List (Option Ob)} {sz:Nat} {f:Nat→List AV} (h:0<sz):QI mem (.lit (.slice none 0 0)) sz 0 f:=⟨h,_,rfl,fun i hi=>absurd hi (Nat.not_lt_zero i)⟩
theorem Zmi (L:List PMod) (i:Nat):scJ L i 0=WF (opI L i) []:=rfl
theorem Zcl {L:List PMod} {d:Nat→Bool} {i:Nat}:Zgs L d i (usI L i).length=(!d i&&(usI L i).all d):=by unfold Zgs;rw [List.take_length]
theorem ZeF {U:Nat→List Nat} {d0 d:Nat→Bool} {i:Nat} (hd:rdD U d0 i=d) (a:Nat):rdD U d0 (i+1) a=if a=i then d i||(U i).all d else d a:=by
 show (if a=i then _ else _)=_
 rw [hd]
set_option maxRecDepth 100000 in
theorem ZgV (L:List PMod) (hok:LoadOk L):VProc Tryz.prog 34 [.sl 2 L.length (Zh L),.sl 3 L.length (ZF (Y8 L))] [] []
  (fun av mem maps=>av=.own 0∧mem=[some ⟨55,1,L.length,YO (scL L)⟩]∧maps=[]):=by
 have hL:=hok.few
 refine Zu Tryz.func34 (by kernel_rfl) rfl (by simp [Tryz.ntmps34]) ?_;simp only [Tryz.ntmps34,Tryz.results34];simp [go_sem]
 refine ⟨by omega,by omega,by omega,by omega,by omega,?_⟩
 refine ZC (fun r:Nat=>r≤L.length) (fun r=>L.length-r) (fun r=>.of [(0,.sl 2 L.length (Zh L)),(1,.sl 3 L.length (ZF (Y8 L))),(5,.lit (.int .i64 L.length)),(6,.own 0),(7,.own 1),(8,.lit (.int .i64 r))] [JC L (rnD (usI L) L.length r),J8 L.length (rnD (usI L) L.length r)]) ⟨0,by omega,?_⟩ (fun r hr=>?_)
 ·exact uE [0,1] (h1:=by simp [go_sem,KU]) (h4:=by simp [go_sem,KD1];exact ⟨.inl fun _ _=>rfl,.inl fun _ _=>rfl⟩)
 ·simp [go_sem,KU,KD1]
  refine ⟨fun h=>?_,fun h=>?_⟩
  ·refine ZC (fun i:Nat=>i≤L.length) (fun i=>L.length-i) (fun i=>.of [(0,.sl 2 L.length (Zh L)),(1,.sl 3 L.length (ZF (Y8 L))),(5,.lit (.int .i64 L.length)),(6,.own 0),(7,.own 1),(8,.lit (.int .i64 r)),(9,.lit (.int .i64 i))] [JC L (rdD (usI L) (rnD (usI L) L.length r) i),J8 L.length (rdD (usI L) (rnD (usI L) L.length r) i)]) ⟨0,by omega,?_⟩ (fun i hi=>?_)
   ·exact Y6 (by simp [go_sem])
   ·generalize hd:rdD (usI L) (rnD (usI L) L.length r) i=d
    simp [go_sem,KU,KD1,YC]
    refine ⟨fun h2=>?_,fun h2=>?_⟩
    ·refine ⟨h2,?_⟩
     have hU:=QP L h2
     obtain ⟨hl,hua⟩:=Ho (L:=L) h2
     have hul:=Kh L i
     refine ZC (fun k:Nat=>k≤(ZA L i).uses.length) (fun k=>(ZA L i).uses.length-k) (fun k=>.of [(0,.sl 2 L.length (Zh L)),(1,.sl 3 L.length (ZF (Y8 L))),(5,.lit (.int .i64 L.length)),(6,.own 0),(7,.own 1),(8,.lit (.int .i64 r)),(9,.lit (.int .i64 i)),(10,.lit (.bool (Zgs L d i k))),(11,.lit (.int .i64 k))] [JC L d,J8 L.length d]) ⟨0,by omega,?_⟩ (fun k hk=>?_)
     ·exact Y6 (by simp [go_sem,Zgs])
     ·simp [go_sem,KU,KD1,Y4,hU,Zr,YC]
      have wrk:IntKind.i64.wrap ((k:Int)+1)=(k:Int)+1:=wrap_i64 (by omega)
      refine ⟨h2,by omega,fun hk2=>⟨fun e=>⟨h2,hk2,?_⟩,fun e=>⟨k+1,hk2,by omega,?_⟩⟩,fun hk2=>?_⟩
      ·have hx:=hua k hk2
       have hm:(usI L i).getD k 0∈usI L i:=by
        rw [List.getD_eq_getElem?_getD,List.getElem?_eq_getElem (by omega)]
        exact List.getElem_mem _
       have hlt:=hok.named i _ hm
       have hs:=Zck (d:=d) (show k<(usI L i).length by omega)
       rw [hx] at hlt hs
       have hI:=Km hlt
       refine Zc (Qd L (Zs (ZA L i).uses k) (by omega)) (by simp [go_sem,Qg]) ?_
       rw [hI]
       simp [go_sem,KU,KD1,YC]
       refine ⟨hlt,k+1,hk2,by omega,?_⟩
       exact uE [0,1] (h1:=by simp [go_sem,KU,wrk,hs,e]) (h4:=by simp [go_sem,KD1])
      ·have hs:=Zck (d:=d) (show k<(usI L i).length by omega)
       exact uE [0,1] (h1:=by simp [go_sem,KU,wrk,hs,e]) (h4:=by simp [go_sem,KD1])
      ·obtain rfl:k=(ZA L i).uses.length:=by omega
       have wri:IntKind.i64.wrap ((i:Int)+1)=(i:Int)+1:=wrap_i64 (by omega)
       refine ⟨fun e=>⟨h2,?_⟩,fun e=>⟨i+1,h2,by omega,?_⟩⟩
       ·have e2:=e
        rw [←hl,Zcl,Bool.and_eq_true] at e2
        obtain ⟨e3,e4⟩:=e2
        have hdn:∀ u,u∈usI L i→d u=true:=fun u hu=>List.all_eq_true.1 e4 u hu
        have hO:(ZA L i).ops=opI L i:=rfl
        rw [hO]
        have hol:=G1 L i
        refine ZP (GB (opI L i) [] (by simp;omega)) (by simp [go_sem];exact ⟨Zb (by omega) fun i c _ h=>Zo _ i c h,ZbG (by omega)⟩) ?_
        rintro av obs ⟨rfl,rfl⟩
        simp [go_sem,KU,KD1]
        refine ZC (fun k:Nat=>k≤(ZA L i).uses.length) (fun k=>(ZA L i).uses.length-k) (fun k=>.of [(0,.sl 2 L.length (Zh L)),(1,.sl 3 L.length (ZF (Y8 L))),(5,.lit (.int .i64 L.length)),(6,.own 0),(7,.own 1),(8,.lit (.int .i64 r)),(9,.lit (.int .i64 i)),(12,.ptr 2 1 0 0),(13,.lit (.int .i64 k))] [JC L d,J8 L.length d,some ⟨55,1,1,fun _=>[.own 3]⟩,XH (scJ L i k)]) ⟨0,by omega,?_⟩ (fun k hk=>?_)
        ·exact uE [0,1,3,2] (h1:=by simp [go_sem,KU]) (h4:=by simp [go_sem,KD1,K5,XH,Zmi])
        ·simp [go_sem,KU,KD1,Y4,hU,Zr,XH]
         have wrk:IntKind.i64.wrap ((k:Int)+1)=(k:Int)+1:=wrap_i64 (by omega)
         refine ⟨h2,by omega,fun hk2=>?_,fun hk2=>?_⟩
         ·have hx:=hua k hk2
          have hm:(usI L i).getD k 0∈usI L i:=by
           rw [List.getD_eq_getElem?_getD,List.getElem?_eq_getElem (by omega)]
           exact List.getElem_mem _
          have hlt:=hok.named i _ hm
          have hdu:=hdn _ hm
          have hst:=Zet (L:=L) (i:=i) (j:=k) (by omega)
          rw [hx] at hlt hst hdu
          have hI:=Km hlt
          have hn1:=Qd L (Zs (ZA L i).uses k) (by omega)
          rw [hI] at hn1
          have htd:QJ L d (Z3 L (Zs (ZA L i).uses k))=[.sl 4 (scL L (Z3 L (Zs (ZA L i).uses k))).length (Za (scL L (Z3 L (Zs (ZA L i).uses k))))]:=if_pos hdu
          have l1:=Zhu hok i k h2
          have l2:(scL L (Z3 L (Zs (ZA L i).uses k))).length≤2000100:=hok.scl_len _ _ hlt
          refine Zn [15] (.q 0 <| .q 1 <| .q 2 <| .q 3 <| .q 4 <| .q 5 <| .q 6 <| .q 7 <| .q 8 <| .q 9 <| .q 10 <| .or 11 (.q 12 <| .q 13 <| .or 14 (.or 15 (.done) (.nil)) (.nil)) (.nil)) (by kernel_rfl) ?_
          simp [go_sem,KU,KD1,Y4,hU,Zr]
          refine ⟨h2,hk2,Zv hn1 (by simp [go_sem,Qg]) ?_⟩
          simp [go_sem,htd,KU,KD1]
          refine ⟨hlt,Yk (GB (scJ L i k) (scL L (Z3 L (Zs (ZA L i).uses k))) (by omega)) (by simp [go_sem];exact ⟨Xq (k:=3) rfl (by omega) rfl (fun _ _=>rfl) fun i c _ h=>Zo _ i c h,Zb (by omega) fun i c _ h=>Zo _ i c h⟩) ?_⟩
          rintro av obs ⟨rfl,rfl⟩
          simp [go_sem,KU,KD1]
          refine ⟨k+1,hk2,by omega,?_⟩
          exact uE [0,1,2,4] (h1:=by simp [go_sem,KU,wrk]) (h4:=by simp [go_sem,KD1,K5,XH,hst])
         ·obtain rfl:k=(ZA L i).uses.length:=by omega
          refine ⟨h2,i+1,h2,by omega,?_⟩
          have hfull:scJ L i (ZA L i).uses.length=scL L i:=by rw [←hl];exact Zeu hok h2
          have hnx:∀ a,rdD (usI L) (rnD (usI L) L.length r) (i+1) a=if a=i then true else d a:=fun a=>by
           rw [ZeF hd]
           split
           ·rename_i e5;subst e5;rw [e4,Bool.or_true]
           ·rfl
          refine (Ent.giveAt 0 3 i 0 rfl (fun q _ c h=>Zo _ q c h) rfl (by decide) (by simp [WO h2 h2,Y5])).trans ?_
          simp only [List.set_cons_succ,List.set_cons_zero]
          have hA:∀ (g:Nat→Nat) m a,a<L.length→ZO g m (if a=i then (Hp L.length (QJ L d) i 0 [.own 3] a).set 0 (.sl 4 (scJ L i (ZA L i).uses.length).length (Za (scJ L i (ZA L i).uses.length))) else Hp L.length (QJ L d) i 0 [.own 3] a) (QJ L (rdD (usI L) (rnD (usI L) L.length r) (i+1)) a):=fun g m a ha=>by
           have e6:(if a=i then (Hp L.length (QJ L d) i 0 [.own 3] a).set 0 (.sl 4 (scJ L i (ZA L i).uses.length).length (Za (scJ L i (ZA L i).uses.length))) else Hp L.length (QJ L d) i 0 [.own 3] a)=QJ L (rdD (usI L) (rnD (usI L) L.length r) (i+1)) a:=by
            rw [WO h2 ha,hfull]
            by_cases e7:a=i
            ·subst e7
             rw [if_pos rfl,if_pos rfl]
             have:QJ L (rdD (usI L) (rnD (usI L) L.length r) (a+1)) a=[.sl 4 (scL L a).length (Za (scL L a))]:=if_pos (by rw [hnx,if_pos rfl])
             rw [this]
             have hda:QJ L d a=[.lit (.slice none 0 0)]:=if_neg (by
              intro h;rw [h] at e3;cases e3)
             rw [hda];rfl
            ·rw [if_neg e7,if_neg e7]
             unfold QJ
             rw [hnx,if_neg e7]
           rw [e6]
           exact YR fun c h=>K2 _ _ a c h
          have hB:∀ a,a<L.length→Hp L.length (Z0 d) i 0 [.lit (.bool true)] a=Z0 (rdD (usI L) (rnD (usI L) L.length r) (i+1)) a:=fun a ha=>by
           rw [WO h2 ha]
           unfold Z0
           rw [hnx]
           split
           ·rfl
           ·rfl
          exact uE [0,1] (h1:=by simp [go_sem,KU,wri]) (h4:=by simp [go_sem,KD1];exact ⟨.inr fun a ha=>hA _ _ a ha,.inl fun a ha=>hB a ha⟩)
       ·have e2:=e
        rw [←hl,Zcl] at e2
        have hsame:rdD (usI L) (rnD (usI L) L.length r) (i+1)=d:=by
         funext a
         rw [ZeF hd]
         split
         ·rename_i e3;subst e3
          revert e2
          cases d a<;>cases (usI L a).all d<;>simp
         ·rfl
        exact uE [0,1] (h1:=by simp [go_sem,KU,wri]) (h4:=by simp [go_sem,KD1,hsame])
    ·obtain rfl:i=L.length:=by omega
     have wrr:IntKind.i64.wrap ((r:Int)+1)=(r:Int)+1:=wrap_i64 (by omega)
     have e:rnD (usI L) L.length (r+1)=d:=hd
     refine ⟨r+1,h,by omega,?_⟩
     exact uE [0,1] (h1:=by simp [go_sem,KU,wrr]) (h4:=by simp [go_sem,KD1,e])
  ·obtain rfl:r=L.length:=by omega
   exact uF [0] [some ⟨55,1,L.length,YO (scL L)⟩] (hm:=by
    simp [go_sem]
    refine ZmC fun a ha=>?_
    unfold QJ
    rw [if_pos (hok.fin a ha)];rfl) (hR:=by simp [go_sem])
def jAt (js:List Nat) (q:Nat):Nat:=js.getD q 0
def WD (L:List PMod) (js:List Nat) (vs:Nat→Value):List (Value×Value):=(List.range js.length).map fun q=>(.string (Zq L (jAt js q)).name,vs q)
def Ga (S:List POp):AV:=.agg [.sl 4 S.length (Za S)]
def Uq (L:List PMod) (js:List Nat) (q:Nat):AV:=Ga (scL L (jAt js q))
theorem Ye (S:List POp):Closed (Ga S):=.agg _ fun c h=>by
 rw [List.mem_singleton] at h;subst h
 exact .sl _ _ _ fun i c _ h=>Zo _ i c h
structure MemoOk (L:List PMod) (js:List Nat):Prop where
 lt:∀ j,j∈js→j<L.length
 nodup:js.Nodup
theorem Kq {js:List Nat} {q:Nat} (h:q<js.length):jAt js q∈js:=by
 unfold jAt
 rw [List.getD_eq_getElem?_getD,List.getElem?_eq_getElem h]
 exact List.getElem_mem _
theorem ZlN {js:List Nat} (hn:js.Nodup) {q r:Nat} (hq:q<js.length) (hr:r<js.length) (e:jAt js q=jAt js r):q=r:=by
 unfold jAt at e
 rw [List.getD_eq_getElem?_getD,List.getD_eq_getElem?_getD,List.getElem?_eq_getElem hq,List.getElem?_eq_getElem hr] at e
 exact (List.getElem_inj hn).1 e
theorem Jd {L:List PMod} {js:List Nat} {vs:Nat→Value} {i:Nat} {p:Value×Value} (h:(WD L js vs)[i]?=some p):i<js.length∧p=(.string (Zq L (jAt js i)).name,vs i):=by
 have hi:i<js.length:=by
  have:=(List.getElem?_eq_some_iff.1 h).1
  unfold WD at this
  simpa using this
 unfold WD at h
 rw [List.getElem?_map,List.getElem?_range hi] at h
 exact ⟨hi,(Option.some.inj h).symm⟩
theorem ZkA {L:List PMod} {js:List Nat} {vs:Nat→Value} (hN:NamesOk L) (hm:MemoOk L js) {q:Nat} (hq:q<js.length):mget (WD L js vs) (.string (Zq L (jAt js q)).name)=some (vs q):=by
 refine JU (j:=q) ?_ fun i p hi hp=>?_
 ·unfold WD
  rw [List.getElem?_map,List.getElem?_range hq];rfl
 ·obtain ⟨h1,rfl⟩:=Jd hp
  simp only [ne_eq,Value.string.injEq]
  intro e
  have:=ZlN hm.nodup h1 hq (hN.inj (hm.lt _ (Kq h1)) (hm.lt _ (Kq hq)) e)
  omega
theorem Ziz {L:List PMod} {js:List Nat} {vs:Nat→Value} (hN:NamesOk L) (hm:MemoOk L js) {i:Nat} (hi:i<L.length) (h:i∉js):mget (WD L js vs) (.string (Zq L i).name)=none:=by
 refine JT fun p hp=>?_
 obtain ⟨q,hq⟩:=List.getElem?_of_mem hp
 obtain ⟨h1,rfl⟩:=Jd hq
 simp only [ne_eq,Value.string.injEq]
 intro e
 rw [←hN.inj (hm.lt _ (Kq h1)) hi e] at h
 exact h (Kq h1)
theorem Zkz {L:List PMod} {js:List Nat} {vs:Nat→Value} (hN:NamesOk L) (hm:MemoOk L js) {i:Nat} (hi:i<L.length) (h:i∉js) (u:Value):mput (WD L js vs) (.string (Zq L i).name) u=WD L (js++[i]) (fun q=>if q=js.length then u else vs q):=by
 rw [QX fun p hp=>by
  obtain ⟨q,hq⟩:=List.getElem?_of_mem hp
  obtain ⟨h1,rfl⟩:=Jd hq
  simp only [ne_eq,Value.string.injEq]
  intro e
  rw [←hN.inj (hm.lt _ (Kq h1)) hi e] at h
  exact h (Kq h1)]
 unfold WD
 rw [List.length_append,List.length_singleton,List.range_succ,List.map_append]
 congr 1
 ·refine List.map_congr_left fun q hq=>?_
  rw [List.mem_range] at hq
  have e:jAt (js++[i]) q=jAt js q:=by
   unfold jAt
   rw [List.getD_eq_getElem?_getD,List.getD_eq_getElem?_getD,List.getElem?_append_left hq]
  have e2:¬q=js.length:=by omega
  simp only [e,if_neg e2]
 ·have e:jAt (js++[i]) js.length=i:=by
   unfold jAt
   rw [List.getD_eq_getElem?_getD,List.getElem?_append_right (Nat.le_refl _)];simp
  simp [e]
theorem MemoOk.add {L:List PMod} {js:List Nat} (hm:MemoOk L js) {i:Nat} (hi:i<L.length) (h:i∉js):MemoOk L (js++[i]):=by
 refine ⟨fun j hj=>?_,?_⟩
 ·rcases List.mem_append.1 hj with hj|hj
  ·exact hm.lt j hj
  ·rw [List.mem_singleton] at hj;subst hj;exact hi
 ·rw [List.nodup_append]
  refine ⟨hm.nodup,by simp,fun a ha b hb e=>?_⟩
  rw [List.mem_singleton] at hb
  subst hb;subst e;exact h ha
theorem Zb1:W7 Tryz.prog 55 (.agg #[.slice none 0 0]):=fun w=>Tryz.zeroValue55 w
def ZmE (L:List PMod) (b1 b2 i:Nat) (js:List Nat) (av:AV) (mem:List (Option Ob)) (maps:List (Nat×Mp)) (N:Nat) (vs:Nat→Value) («as»:Nat→AV):Prop:=
 ∃ js',MemoOk L js'∧(∀ j,j∈js'→j∈js∨U6 (Xu L) L.length j≤U6 (Xu L) L.length i)∧N=js'.length∧(∀ q,q<N→«as» q=Uq L js' q)∧av=Ga (scL L i)∧mem=[]∧maps=[(b1,⟨9,WU L L.length⟩),(b2,⟨9,WD L js' vs⟩)]
theorem ZlB (f:Nat→Nat) (m n:Nat) (vs:Nat→Value) (L:List PMod) (js:List Nat):Rn f m (.fam n vs (Uq L js)) (.fam n vs (Uq L js))=True:=eq_true (.fam _ _ _ _ fun q _=>.closed _ (Ye _))
set_option maxRecDepth 100000 in
set_option maxHeartbeats 1000000 in
theorem ZhS (L:List PMod) (S:List PSrc) (b1 b2:Nat) (hb:¬b1=b2) (hS:SrcIs L S) (hok:LoadOk L) (hN:NamesOk L) (hz:∀ i,(Zq L i).name.size≤1048576):∀ (f i:Nat),i<L.length→U6 (Xu L) L.length i<f→∀ (js:List Nat) (vs:Nat→Value),MemoOk L js→
  VProcGT Tryz.prog 39 [.bptr (Yo L S b1 b2),.lit (.string (Zq L i).name)] js.length vs (Uq L js) [] [(b1,⟨9,WU L L.length⟩),(b2,⟨9,WD L js vs⟩)] (ZmE L b1 b2 i js):=by
 intro f
 induction f with
 |zero=>exact fun i _ h=>absurd h (Nat.not_lt_zero _)
 |succ f ih=>
  intro i hi hrk js vs hm
  have hky:∃ l,keyOf Tryz.prog 9 (.string (Zq L i).name)=some l:=YJ (by have:=hz i;simp only [maxLen];omega)
  refine KF Tryz.func39 (by kernel_rfl) rfl (by simp [Tryz.ntmps39]) ?_;simp only [Tryz.ntmps39,Tryz.results39];simp [go_sem]
  simp [go_sem,KP,hb]
  by_cases hin:i∈js
  ·obtain ⟨q,hq,hqi⟩:=List.getElem_of_mem hin
   have hji:jAt js q=i:=by unfold jAt;rw [List.getD_eq_getElem?_getD,List.getElem?_eq_getElem hq];exact hqi
   have hget:=ZkA (vs:=vs) hN hm hq
   rw [hji] at hget
   refine Zd9 ZS hky _ Zb1 65 rfl q hq hget ?_
   have hma:Uq L js q=.agg [.sl 4 (scL L i).length (Za (scL L i))]:=by unfold Uq Ga;rw [hji]
   simp [go_sem,KP,hb,hma]
   refine ⟨fun q _=>Ye _,?_⟩
   exact uF [] [] (hq:=by simp [go_sem];exact fun i c _ h=>Zo _ i c h) (hR:=⟨js,hm,fun _ h=>.inl h,rfl,fun _ _=>rfl,rfl,rfl,rfl⟩)
  ·have hget:=Ziz (vs:=vs) hN hm hi hin
   refine Yj ZS hky _ Zb1 ?_
   rw [hget]
   simp [go_sem,KP,hb]
   have hga:mget (WU L L.length) (.string (Zq L i).name)=some (.int .i64 i):=by rw [Qt (by rw [hN i hi];exact hi) (Nat.le_refl _),hN i hi]
   refine Zn [] (.q 0 <| .q 1 <| .q 2 <| .q 3 <| .q 4 <| .q 5 <| .q 6 <| .q 7 <| .q 8 <| .q 9 <| .q 10 <| .q 11 <| .q 12 <| .done) (by kernel_rfl) ?_
   simp [go_sem,KP,hb]
   refine Yj ZS hky _ VB ?_
   rw [hga]
   simp [go_sem,KP,VL,hS.unt i hi]
   have hol:=G1 L i
   obtain ⟨hl,hua⟩:=Ho (L:=L) hi
   have hul:=Kh L i
   have hO:(ZA L i).ops=opI L i:=rfl
   rw [hO]
   refine ⟨hi,ZP (ZhT (opI L i) [] (by simp;omega) (ZhD L i).1 (fun q hq=>absurd hq (Nat.not_lt_zero q)) (ZhD L i).2 (fun q hq=>absurd hq (Nat.not_lt_zero q))) (by simp [go_sem];exact ⟨Zb (by omega) fun i c _ h=>Zo _ i c h,ZbG (by omega)⟩) ?_⟩
   rintro av obs ⟨rfl,rfl⟩
   simp [go_sem,KP,K5]
   refine ⟨by omega,?_⟩
   refine ZC (fun x:Nat×List Nat×(Nat→Value)=>x.1≤(ZA L i).uses.length∧MemoOk L x.2.1∧∀ j,j∈x.2.1→j∈js∨U6 (Xu L) L.length j<U6 (Xu L) L.length i) (fun x=>(ZA L i).uses.length-x.1)
    (fun x=>⟨[(0,.bptr (Yo L S b1 b2)),(1,.lit (.string (Zq L i).name)),(4,.ptr 0 1 0 0),(8,.ptr 1 1 0 0),(46,.sl 1 (ZA L i).uses.length (Zp (ZA L i).uses)),(47,.lit (.int .i64 (ZA L i).uses.length)),(48,.lit (.int .i64 x.1)),(65,.fam x.2.1.length x.2.2 (Uq L x.2.1))],
     [some ⟨55,1,1,fun _=>[.lit (.slice none 0 0)]⟩,some ⟨55,1,1,fun _=>[.sl 4 (scJ L i x.1).length (Za (scJ L i x.1))]⟩],[(b1,⟨9,WU L L.length⟩),(b2,⟨9,WD L x.2.1 x.2.2⟩)],0⟩) ⟨(0,js,vs),⟨Nat.zero_le _,hm,fun _ h=>.inl h⟩,?_⟩ (fun x hx=>?_)
   ·refine (Ent.giveIn 3 2 0 rfl (fun q _ c h=>Zo _ q c h) rfl (by decide) (fun _ _=>rfl)).trans ?_
    simp only [List.set_cons_succ,List.set_cons_zero]
    exact uE [0,3] (h1:=by simp [go_sem,KP,K5,ZlB]) (h4:=by simp [go_sem,K5,Zmi]) (hM:=by simp [go_sem,hb])
   obtain ⟨k,ks,ws⟩:=x
   simp only at hx
   obtain ⟨hk,hmk,hik⟩:=hx
   have hink:i∉ks:=fun h=>by
    rcases hik i h with h|h
    ·exact hin h
    ·omega
   simp [go_sem,KP,K5,Zr,hb]
   have wrk:IntKind.i64.wrap ((k:Int)+1)=(k:Int)+1:=wrap_i64 (by omega)
   refine ⟨fun hk2=>⟨hk2,?_⟩,fun hk2=>?_⟩
   ·have hx:=hua k hk2
    have hmm:(usI L i).getD k 0∈usI L i:=by
     rw [List.getD_eq_getElem?_getD,List.getElem?_eq_getElem (by omega)]
     exact List.getElem_mem _
    have hlt:=hok.named i _ hmm
    have hrk2:=hok.rank i _ hmm
    have hst:=Zet (L:=L) (i:=i) (j:=k) (by omega)
    have hnm:Zs (ZA L i).uses k=(Zq L ((usI L i).getD k 0)).name:=by rw [hx] at hlt ⊢;exact (QW hlt).symm
    generalize hw:(usI L i).getD k 0=w at *
    have hcall:=ih w hlt (by omega) ks ws hmk
    rw [←hnm] at hcall
    have l1:=Zhu hok i k hi
    have l2:(scL L w).length≤2000100:=hok.scl_len _ _ hlt
    have f1:=Zlx hok i k hi
    have f2:=JH hok w hlt
    have hun:=ZhT (scJ L i k) (scL L w) (by omega) f1.1 f2.1 f1.2 f2.2
    refine Zn [5,3,4] (.q 1 <| .q 2 <| .or 0 (.or 3 (.or 4 (.or 5 (.done) (.nil)) (.nil)) (.nil)) (.or 3 (.q 0 <| .or 4 (.or 5 (.done) (.nil)) (.nil)) (.nil))) (by kernel_rfl) ?_
    simp [go_sem,KP,K5,Zr,hb]
    refine ⟨QN [] 65 65 hcall (by simp) rfl (fun q _=>.closed _ (Ye _)) (by simp [go_sem,KP]) trivial (by simp [go_sem,hb]) ?_,QN [] 65 65 hcall (by simp) rfl (fun q _=>.closed _ (Ye _)) (by simp [go_sem,KP]) trivial (by simp [go_sem,hb]) ?_⟩
    all_goals
     rintro av mem maps N' vs' as' ⟨js',hm',hr',rfl,has,rfl,rfl,rfl⟩
     simp [go_sem,KP,K5,Zr,hb,Ga]
     refine ZP hun (by simp [go_sem];exact ⟨Zb (by omega) fun i c _ h=>Zo _ i c h,Zb (by omega) fun i c _ h=>Zo _ i c h⟩) ?_
     rintro av obs ⟨rfl,rfl⟩
     simp [go_sem,KP,K5,Zr,hb,Ga]
     refine ⟨k+1,js',⟨hk2,hm',fun j hj=>?_⟩,by omega,vs',?_⟩
     ·rcases hr' j hj with h|h
      ·exact hik j h
      ·exact .inr (by omega)
     ·refine (Ent.giveIn 1 2 0 rfl (fun q _ c h=>Zo _ q c h) rfl (by decide) (fun _ _=>rfl)).trans ?_
      simp only [List.set_cons_succ,List.set_cons_zero]
      exact uE [0,1] (h1:=by simp [go_sem,KP,K5,wrk];exact .fam _ _ _ _ fun q hq=>by rw [has q hq];exact .closed _ (Ye _)) (h4:=by simp [go_sem,K5,hst]) (hM:=by simp [go_sem,hb])
   ·obtain rfl:k=(ZA L i).uses.length:=by omega
    refine Zn [6] (.q 0 <| .q 1 <| .q 2 <| .q 3 <| .q 4 <| .q 5 <| .or 6 (.done) (.nil)) (by kernel_rfl) ?_
    simp [go_sem,KP,K5,Zr,hb]
    have hfull:scJ L i (ZA L i).uses.length=scL L i:=by rw [←hl];exact Zeu hok hi
    rw [hfull]
    refine Zd7 ZS hky 65 rfl fun u=>?_
    rw [Zkz hN hmk hi hink u]
    simp [go_sem,KP,K5,hb]
    refine ⟨fun q hq=>?_,?_⟩
    ·split
     ·exact Ye _
     ·exact Ye _
    ·refine uF [] [] (hq:=by simp [go_sem];exact fun i c _ h=>Zo _ i c h) (hR:=⟨ks++[i],hmk.add hi hink,fun j hj=>?_,by simp,fun q hq=>?_,rfl,rfl,rfl⟩) (hM:=fun b h=>by
      simp only [lkm] at h ⊢
      split
      ·rfl
      ·rename_i e1
       rw [if_neg e1] at h
       split
       ·rfl
       ·rename_i e2;rw [if_neg e2] at h;exact h)
     ·rcases List.mem_append.1 hj with hj|hj
      ·rcases hik j hj with h|h
       ·exact .inl h
       ·exact .inr (by omega)
      ·rw [List.mem_singleton] at hj;subst hj;exact .inr (Nat.le_refl _)
     ·unfold Uq jAt
      simp only
      by_cases e:q=ks.length
      ·subst e
       rw [if_pos rfl,List.getD_eq_getElem?_getD,List.getElem?_append_right (Nat.le_refl _),Nat.sub_self];rfl
      ·rw [if_neg e,List.getD_eq_getElem?_getD,List.getD_eq_getElem?_getD,List.getElem?_append_left (by omega)]
def Xs (l:List POp) (z:ByteArray):Bool:=(List.range l.length).any fun j=>decide ((Zl l j).text=z)
def Wj (l:List POp) (z:ByteArray):Nat→Int×Nat
 |0=>(6,1)
 |k+1=>if Xs l (z.extract 0 (k+1)) then (3,k+1) else Wj l z k
def Ux (l:List POp) (z:ByteArray):Int×Nat:=
 if XV (Ze z 0) then (1,1+run XV z 1) else if UE (Ze z 0) then (2,1+run Z9 z 1) else if Ze z 0=40 then (4,1) else if Ze z 0=41 then (5,1) else Wj l z (if z.size<16 then z.size else 16)
theorem Xp {z:ByteArray} {i e j:Nat} (he:e≤z.size) (hj:i+j<e):Ze (z.extract i e) j=Ze z (i+j):=by
 unfold Ze
 have h1:j<(z.extract i e).size:=by rw [ByteArray.size_extract];omega
 rw [dif_pos h1,dif_pos (show i+j<z.size by omega)]
 rw [ByteArray.getElem_extract]
theorem Vx (z:ByteArray) (i k:Nat) (h:i+k≤z.size):(z.extract i z.size).extract 0 k=z.extract i (i+k):=by
 rw [ByteArray.extract_extract]
 congr 1
 omega
theorem Wo {z:ByteArray} {i n:Nat} (h:i+n≤z.size):(z.extract i (i+n)).size=n:=by rw [ByteArray.size_extract];omega
theorem QS (p:Int→Bool) (z:ByteArray) (i:Nat) (j:Nat):run p (z.extract i z.size) j=run p z (i+j):=by
 by_cases h:i+j<z.size
 ·have h1:j<(z.extract i z.size).size:=by rw [ByteArray.size_extract];omega
  have e:=Xp (z:=z) (i:=i) (e:=z.size) (j:=j) (by omega) h
  cases hp:p (Ze z (i+j))
  ·rw [VW h1 (by rw [e];exact hp),VW h hp]
  ·rw [Wv h1 (by rw [e];exact hp),Wv h hp,QS p z i (j+1)];rfl
 ·rw [VC (by rw [ByteArray.size_extract];omega),VC (by omega)]
termination_by z.size-(i+j)
theorem GZ (p:Int→Bool) (z:ByteArray) (j:Nat) (k:Nat) (h:k<run p z j):p (Ze z (j+k))=true:=by
 by_cases h1:j<z.size
 ·cases hp:p (Ze z j)
  ·rw [VW h1 hp] at h;omega
  ·cases k with
   |zero=>exact hp
   |succ k=>
    rw [Wv h1 hp] at h
    have:=GZ p z (j+1) k (by omega)
    rw [show j+(k+1)=j+1+k by omega];exact this
 ·rw [VC (by omega)] at h;omega
termination_by z.size-j
theorem Zew (p:Int→Bool) (z:ByteArray) (j:Nat) (h:j+run p z j<z.size):p (Ze z (j+run p z j))=false:=by
 have h1:j<z.size:=by omega
 cases hp:p (Ze z j)
 ·rw [VW h1 hp];exact hp
 ·rw [Wv h1 hp] at h ⊢
  have:=Zew p z (j+1) (by omega)
  rw [show j+(1+run p z (j+1))=j+1+run p z (j+1) by omega];exact this
termination_by z.size-j
theorem Zey {p q:Int→Bool} (hpq:∀ c,p c=true→q c=true) (z:ByteArray) (j:Nat):run p z j≤run q z j:=by
 by_cases h1:j<z.size
 ·cases hp:p (Ze z j)
  ·rw [VW h1 hp];omega
  ·rw [Wv h1 hp,Wv h1 (hpq _ hp)]
   have:=Zey hpq z (j+1)
   omega
 ·rw [VC (by omega)];omega
termination_by z.size-j
theorem Zgm:(List.range 256).all (fun n=>!UZ n||!(XV n||UE n||(n:Int)==40||(n:Int)==41))=true:=by kernel_rfl
theorem Zfb:(List.range 256).all (fun n=>!XV n||!(UE n||(n:Int)==40||(n:Int)==41))=true:=by kernel_rfl
theorem Zdw:(List.range 256).all (fun n=>!UE n||!((n:Int)==40||(n:Int)==41))=true:=by kernel_rfl
theorem ZaL {f:Int→Bool} (h:(List.range 256).all (fun n=>f n)=true) {c:Int} (hc:0≤c∧c<256):f c=true:=by
 obtain ⟨n,rfl⟩:∃ n:Nat,c=n:=⟨c.toNat,by omega⟩
 exact List.all_eq_true.1 h n (List.mem_range.2 (by omega))
theorem G5 {c:Int} (hc:0≤c∧c<256) (h:XV c=true∨UE c=true∨c=40∨c=41):UZ c=false:=by
 have:=ZaL (f:=fun n=>!UZ n||!(XV n||UE n||n==40||n==41)) Zgm hc
 simp at this
 rcases h with h|h|rfl|rfl<;>simp_all
theorem ZlP {c:Int} (hc:0≤c∧c<256) (h:XV c=true):UE c=false∧c≠40∧c≠41:=by
 have:=ZaL (f:=fun n=>!XV n||!(UE n||n==40||n==41)) Zfb hc
 simp [h] at this
 exact ⟨this.1.1,this.1.2,this.2⟩
theorem ZlO {c:Int} (hc:0≤c∧c<256) (h:UE c=true):c≠40∧c≠41:=by
 have:=ZaL (f:=fun n=>!UE n||!(n==40||n==41)) Zdw hc
 simp [h] at this
 exact this
theorem ZhE {s:ByteArray} (h0:0<s.size) (h:XV (Ze s 0)=false):Vq s=false:=by
 unfold Vq;rw [VA h0 h];rfl
theorem ZhF {s:ByteArray} (h0:0<s.size) (h:UE (Ze s 0)=false):Qo s=false:=by
 unfold Qo;rw [VA h0 (by simp [Wl,h])];rfl
theorem Hh {s:ByteArray} {b:UInt8} (h:Ze s 0≠b.toNat):s≠⟨#[b]⟩:=by
 rintro rfl
 exact h rfl
theorem ZfJ {s:ByteArray} {b:UInt8} (h1:s.size=1) (h:Ze s 0=b.toNat):s=⟨#[b]⟩:=by
 obtain ⟨⟨l⟩⟩:=s
 match l,h1 with
 |[x],_=>
  have h2:((x.toNat:Nat):Int)=b.toNat:=h
  have h3:x=b:=UInt8.toNat_inj.1 (by omega)
  rw [h3]
theorem Zcz {l:List POp} (hok:Wc l=true) (s:ByteArray):Gt l s=Xs l s:=by
 have hop:∀ j,j<l.length→Xx (Zl l j)=true:=by simpa [Wc] using hok
 rw [Bool.eq_iff_iff]
 simp only [Gt,Z5,Xs,Bool.or_eq_true,List.any_eq_true,List.mem_range,Bool.and_eq_true,decide_eq_true_eq]
 constructor
 ·rintro ((⟨j,h1,h2,_⟩|⟨j,h1,h2,_⟩)|⟨j,h1,h2,_⟩)<;>exact ⟨j,h1,h2⟩
 ·rintro ⟨j,h1,h2⟩
  have hk:(Zl l j).kind=1∨(Zl l j).kind=2∨(Zl l j).kind=3:=by
   have:=hop j h1
   simp [Xx] at this
   omega
  rcases hk with h|h|h
  ·exact .inl (.inl ⟨j,h1,h2,h⟩)
  ·exact .inl (.inr ⟨j,h1,h2,h⟩)
  ·exact .inr ⟨j,h1,h2,h⟩
theorem K0 {l:List POp} (hok:Wc l=true) {s:ByteArray} (h0:0<s.size) (h:UZ (Ze s 0)=false):Xs l s=false:=by
 have hop:∀ j,j<l.length→Xx (Zl l j)=true:=by simpa [Wc] using hok
 simp only [Xs,List.any_eq_false,List.mem_range,decide_eq_true_eq]
 rintro j hj rfl
 have:=hop j hj
 simp only [Xx,Hs,Zci,Bool.and_eq_true,List.all_eq_true,List.mem_range] at this
 have:=this.1.1.1 0 h0
 rw [h] at this
 cases this
theorem Zc8 {l:List POp} (hok:Wc l=true) {s:ByteArray} (h0:s.size=0):Xs l s=false:=by
 have hop:∀ j,j<l.length→Xx (Zl l j)=true:=by simpa [Wc] using hok
 simp only [Xs,List.any_eq_false,List.mem_range,decide_eq_true_eq]
 rintro j hj rfl
 have:=hop j hj
 simp only [Xx,Hs,Bool.and_eq_true,decide_eq_true_eq] at this
 omega
theorem ZaX {l:List POp} {z:ByteArray} {i m:Nat} (h1:1≤m) (hm:m=1∨XZ l (z.extract i (i+m))≠6):∀ N,m≤N→(∀ n,m<n→n≤N→XZ l (z.extract i (i+n))=6)→Wm l z i N=m
 |0,h,_=>by omega
 |N+1,h,h2=>by
  unfold Wm
  by_cases e:m=N+1
  ·subst e
   split
   ·omega
   ·rename_i hN
    rw [if_pos (hm.resolve_left (by omega))]
  ·rw [if_neg (by omega),if_neg (by rw [h2 (N+1) (by omega) (by omega)];simp)]
   exact ZaX h1 hm N (by omega) fun n a b=>h2 n a (by omega)
theorem JN {l:List POp} {s:ByteArray}:∀ K,(∀ k,k≤K→Xs l (s.extract 0 k)=false)→Wj l s K=(6,1)
 |0,_=>rfl
 |K+1,h=>by
  unfold Wj
  rw [if_neg (by rw [h (K+1) (by omega)];simp)]
  exact JN K fun k hk=>h k (by omega)
theorem JO {l:List POp} {z:ByteArray} {i:Nat} (hk:∀ n,1≤n→i+n≤z.size→XZ l (z.extract i (i+n))=if Xs l (z.extract i (i+n)) then 3 else 6):∀ N,i+(N+1)≤z.size→Wj l (z.extract i z.size) (N+1)=(XZ l (z.extract i (i+Wm l z i (N+1))),Wm l z i (N+1))
 |0,h=>by
  have e:Wm l z i (0+1)=1:=by simp [Wm]
  rw [e,hk 1 (by omega) (by omega)]
  simp only [Wj,Vx z i (0+1) (by omega)]
  cases Xs l (z.extract i (i+(0+1)))<;>rfl
 |N+1,h=>by
  have ih:=JO hk N (by omega)
  have h1:=hk (N+1+1) (by omega) (by omega)
  unfold Wj
  rw [Vx z i (N+1+1) (by omega)]
  cases ht:Xs l (z.extract i (i+(N+1+1)))
  ·rw [ht] at h1
   have e:Wm l z i (N+1+1)=Wm l z i (N+1):=by
    conv=>lhs;unfold Wm
    rw [if_neg (by omega),if_neg (by rw [h1];simp)]
   rw [e,←ih];rfl
  ·rw [ht] at h1
   have e:Wm l z i (N+1+1)=N+1+1:=by
    conv=>lhs;unfold Wm
    rw [if_neg (by omega),if_pos (by rw [h1];decide)]
   rw [e,h1];rfl
theorem ZkL (l:List POp) (hok:Wc l=true) (z:ByteArray) (i:Nat) (hi:i<z.size):Ux l (z.extract i z.size)=(XZ l (z.extract i (i+ZL l z i)),ZL l z i):=by
 have hr:=Hi z i
 have e0:Ze (z.extract i z.size) 0=Ze z i:=Xp (by omega) (by omega)
 have b0:∀ n,1≤n→i+n≤z.size→Ze (z.extract i (i+n)) 0=Ze z i:=fun n h1 h2=>Xp (by omega) (by omega)
 have hs:(z.extract i z.size).size=z.size-i:=by rw [ByteArray.size_extract];omega
 unfold Ux
 rw [e0,QS,QS,hs]
 cases hd:XV (Ze z i) with
 |true=>
  obtain ⟨a1,a2,a3⟩:=ZlP hr hd
  have a4:=G5 hr (.inl hd)
  have hN:YW z i=1+run Z9 z (i+1):=by simp [YW,a4,Z9,hd]
  have hle:=Zey (p:=XV) (q:=Z9) (fun c h=>by simp [Z9,h]) z (i+1)
  have hrl:=U5 z i hi
  have kd:∀ n,1≤n→i+n≤z.size→XZ l (z.extract i (i+n))=if Vq (z.extract i (i+n)) then 1 else 6:=by
   intro n h1 h2
   have hsz:=Wo h2
   have q1:Qo (z.extract i (i+n))=false:=ZhF (by omega) (by rw [b0 n h1 h2];exact a1)
   have q2:z.extract i (i+n)≠⟨#[40]⟩:=Hh (by rw [b0 n h1 h2];exact a2)
   have q3:z.extract i (i+n)≠⟨#[41]⟩:=Hh (by rw [b0 n h1 h2];exact a3)
   have q4:Gt l (z.extract i (i+n))=false:=by rw [Zcz hok];exact K0 hok (by omega) (by rw [b0 n h1 h2];exact a4)
   simp only [XZ,q1,q4,if_neg q2,if_neg q3]
   rfl
  have hlong:ZL l z i=1+run XV z (i+1):=by
   unfold ZL
   have hnum:XZ l (z.extract i (i+(1+run XV z (i+1))))=1:=by
    rw [kd _ (by omega) (by omega),if_pos]
    have hsz:=Wo (z:=z) (i:=i) (n:=1+run XV z (i+1)) (by omega)
    simp only [Vq,Bool.and_eq_true,decide_eq_true_eq]
    refine ⟨Qh fun j hj=>?_,by omega⟩
    rw [hsz] at hj
    rw [Xp (by omega) (by omega)]
    cases j with
    |zero=>exact hd
    |succ j=>
     have:=GZ XV z (i+1) j (by omega)
     rw [show i+(j+1)=i+1+j by omega];exact this
   refine ZaX (by omega) (.inr (by rw [hnum];decide)) _ (by omega) fun n h1 h2=>?_
   rw [kd n (by omega) (by omega),if_neg]
   have hst:=Zew XV z (i+1) (by omega)
   have hsz:=Wo (z:=z) (i:=i) (n:=n) (by omega)
   unfold Vq
   rw [VA (i:=1+run XV z (i+1)) (by omega) (by rw [Xp (by omega) (by omega),show i+(1+run XV z (i+1))=i+1+run XV z (i+1) by omega];exact hst)]
   simp
  rw [if_pos rfl,hlong]
  refine Prod.ext ?_ rfl
  rw [kd _ (by omega) (by omega),if_pos]
  have hsz:=Wo (z:=z) (i:=i) (n:=1+run XV z (i+1)) (by omega)
  simp only [Vq,Bool.and_eq_true,decide_eq_true_eq]
  refine ⟨Qh fun j hj=>?_,by omega⟩
  rw [hsz] at hj
  rw [Xp (by omega) (by omega)]
  cases j with
  |zero=>exact hd
  |succ j=>
   have:=GZ XV z (i+1) j (by omega)
   rw [show i+(j+1)=i+1+j by omega];exact this
 |false=>
  rw [if_neg (by simp)]
  cases hl:UE (Ze z i) with
  |true=>
   obtain ⟨a2,a3⟩:=ZlO hr hl
   have a4:=G5 hr (.inr (.inl hl))
   have hN:YW z i=1+run Z9 z (i+1):=by simp [YW,a4,Z9,hl]
   have hrl:=U5 z i hi
   have hk:XZ l (z.extract i (i+(1+run Z9 z (i+1))))=2:=by
    have hsz:=Wo (z:=z) (i:=i) (n:=1+run Z9 z (i+1)) (by omega)
    have q1:Vq (z.extract i (i+(1+run Z9 z (i+1))))=false:=ZhE (by omega) (by rw [b0 _ (by omega) (by omega)];exact hd)
    have q2:Qo (z.extract i (i+(1+run Z9 z (i+1))))=true:=by
     simp only [Qo,Bool.and_eq_true,decide_eq_true_eq]
     refine ⟨Qh fun j hj=>?_,by omega⟩
     rw [hsz] at hj
     unfold Wl
     rw [Xp (by omega) (by omega)]
     cases j with
     |zero=>simp [hl]
     |succ j=>
      have:=GZ Z9 z (i+1) j (by omega)
      rw [show i+(j+1)=i+1+j by omega]
      simpa [Z9] using this
    simp only [XZ,q1,q2];rfl
   have hlong:ZL l z i=1+run Z9 z (i+1):=by
    unfold ZL
    rw [hN]
    exact ZaX (by omega) (.inr (by rw [hk];decide)) _ (by omega) fun n h1 h2=>by omega
   rw [if_pos rfl,hlong,hk]
  |false=>
   rw [if_neg (by simp)]
   have kd:∀ n,1≤n→i+n≤z.size→XZ l (z.extract i (i+n))=if z.extract i (i+n)=⟨#[40]⟩ then 4 else if z.extract i (i+n)=⟨#[41]⟩ then 5 else if Xs l (z.extract i (i+n)) then 3 else 6:=by
    intro n h1 h2
    have hsz:=Wo h2
    have q1:Vq (z.extract i (i+n))=false:=ZhE (by omega) (by rw [b0 n h1 h2];exact hd)
    have q2:Qo (z.extract i (i+n))=false:=ZhF (by omega) (by rw [b0 n h1 h2];exact hl)
    simp only [XZ,q1,q2,Zcz hok]
    rfl
   have reach1:UZ (Ze z i)=false→YW z i=1:=fun h=>by simp [YW,h,Z9,hd,hl]
   have long1:UZ (Ze z i)=false→ZL l z i=1:=fun h=>by rw [ZL,reach1 h];simp [Wm]
   by_cases h40:Ze z i=40
   ·rw [if_pos h40,long1 (G5 hr (.inr (.inr (.inl h40)))),kd 1 (by omega) (by omega),if_pos (ZfJ (Wo (by omega)) (by rw [b0 1 (by omega) (by omega)];exact h40))]
   ·rw [if_neg h40]
    by_cases h41:Ze z i=41
    ·rw [if_pos h41,long1 (G5 hr (.inr (.inr (.inr h41)))),kd 1 (by omega) (by omega),if_neg (Hh (by rw [b0 1 (by omega) (by omega)];exact h40)),if_pos (ZfJ (Wo (by omega)) (by rw [b0 1 (by omega) (by omega)];exact h41))]
    ·rw [if_neg h41]
     have kd':∀ n,1≤n→i+n≤z.size→XZ l (z.extract i (i+n))=if Xs l (z.extract i (i+n)) then 3 else 6:=by
      intro n h1 h2
      rw [kd n h1 h2,if_neg (Hh (by rw [b0 n h1 h2];exact h40)),if_neg (Hh (by rw [b0 n h1 h2];exact h41))]
     cases hsg:UZ (Ze z i) with
     |true=>
      have hN:YW z i=if z.size-i<16 then z.size-i else 16:=by simp [YW,hsg]
      have hrl:=U5 z i hi
      unfold ZL
      rw [←hN]
      obtain ⟨N,hN2⟩:∃ N,YW z i=N+1:=⟨YW z i-1,by omega⟩
      rw [hN2]
      exact JO kd' N (by omega)
     |false=>
      rw [long1 hsg,kd' 1 (by omega) (by omega),K0 hok (by rw [Wo (by omega)];omega) (by rw [b0 1 (by omega) (by omega)];exact hsg)]
      refine JN _ fun k hk=>?_
      have hk2:k≤z.size-i:=by split at hk<;>omega
      rw [Vx z i k (by omega)]
      cases k with
      |zero=>exact Zc8 hok (by rw [Wo (by omega)])
      |succ k=>exact K0 hok (by rw [Wo (by omega)];omega) (by rw [b0 _ (by omega) (by omega)];exact hsg)
open Go.Maps (Keyed)
def GU (l:List POp) (i:Nat) (es:List (Value×Value)):Prop:=(∀ j,j<i→(mget es (Wp (Zl l j))).isSome=true)∧∀ x v,mget es x=some v→∃ j,j<i∧x=Wp (Zl l j)∧v=opV (Zl l j)
def Jq (l:List POp) (i:Nat) (es:List (Value×Value)):Prop:=(∀ j,j<i→(mget es (.string (Zl l j).text)).isSome=true)∧∀ x v,mget es x=some v→(∃ j,j<i∧x=.string (Zl l j).text)∧∃ n,v=.int .i64 n
theorem Zjg {l:List POp} {i:Nat} {es:List (Value×Value)} (h:GU l i es):GU l (i+1) (mput es (Wp (Zl l i)) (opV (Zl l i))):=by
 refine ⟨fun j hj=>?_,fun x v hv=>?_⟩
 ·rw [Yi]
  split
  ·rfl
  ·rename_i hne
   rcases Nat.lt_succ_iff_lt_or_eq.mp hj with hj|rfl
   ·exact h.1 j hj
   ·exact absurd rfl hne
 ·rw [Yi] at hv
  split at hv
  ·rename_i e
   cases hv
   exact ⟨i,by omega,e.symm,rfl⟩
  ·obtain ⟨j,hj,e⟩:=h.2 x v hv
   exact ⟨j,by omega,e⟩
theorem Zem {l:List POp} {i:Nat} {es:List (Value×Value)} (h:Jq l i es) (n:Int):Jq l (i+1) (mput es (.string (Zl l i).text) (.int .i64 n)):=by
 refine ⟨fun j hj=>?_,fun x v hv=>?_⟩
 ·rw [Yi]
  split
  ·rfl
  ·rename_i hne
   rcases Nat.lt_succ_iff_lt_or_eq.mp hj with hj|rfl
   ·exact h.1 j hj
   ·exact absurd rfl hne
 ·rw [Yi] at hv
  split at hv
  ·rename_i e
   cases hv
   exact ⟨⟨i,by omega,e.symm⟩,n,rfl⟩
  ·obtain ⟨⟨j,hj,e⟩,m⟩:=h.2 x v hv
   exact ⟨⟨j,by omega,e⟩,m⟩
theorem HT (l:List POp) (hl:l.length≤9223372036854775807) (hw:XD l):VProc Tryz.prog 107 [.agg [.sl 4 l.length (Za l)]] [] [] (fun av mem maps=>∃ b1 b2 e1 e2,av=.agg [.lit (.map (some b1)),.lit (.map (some b2))]∧mem=[]∧maps=[(b2,⟨9,e2⟩),(b1,⟨109,e1⟩)]∧b1≠b2∧GU l l.length e1∧Jq l l.length e2):=by
 have cl:∀ (i:Nat) (c:AV),i<l.length→c∈Za l i→Closed c:=fun i c _ h=>Zo l i c h
 refine Zu Tryz.func107 (by kernel_rfl) rfl (by simp [Tryz.ntmps107]) ?_;simp only [Tryz.ntmps107,Tryz.results107];simp [go_sem]
 refine fun b1 b2 hb=>⟨by omega,?_⟩
 have hb':¬b2=b1:=fun e=>hb e.symm
 refine ZN (fun p:Nat×List (Value×Value)×List (Value×Value)=>p.1≤l.length∧GU l p.1 p.2.1∧Jq l p.1 p.2.2) (fun p=>l.length-p.1)
  (fun p=>⟨[(2,.ptr 1 2 0 0),(3,.ptr 2 2 0 0),(10,.sl 4 l.length (Za l)),(11,.lit (.int .i64 l.length)),(12,.lit (.int .i64 p.1))],
   [none,some ⟨164,2,1,fun _=>[.lit (.map none),.lit (.map none)]⟩,some ⟨164,2,1,fun _=>[.lit (.map (some b1)),.lit (.map (some b2))]⟩],[(b2,⟨9,p.2.2⟩),(b1,⟨109,p.2.1⟩)],0⟩) ⟨(0,[],[]),⟨by omega,⟨by simp,by simp [mget]⟩,by simp,by simp [mget]⟩,?_⟩ (fun p hp=>?_)
 ·simp [go_sem]
  exact ⟨fun e=>hb e.symm,cl⟩
 ·obtain ⟨i,e1,e2⟩:=p
  simp only at hp
  simp [go_sem,YF]
  refine ⟨fun h=>⟨h,Zn [5] (.q 0 <| .q 1 <| .q 2 <| .q 4 <| .or 3 (.or 5 (.done) (.nil)) (.nil)) (by kernel_rfl) ?_⟩,fun h=>?_⟩
  ·simp [go_sem]
   refine KX (HS (Zl l i)) ?_ ?_ ?_
   ·simp [go_sem,POp.cells]
   ·simp [go_sem]
   ·simp [go_sem,hb,hb']
    refine Y0 Uv (Q4 (hw i h)) ?_
    simp [go_sem,hb,hb']
    simp only [QV,Zkq]
    refine Yj ZS (YJ (hw i h)) _ VB ?_
    have fin:∀ n:Int,∃ j es1 es2,(j≤l.length∧GU l j es1∧Jq l j es2)∧l.length-j<l.length-i∧(mput e2 (.string (Zl l i).text) (.int .i64 n)=es2∧mput e1 (Wp (Zl l i)) (opV (Zl l i))=es1)∧((∀ (i:Nat) (c:AV),i<l.length→c∈Za l i→Closed c)∧IntKind.i64.wrap ((i:Int)+1)=j):=fun n=>
     ⟨i+1,_,_,⟨by omega,Zjg hp.2.1,Zem hp.2.2 n⟩,by omega,⟨rfl,rfl⟩,cl,Zj (by omega)⟩
    cases hm:mget e2 (.string (Zl l i).text) with
    |none=>
     simp [go_sem,hb,hb']
     refine Y0 ZS (YJ (hw i h)) ?_
     simp [go_sem,hb,hb']
     exact fin _
    |some v=>
     obtain ⟨_,n,rfl⟩:=hp.2.2.2 _ _ hm
     simp [go_sem,hb,hb']
     refine Y0 ZS (YJ (hw i h)) ?_
     simp [go_sem,hb,hb']
     exact fin _
  ·have hi:i=l.length:=by omega
   subst hi
   refine ⟨rfl,[],[],by simp,by simp,by simp [go_sem],by simp [go_sem],by simp [go_sem],?_⟩
   simp [go_sem]
   exact ⟨b1,b2,⟨rfl,rfl⟩,e1,e2,⟨⟨rfl,rfl⟩,rfl,rfl⟩,hb,hp.2⟩
theorem Zgk {l:List POp} {es:List (Value×Value)} (h:Jq l l.length es) (z:ByteArray):(mget es (.string z)).isSome=Xs l z:=by
 cases e:Xs l z with
 |true=>
  simp only [Xs,List.any_eq_true,List.mem_range,decide_eq_true_eq] at e
  obtain ⟨j,hj,rfl⟩:=e
  exact h.1 j hj
 |false=>
  rw [Bool.eq_false_iff]
  intro h1
  obtain ⟨v,hv⟩:=Option.isSome_iff_exists.1 h1
  obtain ⟨⟨j,hj,e2⟩,_⟩:=h.2 _ v hv
  simp only [Xs,List.any_eq_false,List.mem_range,decide_eq_true_eq] at e
  simp only [Value.string.injEq] at e2
  exact e j hj e2.symm
theorem Zl5 (l:List POp) (b1 b2:Nat) (es e1:List (Value×Value)) (h:Jq l l.length es) (hb:¬b1=b2) (z:ByteArray) (hz:0<z.size∧z.size≤1048576):VProc Tryz.prog 137 [.agg [.lit (.map (some b1)),.lit (.map (some b2))],.lit (.string z)] [] [(b2,⟨9,es⟩)] (fun av mem maps=>av=.tup [.lit (.int .i64 (Ux l z).1),.lit (.int .i64 (Ux l z).2)]∧mem=[]∧maps=[(b2,⟨9,es⟩)]):=by
 refine Zu Tryz.func137 (by kernel_rfl) rfl (by simp [Tryz.ntmps137]) ?_;simp only [Tryz.ntmps137,Tryz.results137];simp [go_sem]
 have fin:∀ (t:List (Nat×AV)) (m:List (Option Ob)) (k:Int) (n:Nat),Ux l z=(k,n)→VJ [(b2,⟨9,es⟩)] (fun av mem maps=>av=.tup [.lit (.int .i64 (Ux l z).1),.lit (.int .i64 (Ux l z).2)]∧mem=[]∧maps=[(b2,⟨9,es⟩)]) ⟨t,m,[(b2,⟨9,es⟩)],0⟩ (.tup [.lit (.int .i64 k),.lit (.int .i64 n)]):=by
  intro t m k n h3
  refine ⟨rfl,[],[],by simp,by simp,by simp [go_sem],by simp [go_sem],by simp [go_sem],?_⟩
  simp [go_sem,h3]
 refine ⟨hz.1,Zc (Kv (Ze z 0)) ?_ ?_⟩
 ·simp [go_sem]
 ·simp [go_sem]
  refine ⟨fun e1=>?_,fun e1=>Zc (QE (Ze z 0)) ?_ ?_⟩
  ·refine ZN (fun n:Nat=>1≤n∧n≤z.size∧1+run XV z 1=n+run XV z n) (fun n=>z.size-n) (fun n=>⟨[(1,.lit (.string z)),(6,.lit (.int .i64 n))],[],[(b2,⟨9,es⟩)],0⟩) ⟨1,⟨by omega,by omega,rfl⟩,?_⟩ (fun n hn=>?_)
   ·simp [go_sem]
   ·simp [go_sem]
    refine ⟨fun h1=>⟨h1,Zc (Kv (Ze z n)) ?_ ?_⟩,fun h1=>?_⟩
    ·simp [go_sem]
    ·simp [go_sem]
     refine ⟨fun e=>⟨n+1,⟨by omega,by omega,?_⟩,by omega,Zj (by omega)⟩,fun e=>fin _ _ _ _ ?_⟩
     ·rw [hn.2.2,Wv h1 e];omega
     ·simp only [Ux,e1,if_true,hn.2.2,VW h1 e];rfl
    ·refine fin _ _ _ _ ?_
     simp only [Ux,e1,if_true,hn.2.2,VC (show z.size≤n by omega)];rfl
  ·simp [go_sem]
  ·simp [go_sem]
   refine ⟨fun e2=>?_,fun e2=>⟨fun e3=>fin _ _ _ 1 ?_,fun e3=>⟨fun e4=>fin _ _ _ 1 ?_,fun e4=>?_⟩⟩⟩
   ·refine ZN (fun n:Nat=>1≤n∧n≤z.size∧1+run Z9 z 1=n+run Z9 z n) (fun n=>z.size-n) (fun n=>⟨[(1,.lit (.string z)),(6,.lit (.int .i64 n))],[],[(b2,⟨9,es⟩)],0⟩) ⟨1,⟨by omega,by omega,rfl⟩,?_⟩ (fun n hn=>?_)
    ·simp [go_sem]
    ·simp [go_sem]
     have done_:n<z.size→Z9 (Ze z n)=true→∃ m:Nat,(1≤m∧m≤z.size∧1+run Z9 z 1=m+run Z9 z m)∧z.size-m<z.size-n∧IntKind.i64.wrap ((n:Int)+1)=m:=fun h1 e=>⟨n+1,⟨by omega,by omega,by rw [hn.2.2,Wv h1 e];omega⟩,by omega,Zj (by omega)⟩
     refine ⟨fun h1=>⟨h1,Zc (QE (Ze z n)) ?_ ?_⟩,fun h1=>?_⟩
     ·simp [go_sem]
     ·cases eL:UE (Ze z n) with
      |true=>
       simp [go_sem]
       exact done_ h1 (by simp [Z9,eL])
      |false=>
       simp [go_sem]
       refine ⟨h1,Zc (Kv (Ze z n)) ?_ ?_⟩
       ·simp [go_sem]
       ·simp [go_sem]
        refine ⟨fun e=>done_ h1 (by simp [Z9,e]),fun e=>fin _ _ _ _ ?_⟩
        simp only [Ux,e1,e2,if_true,hn.2.2,VW h1 (show Z9 (Ze z n)=false by simp [Z9,eL,e])];rfl
     ·refine fin _ _ _ _ ?_
      simp only [Ux,e1,e2,if_true,hn.2.2,VC (show z.size≤n by omega)];rfl
   ·simp only [Ux,e1,e2,e3];rfl
   ·simp only [Ux,e1,e2,e3,e4];rfl
   ·have hf:∀ k:Nat,Wj l z (if z.size<16 then z.size else 16)=Wj l z k→Ux l z=Wj l z k:=fun k hk=>by
     simp only [Ux,e1,e2,if_neg e3,if_neg e4,hk];rfl
    refine ZN (fun k:Nat=>k≤z.size∧Wj l z (if z.size<16 then z.size else 16)=Wj l z k) (fun k=>k) (fun k=>⟨[(1,.lit (.string z)),(2,.ptr 0 2 0 0),(8,.lit (.int .i64 k))],[some ⟨164,2,1,fun _=>[.lit (.map (some b1)),.lit (.map (some b2))]⟩],[(b2,⟨9,es⟩)],0⟩) ⟨_,⟨?_,rfl⟩,?_⟩ (fun k hk=>?_)
    ·split<;>omega
    ·simp [go_sem]
     split<;>split<;>omega
    ·simp [go_sem]
     refine ⟨fun h1=>Zn [] (.q 0 <| .q 1 <| .q 2 <| .q 3 <| .q 4 <| .q 5 <| .q 6 <| .q 7 <| .q 8 <| .q 9 <| .q 10 <| .done) (by kernel_rfl) ?_,fun h1=>?_⟩
     ·simp [go_sem]
      refine ⟨hk.1,?_⟩
      refine Yj ZS (YJ (by rw [ByteArray.size_extract];simp only [maxLen];omega)) _ VB ?_
      simp [go_sem,Zgk h]
      obtain ⟨m,rfl⟩:∃ m,k=m+1:=⟨k-1,by omega⟩
      cases ht:Xs l (z.extract 0 (m+1)) with
      |true=>
       simp [go_sem]
       refine fin _ _ 3 (m+1) ?_
       rw [hf _ hk.2]
       simp only [Wj,ht,if_true]
      |false=>
       simp [go_sem]
       refine ⟨m,⟨by omega,?_⟩,by omega,wrap_i64 (by omega)⟩
       rw [hk.2]
       simp only [Wj,ht]
       rfl
     ·subst h1
      refine fin _ _ 6 1 ?_
      rw [hf _ hk.2];rfl
end Go.Proofs.YtadghlfkddkelaaGreatDoor.V
namespace Go.Proofs.YtadghlfkddkelaaGreatDoor.V
open Go.RowKit
theorem Zcd {l:List POp} (h:XM l=0):Wc l=true:=by
 unfold XM at h
 split at h
 ·cases h
 ·split at h
  ·cases h
  ·simp_all
theorem Zn4 (l:List POp) (hl:l.length≤9223372036854775807) (hw:XD l) (z:ByteArray) (hz:z.size≤1048576):VFun Tryz.prog 104 [.agg [.sl 4 l.length (Za l)],.lit (.string z)] (fun av obs=>(WJ l z=false∧av=.tup [.lit (.slice none 0 0),.lit (.bool false)]∧obs=[])∨(WJ l z=true∧av=.tup [.own 0,.lit (.bool true)]∧obs=[⟨127,3,(UD l z).length,Zk (UD l z)⟩])):=by
 have cl:∀ (i:Nat) (c:AV),i<l.length→c∈Za l i→Closed c:=fun i c _ h=>Zo l i c h
 refine Zd Tryz.func104 (by kernel_rfl) rfl (by simp [Tryz.ntmps104]) ?_;simp only [Tryz.ntmps104,Tryz.results104];simp [go_sem]
 refine Zc (Kw l hl hw) ?_ ?_
 ·simp [go_sem]
  exact Zb (by omega) cl
 ·simp [go_sem]
  refine ⟨fun h0=>⟨fun h1=>by simp [WJ];omega,fun h1=>?_⟩,fun h0=>by simp [WJ,h0]⟩
  have hok:WJ l z=true:=by simp [WJ,h0];omega
  have hops:=Zcd h0
  have hz2:z.size≤20000:=by omega
  refine Zx [] (HT l hl hw) (by simp) ?_ ?_ ?_ ?_
  ·simp [go_sem]
   exact cl
  ·simp [go_sem]
  ·simp [go_sem]
  ·rintro av mem maps ⟨b1,b2,e1,e2,rfl,rfl,rfl,hb,hat,htx⟩
   have hb':¬b2=b1:=fun e=>hb e.symm
   simp [go_sem]
   refine ZC (fun p:List PTok×Nat=>p.2≤z.size∧p.1.length≤p.2∧YY l z 0=p.1++YY l z p.2) (fun p=>z.size-p.2) (fun p=>⟨[(1,.lit (.string z)),(6,.ptr 0 2 0 0),(7,.own 1),(8,.lit (.int .i64 p.2))],[some ⟨164,2,1,fun _=>[.lit (.map (some b1)),.lit (.map (some b2))]⟩,some ⟨127,3,p.1.length,Zk p.1⟩],[(b2,⟨9,e2⟩),(b1,⟨109,e1⟩)],0⟩) ⟨([],0),⟨by omega,by simp,by simp⟩,?_⟩ (fun p hp=>?_)
   ·refine ZU [1,2] (by simp) (by simp) (by simp) (by simp) (by simp [go_sem,hb']) ?_ ?_
    ·simp [go_sem]
    ·simp [go_sem]
   ·obtain ⟨toks,f⟩:=p
    obtain ⟨hp1,hp2,hp3⟩:=hp
    simp only at hp1 hp2 hp3
    simp [go_sem]
    refine ZN (fun j:Nat=>f≤j∧j≤z.size∧f+run Xd z f=j+run Xd z j) (fun j=>z.size-j) (fun j=>⟨[(1,.lit (.string z)),(6,.ptr 0 2 0 0),(7,.own 1),(8,.lit (.int .i64 f)),(9,.lit (.int .i64 j))],[some ⟨164,2,1,fun _=>[.lit (.map (some b1)),.lit (.map (some b2))]⟩,some ⟨127,3,toks.length,Zk toks⟩],[(b2,⟨9,e2⟩),(b1,⟨109,e1⟩)],0⟩) ⟨f,⟨by omega,by omega,by omega⟩,?_⟩ (fun j hj=>?_)
    ·simp [go_sem]
     exact ⟨hb',fun i _ c h=>.closed _ (Zm _ i c h)⟩
    ·obtain ⟨hj1,hj2,hj3⟩:=hj
     have tl:∀ (i:Nat),i<toks.length→∀ (c:AV),c∈Zk toks i→Bd 2 c:=fun i _ c h=>.closed _ (Zm _ i c h)
     by_cases hlt:j<z.size
     ·have again:Xd (Ze z j)=true→∃ j_1:Nat,(f≤j_1∧j_1≤z.size∧f+run Xd z f=j_1+run Xd z j_1)∧z.size-j_1<z.size-j∧¬b2=b1∧IntKind.i64.wrap ((j:Int)+1)=j_1∧∀ (i:Nat),i<toks.length→∀ (c:AV),c∈Zk toks i→Bd 2 c:=fun e=>
       ⟨j+1,⟨by omega,by omega,by rw [hj3,Wv hlt e];omega⟩,by omega,hb',Zj (by omega),tl⟩
      cases hbl:Xd (Ze z j) with
      |true=>
       have hc:Ze z j=32∨Ze z j=9∨Ze z j=10:=by
        simpa [Xd,or_assoc] using hbl
       rcases hc with e|e|e
       ·simp [go_sem,hlt,e]
        exact again hbl
       ·simp [go_sem,hlt,e]
        exact again hbl
       ·simp [go_sem,hlt,e]
        exact again hbl
      |false=>
       have hc:(Ze z j==32)=false∧(Ze z j==9)=false∧(Ze z j==10)=false:=by
        simp only [Xd,decide_eq_false_iff_not,not_or] at hbl
        simp [hbl]
       have hj4:j=f+run Xd z f:=by rw [hj3,VW hlt hbl];rfl
       simp [go_sem,hlt,hc]
       refine Zn [4] (.q 0 <| .q 1 <| .q 2 <| .q 3 <| .or 4 (.q 5 <| .q 6 <| .q 7 <| .q 8 <| .q 9 <| .done) (.nil)) (by kernel_rfl) ?_
       simp [go_sem,hlt,hc]
       have hfr:=ZkL l hops z j hlt
       have hle:=Ur l z j hlt
       have hge:=Vv l z j
       refine ⟨by omega,Zx [] (Zl5 l b1 b2 e2 e1 htx hb (z.extract j z.size) (by rw [ByteArray.size_extract];omega)) (by simp) ?_ ?_ ?_ ?_⟩
       ·simp [go_sem]
       ·simp [go_sem]
       ·simp [go_sem]
       ·rintro av mem maps ⟨rfl,rfl,rfl⟩
        rw [hfr]
        simp [go_sem]
        refine Zn [14] (.q 0 <| .q 1 <| .q 2 <| .q 3 <| .q 4 <| .q 5 <| .q 6 <| .q 7 <| .q 8 <| .q 9 <| .q 10 <| .q 11 <| .q 12 <| .or 13 (.or 14 (.q 15 <| .done) (.nil)) (.nil)) (by kernel_rfl) ?_
        simp [go_sem]
        simp only [wrap_i64 (n:=(j:Int)+ZL l z j) (by omega),show ((j:Int)+ZL l z j).toNat=j+ZL l z j by omega]
        have hn:YY l z f=⟨XZ l (z.extract j (j+ZL l z j)),z.extract f j,z.extract j (j+ZL l z j)⟩::YY l z (j+ZL l z j):=Uu hj4 hlt
        refine ⟨by omega,by omega,by omega,by omega,by omega,by omega,toks++[⟨XZ l (z.extract j (j+ZL l z j)),z.extract f j,z.extract j (j+ZL l z j)⟩],j+ZL l z j,⟨by omega,by simp;omega,by rw [hp3,hn];simp⟩,by omega,?_⟩
        refine ZU [0,3] (by simp) (by simp) (by simp) (by simp) (by simp [go_sem,hb']) ?_ ?_
        ·simp [go_sem]
        ·simp [go_sem]
         exact .inl fun i hi=>⟨JB _ _ _ _ _ hi,fun c h=>Zm _ i c h⟩
     ·have hj5:j=z.size:=by omega
      subst hj5
      have hj4:z.size=f+run Xd z f:=by rw [hj3,VC (by omega)];rfl
      simp [go_sem]
      refine ⟨hp1,by omega,by omega,?_,hok⟩
      have e3:UD l z=toks++[⟨7,z.extract f z.size,⟨#[]⟩⟩]:=by
       simp only [UD,hok,if_true,hp3]
       rw [VN hj4 (by omega)]
      rw [e3]
      exact obsSame_one.mpr ⟨⟨127,3,toks.length+1,Zk (toks++[⟨7,z.extract f z.size,⟨#[]⟩⟩])⟩,⟨rfl,rfl,rfl,fun i hi=>⟨JB _ _ _ _ _ hi,rfl⟩⟩,by simp⟩
theorem VFun.adopt {P:Program} {f:FuncId} {args:List AV} {R R':AV→List Ob→Prop} (h:VFun P f args R) (ty sz:Nat) (hsz:0<sz) (g:Nat→List AV)
  (hr:∀ av obs,R av obs→R' av obs∨∃ x,av=.tup [.lit (.slice none 0 0),.lit x]∧obs=[]∧R' (.tup [.own 0,.lit x]) [⟨ty,sz,0,g⟩]):VFun P f args R':=by
 refine ⟨h.1,fun w vs hl hv=>(h.2 w vs hl hv).mono fun e w' ⟨v,e1,gr,hd,av,obs,r,fl,hlit,hm,hrep⟩=>?_⟩
 rcases hr av obs r with r'|⟨x,rfl,rfl,r'⟩
 ·exact ⟨v,e1,gr,hd,av,obs,r',fl,hlit,hm,hrep⟩
 ·refine ⟨v,e1,gr,fun _=>.slice none 0 0,_,_,r',rfl,fun ob ho i hi=>?_,⟨fun k ob hk b hb=>?_,fun k ob hk=>?_,fun k hk=>⟨none,0,0,rfl⟩,fun k k' o o' hk hk' hne=>.inl rfl⟩,?_⟩
  ·simp only [List.mem_singleton] at ho
   subst ho
   simp at hi
  ·simp [Value.ownBlock] at hb
  ·cases k with
   |zero=>
    simp only [List.map_cons,List.map_nil,List.getElem?_cons_zero,Option.some.injEq] at hk
    subst hk
    exact ⟨hsz,[],⟨by simp,.inl ⟨rfl,rfl⟩⟩,fun i hi=>by simp at hi⟩
   |succ k=>simp at hk
  ·cases hrep with
   |tup _ us hl2 hr2=>
    match us,hl2 with
    |[u1,u2],_=>
     have q1:=hr2 0 _ u1 rfl rfl
     have q2:=hr2 1 _ u2 rfl rfl
     cases q1
     cases q2
     refine .tup _ [.slice none 0 0,x] rfl fun j a u ha hu=>?_
     match j with
     |0=>
      simp only [List.getElem?_cons_zero,Option.some.injEq] at ha hu
      subst ha;subst hu
      exact .own (hd:=fun _=>.slice none 0 0) 0 (by simp)
     |1=>
      simp only [List.getElem?_cons_succ,List.getElem?_cons_zero,Option.some.injEq] at ha hu
      subst ha;subst hu
      exact .lit _
     |j+2=>simp at ha
theorem Gr (l:List POp) (z:ByteArray) (f:Nat) (h:f≤z.size):(YY l z f).length+f≤z.size+1:=by
 by_cases hi:f+run Xd z f<z.size
 ·rw [Uu rfl hi]
  have h1:=Vv l z (f+run Xd z f)
  have h2:=Ur l z (f+run Xd z f) hi
  have:=Gr l z (f+run Xd z f+ZL l z (f+run Xd z f)) h2
  simp only [List.length_cons]
  omega
 ·rw [VN rfl hi]
  simp
  omega
termination_by z.size-f
theorem Zfu (L:List PMod) (hok:LoadOk L):VProc Tryz.prog 34 [.sl 2 L.length (Zh L),.sl 3 L.length (ZF (Y8 L))] [] [] (fun av mem maps=>av=.sl 1 L.length (YO (scL L))∧mem=[]∧maps=[]):=
 (ZgV L hok).giveR fun av mem maps h=>by
  obtain ⟨rfl,rfl,rfl⟩:=h
  exact ⟨⟨55,1,L.length,YO (scL L)⟩,L.length,YO (scL L),fun _ _=>rfl,rfl,rfl,Nat.le_refl _,fun i _ c hc=>U4 _ i c hc,.inl ⟨rfl,rfl⟩,rfl,rfl,rfl⟩
def Zmk (L:List PMod) (c:Int) (w:Nat) (av:AV) (mem:List (Option Ob)) (maps:List (Nat×Mp)):Prop:=
 (¬c=0∧av=.tup [.own 0,.lit (.int .i64 c),.lit (.int .i64 w)]∧mem=[some ⟨55,1,0,fun i=>[.own (i+1)]⟩]∧maps=[])∨(c=0∧av=.tup [.sl 1 L.length (YO (scL L)),.lit (.int .i64 0),.lit (.int .i64 0)]∧mem=[]∧maps=[])
theorem W1 {M:List (Nat×Mp)} {t:List (Nat×AV)} {m:List (Option Ob)} {f:Nat→List AV} {L:List PMod} {c:Int} {w:Nat} (hm:m[0]?=some (some ⟨55,1,0,f⟩)) (hc:¬c=0) (h:YE L=(c,w)) (hM:M=[]):VJ [] (Zmk L (YE L).1 (YE L).2) ⟨t,m,M,0⟩ (.tup [.own 0,.lit (.int .i64 c),.lit (.int .i64 w)]):=by
 subst hM
 have hl:0<m.length:=(List.getElem?_eq_some_iff.1 hm).1
 exact uF [0] [some ⟨55,1,0,fun i=>[.own (i+1)]⟩] (he:=by simp;omega) (hm:=by simp [go_sem,hm,WN]) (hR:=.inl ⟨by rw [h];exact hc,by rw [h];simp [go_sem,YX],rfl,rfl⟩)
theorem KM:(∀ L i c,(c∈Zh L i→Closed c)=True)∧(∀ S i c,(c∈YO S i→Closed c)=True)∧(∀ n g i c,(c∈U9 n g i→Closed c)=True):=⟨fun _ _ _=>eq_true (ZI _ _ _),fun _ _ _=>eq_true (U4 _ _ _),fun _ _ _ _=>eq_true (ZiA _ _ _ _)⟩
theorem XR {p:Nat→Bool} {i:Nat} (hb:∀ j,j<i→p j=false) (h:p i=false):∀ j,j<i+1→p j=false:=fun j hj=>by
 by_cases e:j=i
 ·rw [e];exact h
 ·exact hb j (by omega)
theorem Q2 {L:List PMod} {i:Nat} (h1:L.length≤100) (h2:ZZ L.length (U1 L)=some i):YE L=(2,i):=by unfold YE;rw [if_neg (by omega),h2]
theorem ZkE {L:List PMod} {i:Nat} (h1:L.length≤100) (h2:ZZ L.length (U1 L)=none) (h3:ZZ L.length (KB L)=some i):YE L=(3,i):=by unfold YE;rw [if_neg (by omega),h2,h3]
theorem ZkD {L:List PMod} {i:Nat} (h1:L.length≤100) (h2:ZZ L.length (U1 L)=none) (h3:ZZ L.length (KB L)=none) (h4:ZZ L.length (Kd L)=some i):YE L=(4,i):=by unfold YE;rw [if_neg (by omega),h2,h3,h4]
theorem ZkC {L:List PMod} {i:Nat} (h1:L.length≤100) (h2:ZZ L.length (U1 L)=none) (h3:ZZ L.length (KB L)=none) (h4:ZZ L.length (Kd L)=none) (h5:ZZ L.length (ZdV L)=some i):YE L=(5,i):=by unfold YE;rw [if_neg (by omega),h2,h3,h4,h5]
theorem ZkB {L:List PMod} {i:Nat} (h1:L.length≤100) (h2:ZZ L.length (U1 L)=none) (h3:ZZ L.length (KB L)=none) (h4:ZZ L.length (Kd L)=none) (h5:ZZ L.length (ZdV L)=none) (h6:ZZ L.length (ZbA L)=some i):YE L=(6,i):=by unfold YE;rw [if_neg (by omega),h2,h3,h4,h5,h6]
theorem ZkF {L:List PMod} (h1:L.length≤100) (h2:ZZ L.length (U1 L)=none) (h3:ZZ L.length (KB L)=none) (h4:ZZ L.length (Kd L)=none) (h5:ZZ L.length (ZdV L)=none) (h6:ZZ L.length (ZbA L)=none):YE L=(0,0):=by unfold YE;rw [if_neg (by omega),h2,h3,h4,h5,h6]
def Hj (L:List PMod) (i k:Nat):Bool:=((usI L i).take k).any fun u=>u==L.length
theorem ZbB {L:List PMod} {i k:Nat} (hk:k<(usI L i).length):Hj L i (k+1)=(Hj L i k||(usI L i).getD k 0==L.length):=by
 unfold Hj
 rw [List.take_succ_eq_append_getElem hk,List.any_append,List.getD_eq_getElem?_getD,List.getElem?_eq_getElem hk]
 simp
theorem ZbC {L:List PMod} {i:Nat}:Hj L i (usI L i).length=Kd L i:=by unfold Hj Kd;rw [List.take_length]
theorem ZfK {L:List PMod} {i k:Nat} (h:Hj L i k=true):Kd L i=true:=by
 unfold Hj at h
 rw [List.any_eq_true] at h
 obtain ⟨u,hu,e⟩:=h
 unfold Kd
 rw [List.any_eq_true]
 exact ⟨u,List.mem_of_mem_take hu,e⟩
set_option maxRecDepth 100000 in
theorem Zfo (L:List PMod) (hn:L.length≤1048576) (hz:∀ i,(Zq L i).name.size≤1048576∧(Zq L i).text.size≤1048576):VProc Tryz.prog 8 [.sl 2 L.length (Zh L)] [] [] (Zmk L (YE L).1 (YE L).2):=by
 refine Zu Tryz.func8 (by kernel_rfl) rfl (by simp [Tryz.ntmps8]) ?_;simp only [Tryz.ntmps8,Tryz.results8];simp [go_sem]
 refine ⟨by omega,fun hbig=>?_,fun hsm=>?_⟩
 ·exact W1 rfl (by decide) (by unfold YE;rw [if_pos (by omega)]) rfl
 have hsm:L.length≤100:=by omega
 refine ZC (fun i:Nat=>i≤L.length∧∀ j,j<i→U1 L j=false) (fun i=>L.length-i) (fun i=>.of [(0,.sl 2 L.length (Zh L)),(5,.own 0),(6,.lit (.int .i64 L.length)),(7,.lit (.int .i64 i))] [some ⟨55,1,0,fun _=>[]⟩]) ⟨0,⟨by omega,fun j h=>by omega⟩,?_⟩ (fun i hi=>?_)
 ·exact Y6 (by simp [go_sem])
 obtain ⟨hi,hb⟩:=hi
 simp [go_sem,KM]
 refine ⟨fun h=>?_,fun h=>?_⟩
 ·refine ⟨h,?_⟩
  simp [go_sem,ZD]
  refine ZP (Q9 (Zq L i).text (hz i).2) (by simp [go_sem]) ?_
  rintro av obs ⟨rfl,rfl⟩
  simp [go_sem,KM,ZD]
  refine ⟨fun e=>⟨h,Zc (Zbr (Zq L i).name (by have:=(hz i).1;omega)) (by simp [go_sem]) ?_⟩,fun e=>?_⟩
  ·simp [go_sem,KM,ZD]
   have wr:IntKind.i64.wrap ((i:Int)+1)=(i:Int)+1:=wrap_i64 (by omega)
   refine ⟨fun e2=>⟨h,fun e3=>?_,fun e3=>⟨i+1,⟨h,XR hb ?_⟩,by omega,?_⟩⟩,fun e2=>?_⟩
   ·exact W1 rfl (by decide) (Q2 hsm (Ym h (by simp [U1,e2];right;omega) hb)) rfl
   ·simp [U1,e,e2];omega
   ·exact uE [0] (h1:=by simp [go_sem,KM,wr]) (h4:=by simp [go_sem])
   ·exact W1 rfl (by decide) (Q2 hsm (Ym h (by simp [U1,e2]) hb)) rfl
  ·exact W1 rfl (by decide) (Q2 hsm (Ym h (by simp [U1,e]) hb)) rfl
 have hc2:ZZ L.length (U1 L)=none:=Xe fun j hj=>hb j (by omega)
 refine ZC (fun a:Nat=>a≤L.length∧∀ j,j<a→KB L j=false) (fun a=>L.length-a) (fun a=>.of [(0,.sl 2 L.length (Zh L)),(5,.own 0),(6,.lit (.int .i64 L.length)),(11,.lit (.int .i64 a))] [some ⟨55,1,0,fun _=>[]⟩]) ⟨0,⟨by omega,fun j h=>by omega⟩,?_⟩ (fun a ha=>?_)
 ·exact Y6 (by simp [go_sem])
 obtain ⟨ha,hb3⟩:=ha
 simp [go_sem,KM]
 refine ⟨fun h3=>?_,fun h3=>?_⟩
 ·refine ⟨h3,?_⟩
  simp [go_sem,ZD]
  refine Zc (Qd L (Zq L a).name (by omega)) (by simp [go_sem,Qg]) ?_
  simp [go_sem,KM,ZD]
  have hle:Z3 L (Zq L a).name≤a:=by
   by_cases e:Z3 L (Zq L a).name≤a
   ·exact e
   ·exact absurd rfl (Vt (show a<Z3 L (Zq L a).name by omega))
  have hI:=Km (L:=L) (x:=(Zq L a).name) (by omega)
  have wr:IntKind.i64.wrap ((a:Int)+1)=(a:Int)+1:=wrap_i64 (by omega)
  rw [hI]
  refine ⟨fun e=>?_,fun e=>⟨a+1,⟨h3,XR hb3 ?_⟩,by omega,?_⟩⟩
  ·exact W1 rfl (by decide) (ZkE hsm hc2 (Ym h3 (by simp [KB];omega) hb3)) rfl
  ·simp [KB];omega
  ·exact uE [0] (h1:=by simp [go_sem,KM,wr]) (h4:=by simp [go_sem])
 have hc3:ZZ L.length (KB L)=none:=Xe fun j hj=>hb3 j (by omega)
 refine uS [] (Zbo L hn fun i=>(hz i).2) ?_ (ha:=by simp [go_sem,KM])
 rintro av mem' maps' ⟨rfl,rfl,rfl⟩
 simp [go_sem,KM,KU]
 refine ZC (fun b:Nat=>b≤L.length∧∀ j,j<b→Kd L j=false) (fun b=>L.length-b) (fun b=>.of [(0,.sl 2 L.length (Zh L)),(5,.own 0),(6,.lit (.int .i64 L.length)),(12,.sl 3 L.length (ZF (Y8 L))),(13,.lit (.int .i64 b))] [some ⟨55,1,0,fun _=>[]⟩]) ⟨0,⟨by omega,fun j h=>by omega⟩,?_⟩ (fun b hb'=>?_)
 ·exact Y6 (by simp [go_sem])
 obtain ⟨hb1,hb4⟩:=hb'
 simp [go_sem,KM,KU]
 refine ⟨fun h4=>?_,fun h4=>?_⟩
 ·have hU:=QP L h4
  obtain ⟨hl,hua⟩:=Ho (L:=L) h4
  have hul:=Kh L b
  refine ZC (fun k:Nat=>k≤(ZA L b).uses.length∧Hj L b k=false) (fun k=>(ZA L b).uses.length-k) (fun k=>.of [(0,.sl 2 L.length (Zh L)),(5,.own 0),(6,.lit (.int .i64 L.length)),(12,.sl 3 L.length (ZF (Y8 L))),(13,.lit (.int .i64 b)),(14,.lit (.int .i64 k))] [some ⟨55,1,0,fun _=>[]⟩]) ⟨0,⟨by omega,rfl⟩,?_⟩ (fun k hk=>?_)
  ·exact Y6 (by simp [go_sem])
  obtain ⟨hk,hbk⟩:=hk
  simp [go_sem,KM,KU,Y4,hU,Zr]
  refine ⟨h4,by omega,fun hk2=>⟨h4,hk2,?_⟩,fun hk2=>?_⟩
  ·refine Zc (Qd L (Zs (ZA L b).uses k) (by omega)) (by simp [go_sem,Qg]) ?_
   simp [go_sem,KM,KU]
   have hs:=ZbB (L:=L) (i:=b) (k:=k) (by omega)
   have hle:=Ud L (Zs (ZA L b).uses k)
   have wr:IntKind.i64.wrap ((k:Int)+1)=(k:Int)+1:=wrap_i64 (by omega)
   rw [hua k hk2,hbk,Bool.false_or] at hs
   by_cases e4:Z3 L (Zs (ZA L b).uses k)=L.length
   ·have e5:Zkx L (Zs (ZA L b).uses k)=-1:=by unfold Zkx;rw [if_neg (by omega)]
    rw [e5]
    refine ⟨fun _=>?_,fun h=>absurd h (by omega)⟩
    exact W1 rfl (by decide) (ZkD hsm hc2 hc3 (Ym h4 (ZfK (k:=k+1) (by rw [hs,e4];simp)) hb4)) rfl
   ·rw [Km (by omega)]
    refine ⟨fun h=>absurd h (by omega),fun _=>⟨k+1,⟨hk2,by rw [hs];simpa using e4⟩,by omega,?_⟩⟩
    exact uE [0] (h1:=by simp [go_sem,KM,KU,wr]) (h4:=by simp [go_sem])
  ·obtain rfl:k=(ZA L b).uses.length:=by omega
   have wr:IntKind.i64.wrap ((b:Int)+1)=(b:Int)+1:=wrap_i64 (by omega)
   refine ⟨b+1,⟨h4,XR hb4 (by rw [←ZbC,hl];exact hbk)⟩,by omega,?_⟩
   exact uE [0] (h1:=by simp [go_sem,KM,KU,wr]) (h4:=by simp [go_sem])
 have hc4:ZZ L.length (Kd L)=none:=Xe fun j hj=>hb4 j (by omega)
 have hnm:∀ i u,u∈usI L i→u<L.length:=fun i u hu=>by
  by_cases hi:i<L.length
  ·have:=hb4 i (by omega)
   unfold Kd at this
   rw [List.any_eq_false] at this
   have h2:=this u hu
   unfold usI at hu
   rw [if_pos hi,List.mem_map] at hu
   obtain ⟨x,_,rfl⟩:=hu
   have:=Ud L x
   have:¬Z3 L x=L.length:=by simpa using h2
   omega
  ·unfold usI at hu
   rw [if_neg hi] at hu
   simp at hu
 refine uS [] (ZgW L hsm hnm) ?_ (ha:=by simp [go_sem,KM,KU])
 rintro av mem' maps' ⟨rfl,rfl,rfl⟩
 simp [go_sem,KM,KU]
 refine ZC (fun c:Nat=>c≤L.length∧∀ j,j<c→ZdV L j=false) (fun c=>L.length-c) (fun c=>.of [(0,.sl 2 L.length (Zh L)),(5,.own 0),(6,.lit (.int .i64 L.length)),(12,.sl 3 L.length (ZF (Y8 L))),(15,.sl 1 L.length (U9 L.length fun a b=>XL (Xu L) L.length a b)),(16,.lit (.int .i64 c))] [some ⟨55,1,0,fun _=>[]⟩]) ⟨0,⟨by omega,fun j h=>by omega⟩,?_⟩ (fun c hc=>?_)
 ·exact Y6 (by simp [go_sem])
 obtain ⟨hc,hb5⟩:=hc
 simp [go_sem,KM,KU]
 refine ⟨fun h5=>?_,fun h5=>?_⟩
 ·refine ⟨h5,?_⟩
  simp [go_sem,KM,KU,U9,YC]
  have wr:IntKind.i64.wrap ((c:Int)+1)=(c:Int)+1:=wrap_i64 (by omega)
  refine ⟨h5,fun e=>?_,fun e=>⟨c+1,⟨h5,XR hb5 e⟩,by omega,?_⟩⟩
  ·exact W1 rfl (by decide) (ZkC hsm hc2 hc3 hc4 (Ym h5 e hb5)) rfl
  ·exact uE [0] (h1:=by simp [go_sem,KM,KU,wr]) (h4:=by simp [go_sem])
 have hc5:ZZ L.length (ZdV L)=none:=Xe fun j hj=>hb5 j (by omega)
 have hok:LoadOk L:=⟨hsm,hnm,fun j hj=>hb5 j (by omega)⟩
 refine uS [] (Zfu L hok) ?_ (ha:=by simp [go_sem,KM,KU])
 rintro av mem' maps' ⟨rfl,rfl,rfl⟩
 simp [go_sem,KM,KU]
 refine ZC (fun c:Nat=>c≤L.length∧∀ j,j<c→ZbA L j=false) (fun c=>L.length-c) (fun c=>.of [(0,.sl 2 L.length (Zh L)),(5,.own 0),(6,.lit (.int .i64 L.length)),(17,.sl 1 L.length (YO (scL L))),(18,.lit (.int .i64 c))] [some ⟨55,1,0,fun _=>[]⟩]) ⟨0,⟨by omega,fun j h=>by omega⟩,?_⟩ (fun d hd=>?_)
 ·exact Y6 (by simp [go_sem])
 obtain ⟨hd,hb6⟩:=hd
 simp [go_sem,KM,KU]
 refine ⟨fun h6=>?_,fun h6=>?_⟩
 ·refine ⟨h6,?_⟩
  simp [go_sem,KM,KU,YO]
  have wr:IntKind.i64.wrap ((d:Int)+1)=(d:Int)+1:=wrap_i64 (by omega)
  have hsl:(scL L d).length≤2000100:=hok.scl_len _ _ h6
  refine Zc (VG (scL L d) (by omega) (JH hok d h6).1) (by simp [go_sem];exact Zb (by omega) fun i c _ h=>Zo _ i c h) ?_
  simp [go_sem,KM,KU]
  refine ⟨fun e=>?_,fun e=>⟨d+1,⟨h6,XR hb6 ?_⟩,by omega,?_⟩⟩
  ·exact W1 rfl (by decide) (ZkB hsm hc2 hc3 hc4 hc5 (Ym h6 (by simp [ZbA,e]) hb6)) rfl
  ·simp [ZbA,e]
  ·exact uE [0] (h1:=by simp [go_sem,KM,KU,wr]) (h4:=by simp [go_sem])
 ·have hc6:ZZ L.length (ZbA L)=none:=Xe fun j hj=>hb6 j (by omega)
  have hc:=ZkF hsm hc2 hc3 hc4 hc5 hc6
  exact uF [] [] (hq:=by simp [go_sem,KM];exact .inr (.sl _ _ _ fun i c _ h=>U4 _ i c h)) (hR:=.inr ⟨by rw [hc],by simp [go_sem],rfl,rfl⟩)
def Ze0 (L:List PMod):Nat:=if (YE L).1=0 then L.length else 0
theorem ZgT (L:List PMod) (hn:L.length≤1048576) (hz:∀ i,(Zq L i).name.size≤1048576∧(Zq L i).text.size≤1048576):VProc Tryz.prog 8 [.sl 2 L.length (Zh L)] [] []
  (fun av mem maps=>av=.tup [.sl 1 (Ze0 L) (YO (scL L)),.lit (.int .i64 (YE L).1),.lit (.int .i64 (YE L).2)]∧mem=[]∧maps=[]):=
 (Zfo L hn hz).giveRR fun av mem maps h=>by
  have h0:∀ {i w:Nat},(YE L).1=0→(YE L).2=0:=fun hc=>by
   unfold YE at hc ⊢
   split at hc
   ·simp at hc
   ·rename_i hh
    rw [if_neg hh]
    (repeat' split at hc)<;>simp_all
  rcases h with ⟨hc,rfl,rfl,rfl⟩|⟨hc,rfl,rfl,rfl⟩
  ·exact .inr ⟨55,0,fun i=>⟨73,4,(scL L i).length,Za (scL L i)⟩,[.int .i64 (YE L).1,.int .i64 (YE L).2],fun a ha=>absurd ha (Nat.not_lt_zero a),rfl,rfl,.inr ⟨rfl,by unfold Ze0;rw [if_neg hc];exact ⟨rfl,rfl,rfl⟩⟩⟩
  ·exact .inl ⟨by unfold Ze0;rw [if_pos hc,hc,h0 (i:=0) (w:=0) hc];rfl,rfl,rfl⟩
structure PNode where
 text:ByteArray
 kind:Int
 a:Int
 b:Int
def PNode.cells (o:PNode):List AV:=[.lit (.int .i64 o.kind),.lit (.string o.text),.lit (.int .i64 o.a),.lit (.int .i64 o.b)]
def PNode.wf (o:PNode):Prop:=o.text.size≤maxLen
instance:Inhabited PNode:=⟨⟨⟨#[]⟩,0,0,0⟩⟩
def ZE (l:List PNode) (i:Nat):List AV:=(l.getD i default).cells
theorem ZQ (l:List PNode) (i:Nat) (c:AV) (h:c∈ZE l i):Closed c:=by
 simp [ZE,PNode.cells] at h
 rcases h with rfl|rfl|rfl|rfl<;>exact .lit _
theorem Xc (l:List PNode) (i:Nat):(ZE l i).all YL=true:=rfl
def Gl (a b:PNode):Bool:=a.text==b.text&&a.kind==b.kind&&a.a==b.a&&a.b==b.b
theorem Zk4 (a b:PNode):VFun Tryz.prog 109 [.agg a.cells,.agg b.cells] (fun av obs=>obs=[]∧av=.lit (.bool (Gl a b))):=by
 obtain ⟨z,k,l,s⟩:=a
 obtain ⟨z',k',l',s'⟩:=b
 simp only [PNode.cells]
 refine Zd Tryz.func109 (by kernel_rfl) rfl (by simp [Tryz.ntmps109]) ?_;simp only [Tryz.ntmps109,Tryz.results109];simp [go_sem]
 simp only [Gl,XQ,HZ]
 by_cases h1:z=z'<;>by_cases h2:k=k'<;>by_cases h3:l=l'<;>by_cases h4:s=s'<;>simp [h1,h2,h3,h4]
def Zz (l:List PNode) (i:Nat):PNode:=l.getD i default
theorem W0 (l:List PNode) (i:Nat):ZE l i=[.lit (.int .i64 (Zz l i).kind),.lit (.string (Zz l i).text),.lit (.int .i64 (Zz l i).a),.lit (.int .i64 (Zz l i).b)]:=rfl
def Vr (a b:List PNode):Bool:=decide (a.length=b.length)&&(List.range a.length).all fun i=>Gl (Zz a i) (Zz b i)
theorem Zdn {a b:List PNode} {i:Nat} (h:i<a.length) (e:Gl (Zz a i) (Zz b i)=false):Vr a b=false:=by
 simp only [Vr,Bool.and_eq_false_iff,List.all_eq_false,List.mem_range]
 exact .inr ⟨i,h,by rw [e];simp⟩
theorem Gk {a b:List PNode} (hl:a.length=b.length) (h:∀ i,i<a.length→Gl (Zz a i) (Zz b i)=true):Vr a b=true:=by
 simp only [Vr,Bool.and_eq_true,decide_eq_true_eq,List.all_eq_true,List.mem_range]
 exact ⟨hl,h⟩
theorem Zgw (a:PNode):Gl a a=true:=by simp [Gl,HZ]
theorem ZeM (a:List PNode):Vr a a=true:=Gk rfl fun i _=>Zgw _
theorem Zjb (a b:List PNode) (ha:a.length≤9223372036854775807) (hb:b.length≤9223372036854775807):VFun Tryz.prog 76 [.sl 4 a.length (ZE a),.sl 4 b.length (ZE b)] (fun av obs=>obs=[]∧av=.lit (.bool (Vr a b))):=by
 refine Zd Tryz.func76 (by kernel_rfl) rfl (by simp [Tryz.ntmps76]) ?_;simp only [Tryz.ntmps76,Tryz.results76];simp [go_sem]
 refine ⟨by omega,by omega,fun h1=>?_,fun h1=>?_⟩
 ·simp [Vr];omega
 ·refine ZN (fun i:Nat=>i≤a.length∧∀ j,j<i→Gl (Zz a j) (Zz b j)=true) (fun i=>a.length-i) (fun i=>.of [(0,.sl 4 a.length (ZE a)),(1,.sl 4 b.length (ZE b)),(4,.lit (.bool false)),(5,.lit (.int .i64 i))] []) ⟨0,⟨by omega,by simp⟩,?_⟩ (fun i hi=>?_)
  ·simp [go_sem]
   exact ⟨fun i c _ h=>ZQ a i c h,fun i c _ h=>ZQ b i c h⟩
  ·simp [go_sem]
   refine ⟨by omega,fun h=>?_,fun h=>?_⟩
   ·refine Zn [] (.q 0 <| .q 1 <| .q 2 <| .q 3 <| .q 4 <| .q 5 <| .q 6 <| .q 7 <| .or 8 (.q 9 <| .done) (.nil)) (by kernel_rfl) ?_
    simp [go_sem,W0]
    refine ⟨h,by omega,Zv (Zk4 (Zz a i) (Zz b i)) ?_ ?_⟩
    ·simp [go_sem,PNode.cells]
    ·simp [go_sem]
     refine ⟨fun e=>Zdn h e,fun e=>⟨i+1,⟨by omega,fun j hj=>?_⟩,by omega,⟨fun i c _ h=>ZQ a i c h,fun i c _ h=>ZQ b i c h,Zj (by omega)⟩⟩⟩
     rcases Nat.lt_succ_iff_lt_or_eq.mp hj with hj|rfl
     ·exact hi.2 j hj
     ·exact e
   ·exact Gk (by omega) fun j hj=>hi.2 j (by omega)
theorem ZfF (a b:List PNode) (ha:a.length≤9223372036854775807) (hb:b.length≤9223372036854775807):VFun Tryz.prog 47 [.agg [.sl 4 a.length (ZE a)],.agg [.sl 4 b.length (ZE b)]] (fun av obs=>obs=[]∧av=.lit (.bool (Vr a b))):=by
 refine Zd Tryz.func47 (by kernel_rfl) rfl (by simp [Tryz.ntmps47]) ?_;simp only [Tryz.ntmps47,Tryz.results47];simp [go_sem]
 refine Zc (Zjb a b ha hb) ?_ ?_
 ·simp [go_sem]
  exact ⟨Zb (by omega) fun i c _ h=>ZQ a i c h,Zb (by omega) fun i c _ h=>ZQ b i c h⟩
 ·simp [go_sem]
def ZhH (k i:Nat):PNode:=⟨ZaM (k+4*i+1),(k+4*i:Nat),(k+4*i+2:Nat),(k+4*i+3:Nat)⟩
def Ys (k i:Nat):List AV:=(ZhH k i).cells
def Vu (l:List PNode) (k i j:Nat):List AV:=if j<i then Ys k j else ZE l j
theorem Zdo (l:List PNode) (k i j m:Nat):∀ c,c∈Vu l k i j→Bd m c:=by
 intro c h
 unfold Vu at h
 split at h
 ·simp [Ys,PNode.cells] at h
  rcases h with rfl|rfl|rfl|rfl<;>exact .closed _ (.lit _)
 ·exact .closed _ (ZQ l j c h)
theorem Zft (l:List PNode) (k:Nat) (hl:l.length≤1048576) (hk:0<k∧k≤1000000000):VProc Tryz.prog 48 [.own 0,.lit (.int .i64 k)] [some ⟨137,4,l.length,ZE l⟩] [] (fun av mem maps=>av=.lit (.int .i64 (k+4*l.length:Nat))∧mem=[some ⟨137,4,l.length,Ys k⟩]∧maps=[]):=by
 refine Zu Tryz.func48 (by kernel_rfl) rfl (by simp [Tryz.ntmps48]) ?_;simp only [Tryz.ntmps48,Tryz.results48];simp [go_sem]
 refine ZN (fun i:Nat=>i≤l.length) (fun i=>l.length-i) (fun i=>⟨[(0,.own 0),(1,.lit (.int .i64 (k+4*i:Nat))),(5,.lit (.int .i64 i))],[some ⟨137,4,l.length,Vu l k i⟩],[],1⟩) ⟨0,by omega,?_⟩ (fun i hi=>?_)
 ·simp [go_sem,Vu]
  exact fun i h c hc=>.closed _ (ZQ l i c hc)
 ·simp [go_sem]
  refine ⟨by omega,fun h=>⟨h,Zc (QB (k+4*i+1) (by omega)) ?_ ?_⟩,fun h=>?_⟩
  ·simp [go_sem]
   exact wrap_i64 (by omega)
  ·simp [go_sem]
   simp only [wrap_i64 (n:=(k:Int)+4*i+1) (by omega),wrap_i64 (n:=(k:Int)+4*i+1+1) (by omega),wrap_i64 (n:=(k:Int)+4*i+1+1+1) (by omega),wrap_i64 (n:=(k:Int)+4*i+1+1+1+1) (by omega)]
   refine ⟨h,i+1,by omega,by omega,⟨by omega,Zj (by omega)⟩,fun j hj=>⟨?_,Zdo _ _ _ _ _⟩⟩
   simp only [WO h hj,WO h h,if_true]
   by_cases hji:j=i
   ·subst hji
    simp only [if_true,Vu,Nat.lt_irrefl,if_false,Nat.lt_succ_self]
    simp [W0,Y5,Ys,ZhH,PNode.cells,Nat.add_assoc]
    omega
   ·simp only [if_neg hji,Vu]
    by_cases h2:j<i
    ·rw [if_pos h2,if_pos (by omega)]
    ·rw [if_neg h2,if_neg (by omega)]
  ·have:i=l.length:=by omega
   subst this
   refine ⟨rfl,[],[some ⟨137,4,l.length,Ys k⟩],by simp,by simp,by simp [go_sem],?_,by simp [go_sem],?_⟩
   ·simp [go_sem]
    exact Wr (fun i hi=>by simp only [Vu,if_pos hi]) (fun i _=>rfl)
   ·simp [go_sem]
@[go_sem] theorem markNCells_ren {g:Nat→Nat} {k i:Nat}:(Ys k i).map (Ww g)=Ys k i:=Qa rfl
@[go_sem] theorem nodCells_ren {g:Nat→Nat} {l:List PNode} {i:Nat}:(ZE l i).map (Ww g)=ZE l i:=Qa rfl
theorem Gn (k i:Nat) (c:AV) (h:c∈Ys k i):Closed c:=by
 simp [Ys,PNode.cells] at h
 rcases h with rfl|rfl|rfl|rfl<;>exact .lit _
theorem VE (k i:Nat):Ys k i=[.lit (.int .i64 (k+4*i:Nat)),.lit (.string (ZaM (k+4*i+1))),.lit (.int .i64 (k+4*i+2:Nat)),.lit (.int .i64 (k+4*i+3:Nat))]:=rfl
theorem ZfE (n k:Nat) (hl:n≤1048576) (hk:0<k∧k≤1000000000):VFun Tryz.prog 49 [.sl 4 n (Ys k),.lit (.int .i64 k)] (fun av obs=>obs=[]∧av=.lit (.int .i64 (k+4*n:Nat))):=by
 have cl:∀ (i:Nat) (c:AV),i<n→c∈Ys k i→Closed c:=fun i c _ h=>Gn k i c h
 refine Zd Tryz.func49 (by kernel_rfl) rfl (by simp [Tryz.ntmps49]) ?_;simp only [Tryz.ntmps49,Tryz.results49];simp [go_sem]
 refine ZN (fun i:Nat=>i≤n) (fun i=>n-i) (fun i=>.of [(0,.sl 4 n (Ys k)),(1,.lit (.int .i64 (k+4*i:Nat))),(5,.lit (.int .i64 i))] []) ⟨0,by omega,?_⟩ (fun i hi=>?_)
 ·simp [go_sem]
  exact cl
 ·simp [go_sem,VE]
  have e1:=wrap_i64 (n:=(k:Int)+4*i+1) (by omega)
  refine ⟨by omega,fun h=>⟨h,?_⟩,fun h=>?_⟩
  ·refine Zn [] (.q 0 <| .q 1 <| .q 2 <| .q 3 <| .q 4 <| .q 5 <| .or 6 (.q 7 <| .done) (.nil)) (by kernel_rfl) ?_
   simp [go_sem,VE]
   refine ⟨h,Zv (QB (k+4*i+1) (by omega)) ?_ ?_⟩
   ·simp [go_sem]
    exact e1
   ·simp [go_sem,VE]
    have e2:=wrap_i64 (n:=(k:Int)+4*i+1+1) (by omega)
    have e3:=wrap_i64 (n:=(k:Int)+4*i+1+1+1) (by omega)
    have e4:=wrap_i64 (n:=(k:Int)+4*i+1+1+1+1) (by omega)
    simp only [e1,e2,e3,e4]
    refine ⟨h,fun h1=>by omega,fun _=>⟨h,fun h1=>by omega,fun _=>⟨i+1,by omega,by omega,fun i c hi hc=>cl i c hi (by simp only [VE];simpa using hc),by omega,Zj (by omega)⟩⟩⟩
  ·omega
theorem Zfr (z:ByteArray) (hz:z.size≤9223372036854775807):VFun Tryz.prog 66 [.lit (.string z)] (fun av obs=>obs=[]∧av=.lit (.bool (Qo z))):=by
 refine Zd Tryz.func66 (by kernel_rfl) rfl (by simp [Tryz.ntmps66]) ?_;simp only [Tryz.ntmps66,Tryz.results66];simp [go_sem]
 have emp:z.toList=[]→Qo z=false:=fun h=>by simp [Qo,ba_nil.mp h]
 refine ⟨fun h0=>⟨by have:=mt ba_nil.mpr h0;omega,Zc (QE (Ze z 0)) ?_ ?_⟩,emp⟩
 ·simp [go_sem]
 ·have hp:0<z.size:=by have:=mt ba_nil.mpr h0;omega
  simp [go_sem]
  refine ⟨fun e=>by simp only [Qo,VA (p:=fun i=>Wl z i) hp (by simp [Wl,e]),Bool.false_and],fun e=>?_⟩
  refine ZN (fun i:Nat=>i≤z.size∧∀ j,j<i→Wl z j=true) (fun i=>z.size-i) (fun i=>.of [(0,.lit (.string z)),(13,.lit (.int .i64 z.size)),(14,.lit (.int .i64 i))] []) ⟨0,⟨by omega,by simp⟩,?_⟩ (fun i hi=>?_)
  ·simp [go_sem]
  ·simp [go_sem]
   have bad:i<z.size→Wl z i=false→Qo z=false:=fun h e=>by simp only [Qo,VA (p:=fun i=>Wl z i) h e,Bool.false_and]
   have step:i<z.size→Wl z i=true→∃ j:Nat,(j≤z.size∧∀ q,q<j→Wl z q=true)∧z.size-j<z.size-i∧IntKind.i64.wrap ((i:Int)+1)=j:=fun hl e=>⟨i+1,⟨by omega,fun j hj=>by
    rcases Nat.lt_succ_iff_lt_or_eq.mp hj with hj|rfl
    ·exact hi.2 j hj
    ·exact e⟩,by omega,Zj (by omega)⟩
   refine ⟨fun h=>⟨h,Zc (QE (Ze z i)) ?_ ?_⟩,fun h=>by simp only [Qo,Qh (p:=fun i=>Wl z i) (n:=z.size) fun j hj=>hi.2 j (by omega),Bool.true_and,hp,decide_true]⟩
   ·simp [go_sem]
   ·simp [go_sem]
    refine ⟨fun e1=>⟨h,Zc (Kv (Ze z i)) ?_ ?_⟩,fun e1=>step h (by simp [Wl,e1])⟩
    ·simp [go_sem]
    ·have h0:i≠0:=fun hz=>by subst hz;rw [e] at e1;cases e1
     simp [go_sem]
     exact ⟨fun e2=>bad h (by simp [Wl,e1,e2]),fun e2=>step h (by simp [Wl,e1,e2,h0])⟩
def Xv (k:Int):Int:=if k=4 then 2 else if k=3∨k=5∨k=6 then 1 else 0
theorem Ka (k:Int):VFun Tryz.prog 103 [.lit (.int .i64 k)] (fun av obs=>obs=[]∧av=.lit (.int .i64 (Xv k))):=by
 refine Zd Tryz.func103 (by kernel_rfl) rfl (by simp [Tryz.ntmps103]) ?_;simp only [Tryz.ntmps103,Tryz.results103];simp [go_sem]
 by_cases h1:k=4
 ·simp [Xv,h1]
 ·by_cases h2:k=3<;>by_cases h3:k=5<;>by_cases h4:k=6<;>simp [Xv,h1,h2,h3,h4]
theorem Ent.givePtrAt {s:VS} (j k i0 c:Nat) {ob oj:Ob} (hk:s.mem[k]?=some (some ob)) (hn:0<ob.n) (hcl:∀ c,c∈ob.f 0→Closed c) (hj:s.mem[j]?=some (some oj)) (hjk:j≠k) (hc:(oj.f i0)[c]?=some (.ptr k ob.sz 0 0)) :
  Ent s { s with mem:=(s.mem.set k none).set j (some { oj with f:=fun i=>if i=i0 then (oj.f i).set c (.bptr (ob.f 0)) else oj.f i }) }:=by
 intro n base w0 hd a w h
 have hf:=h.free k
 have hj':(s.mem.set k none)[j]?=some (some oj):=by rw [List.getElem?_set_ne (fun e=>hjk e.symm)];exact hj
 refine ⟨hd,hf.recell (s:={ s with mem:=s.mem.set k none }) hj' rfl rfl rfl fun i hi=>⟨by simp only;split<;>simp,fun q av av' u h1 h2 h3=>?_⟩⟩
 simp only at h2
 by_cases ei:i=i0
 ·subst ei
  rw [if_pos rfl,List.getElem?_set] at h2
  by_cases e:c=q
  ·subst e
   rw [if_pos rfl] at h2
   split at h2
   ·rw [hc] at h1
    cases h1;cases h2
    have h4:Rep w (Zw s.mem hd) hd s.mem.length (.ptr k ob.sz 0 0) u:=by
     cases h3 with
     |ptr _ _ _ _ b n' c' hkm hh=>exact .ptr k ob.sz 0 0 b n' c' (by simpa using hkm) hh
    exact h.freed hk hn h4
   ·cases h2
  ·rw [if_neg e,h1] at h2
   cases h2;exact h3
 ·rw [if_neg ei,h1] at h2
  cases h2;exact h3
theorem Ent.givePtr {s:VS} (ts:List Nat) (k:Nat) {ob:Ob} (hk:s.mem[k]?=some (some ob)) (hn:0<ob.n) (ht:∀ t,t∈ts→lk s.tmps t=.ptr k ob.sz 0 0) :
  Ent s { s with tmps:=ts.map (fun t=>(t,.bptr (ob.f 0)))++s.tmps,mem:=s.mem.set k none }:=by
 intro n base w0 hd a w h
 have hf:=h.free k
 refine ⟨hd,hf.defers,hf.size,hf.below,hf.le,hf.fixl,hf.fix,hf.mp,fun u=>?_,hf.me⟩
 simp only [ZkG]
 split
 ·rename_i hu
  have:=h.tm u
  rw [ht u hu] at this
  exact h.freed hk hn this
 ·exact hf.tm u
def Zj3 (S:List PSrc):Option Ob:=some ⟨98,1,S.length,YI S⟩
def Zkf (L:List PMod) (b1 b2 k:Nat):Option Ob:=some ⟨120,4,1,fun _=>[.sl 2 L.length (Zh L),.own k,.lit (.map (some b1)),.lit (.map (some b2))]⟩
def Zmj (L:List PMod) (av:AV) (mem:List (Option Ob)) (maps:List (Nat×Mp)) (N:Nat) (vs:Nat→Value) («as»:Nat→AV):Prop:=
 (¬(YE L).1=0∧av=.tup [.lit (.pointer none),.lit (.int .i64 (YE L).1),.lit (.int .i64 (YE L).2)]∧mem=[])∨
 ((YE L).1=0∧LoadOk L∧NamesOk L∧∃ S b1 b2 js,SrcIs L S∧¬b1=b2∧MemoOk L js∧N=js.length∧(∀ q,q<N→«as» q=Uq L js q)∧av=.tup [.bptr (Yo L S b1 b2),.lit (.int .i64 0),.lit (.int .i64 0)]∧mem=[]∧
  maps=[(b1,⟨9,WU L L.length⟩),(b2,⟨9,WD L js vs⟩)])
structure SrcTo (L:List PMod) (S:List PSrc) (i:Nat):Prop where
 len:S.length=i
 unt:∀ j,j<i→(WG S j).u=ZA L j
theorem KS:(∀ S,Zj3 S=some ⟨98,1,S.length,YI S⟩)∧(∀ L b1 b2 k,Zkf L b1 b2 k=some ⟨120,4,1,fun _=>[.sl 2 L.length (Zh L),.own k,.lit (.map (some b1)),.lit (.map (some b2))]⟩):=⟨fun _=>rfl,fun _ _ _ _=>rfl⟩
theorem Zcf (S:List PSrc) (x:PSrc) (i:Nat) (hi:i<S.length+1):WG (S++[x]) i=if i=S.length then x else WG S i:=by
 unfold WG
 by_cases h:i=S.length
 ·subst h
  rw [if_pos rfl,List.getD_eq_getElem?_getD,List.getElem?_append_right (Nat.le_refl _)];simp
 ·rw [if_neg h,List.getD_eq_getElem?_getD,List.getD_eq_getElem?_getD,List.getElem?_append_left (by omega)]
theorem Zlt {g:Nat→Nat} {m k N:Nat} (S:List PSrc) (x:PSrc) (hN:N=S.length):∀ i,i<N+1→ZO g m (if i=N then (ZH N (YI S) (fun q=>[[AV.ptr k 6 0 0]][q]?.getD []) i).set 0 (.bptr x.cells) else ZH N (YI S) (fun q=>[[AV.ptr k 6 0 0]][q]?.getD []) i) (YI (S++[x]) i):=fun i hi=>by
 subst hN
 have e:(if i=S.length then (ZH S.length (YI S) (fun q=>[[AV.ptr k 6 0 0]][q]?.getD []) i).set 0 (.bptr x.cells) else ZH S.length (YI S) (fun q=>[[AV.ptr k 6 0 0]][q]?.getD []) i)=YI (S++[x]) i:=by
  unfold YI
  rw [Zcf S x i hi]
  by_cases h:i=S.length
  ·subst h
   simp [ZH]
  ·rw [if_neg h,if_neg h]
   unfold ZH
   rw [if_pos (by omega)]
 rw [e]
 exact YR fun c h=>Kj _ i c h
theorem SrcTo.add {L:List PMod} {S:List PSrc} {i:Nat} (h:SrcTo L S i) {x:PSrc} (hx:x.u=ZA L i):SrcTo L (S++[x]) (i+1):=by
 refine ⟨by rw [List.length_append,h.len];rfl,fun j hj=>?_⟩
 rw [Zcf S x j (by rw [h.len];exact hj)]
 split
 ·rename_i e;rw [e,h.len];exact hx
 ·rename_i e;exact h.unt j (by rw [h.len] at e;omega)
theorem Va {L:List PMod} {t:List (Nat×AV)} {m:List (Option Ob)} {M:List (Nat×Mp)} {c:Int} {w N:Nat} {vs:Nat→Value} {«as»:Nat→AV} (hc:¬c=0) (h:YE L=(c,w)):VJ [] (fun av mem maps=>Zmj L av mem maps N vs «as») ⟨t,m,M,0⟩ (.tup [.lit (.pointer none),.lit (.int .i64 c),.lit (.int .i64 w)]):=
 uF [] [] (hR:=.inl (by rw [h];exact ⟨hc,by simp [go_sem],rfl⟩))
theorem VD (f:Nat→Nat) (m:Nat) (vs:Nat→Value) («as»:Nat→AV):Rn f m (.fam 0 vs «as») (.fam 0 vs «as»)=True:=eq_true (.fam _ _ _ _ fun q h=>absurd h (Nat.not_lt_zero q))
set_option maxRecDepth 100000 in
set_option maxHeartbeats 2000000 in
theorem ZbW (L:List PMod) (hn:L.length≤1048576) (hz:∀ i,(Zq L i).name.size≤1048576∧(Zq L i).text.size≤1048576) (vs0:Nat→Value) (as0:Nat→AV):VProcGT Tryz.prog 37 [.sl 2 L.length (Zh L)] 0 vs0 as0 [] [] (Zmj L):=by
 refine KF Tryz.func37 (by kernel_rfl) rfl (by simp [Tryz.ntmps37]) ?_;simp only [Tryz.ntmps37,Tryz.results37];simp [go_sem]
 refine ⟨by omega,fun hbig=>?_,fun hsm b1 b2 hb=>?_⟩
 ·exact uF [] [] (hR:=.inl (by rw [show YE L=(1,100) by unfold YE;rw [if_pos (by omega)]];exact ⟨by decide,by simp [go_sem],rfl⟩))
 have hsm:L.length≤100:=by omega
 have hb:¬b1=b2:=hb
 have hb':¬b2=b1:=fun e=>hb e.symm
 refine ⟨by omega,?_⟩
 refine ZC (fun x:Nat×List PSrc=>x.1≤L.length∧SrcTo L x.2 x.1∧∀ j,j<x.1→U1 L j=false) (fun x=>L.length-x.1)
  (fun x=>⟨[(0,.sl 2 L.length (Zh L)),(5,.ptr 0 4 0 0),(33,.sl 2 L.length (Zh L)),(34,.lit (.int .i64 L.length)),(35,.lit (.int .i64 x.1)),(163,.fam 0 vs0 as0)],[Zkf L b1 b2 1,Zj3 x.2],[(b1,⟨9,[]⟩),(b2,⟨9,[]⟩)],0⟩) ⟨(0,[]),⟨Nat.zero_le _,⟨rfl,fun j h=>absurd h (Nat.not_lt_zero j)⟩,fun j h=>absurd h (Nat.not_lt_zero j)⟩,?_⟩ (fun x hx=>?_)
 ·refine (Ent.adopt (j:=0) rfl rfl (c:=1) rfl 98 1 (by omega) (YI [])).trans ?_
  exact uE [0,1] (h1:=by simp [go_sem,KP,VD]) (h4:=by simp [go_sem,KS,KP]) (hM:=by simp [go_sem,hb,hb'])
 obtain ⟨i,S⟩:=x
 simp only at hx
 obtain ⟨hi,hS,hb2⟩:=hx
 have hSl:=hS.len
 simp [go_sem,KS,KP]
 refine ⟨fun h=>?_,fun h=>?_⟩
 ·have wri:IntKind.i64.wrap ((i:Int)+1)=(i:Int)+1:=wrap_i64 (by omega)
  refine ⟨h,?_⟩
  simp [go_sem,KS,ZD]
  refine uSF [] (ZgU (Zq L i).text (hz i).2) ?_
  rintro av mem maps hpost hfr
  rcases hpost with ⟨k,b,hk,hu,rfl,rfl,rfl⟩|⟨hc,_,_,_,rfl,rfl⟩
  ·have hbb:¬b=b1∧¬b=b2:=by
    rcases hfr b (by simp [lkm]) with h1|h1
    ·simp [lkm] at h1
    ·simp only [lkm] at h1
     refine ⟨fun e=>?_,fun e=>?_⟩
     ·subst e;simp at h1
     ·subst e;simp [hb] at h1
   have hu1:(Z2 (Zq L i).text).2.1=0:=by rw [hu]
   simp [go_sem,KS,K5,ZD,Zht,XH]
   refine Zc (Zfr (Zq L i).name (by have:=(hz i).1;omega)) (by simp [go_sem]) ?_
   simp [go_sem,KS,K5,ZD]
   refine ⟨fun e2=>⟨fun e3=>⟨by omega,by omega,i+1,S++[⟨ZA L i,(Z4 10 (Zq L i).text).take k,b,min (VZ (Z4 10 (Zq L i).text) (k+1)) (Zq L i).text.size⟩],⟨h,hS.add rfl,XR hb2 ?_⟩,by omega,?_⟩,fun e3=>?_⟩,fun e2=>?_⟩
   ·simp [U1,e2,hu1];omega
   ·refine (Ent.giveIn 3 4 0 rfl (fun q _ c h=>Yg _ q c h) rfl (by decide) (fun _ _=>rfl)).trans ?_
    refine (Ent.giveIn 3 5 1 rfl (fun q _ c h=>Zo _ q c h) rfl (by decide) (fun _ _=>rfl)).trans ?_
    refine (Ent.giveIn 3 6 3 rfl (fun q _ c h=>Yg _ q c h) rfl (by decide) (fun _ _=>rfl)).trans ?_
    refine (Ent.givePtrAt 8 3 S.length 0 rfl Nat.one_pos (fun c hc=>?_) rfl (by decide) (by simp [ZH])).trans ?_
    ·simp at hc
     rcases hc with rfl|rfl|rfl|rfl|rfl|rfl
     ·exact .sl _ _ _ fun i c _ h=>Yg _ i c h
     ·exact .sl _ _ _ fun i c _ h=>Zo _ i c h
     ·exact .lit _
     ·exact .sl _ _ _ fun i c _ h=>Yg _ i c h
     ·exact .lit _
     ·exact .lit _
    ·simp only [List.set_cons_succ,List.set_cons_zero]
     have hx:(⟨ZA L i,(Z4 10 (Zq L i).text).take k,b,min (VZ (Z4 10 (Zq L i).text) (k+1)) (Zq L i).text.size⟩:PSrc).cells=[.sl 1 (Z2 (Zq L i).text).1.uses.length (Zp (Z2 (Zq L i).text).1.uses),.sl 4 (Z2 (Zq L i).text).1.ops.length (Za (Z2 (Zq L i).text).1.ops),.lit (.string (Z2 (Zq L i).text).1.body),.sl 1 (min k (Z4 10 (Zq L i).text).length) (Zp ((Z4 10 (Zq L i).text).take k)),.lit (.map (some b)),.lit (.int .i64 (min (VZ (Z4 10 (Zq L i).text) (k+1)) (Zq L i).text.size:Nat))]:=by
      unfold PSrc.cells
      rw [List.length_take];rfl
     have hnew:=fun (g:Nat→Nat) (m:Nat)=>Zlt (g:=g) (m:=m) (k:=3) (N:=S.length) S ⟨ZA L i,(Z4 10 (Zq L i).text).take k,b,min (VZ (Z4 10 (Zq L i).text) (k+1)) (Zq L i).text.size⟩ rfl
     rw [hx] at hnew
     exact uE [0,8] (h1:=by simp [go_sem,KP,VD,wri]) (h4:=by simp [go_sem,KS,KP];exact .inr (hnew _ _)) (hM:=by simp [go_sem,hb,hb',hbb])
   ·exact Va (by decide) (Q2 hsm (Ym h (by simp [U1,e2];right;omega) hb2))
   ·exact Va (by decide) (Q2 hsm (Ym h (by simp [U1,e2]) hb2))
  ·simp [go_sem,KS,K5,ZD]
   refine Zc (Zfr (Zq L i).name (by have:=(hz i).1;omega)) (by simp [go_sem]) ?_
   simp [go_sem,KS,K5,ZD]
   refine ⟨fun e2=>⟨fun e3=>⟨fun _=>?_,fun e=>absurd e hc⟩,fun e3=>?_⟩,fun e2=>?_⟩
   ·exact Va (by decide) (Q2 hsm (Ym h (by simp [U1,hc]) hb2))
   ·exact Va (by decide) (Q2 hsm (Ym h (by simp [U1,hc]) hb2))
   ·exact Va (by decide) (Q2 hsm (Ym h (by simp [U1,hc]) hb2))
 have hc2:ZZ L.length (U1 L)=none:=Xe fun j hj=>hb2 j (by omega)
 refine ⟨by omega,?_⟩
 have hiL:i=L.length:=by omega
 subst hiL
 have hSI:SrcIs L S:=⟨hSl,hS.unt⟩
 refine ZC (fun c:Nat=>c≤L.length∧∀ j,j<c→KB L j=false) (fun c=>L.length-c)
  (fun c=>⟨[(0,.sl 2 L.length (Zh L)),(5,.bptr (Yo L S b1 b2)),(73,.sl 2 L.length (Zh L)),(74,.lit (.int .i64 L.length)),(75,.lit (.int .i64 c)),(163,.fam 0 vs0 as0)],[],[(b1,⟨9,WU L c⟩),(b2,⟨9,[]⟩)],0⟩) ⟨0,⟨Nat.zero_le _,fun j h=>absurd h (Nat.not_lt_zero j)⟩,?_⟩ (fun c hc=>?_)
 ·refine (Ent.giveIn 0 1 1 rfl (fun q _ c h=>Kj _ q c h) rfl (by decide) (fun _ _=>rfl)).trans ?_
  refine (Ent.givePtr [5] 0 rfl Nat.one_pos (by simp [lk])).trans ?_
  exact uE [] (h1:=by simp [go_sem,KP,VD,hSl]) (h4:=trivial) (hM:=by simp [go_sem,hb,WU])
 obtain ⟨hc,hb3⟩:=hc
 simp [go_sem,KP]
 refine ⟨fun h3=>?_,fun h3=>?_⟩
 ·have wrc:IntKind.i64.wrap ((c:Int)+1)=(c:Int)+1:=wrap_i64 (by omega)
  refine ⟨h3,?_⟩
  simp [go_sem,KP,ZD]
  have hky:∃ l,keyOf Tryz.prog 9 (.string (Zq L c).name)=some l:=YJ (by have:=(hz c).1;simp only [maxLen];omega)
  have hle:Z3 L (Zq L c).name≤c:=by
   by_cases e:Z3 L (Zq L c).name≤c
   ·exact e
   ·exact absurd rfl (Vt (show c<Z3 L (Zq L c).name by omega))
  refine Zn [] (.q 0 <| .q 1 <| .q 2 <| .q 3 <| .q 4 <| .q 5 <| .q 6 <| .q 7 <| .q 8 <| .q 9 <| .q 10 <| .q 11 <| .done) (by kernel_rfl) ?_
  simp [go_sem,KP,ZD]
  refine Yj ZS hky _ VB ?_
  by_cases e:Z3 L (Zq L c).name<c
  ·rw [Qt e hc]
   simp [go_sem,KP,ZD]
   exact Va (by decide) (ZkE hsm hc2 (Ym h3 (by simp [KB,e]) hb3))
  ·rw [ZaR (by omega)]
   simp [go_sem,KP,ZD]
   refine Zn [7] (.q 0 <| .q 1 <| .q 2 <| .q 3 <| .q 4 <| .q 5 <| .q 6 <| .or 7 (.done) (.nil)) (by kernel_rfl) ?_
   simp [go_sem,KP,ZD]
   refine Y0 ZS hky ?_
   rw [ZeS (by omega)]
   simp [go_sem,KP,ZD]
   refine ⟨c+1,⟨h3,XR hb3 (by simp [KB];omega)⟩,by omega,?_⟩
   exact uE [] (h1:=by simp [go_sem,KP,VD,wrc]) (h4:=trivial) (hM:=by simp [go_sem,hb,hb'])
 have hc3:ZZ L.length (KB L)=none:=Xe fun j hj=>hb3 j (by omega)
 have hN:NamesOk L:=NamesOk.of fun j hj=>hb3 j (by omega)
 refine ⟨by omega,?_⟩
 have hcL:c=L.length:=by omega
 subst hcL
 refine ZC (fun d:Nat=>d≤L.length∧∀ j,j<d→Kd L j=false) (fun d=>L.length-d)
  (fun d=>⟨[(0,.sl 2 L.length (Zh L)),(5,.bptr (Yo L S b1 b2)),(103,.sl 1 L.length (YI S)),(104,.lit (.int .i64 L.length)),(105,.lit (.int .i64 d)),(163,.fam 0 vs0 as0)],[],[(b1,⟨9,WU L L.length⟩),(b2,⟨9,[]⟩)],0⟩) ⟨0,⟨Nat.zero_le _,fun j h=>absurd h (Nat.not_lt_zero j)⟩,?_⟩ (fun d hd=>?_)
 ·exact uE [] (h1:=by simp [go_sem,KP,VD]) (h4:=trivial) (hM:=by simp [go_sem,hb])
 obtain ⟨hd,hb4⟩:=hd
 simp [go_sem,KP,VL]
 refine ⟨fun h4=>?_,fun h4=>?_⟩
 ·have wrd:IntKind.i64.wrap ((d:Int)+1)=(d:Int)+1:=wrap_i64 (by omega)
  have hul:=Kh L d
  obtain ⟨hl,hua⟩:=Ho (L:=L) h4
  simp [hSI.unt d h4]
  refine ⟨h4,by omega,?_⟩
  refine ZC (fun k:Nat=>k≤(ZA L d).uses.length∧Hj L d k=false) (fun k=>(ZA L d).uses.length-k)
   (fun k=>⟨[(0,.sl 2 L.length (Zh L)),(5,.bptr (Yo L S b1 b2)),(15,.lit (.int .i64 d)),(103,.sl 1 L.length (YI S)),(104,.lit (.int .i64 L.length)),(105,.lit (.int .i64 d)),(114,.sl 1 (ZA L d).uses.length (Zp (ZA L d).uses)),(115,.lit (.int .i64 (ZA L d).uses.length)),(116,.lit (.int .i64 k)),(163,.fam 0 vs0 as0)],[],[(b1,⟨9,WU L L.length⟩),(b2,⟨9,[]⟩)],0⟩) ⟨0,⟨Nat.zero_le _,rfl⟩,?_⟩ (fun k hk=>?_)
  ·exact uE [] (h1:=by simp [go_sem,KP,K5,VD]) (h4:=trivial) (hM:=by simp [go_sem,hb])
  obtain ⟨hk,hbk⟩:=hk
  simp [go_sem,KP,Zr]
  refine ⟨fun hk2=>⟨hk2,?_⟩,fun hk2=>?_⟩
  ·have hs:=ZbB (L:=L) (i:=d) (k:=k) (by omega)
   have hle:=Ud L (Zs (ZA L d).uses k)
   have wrk:IntKind.i64.wrap ((k:Int)+1)=(k:Int)+1:=wrap_i64 (by omega)
   have hky:∃ l,keyOf Tryz.prog 9 (.string (Zs (ZA L d).uses k))=some l:=YJ (by have:=ZjT L d k;simp only [maxLen];omega)
   rw [hua k hk2,hbk,Bool.false_or] at hs
   refine Yj ZS hky _ VB ?_
   by_cases e4:Z3 L (Zs (ZA L d).uses k)=L.length
   ·rw [ZaR (by omega)]
    simp [go_sem,KP,Zr]
    exact Va (by decide) (ZkD hsm hc2 hc3 (Ym h4 (ZfK (k:=k+1) (by rw [hs,e4];simp)) hb4))
   ·rw [Qt (by omega) (Nat.le_refl _)]
    simp [go_sem,KP,Zr]
    refine ⟨k+1,⟨hk2,by rw [hs];simpa using e4⟩,by omega,?_⟩
    exact uE [] (h1:=by simp [go_sem,KP,K5,VD,wrk]) (h4:=trivial) (hM:=by simp [go_sem,hb])
  ·obtain rfl:k=(ZA L d).uses.length:=by omega
   refine ⟨d+1,⟨h4,XR hb4 (by rw [←ZbC,hl];exact hbk)⟩,by omega,?_⟩
   exact uE [] (h1:=by simp [go_sem,KP,K5,VD,wrd]) (h4:=trivial) (hM:=by simp [go_sem,hb])
 have hc4:ZZ L.length (Kd L)=none:=Xe fun j hj=>hb4 j (by omega)
 have hnm:∀ i u,u∈usI L i→u<L.length:=fun i u hu=>by
  by_cases hi:i<L.length
  ·have:=hb4 i (by omega)
   unfold Kd at this
   rw [List.any_eq_false] at this
   have h2:=this u hu
   unfold usI at hu
   rw [if_pos hi,List.mem_map] at hu
   obtain ⟨x,_,rfl⟩:=hu
   have:=Ud L x
   have:¬Z3 L x=L.length:=by simpa using h2
   omega
  ·unfold usI at hu
   rw [if_neg hi] at hu
   simp at hu
 refine ⟨by omega,?_⟩
 refine ZC (fun e:Nat=>e≤L.length∧∀ j,j<e→ZdV L j=false) (fun e=>L.length-e)
  (fun e=>⟨[(0,.sl 2 L.length (Zh L)),(5,.bptr (Yo L S b1 b2)),(134,.sl 2 L.length (Zh L)),(135,.lit (.int .i64 L.length)),(136,.lit (.int .i64 e)),(163,.fam 0 vs0 as0)],[],[(b1,⟨9,WU L L.length⟩),(b2,⟨9,[]⟩)],0⟩) ⟨0,⟨Nat.zero_le _,fun j h=>absurd h (Nat.not_lt_zero j)⟩,?_⟩ (fun e he=>?_)
 ·exact uE [] (h1:=by simp [go_sem,KP,VD]) (h4:=trivial) (hM:=by simp [go_sem,hb])
 obtain ⟨he,hb5⟩:=he
 simp [go_sem,KP]
 refine ⟨fun h5=>?_,fun h5=>?_⟩
 ·have wre:IntKind.i64.wrap ((e:Int)+1)=(e:Int)+1:=wrap_i64 (by omega)
  refine ⟨h5,?_⟩
  simp [go_sem,KP,ZD]
  refine uS [] (Zl3 L S b1 b2 hSI hsm hnm hN (fun i=>(hz i).1) e h5) ?_ (ha:=by simp [go_sem,KP]) (hm:=by simp [go_sem])
  rintro av mem maps ⟨rfl,rfl,rfl⟩
  simp [go_sem,KP,ZD]
  refine ⟨fun hy=>?_,fun hy=>⟨e+1,⟨h5,XR hb5 hy⟩,by omega,?_⟩⟩
  ·exact Va (by decide) (ZkC hsm hc2 hc3 hc4 (Ym h5 hy hb5))
  ·exact uE [] (h1:=by simp [go_sem,KP,VD,wre]) (h4:=trivial) (hM:=by simp [go_sem,hb])
 have hc5:ZZ L.length (ZdV L)=none:=Xe fun j hj=>hb5 j (by omega)
 have hok:LoadOk L:=⟨hsm,hnm,fun j hj=>hb5 j (by omega)⟩
 refine ⟨by omega,?_⟩
 refine ZC (fun x:Nat×List Nat×(Nat→Value)=>x.1≤L.length∧MemoOk L x.2.1∧∀ j,j<x.1→ZbA L j=false) (fun x=>L.length-x.1)
  (fun x=>⟨[(0,.sl 2 L.length (Zh L)),(5,.bptr (Yo L S b1 b2)),(147,.sl 2 L.length (Zh L)),(148,.lit (.int .i64 L.length)),(149,.lit (.int .i64 x.1)),(163,.fam x.2.1.length x.2.2 (Uq L x.2.1))],[],[(b1,⟨9,WU L L.length⟩),(b2,⟨9,WD L x.2.1 x.2.2⟩)],0⟩) ⟨(0,[],vs0),⟨Nat.zero_le _,⟨fun j h=>(by simp at h),by simp⟩,fun j h=>absurd h (Nat.not_lt_zero j)⟩,?_⟩ (fun x hx=>?_)
 ·exact uE [] (h1:=by simp [go_sem,KP];exact .fam _ _ _ _ fun q hq=>absurd hq (Nat.not_lt_zero q)) (h4:=trivial) (hM:=by simp [go_sem,hb,WD])
 obtain ⟨x,js,vs⟩:=x
 simp only at hx
 obtain ⟨hx,hmo,hb6⟩:=hx
 simp [go_sem,KP]
 refine ⟨fun h6=>?_,fun h6=>?_⟩
 ·have wrx:IntKind.i64.wrap ((x:Int)+1)=(x:Int)+1:=wrap_i64 (by omega)
  refine ⟨h6,?_⟩
  simp [go_sem,KP,ZD]
  have hsl:(scL L x).length≤2000100:=hok.scl_len _ _ h6
  refine QN [] 163 163 (ZhS L S b1 b2 hb hSI hok hN (fun i=>(hz i).1) _ x h6 (Nat.lt_succ_self _) js vs hmo) (by simp) rfl (fun q _=>.closed _ (Ye _)) (by simp [go_sem,KP]) trivial (by simp [go_sem,hb]) ?_
  rintro av mem maps N' vs' as' ⟨js',hm',hr',rfl,has,rfl,rfl,rfl⟩
  simp [go_sem,KP,ZD,Ga]
  refine Zc (Kw (scL L x) (by omega) (JH hok x h6).1) (by simp [go_sem];exact Zb (by omega) fun i c _ h=>Zo _ i c h) ?_
  simp [go_sem,KP,ZD]
  refine ⟨fun e=>⟨fun q hq=>by rw [has q hq];exact Ye _,?_⟩,fun e=>⟨x+1,js',⟨h6,hm',XR hb6 (by simp [ZbA,e])⟩,by omega,vs',?_⟩⟩
  ·exact Va (by decide) (ZkB hsm hc2 hc3 hc4 hc5 (Ym h6 (by simp [ZbA,e]) hb6))
  ·exact uE [] (h1:=by simp [go_sem,KP,wrx];exact .fam _ _ _ _ fun q hq=>by rw [has q hq];exact .closed _ (Ye _)) (h4:=trivial) (hM:=by simp [go_sem,hb])
 ·have hc6:ZZ L.length (ZbA L)=none:=Xe fun j hj=>hb6 j (by omega)
  have hl0:=ZkF hsm hc2 hc3 hc4 hc5 hc6
  refine ⟨fun q _=>Ye _,?_⟩
  exact uF [] [] (hq:=by
   simp [go_sem]
   have:=K8 L S b1 b2
   unfold Yo at this
   exact .inr this) (hR:=.inr ⟨by rw [hl0],hok,hN,S,b1,b2,js,hSI,hb,hmo,rfl,fun _ _=>rfl,by simp [go_sem,Yo],rfl,rfl⟩)
theorem VProcG.proc {P:Program} {f:FuncId} {args:List AV} {vs0:Nat→Value} {as0:Nat→AV} {mem0:List (Option Ob)} {maps0:List (Nat×Mp)} {R:AV→List (Option Ob)→List (Nat×Mp)→Prop} (h:VProcG P f args 0 vs0 as0 mem0 maps0 R):VProc P f args mem0 maps0 R:=
 ⟨h.1,fun w vs hd0 hl hv hm hmp ht=>h.2 w vs hd0 hl hv (fun i hi=>absurd hi (Nat.not_lt_zero i)) hm hmp ht⟩
theorem VProc.adoptT {P:Program} {f:FuncId} {args:List AV} {R R':AV→List (Option Ob)→List (Nat×Mp)→Prop} (h:VProc P f args [] [] R) (ty sz:Nat) (hsz:0<sz) (g:Nat→List AV)
  (hr:∀ av mem maps,R av mem maps→R' av mem maps∨∃ xs:List Value,av=.tup (.lit (.slice none 0 0)::xs.map .lit)∧mem=[]∧R' (.tup (.own 0::xs.map .lit)) [some ⟨ty,sz,0,g⟩] maps):VProc P f args [] [] R':=by
 refine ⟨h.1,fun w vs hd0 hl hv hm hmp ht=>(h.2 w vs hd0 hl hv hm hmp ht).mono fun e w' ⟨v,e1,gb,hd,av,mem,maps,r,po,hx,me,mp,rp⟩=>?_⟩
 rcases hr av mem maps r with r'|⟨xs,rfl,rfl,r'⟩
 ·exact ⟨v,e1,gb,hd,av,mem,maps,r',po,hx,me,mp,rp⟩
 ·obtain ⟨HD,hHD⟩:∃ HD:Nat→Value,HD=fun k=>if k=0 then .slice none 0 0 else hd k:=⟨_,rfl⟩
  have h0:HD 0=.slice none 0 0:=by rw [hHD];exact if_pos rfl
  have heq:TailEq hd HD:=⟨1,fun k hk=>by rw [hHD];exact if_neg (by omega)⟩
  refine ⟨v,e1,gb,HD,_,_,maps,r',⟨by simp,fun c hc=>?_,fun k ob hk i hi=>?_,po.maps⟩,⟨fun k hk=>absurd hk (Nat.not_lt_zero k),hx.2.trans heq⟩,⟨fun k ob hk b hb=>?_,fun k ob hk=>?_,fun k hk=>?_,fun k k' o o' hk hk' hne=>?_⟩,mp,?_⟩
  ·rw [List.mem_cons,List.mem_map] at hc
   rcases hc with rfl|⟨y,_,rfl⟩
   ·exact .inl rfl
   ·exact .inl rfl
  ·match k,hk with
   |0,hk=>simp at hk;subst hk;simp at hi
   |k+1,hk=>simp at hk
  ·match k,hk with
   |0,hk=>rw [h0] at hb;simp [Value.ownBlock] at hb
   |k+1,hk=>simp at hk
  ·match k,hk with
   |0,hk=>
    simp at hk;subst hk
    exact ⟨hsz,[],⟨by simp,.inl ⟨h0,rfl⟩⟩,fun i hi=>by simp at hi⟩
   |k+1,hk=>simp at hk
  ·have:k=0:=by simpa using hk
   subst this
   exact ⟨none,0,0,h0⟩
  ·match k,k',hk,hk',hne with
   |0,0,_,_,hne=>exact absurd rfl hne
   |k+1,_,hk,_,_=>simp at hk
   |0,k'+1,_,hk',_=>simp at hk'
  ·cases rp with
   |tup _ us hl2 hr2=>
    refine .tup _ us (by simpa using hl2) fun j a u ha hu=>?_
    cases j with
    |zero=>
     have:=hr2 0 _ u rfl hu
     simp only [List.getElem?_cons_zero,Option.some.injEq] at ha
     subst ha
     cases this
     have h1:Rep w' (Zw [some (⟨ty,sz,0,g⟩:Ob)] HD) HD [some (⟨ty,sz,0,g⟩:Ob)].length (.own 0) (HD 0):=.own 0 (by simp)
     rw [h0] at h1
     exact h1
    |succ j=>
     have:=hr2 (j+1) a u (by simpa using ha) hu
     rw [List.getElem?_cons_succ,List.getElem?_map,Option.map_eq_some_iff] at ha
     obtain ⟨y,hy,rfl⟩:=ha
     cases this
     exact .lit _
theorem ZmP (f:Nat→Nat) {t t':List (Nat×AV)} {m m':List (Option Ob)} {M M':List (Nat×Mp)} (h1:Ke f m'.length t t') (hlt:∀ k,k<m'.length→f k<m.length) (hinj:∀ k k',k<m'.length→k'<m'.length→f k=f k'→k=k')
  (h4:∀ (k:Nat) (ob':Ob),m'[k]?=some (some ob')→∃ ob,m[f k]?=some (some ob)∧(GR f m'.length ob ob'∨ZbH f m'.length ob ob')) (hM:Yc M M':=by simp [go_sem]):Ent ⟨t,m,M,0⟩ ⟨t',m',M',0⟩:=
 Ent.of_leS (f:=f) ⟨⟨rfl,Nat.zero_le _,fun k hk=>absurd hk (Nat.not_lt_zero k)⟩,Z7 hM,U3 h1,hlt,hinj,h4⟩
def Uw (K K1 i k:Nat):Nat:=if k=0 then K else if k=i+1 then K1 else k
theorem J7 (K K1 i:Nat) {t t':List (Nat×AV)} {m:List (Option Ob)} {M M':List (Nat×Mp)} {o o':Ob} {g:Nat→Ob} (h1:Ke (Uw K K1 i) (i+1+1) t t') (hK:m[K]?=some (some o)) (ho:ZbH (Uw K K1 i) (i+1+1) o o') (hlt:i<K1∧i<K∧K≠K1)
  (hr:∀ a,a<i→∃ ob,m[a+1]?=some (some ob)∧GR (Uw K K1 i) (i+1+1) ob (g a)) (hn:∃ ob,m[K1]?=some (some ob)∧GR (Uw K K1 i) (i+1+1) ob (g i)) (hM:Yc M M':=by simp [go_sem]):Ent ⟨t,m,M,0⟩ ⟨t',some o'::Rw g (i+1),M',0⟩:=by
 have hl:(some o'::Rw g (i+1)).length=i+1+1:=by rw [List.length_cons,XT]
 obtain ⟨obn,hn1,hn2⟩:=hn
 refine ZmP (Uw K K1 i) (by rw [hl];exact h1) (fun k hk=>?_) (fun k k' hk hk' e=>?_) (fun k ob' hk=>?_) hM
 ·rw [hl] at hk
  unfold Uw
  split
  ·exact (List.getElem?_eq_some_iff.1 hK).1
  ·split
   ·exact (List.getElem?_eq_some_iff.1 hn1).1
   ·obtain ⟨ob,h2,_⟩:=hr (k-1) (by omega)
    have:=(List.getElem?_eq_some_iff.1 h2).1
    omega
 ·rw [hl] at hk hk'
  unfold Uw at e
  (repeat' split at e)<;>omega
 ·rw [hl]
  cases k with
  |zero=>
   simp only [List.getElem?_cons_zero,Option.some.injEq] at hk
   subst hk
   exact ⟨o,by unfold Uw;rw [if_pos rfl];exact hK,.inr ho⟩
  |succ k=>
   rw [List.getElem?_cons_succ] at hk
   obtain ⟨hk2,rfl⟩:=Zg9 hk
   by_cases e:k=i
   ·subst e
    exact ⟨obn,by unfold Uw;rw [if_neg (by omega),if_pos rfl];exact hn1,.inl hn2⟩
   ·obtain ⟨ob,h2,h3⟩:=hr k (by omega)
    exact ⟨ob,by unfold Uw;rw [if_neg (by omega),if_neg (by omega)];exact h2,.inl h3⟩
@[go_sem] theorem growF_0 (K K1 i:Nat):Uw K K1 i 0=K:=if_pos rfl
theorem ZdE (K K1 i:Nat):Uw K K1 i (i+1)=K1:=by unfold Uw;rw [if_neg (by omega),if_pos rfl]
theorem Za7 {K K1 i a:Nat} (h:a<i):Uw K K1 i (a+1)=a+1:=by unfold Uw;rw [if_neg (by omega),if_neg (by omega)]
def PMod.wf (m:PMod):Prop:=m.name.size≤maxLen∧m.text.size≤maxLen
theorem ZgR (m:PMod):VFun Tryz.prog 36 [.agg m.cells] (fun av obs=>obs=[]∧av=.agg m.cells):=by
 obtain ⟨g,z⟩:=m
 simp only [PMod.cells]
 refine Zd Tryz.func36 (by kernel_rfl) rfl (by simp [Tryz.ntmps36]) ?_;simp only [Tryz.ntmps36,Tryz.results36];simp [go_sem]
def GV:List AV:=[.lit (.string ⟨#[]⟩),.lit (.string ⟨#[]⟩)]
def Qp (l:List PMod) (i j:Nat):List AV:=if j<i then Zh l j else GV
theorem ZnS (l:List PMod) (i j m:Nat):∀ c,c∈Qp l i j→Bd m c:=by
 intro c h
 unfold Qp at h
 split at h
 ·exact .closed _ (ZI l j c h)
 ·simp [GV] at h
  subst h;exact .closed _ (.lit _)
theorem GA (l:List PMod) (hl:l.length≤1048576):VFun Tryz.prog 9 [.sl 2 l.length (Zh l)] (fun av obs=>av=.own 0∧obs=[⟨52,2,l.length,Zh l⟩]):=by
 refine Zd Tryz.func9 (by kernel_rfl) rfl (by simp [Tryz.ntmps9]) ?_;simp only [Tryz.ntmps9,Tryz.results9];simp [go_sem]
 refine ⟨by omega,by omega,by omega,?_⟩
 refine ZN (fun i:Nat=>i≤l.length) (fun i=>l.length-i) (fun i=>.of [(0,.sl 2 l.length (Zh l)),(3,.own 0),(4,.lit (.int .i64 i))] [some ⟨52,2,l.length,Qp l i⟩]) ⟨0,by omega,?_⟩ (fun i hi=>?_)
 ·simp [go_sem,Qp,GV]
  exact fun i c _ h=>ZI l i c h
 ·simp [go_sem]
  refine ⟨by omega,fun h=>?_,fun h=>?_⟩
  ·rcases ho:l.getD i default with ⟨g,z⟩
   have e:Zh l i=[.lit (.string g),.lit (.string z)]:=by unfold Zh Zq;rw [ho];rfl
   simp only [e]
   refine ⟨h,by simp,Ua (ZgR ⟨g,z⟩) ?_ ?_ ?_⟩
   ·simp [go_sem,PMod.cells]
   ·simp [go_sem,PMod.cells]
   ·simp [go_sem,PMod.cells]
    refine ⟨h,i+1,by omega,by omega,⟨fun i c _ h=>ZI l i c h,Zj (by omega)⟩,fun j hj=>?_⟩
    rw [WO h hj]
    refine ⟨?_,ZnS l _ _ _⟩
    by_cases hji:j=i
    ·subst hji
     simp [Qp,e,Y5,GV]
    ·rw [if_neg hji]
     unfold Qp
     by_cases h2:j<i
     ·rw [if_pos h2,if_pos (by omega)]
     ·rw [if_neg h2,if_neg (by omega)]
  ·have:i=l.length:=by omega
   subst this
   exact obsSame_one.mpr ⟨⟨52,2,l.length,Zh l⟩,⟨rfl,rfl,rfl,fun j hj=>⟨by simp only [Qp];rw [if_pos hj],Zky l j⟩⟩,rfl⟩
def Zce (o:PMod) (left:Int):Int:=if left-o.name.size<0 then -1 else if left-o.name.size-o.text.size<0 then -1 else left-o.name.size-o.text.size
theorem ZgS (o:PMod) (left:Int) (ho:o.wf) (h0:0≤left) (h:left≤1048576):VFun Tryz.prog 29 [.agg o.cells,.lit (.int .i64 left)] (fun av obs=>obs=[]∧av=.lit (.int .i64 (Zce o left))):=by
 obtain ⟨g,z⟩:=o
 simp only [PMod.cells,PMod.wf,maxLen] at ho ⊢
 refine Zd Tryz.func29 (by kernel_rfl) rfl (by simp [Tryz.ntmps29]) ?_;simp only [Tryz.ntmps29,Tryz.results29];simp [go_sem]
 rw [wrap_i64 (n:=left-g.size) (by omega)]
 simp only [Zce]
 refine ⟨fun h1=>by rw [if_pos h1],fun h1=>?_⟩
 rw [wrap_i64 (n:=left-g.size-z.size) (by omega),if_neg (by omega)]
 refine ⟨fun h2=>by rw [if_pos h2],fun h2=>by rw [if_neg (by omega)]⟩
def JS (o:PMod):Nat:=o.name.size+o.text.size
def WS (l:List PMod):Nat:=(l.map JS).sum
theorem Zj2 (o:PMod) (left:Int):Zce o left=-1∨(0≤Zce o left∧Zce o left=left-JS o):=by
 unfold Zce JS
 split
 ·exact .inl rfl
 ·split
  ·exact .inl rfl
  ·exact .inr ⟨by omega,by omega⟩
theorem Gm (l:List PMod) (i:Nat) (h:i<l.length):WS (l.take (i+1))=WS (l.take i)+JS (Zq l i):=by
 unfold WS Zq
 rw [List.take_add_one,List.getElem?_eq_getElem h,List.map_append,List.sum_append_nat,List.getD_eq_getElem?_getD,List.getElem?_eq_getElem h]
 simp only [Option.toList_some,List.map_cons,List.map_nil,List.sum_cons,List.sum_nil,Option.getD_some,Nat.add_zero]
theorem Zir (l:List PMod) (i:Nat):WS (l.take i)≤WS l:=by
 conv=>rhs;rw [←List.take_append_drop i l]
 unfold WS
 rw [List.map_append,List.sum_append_nat]
 omega
theorem Zis (l:List PMod) (i:Nat):(Zq l i).name.size+(Zq l i).text.size≤WS l:=by
 by_cases h:i<l.length
 ·have h1:=Gm l i h
  have h2:=Zir l (i+1)
  unfold JS at h1
  omega
 ·unfold Zq
  rw [List.getD_eq_getElem?_getD,List.getElem?_eq_none (by omega)]
  exact Nat.zero_le _
theorem Zfl (l:List PMod) (left:Int) (hl:l.length≤maxLen) (ho:∀ i,i<l.length→(Zq l i).wf) (h0:0≤left) (h:left≤1048576) :
  VFun Tryz.prog 7 [.sl 2 l.length (Zh l),.lit (.int .i64 left)] (fun av obs=>obs=[]∧(av=.lit (.int .i64 (-1))∨(0≤left-l.length-WS l∧av=.lit (.int .i64 (left-l.length-WS l))))):=by
 simp only [maxLen] at hl
 refine Zd Tryz.func7 (by kernel_rfl) rfl (by simp [Tryz.ntmps7]) ?_;simp only [Tryz.ntmps7,Tryz.results7];simp [go_sem]
 rw [wrap_i64 (n:=left-l.length) (by omega)]
 refine ⟨by omega,fun h1=>?_⟩
 refine ZN (fun i:Nat=>i≤l.length∧0≤left-l.length-WS (l.take i)) (fun i=>l.length-i) (fun i=>.of [(0,.sl 2 l.length (Zh l)),(1,.lit (.int .i64 (left-l.length-WS (l.take i)))),(5,.lit (.int .i64 i))] []) ⟨0,⟨by omega,by simpa [WS] using h1⟩,?_⟩ (fun i hi=>?_)
 ·simp [go_sem,WS]
  exact fun i c _ h=>ZI l i c h
 ·simp [go_sem]
  refine ⟨by omega,fun h=>?_,fun h=>?_⟩
  ·have hw:=ho i h
   have hs:=Gm l i h
   rcases ho:Zq l i with ⟨g,z⟩
   rw [ho] at hw hs
   have e:Zh l i=[.lit (.string g),.lit (.string z)]:=by unfold Zh;rw [ho];rfl
   simp only [e]
   refine ⟨h,by simp,Zc (ZgS ⟨g,z⟩ (left-l.length-WS (l.take i)) hw (by omega) (by omega)) ?_ ?_⟩
   ·simp [go_sem,PMod.cells]
   ·simp [go_sem]
    rcases Zj2 ⟨g,z⟩ (left-l.length-WS (l.take i)) with h2|⟨h2,h3⟩
    ·rw [h2]
     exact fun h4=>by omega
    ·exact fun h4=>⟨i+1,⟨by omega,by omega⟩,by omega,⟨fun i c _ h=>ZI l i c h,by rw [h3];omega,Zj (by omega)⟩⟩
  ·have:i=l.length:=by omega
   subst this
   simp only [List.take_length] at hi ⊢
   exact .inr ⟨by omega,trivial⟩
def ZeU (a b:PMod):Bool:=decide (a.name=b.name)&&decide (a.text=b.text)
def HH (a b:List PMod):Bool:=decide (a.length=b.length)&&(List.range a.length).all fun i=>ZeU (Zq a i) (Zq b i)
theorem ZeT (a:List PMod):HH a a=true:=by simp [HH,ZeU]
theorem Zg0 (a b:PMod):VFun Tryz.prog 41 [.agg a.cells,.agg b.cells] (fun av obs=>obs=[]∧av=.lit (.bool (ZeU a b))):=by
 obtain ⟨g,z⟩:=a
 obtain ⟨g',z'⟩:=b
 simp only [PMod.cells]
 refine Zd Tryz.func41 (by kernel_rfl) rfl (by simp [Tryz.ntmps41]) ?_;simp only [Tryz.ntmps41,Tryz.results41];simp [go_sem]
 simp only [ZeU,XQ,HZ]
 by_cases h1:g=g'<;>by_cases h2:z=z'<;>simp [h1,h2]
set_option maxRecDepth 100000 in
theorem ZfG (a b:List PMod) (ha:a.length≤1048576) (hb:b.length≤1048576):VFun Tryz.prog 12 [.sl 2 a.length (Zh a),.sl 2 b.length (Zh b)] (fun av obs=>obs=[]∧av=.lit (.bool (HH a b))):=by
 refine Zd Tryz.func12 (by kernel_rfl) rfl (by simp [Tryz.ntmps12]) ?_;simp only [Tryz.ntmps12,Tryz.results12];simp [go_sem]
 refine ⟨by omega,by omega,fun hne=>?_,fun hl=>?_⟩
 ·have:¬a.length=b.length:=by omega
  simp [HH,this]
 refine ZN (fun i:Nat=>i≤a.length∧∀ j,j<i→ZeU (Zq a j) (Zq b j)=true) (fun i=>a.length-i) (fun i=>.of [(0,.sl 2 a.length (Zh a)),(1,.sl 2 b.length (Zh b)),(5,.lit (.int .i64 i))] []) ⟨0,⟨by omega,fun j h=>by omega⟩,?_⟩ (fun i hi=>?_)
 ·simp [go_sem]
  exact ⟨fun i c _ h=>ZI _ i c h,fun i c _ h=>ZI _ i c h⟩
 ·obtain ⟨hi,hj⟩:=hi
  simp [go_sem]
  refine ⟨by omega,fun h=>?_,fun h=>?_⟩
  ·refine Zn [] (.q 0 <| .q 1 <| .q 2 <| .q 3 <| .q 4 <| .q 5 <| .q 6 <| .q 7 <| .or 8 (.q 9 <| .done) (.nil)) (by kernel_rfl) ?_
   simp [go_sem,ZD]
   refine ⟨h,by omega,Zv (Zg0 (Zq a i) (Zq b i)) (by simp [go_sem,PMod.cells]) ?_⟩
   simp [go_sem]
   refine ⟨fun e=>?_,fun e=>⟨i+1,⟨h,fun j h3=>?_⟩,by omega,⟨fun i c _ h=>ZI _ i c h,fun i c _ h=>ZI _ i c h,Zj (by omega)⟩⟩⟩
   ·simp only [HH,Bool.and_eq_false_iff]
    refine .inr ?_
    rw [List.all_eq_false]
    exact ⟨i,List.mem_range.2 h,by rw [e];simp⟩
   ·by_cases e2:j=i
    ·rw [e2];exact e
    ·exact hj j (by omega)
  ·have e:a.length=b.length:=by omega
   simp only [HH,e,decide_true,Bool.true_and,List.all_eq_true,List.mem_range]
   exact fun j h2=>hj j (by omega)
def Q1 (n k:Nat):List PMod:=(List.range n).map fun i=>⟨ZaM (k+2*i),ZaM (k+2*i+1)⟩
def Ws (l:List PMod) (k i j:Nat):List AV:=if j<i then Zh (Q1 l.length k) j else Zh l j
theorem ZgB {n k j:Nat} (h:j<n):Zh (Q1 n k) j=[.lit (.string (ZaM (k+2*j))),.lit (.string (ZaM (k+2*j+1)))]:=by
 unfold Zh Zq Q1
 rw [List.getD_eq_getElem?_getD,List.getElem?_map,List.getElem?_range h];rfl
theorem ZiB (l:List PMod) (k i j m:Nat):∀ c,c∈Ws l k i j→Bd m c:=by
 intro c h
 unfold Ws at h
 split at h
 ·exact .closed _ (ZI _ j c h)
 ·exact .closed _ (ZI l j c h)
theorem ZbV (l:List PMod) (k:Nat) (hl:l.length≤1048576) (hk:0<k∧k≤1000000000):VProc Tryz.prog 13 [.own 0,.lit (.int .i64 k)] [Zgx l] [] (fun av mem maps=>av=.lit (.int .i64 (k+2*l.length:Nat))∧mem=[some ⟨52,2,l.length,Zh (Q1 l.length k)⟩]∧maps=[]):=by
 refine Zu Tryz.func13 (by kernel_rfl) rfl (by simp [Tryz.ntmps13]) ?_;simp only [Tryz.ntmps13,Tryz.results13];simp [go_sem]
 refine ZN (fun i:Nat=>i≤l.length) (fun i=>l.length-i) (fun i=>⟨[(0,.own 0),(1,.lit (.int .i64 (k+2*i:Nat))),(5,.lit (.int .i64 i))],[some ⟨52,2,l.length,Ws l k i⟩],[],1⟩) ⟨0,by omega,?_⟩ (fun i hi=>?_)
 ·simp [go_sem,Ws,Zgx]
  exact fun i h c hc=>.closed _ (ZI l i c hc)
 ·simp [go_sem]
  refine ⟨by omega,fun h=>Zc (QB (k+2*i) (by omega)) ?_ ?_,fun h=>?_⟩
  ·simp [go_sem]
  ·simp [go_sem]
   have w1:=wrap_i64 (n:=(k:Int)+2*i+1) (by omega)
   simp only [w1]
   refine ⟨h,Zc (QB (k+2*i+1) (by omega)) (by simp [go_sem]) ?_⟩
   simp [go_sem]
   refine ⟨h,i+1,by omega,by omega,⟨by rw [wrap_i64 (by omega)];omega,Zj (by omega)⟩,fun j hj=>⟨?_,ZiB _ _ _ _ _⟩⟩
   simp only [WO h hj,WO h h,if_true]
   by_cases hji:j=i
   ·subst hji
    simp only [if_true,Ws,Nat.lt_irrefl,if_false,Nat.lt_succ_self,ZgB hj]
    simp [ZD,Y5]
   ·simp only [if_neg hji,Ws]
    by_cases h2:j<i
    ·rw [if_pos h2,if_pos (by omega)]
    ·rw [if_neg h2,if_neg (by omega)]
  ·have:i=l.length:=by omega
   subst this
   refine uF [] [some ⟨52,2,l.length,Zh (Q1 l.length k)⟩] (hm:=?_) (hR:=by simp [go_sem])
   simp [go_sem]
   exact Wr (fun i hi=>by simp only [Ws,if_pos hi]) (fun i _=>rfl)
theorem ZlC (x:AV):Ww (fun k=>k) x=x:=by cases x<;>rfl
theorem Zhv (x:AV):QU (fun k=>k) x=x:=by
 cases x with
 |agg cs=>
  show AV.agg (cs.map (Ww fun k=>k))=_
  congr 1
  exact (List.map_congr_left fun c _=>ZlC c).trans (List.map_id cs)
 | _=>rfl
theorem ZmG (x:AV):ren (fun k=>k) x=x:=by
 cases x with
 |tup cs=>
  show AV.tup (cs.map (QU fun k=>k))=_
  congr 1
  exact (List.map_congr_left fun c _=>Zhv c).trans (List.map_id cs)
 | _=>simp only [ren];exact Zhv _
theorem VFun.proc {P:Program} {f:FuncId} {args:List AV} {R:AV→List Ob→Prop} (h:VFun P f args R) (hc:∀ a,a∈args→Closed a):VProc P f args [] [] (fun av mem maps=>∃ obs,R av obs∧mem=obs.map some∧maps=[]):=by
 refine ⟨h.1,fun w vs hd0 hl hv hm hmp ht=>?_⟩
 have hl2:GS P w (fun b=>w.heap.size≤b) args vs:=⟨hl.1,hl.2.1,fun b hb=>hl.2.2 b (.inl hb)⟩
 have hv2:∀ (j:Nat) a u,args[j]?=some a→vs[j]?=some u→Rep w (fun _=>True) (fun _=>undef) 0 a u:=fun j a u h1 h2=>Rep.closed (hc a (List.mem_of_getElem? h1)) (fun ad u h3 h4=>⟨h4,trivial⟩) (hv j a u h1 h2)
 refine (h.2 w vs hl2 hv2).mono fun e w' ⟨v,e1,gr,hd,av,obs,r,fl,hlit,hme,hrep⟩=>?_
 obtain ⟨HD,hHD⟩:∃ HD:Nat→Value,HD=fun k=>if k<obs.length then hd k else hd0 k:=⟨_,rfl⟩
 have hlow:∀ k,k<obs.length→HD k=hd k:=fun k hk=>by rw [hHD];exact if_pos hk
 have heq:TailEq hd0 HD:=⟨obs.length,fun k hk=>by rw [hHD];exact if_neg (by omega)⟩
 have hme2:=hme.retail hlit hlow
 refine ⟨v,e1,⟨gr.os,gr.tape,gr.output,gr.size,fun k hk _=>gr.block k hk (by simp)⟩,HD,av,obs.map some,[],⟨obs,r,rfl,rfl⟩,⟨Nat.zero_le _,?_,fun k ob hk i hi c hcc=>?_,fun b hb=>hb⟩,⟨fun k hk=>absurd hk (Nat.not_lt_zero k),heq⟩,⟨fun k ob hk b hb=>.inl (hme2.alw k ob hk b hb),hme2.obs,hme2.hds,hme2.apart⟩,fun b mp hb=>by simp [lkm] at hb,?_⟩
 ·cases av with
  |tup cs=>exact fun c hcc=>.inl (List.all_eq_true.1 fl c hcc)
  | _=>exact .inl fl
 ·rw [List.getElem?_map,Option.map_eq_some_iff] at hk
  obtain ⟨x,hx,hx2⟩:=hk
  cases hx2
  exact .inl (List.all_eq_true.1 (Ks (hlit ob (List.mem_of_getElem? hx) i hi)) c hcc)
 ·have:=hrep.ren_ (w':=w') (ok':=Zw (obs.map some) HD) (hd':=HD) (m':=(obs.map some).length) (g:=fun k=>k) fl fun k _ hk=>⟨by simpa using hk,hlow k hk⟩
  rwa [ZmG] at this
theorem QA (l:List PMod) (hl:l.length≤1048576):VProc Tryz.prog 9 [.sl 2 l.length (Zh l)] [] [] (fun av mem maps=>av=.sl 2 l.length (Zh l)∧mem=[]∧maps=[]):=
 ((GA l hl).proc fun a ha=>by
  rw [List.mem_singleton] at ha;subst ha
  exact .sl _ _ _ fun i c _ h=>ZI _ i c h).giveR fun av mem maps h=>by
  obtain ⟨obs,⟨rfl,rfl⟩,rfl,rfl⟩:=h
  exact ⟨⟨52,2,l.length,Zh l⟩,l.length,Zh l,fun _ _=>rfl,rfl,rfl,Nat.le_refl _,fun i _ c hc=>ZI _ i c hc,.inl ⟨rfl,rfl⟩,rfl,rfl,rfl⟩
theorem uFK {maps0:List (Nat×Mp)} {R:AV→List (Option Ob)→List (Nat×Mp)→Prop} {t:List (Nat×AV)} {m:List (Option Ob)} {M:List (Nat×Mp)} {x:Value} (hs:∀ k,k<m.length→∃ ob,m[k]?=some (some ob)∧WN (fun k=>k) (List.range m.length) ob (some (some ob)))
  (hR:R (.lit x) m M) (hM:∀ b,(lkm maps0 b).isSome=true→(lkm M b).isSome=true:=by simp [go_sem]):VJ maps0 R ⟨t,m,M,m.length⟩ (.lit x):=by
 refine ⟨rfl,[],m,by simp,by simp,⟨by simp [go_sem],by simp [go_sem]⟩,?_,hM,hR⟩
 have e0:XY m.length []=List.range m.length:=by unfold XY;simp
 show UC (YX m.length []) (XY m.length []) m (XY m.length []) m
 rw [e0]
 have key:∀ (l:List Nat) (r:List (Option Ob)),l.length=r.length→(∀ (j k:Nat),l[j]?=some k→k<m.length∧r[j]?=m[k]?)→UC (YX m.length []) (List.range m.length) m l r:=fun l=>by
  induction l with
  |nil=>intro r hl _;cases r with
   |nil=>trivial
   |cons _ _=>simp at hl
  |cons k l ih=>
   intro r hl h
   cases r with
   |nil=>simp at hl
   |cons o r=>
    obtain ⟨h1,h2⟩:=h 0 k rfl
    obtain ⟨ob,h3,h4⟩:=hs k h1
    rw [List.getElem?_cons_zero,h3] at h2
    cases h2
    refine ⟨?_,ih r (by simpa using hl) fun j q hq=>h (j+1) q (by simpa using hq)⟩
    rw [h3]
    obtain ⟨g1,g2,g3,g4⟩:=h4
    refine ⟨rfl,rfl,rfl,fun i hi=>?_⟩
    obtain ⟨q1,q2,q3⟩:=g4 i hi
    refine ⟨?_,q2,q3⟩
    refine (List.map_congr_left fun c hc=>?_).trans q1
    cases c with
    |own k=>show AV.own _=AV.own _;congr 1;unfold YX;rw [if_pos (by have:=q3 _ hc k (by simp [WI]);simpa using this)]
    |ptr k _ _ _=>show AV.ptr _ _ _ _=AV.ptr _ _ _ _;congr 1;unfold YX;rw [if_pos (by have:=q3 _ hc k (by simp [WI]);simpa using this)]
    |sub k _ _ _=>show AV.sub _ _ _ _=AV.sub _ _ _ _;congr 1;unfold YX;rw [if_pos (by have:=q3 _ hc k (by simp [WI]);simpa using this)]
    | _=>rfl
 exact key _ _ (by simp) fun j k hj=>by
  obtain ⟨h1,h2⟩:=List.getElem?_eq_some_iff.1 hj
  simp at h1 h2
  subst h2
  exact ⟨h1,rfl⟩
def V9 (n:Nat):List Nat:=1::(List.range n).map (·+2)
theorem Kb (n:Nat):(V9 n).length=n+1:=by simp [V9]
theorem Zbx (n:Nat):(V9 n).Nodup:=by
 unfold V9
 rw [List.nodup_cons]
 refine ⟨fun hm=>?_,?_⟩
 ·rw [List.mem_map] at hm
  obtain ⟨a,_,e⟩:=hm
  omega
 ·unfold List.Nodup
  rw [List.pairwise_map]
  exact List.Pairwise.imp (fun h e=>h (by omega)) (List.nodup_range (n:=n))
theorem ZhU {n j:Nat} (h:j<n+1):(V9 n)[j]?=some (j+1):=by
 unfold V9
 cases j with
 |zero=>rfl
 |succ j=>rw [List.getElem?_cons_succ,List.getElem?_map,List.getElem?_range (by omega)];rfl
theorem ZcJ {n j:Nat} (h:j<n+1):(V9 n).getD j 0=j+1:=by rw [List.getD_eq_getElem?_getD,ZhU h];rfl
theorem Zjd (n j:Nat):YV (V9 n) (n+2) j=j+1:=by
 unfold YV
 rw [Kb]
 split
 ·rename_i h;exact ZcJ h
 ·omega
theorem Zch {f:Nat→Nat} {m:Nat} {mem:List (Option Ob)} {α:Type} (p:α→Nat) (q:α→Ob):∀ {l:List α},(∀ a,a∈l→Zle f m (q a) (mem[p a]?))→XS f m mem (l.map p) (l.map fun a=>some (q a))
 |[],_=>trivial
 |a::l,h=>⟨h a (by simp),Zch p q fun b hb=>h b (by simp [hb])⟩
def Zc9 (ty n:Nat):Option Ob:=some ⟨ty,1,n,fun a=>[.own (a+1+1)]⟩
theorem ZbL:∀ ty n,Zc9 ty n=some ⟨ty,1,n,fun a=>[.own (a+1+1)]⟩:=fun _ _=>rfl
theorem Ziy {x:Option Ob} {ty n:Nat} {g g':Nat→Ob} (hg:∀ a i,((g' a).f i).all YL=true):YQ (x::Zc9 ty n::Rw g n) (V9 n) (some ⟨ty,1,n,fun a=>[.own (a+1)]⟩::Rw g' n)=x::Zc9 ty n::Rw g' n:=by
 have hl:(x::Zc9 ty n::Rw g n).length=n+2:=by rw [List.length_cons,List.length_cons,XT]
 have hl':(some (⟨ty,1,n,fun a=>[.own (a+1)]⟩:Ob)::Rw g' n).length=n+1:=by rw [List.length_cons,XT]
 have e0:YV (V9 n) (n+2)=(·+1):=by funext j;exact Zjd n j
 unfold YQ
 rw [hl,e0,Kb]
 have e1:(some (⟨ty,1,n,fun a=>[.own (a+1)]⟩:Ob)::Rw g' n).take (n+1)=some (⟨ty,1,n,fun a=>[.own (a+1)]⟩:Ob)::Rw g' n:=List.take_of_length_le (by rw [hl'];exact Nat.le_refl _)
 have e2:(some (⟨ty,1,n,fun a=>[.own (a+1)]⟩:Ob)::Rw g' n).drop (n+1)=[]:=List.drop_eq_nil_of_le (by rw [hl'];exact Nat.le_refl _)
 rw [e1,e2,List.map_nil,List.append_nil,List.map_cons,ZmX]
 have e3:Rw (fun a=>VM (·+1) (g' a)) n=Rw g' n:=Kf fun a _=>K6 (hg a)
 have e4:Option.map (VM (·+1)) (some (⟨ty,1,n,fun a=>[.own (a+1)]⟩:Ob))=Zc9 ty n:=rfl
 rw [e3,e4]
 have hlt:∀ k,k∈V9 n→k<(x::Zc9 ty n::Rw g n).length:=fun k hk=>by
  rw [hl]
  unfold V9 at hk
  rw [List.mem_cons,List.mem_map] at hk
  rcases hk with rfl|⟨a,ha,rfl⟩
  ·omega
  ·have:=List.mem_range.1 ha;omega
 have hll:(V9 n).length=(Zc9 ty n::Rw g' n).length:=by rw [Kb,List.length_cons,XT]
 apply List.ext_getElem?
 intro k
 by_cases hk:k<n+2
 ·cases k with
  |zero=>
   rw [Ql _ _ _ _ (by unfold V9;simp)];rfl
  |succ k=>rw [Hu _ _ _ (Zbx n) hll hlt k (k+1) (ZhU (by omega)),List.getElem?_cons_succ]
 ·rw [List.getElem?_eq_none (by rw [Qm,hl];omega),List.getElem?_eq_none (by rw [List.length_cons,List.length_cons,XT];omega)]
theorem uB {P:Program} {f:FuncId} {avs args':List AV} {k:AV→VS→Prop} {R:AV→List (Option Ob)→List (Nat×Mp)→Prop} {x:Option Ob} {ty n fx:Nat} {g:Nat→Ob} {t:List (Nat×AV)}
  (h:VProc P f args' (some ⟨ty,1,n,fun a=>[.own (a+1)]⟩::Rw g n) [] R) (ha:ZO (fun j=>(V9 n).getD j 0) (n+1) avs args') (hg:∀ a i,((g a).f i).all YL=true)
  (hk:∀ av mem' maps',R av mem' maps'→∃ g' v,av=.lit v∧mem'=some ⟨ty,1,n,fun a=>[.own (a+1)]⟩::Rw g' n∧maps'=[]∧(∀ a i,((g' a).f i).all YL=true)∧k (.lit v) ⟨t,x::Zc9 ty n::Rw g' n,[],fx⟩):Wn P f avs ⟨t,x::Zc9 ty n::Rw g n,[],fx⟩ k:=by
 refine Zx (V9 n) h (Zbx n) (by rw [Kb];exact ha) ?_ trivial fun av mem' maps' r=>?_
 ·rw [Kb]
  refine ⟨⟨rfl,rfl,rfl,fun i hi=>?_⟩,?_⟩
  ·have hi:i<n:=hi
   simp only [ZO,and_true]
   have:Rn (fun j=>(V9 n).getD j 0) (n+1) (.own ((V9 n).getD (i+1) 0)) (.own (i+1)):=by simp [go_sem,hi]
   rwa [ZcJ (by omega)] at this
  ·unfold Rw
   refine Zch (·+2) g fun a ha=>?_
   show Zle _ _ (g a) ((Rw g n)[a]?)
   rw [Vh _ (List.mem_range.1 ha)]
   have:=hg a
   generalize g a=ob at this
   obtain ⟨ty',sz,n',f⟩:=ob
   refine ⟨rfl,rfl,rfl,fun i hi=>?_⟩
   have key:∀ l:List AV,l.all YL=true→ZO (fun j=>(V9 n).getD j 0) (n+1) l l:=fun l=>by
    induction l with
    |nil=>intro _;trivial
    |cons c l ih=>
     intro hl
     rw [List.all_cons,Bool.and_eq_true] at hl
     refine ⟨?_,ih hl.2⟩
     have:=hl.1
     cases c with
     |lit v=>simp [go_sem]
     | _=>cases this
   exact key _ (this i)
 ·obtain ⟨g',v,rfl,rfl,rfl,hg',hk⟩:=hk av mem' maps' r
  rw [Ziy hg']
  exact hk
theorem Zcv {L:List PMod} (h:(YE L).1=0):LoadOk L:=by
 unfold YE at h
 split at h
 ·simp at h
 rename_i h1
 split at h
 ·simp at h
 split at h
 ·simp at h
 split at h
 ·simp at h
 rename_i h4
 split at h
 ·simp at h
 rename_i h5
 exact LoadOk.of (by omega) (ZcC h4) (ZcC h5)
def Wf (S:Nat→List PNode) (i:Nat):List AV:=[.sl 4 (S i).length (ZE (S i))]
theorem QQ (S:Nat→List PNode) (i:Nat) (c:AV) (h:c∈Wf S i):Closed c:=by
 unfold Wf at h
 rw [List.mem_singleton] at h
 subst h
 exact .sl _ _ _ fun k c _ h=>ZQ _ k c h
theorem KNd:(∀ l i c,(c∈ZE l i→Closed c)=True)∧(∀ g m l i,ZO g m (ZE l i) (ZE l i)=True)∧(∀ (g:Nat→Nat) ks ty n l,WN g ks ⟨ty,4,n,ZE l⟩ (some (some ⟨ty,4,n,ZE l⟩))=True):=
 ⟨fun _ _ _=>eq_true (ZQ _ _ _),fun _ _ _ i=>eq_true (ZK (Xc _ i)),fun _ _ _ _ _=>eq_true (Wr (fun _ _=>rfl) fun i _=>Xc _ i)⟩
def YD (l:List PNode):Ob:=⟨137,4,l.length,ZE l⟩
def Yz (n:Nat):Option Ob:=some ⟨80,1,n,fun a=>[.own (a+1)]⟩
theorem KTr:∀ n,Yz n=some ⟨80,1,n,fun a=>[.own (a+1)]⟩:=fun _=>rfl
def U2 (n m:Nat) (S T:Nat→List PNode):Bool:=decide (n=m)&&(List.range n).all fun i=>Vr (S i) (T i)
theorem Zav (n:Nat) (S:Nat→List PNode):U2 n n S S=true:=by simp [U2,ZeM]
theorem ZaI (n:Nat) (g:Nat→Ob) (hg:∀ a i,((g a).f i).all YL=true):∀ k,k<(Yz n::Rw g n).length→∃ ob,(Yz n::Rw g n)[k]?=some (some ob)∧WN (fun k=>k) (List.range (Yz n::Rw g n).length) ob (some (some ob)):=fun k hk=>by
 rw [List.length_cons,XT] at hk ⊢
 cases k with
 |zero=>
  refine ⟨_,rfl,rfl,rfl,rfl,fun i hi=>⟨?_,fun c hc=>?_,fun c hc q hq=>?_⟩⟩
  ·rfl
  ·simp only [List.mem_singleton] at hc;subst hc;exact .inl rfl
  ·simp only [List.mem_singleton] at hc;subst hc
   simp only [WI,List.mem_singleton] at hq
   subst hq
   simp only at hi
   rw [List.mem_range];omega
 |succ k=>
  rw [List.getElem?_cons_succ,Vh _ (by omega)]
  refine ⟨_,rfl,?_⟩
  have:=hg k
  generalize g k=ob at this
  obtain ⟨ty,sz,n',f⟩:=ob
  exact Wr (fun _ _=>rfl) fun i _=>this i
theorem ZlF (n:Nat) (S:Nat→List PNode):∀ k,k<(Yz n::Rw (fun a=>YD (S a)) n).length→∃ ob,(Yz n::Rw (fun a=>YD (S a)) n)[k]?=some (some ob)∧WN (fun k=>k) (List.range (Yz n::Rw (fun a=>YD (S a)) n).length) ob (some (some ob)):=ZaI n _ fun a i=>Xc _ i
set_option maxRecDepth 100000 in
theorem Zja (n m:Nat) (hn:n≤1000∧m≤1000) (S T:Nat→List PNode) (hS:∀ i,i<n→(S i).length≤10000000) (hT:∀ i,i<m→(T i).length≤10000000):VProc Tryz.prog 18 [.own 0,.sl 1 m (Wf T)] (Yz n::Rw (fun a=>YD (S a)) n) []
  (fun av mem maps=>av=.lit (.bool (U2 n m S T))∧mem=Yz n::Rw (fun a=>YD (S a)) n∧maps=[]):=by
 have hlen:(Yz n::Rw (fun a=>YD (S a)) n).length=n+1:=by rw [List.length_cons,XT]
 have fin:∀ (b:Bool) (t:List (Nat×AV)),b=U2 n m S T→VJ [] (fun av mem maps=>av=.lit (.bool (U2 n m S T))∧mem=Yz n::Rw (fun a=>YD (S a)) n∧maps=[]) ⟨t,Yz n::Rw (fun a=>YD (S a)) n,[],n+1⟩ (.lit (.bool b)):=fun b t e=>by
  have:=uFK (maps0:=[]) (R:=fun av mem maps=>av=.lit (.bool (U2 n m S T))∧mem=Yz n::Rw (fun a=>YD (S a)) n∧maps=[]) (t:=t) (M:=[]) (x:=.bool b) (ZlF n S) ⟨by rw [e],rfl,rfl⟩
  rwa [hlen] at this
 refine Zu Tryz.func18 (by kernel_rfl) rfl (by simp [Tryz.ntmps18]) ?_;simp only [Tryz.ntmps18,Tryz.results18];simp [go_sem]
 simp [go_sem,KTr]
 refine ⟨by omega,by omega,fun hne=>?_,fun hnm=>?_⟩
 ·exact fin false _ (by unfold U2;rw [decide_eq_false (by omega)];rfl)
 have hnm:n=m:=by omega
 refine ZC (fun i:Nat=>i≤n∧∀ j,j<i→Vr (S j) (T j)=true) (fun i=>n-i) (fun i=>⟨[(0,.own 0),(1,.sl 1 m (Wf T)),(5,.lit (.int .i64 i))],Yz n::Rw (fun a=>YD (S a)) n,[],n+1⟩) ⟨0,⟨Nat.zero_le _,fun j h=>absurd h (Nat.not_lt_zero j)⟩,?_⟩ (fun i hi=>?_)
 ·exact Y6 (by simp [go_sem])
 obtain ⟨hi,hb⟩:=hi
 simp [go_sem,KTr]
 refine ⟨by omega,fun h=>?_,fun h=>?_⟩
 ·have wri:IntKind.i64.wrap ((i:Int)+1)=(i:Int)+1:=wrap_i64 (by omega)
  have h1:=hS i h
  have h2:=hT i (by omega)
  refine Zn [] (.q 0 <| .q 1 <| .q 2 <| .q 3 <| .q 4 <| .q 5 <| .q 6 <| .q 7 <| .or 8 (.q 9 <| .done) (.nil)) (by kernel_rfl) ?_
  simp [go_sem,KTr,Wf]
  refine ⟨h,by omega,Zv (ZfF (S i) (T i) (by omega) (by omega)) (by
   simp [go_sem]
   exact ⟨Xq (ty:=137) (N:=(S i).length) (f:=ZE (S i)) (by rw [List.getElem?_cons_succ];exact Vh _ h) (by omega) rfl (fun _ _=>rfl) fun i c _ h=>ZQ _ i c h,Zb (by omega) fun i c _ h=>ZQ _ i c h⟩) ?_⟩
  simp [go_sem,KTr]
  refine ⟨fun e=>?_,fun e=>⟨i+1,⟨h,fun j hj=>?_⟩,by omega,?_⟩⟩
  ·exact fin false _ (by
    unfold U2
    have:(List.range n).all (fun i=>Vr (S i) (T i))=false:=by
     rw [List.all_eq_false]
     exact ⟨i,List.mem_range.2 h,by rw [e];simp⟩
    rw [this,Bool.and_false])
  ·by_cases e2:j=i
   ·rw [e2];exact e
   ·exact hb j (by omega)
  ·exact Y6 (by simp [go_sem,wri])
 ·exact fin true _ (by
   unfold U2
   rw [decide_eq_true hnm,Bool.true_and]
   symm
   rw [List.all_eq_true]
   intro j hj
   exact hb j (by have:=List.mem_range.1 hj;omega))
def XF (S:Nat→List PNode) (k:Nat):Nat→Nat
 |0=>k
 |i+1=>XF S k i+4*(S i).length
theorem QZ {S:Nat→List PNode} {k c:Nat}:∀ n,(∀ i,i<n→(S i).length≤c)→k≤XF S k n∧XF S k n≤k+4*(n*c)
 |0,_=>by simp [XF]
 |n+1,h=>by
  have h1:=QZ (k:=k) n fun i hi=>h i (by omega)
  have h2:=h n (by omega)
  show k≤XF S k n+4*(S n).length∧XF S k n+4*(S n).length≤_
  have h3:(n+1)*c=n*c+c:=Nat.succ_mul n c
  omega
def Yw (S:Nat→List PNode) (k a:Nat):Ob:=⟨137,4,(S a).length,Ys (XF S k a)⟩
set_option maxRecDepth 100000 in
theorem Zfs (n:Nat) (hn:n≤100) (S:Nat→List PNode) (hS:∀ i,i<n→(S i).length≤300000) (k:Nat) (hk:0<k∧k≤1000000):VProc Tryz.prog 19 [.own 0,.lit (.int .i64 k)] (Yz n::Rw (fun a=>YD (S a)) n) []
  (fun av mem maps=>av=.lit (.int .i64 (XF S k n))∧mem=Yz n::Rw (Yw S k) n∧maps=[]):=by
 have hk2:∀ i,i≤n→XF S k i≤900000000:=fun i hi=>by
  have h1:=(QZ (k:=k) i fun j hj=>hS j (by omega)).2
  have:i*300000≤100*300000:=Nat.mul_le_mul_right _ (by omega)
  omega
 have hk1:∀ i,i≤n→k≤XF S k i:=fun i hi=>(QZ (k:=k) i fun j hj=>hS j (by omega)).1
 have hlen:(Yz n::Rw (Yw S k) n).length=n+1:=by rw [List.length_cons,XT]
 refine Zu Tryz.func19 (by kernel_rfl) rfl (by simp [Tryz.ntmps19]) ?_;simp only [Tryz.ntmps19,Tryz.results19];simp [go_sem]
 simp [go_sem,KTr]
 refine ZC (fun i:Nat=>i≤n) (fun i=>n-i) (fun i=>⟨[(0,.own 0),(1,.lit (.int .i64 (XF S k i))),(5,.lit (.int .i64 i))],Yz n::Rw (fun a=>if a<i then Yw S k a else YD (S a)) n,[],n+1⟩) ⟨0,Nat.zero_le _,?_⟩ (fun i hi=>?_)
 ·exact Y6 (by simp [go_sem,XF])
 simp [go_sem,KTr]
 refine ⟨by omega,fun h=>⟨h,?_⟩,fun h=>?_⟩
 ·have wri:IntKind.i64.wrap ((i:Int)+1)=(i:Int)+1:=wrap_i64 (by omega)
  have h1:=hS i h
  have a1:=hk1 i hi
  have a2:=hk2 i hi
  have r1:=Vh (fun a=>if a<i then Yw S k a else YD (S a)) h
  have r2:=fun x=>Zg8 (fun a=>if a<i then Yw S k a else YD (S a)) h x
  simp only [Nat.lt_irrefl,if_false,YD] at r1
  refine uS [i+1] (Zft (S i) (XF S k i) (by omega) (by omega)) ?_ (hs:=by simp [go_sem,r1,YD,K5,KNd])
  rintro av mem maps ⟨rfl,rfl,rfl⟩
  simp [go_sem,KTr,r2]
  refine ⟨i+1,h,by omega,?_⟩
  have e:Rw (fun a=>if a=i then (⟨137,4,(S i).length,Ys (XF S k i)⟩:Ob) else if a<i then Yw S k a else YD (S a)) n=Rw (fun a=>if a<i+1 then Yw S k a else YD (S a)) n:=Kf fun a _=>by
   by_cases e:a=i
   ·subst e;rw [if_pos rfl,if_pos (by omega)];rfl
   ·rw [if_neg e]
    by_cases h:a<i
    ·rw [if_pos h,if_pos (by omega)]
    ·rw [if_neg h,if_neg (by omega)]
  rw [e]
  exact Y6 (by simp [go_sem,wri,XF])
 ·obtain rfl:i=n:=by omega
  have e:Rw (fun a=>if a<i then Yw S k a else YD (S a)) i=Rw (Yw S k) i:=Kf fun a h=>if_pos h
  rw [e]
  have:=uFK (maps0:=[]) (R:=fun av mem maps=>av=.lit (.int .i64 (XF S k i))∧mem=Yz i::Rw (Yw S k) i∧maps=[]) (t:=[(0,.own 0),(1,.lit (.int .i64 (XF S k i))),(5,.lit (.int .i64 i))]) (M:=[]) (x:=.int .i64 (XF S k i)) (ZaI i (Yw S k) fun a j=>rfl) ⟨rfl,rfl,rfl⟩
  rwa [hlen] at this
set_option maxRecDepth 100000 in
theorem ZfD (n:Nat) (hn:n≤100) (S:Nat→List PNode) (hS:∀ i,i<n→(S i).length≤300000) (k:Nat) (hk:0<k∧k≤1000000):VProc Tryz.prog 20 [.own 0,.lit (.int .i64 k)] (Yz n::Rw (Yw S k) n) []
  (fun av mem maps=>av=.lit (.int .i64 (XF S k n))∧mem=Yz n::Rw (Yw S k) n∧maps=[]):=by
 have hk2:∀ i,i≤n→XF S k i≤900000000:=fun i hi=>by
  have h1:=(QZ (k:=k) i fun j hj=>hS j (by omega)).2
  have:i*300000≤100*300000:=Nat.mul_le_mul_right _ (by omega)
  omega
 have hk1:∀ i,i≤n→k≤XF S k i:=fun i hi=>(QZ (k:=k) i fun j hj=>hS j (by omega)).1
 have hlen:(Yz n::Rw (Yw S k) n).length=n+1:=by rw [List.length_cons,XT]
 refine Zu Tryz.func20 (by kernel_rfl) rfl (by simp [Tryz.ntmps20]) ?_;simp only [Tryz.ntmps20,Tryz.results20];simp [go_sem]
 simp [go_sem,KTr]
 refine ZC (fun i:Nat=>i≤n) (fun i=>n-i) (fun i=>⟨[(0,.own 0),(1,.lit (.int .i64 (XF S k i))),(5,.lit (.int .i64 i))],Yz n::Rw (Yw S k) n,[],n+1⟩) ⟨0,Nat.zero_le _,?_⟩ (fun i hi=>?_)
 ·exact Y6 (by simp [go_sem,XF])
 simp [go_sem,KTr]
 refine ⟨by omega,fun h=>⟨h,?_⟩,fun h=>?_⟩
 ·have wri:IntKind.i64.wrap ((i:Int)+1)=(i:Int)+1:=wrap_i64 (by omega)
  have h1:=hS i h
  have a1:=hk1 i hi
  have a2:=hk2 i hi
  refine Zc (ZfE (S i).length (XF S k i) (by omega) (by omega)) (by
   simp [go_sem]
   exact Xq (ty:=137) (N:=(S i).length) (f:=Ys (XF S k i)) (by rw [List.getElem?_cons_succ];exact Vh _ h) (by omega) rfl (fun _ _=>rfl) fun i c _ h=>Gn _ i c h) ?_
  simp [go_sem,KTr]
  refine ⟨fun e=>absurd e (by omega),fun _=>⟨i+1,h,by omega,Y6 (by simp [go_sem,wri,XF])⟩⟩
 ·obtain rfl:i=n:=by omega
  have:=uFK (maps0:=[]) (R:=fun av mem maps=>av=.lit (.int .i64 (XF S k i))∧mem=Yz i::Rw (Yw S k) i∧maps=[]) (t:=[(0,.own 0),(1,.lit (.int .i64 (XF S k i))),(5,.lit (.int .i64 i))]) (M:=[]) (x:=.int .i64 (XF S k i)) (ZaI i (Yw S k) fun a j=>rfl) ⟨rfl,rfl,rfl⟩
  rwa [hlen] at this
set_option maxRecDepth 100000 in
theorem ZgZ (n m:Nat) (hn:n≤1000∧m≤1000) (S T:Nat→List PNode) (hS:∀ i,i<n→(S i).length≤10000000) (hT:∀ i,i<m→(T i).length≤10000000):VFun Tryz.prog 18 [.sl 1 n (Wf S),.sl 1 m (Wf T)]
  (fun av obs=>obs=[]∧av=.lit (.bool (U2 n m S T))):=by
 refine Zd Tryz.func18 (by kernel_rfl) rfl (by simp [Tryz.ntmps18]) ?_;simp only [Tryz.ntmps18,Tryz.results18];simp [go_sem]
 refine ⟨by omega,by omega,fun hne=>?_,fun hnm=>?_⟩
 ·unfold U2;rw [decide_eq_false (by omega)];rfl
 have hnm:n=m:=by omega
 have hS1:∀ i c,i<n→c∈Wf S i→Closed c:=fun i c _ h=>QQ _ i c h
 have hT1:∀ i c,i<m→c∈Wf T i→Closed c:=fun i c _ h=>QQ _ i c h
 refine ZN (fun i:Nat=>i≤n∧∀ j,j<i→Vr (S j) (T j)=true) (fun i=>n-i) (fun i=>.of [(0,.sl 1 n (Wf S)),(1,.sl 1 m (Wf T)),(5,.lit (.int .i64 i))] []) ⟨0,⟨Nat.zero_le _,fun j h=>absurd h (Nat.not_lt_zero j)⟩,?_⟩ (fun i hi=>?_)
 ·simp [go_sem]
  exact ⟨hS1,hT1⟩
 obtain ⟨hi,hb⟩:=hi
 simp [go_sem]
 refine ⟨by omega,fun h=>?_,fun h=>?_⟩
 ·have wri:IntKind.i64.wrap ((i:Int)+1)=(i:Int)+1:=wrap_i64 (by omega)
  have h1:=hS i h
  have h2:=hT i (by omega)
  refine Zn [] (.q 0 <| .q 1 <| .q 2 <| .q 3 <| .q 4 <| .q 5 <| .q 6 <| .q 7 <| .or 8 (.q 9 <| .done) (.nil)) (by kernel_rfl) ?_
  simp [go_sem,Wf]
  refine ⟨h,by omega,Zv (ZfF (S i) (T i) (by omega) (by omega)) (by
   simp [go_sem]
   exact ⟨Zb (by omega) fun i c _ h=>ZQ _ i c h,Zb (by omega) fun i c _ h=>ZQ _ i c h⟩) ?_⟩
  simp [go_sem]
  refine ⟨fun e=>?_,fun e=>⟨i+1,⟨h,fun j hj=>?_⟩,by omega,?_⟩⟩
  ·unfold U2
   have:(List.range n).all (fun i=>Vr (S i) (T i))=false:=by
    rw [List.all_eq_false]
    exact ⟨i,List.mem_range.2 h,by rw [e];simp⟩
   rw [this,Bool.and_false]
  ·by_cases e2:j=i
   ·rw [e2];exact e
   ·exact hb j (by omega)
  ·exact ⟨hS1,hT1,wri⟩
 ·unfold U2
  rw [decide_eq_true hnm,Bool.true_and]
  rw [List.all_eq_true]
  intro j hj
  exact hb j (by have:=List.mem_range.1 hj;omega)
open Go.Maps (Keyed)
def noOp:POp:=⟨⟨#[]⟩,0,0,0⟩
theorem Zhd:W7 Tryz.prog 73 (opV noOp):=fun w=>Tryz.zeroValue73 w
def W6 (l:List POp):Prop:=∀ i j,i<l.length→j<l.length→(Zl l i).text=(Zl l j).text→((Zl l i).kind==1)=((Zl l j).kind==1)→Zl l i=Zl l j
theorem Qk {l:List POp} (h:XM l=0):W6 l:=by
 have hc:YN l 3=false:=by
  unfold XM at h
  cases hh:YN l 3
  ·rfl
  ·rw [hh] at h
   split at h
   ·cases h
   ·split at h
    ·cases h
    ·simp at h
 intro i j hi hj e1 e2
 have no:∀ i j,i<l.length→j<i→XP (Zl l i) (Zl l j) 3=true→False:=fun i j hi hj hcl=>by
  have:=(XC l 3).2 ⟨i,hi,j,hj,hcl⟩
  rw [hc] at this
  cases this
 rcases Nat.lt_trichotomy i j with hlt|rfl|hlt
 ·exact (no j i hj hlt (by simp [XP,e1,e2])).elim
 ·rfl
 ·exact (no i j hi hlt (by simp [XP,e1,e2])).elim
theorem ZfL {l:List POp} {es:List (Value×Value)} (h:GU l l.length es) (z:ByteArray) (pre:Bool) :
  (mget es (.agg #[.string z,.bool pre])=none∧∀ j,j<l.length→¬((Zl l j).text=z∧((Zl l j).kind==1)=pre))∨
  ∃ j,j<l.length∧mget es (.agg #[.string z,.bool pre])=some (opV (Zl l j))∧(Zl l j).text=z∧((Zl l j).kind==1)=pre:=by
 cases hm:mget es (.agg #[.string z,.bool pre]) with
 |none=>
  refine .inl ⟨rfl,fun j hj e=>?_⟩
  have:=h.1 j hj
  rw [Wp,e.1,e.2,hm] at this
  cases this
 |some v=>
  obtain ⟨j,hj,e1,e2⟩:=h.2 _ _ hm
  simp only [Wp,Value.agg.injEq,Array.mk.injEq,List.cons.injEq,Value.string.injEq,Value.bool.injEq,and_true] at e1
  exact .inr ⟨j,hj,by rw [e2],e1.1.symm,e1.2.symm⟩
theorem Xl (l:List POp) (z:ByteArray) (k:Int):Z5 l z k=true↔∃ j,j<l.length∧(Zl l j).text=z∧(Zl l j).kind=k:=by
 simp [Z5]
theorem ZmS (l:List POp) (hu:W6 l) (b1 b2:Nat) (es:List (Value×Value)) (h:GU l l.length es) (z:ByteArray) (hz:z.size≤maxLen) (k:Int):VProc Tryz.prog 138 [.agg [.lit (.map (some b1)),.lit (.map (some b2))],.lit (.string z),.lit (.int .i64 k)] [] [(b1,⟨109,es⟩)] (fun av mem maps=>(∃ o:POp,av=.tup [.agg o.cells,.lit (.bool (Z5 l z k))]∧(Z5 l z k=true→∃ j,j<l.length∧o=Zl l j∧o.text=z∧o.kind=k))∧mem=[]∧maps=[(b1,⟨109,es⟩)]):=by
 have fin:∀ (t:List (Nat×AV)) (m:List (Option Ob)) (o:POp),(Z5 l z k=true→∃ j,j<l.length∧o=Zl l j∧o.text=z∧o.kind=k)→VJ [(b1,⟨109,es⟩)] (fun av mem maps=>(∃ o:POp,av=.tup [.agg o.cells,.lit (.bool (Z5 l z k))]∧(Z5 l z k=true→∃ j,j<l.length∧o=Zl l j∧o.text=z∧o.kind=k))∧mem=[]∧maps=[(b1,⟨109,es⟩)]) ⟨t,m,[(b1,⟨109,es⟩)],0⟩ (.tup [.agg o.cells,.lit (.bool (Z5 l z k))]):=by
  intro t m o ho
  refine ⟨rfl,[],[],by simp,by simp,by simp [go_sem,POp.cells],by simp [go_sem],by simp [go_sem],?_⟩
  simp only [POp.cells]
  exact ⟨⟨o,rfl,ho⟩,by simp [go_sem],by simp⟩
 refine Zu Tryz.func138 (by kernel_rfl) rfl (by simp [Tryz.ntmps138]) ?_;simp only [Tryz.ntmps138,Tryz.results138];simp [go_sem]
 refine Yj Uv (Q4 hz) _ Zhd ?_
 rcases ZfL h z (k==1) with ⟨h1,h3⟩|⟨j,hj,h1,h3,h4⟩
 ·rw [h1]
  have hno:Z5 l z k=false:=by
   rw [Bool.eq_false_iff]
   intro e
   obtain ⟨j,hj,e1,e2⟩:=(Xl l z k).1 e
   exact h3 j hj ⟨e1,by rw [e2]⟩
  simp [go_sem,opV,noOp]
  refine Zb5 (⟨[(6,.ptr 0 4 0 0),(7,.lit (.bool false))],[some ⟨73,4,1,fun _=>noOp.cells⟩],[(b1,⟨109,es⟩)],0⟩) [8] (.q 0 <| .q 1 <| .q 2 <| .or 3 (.or 4 (.or 5 (.or 6 (.or 7 (.or 8 (.q 9 <| .done) (.nil)) (.or 8 (.q 7 <| .q 9 <| .done) (.nil))) (.or 8 (.q 6 <| .q 7 <| .q 9 <| .done) (.nil))) (.or 8 (.q 5 <| .q 6 <| .q 7 <| .q 9 <| .done) (.nil))) (.or 5 (.or 4 (.or 6 (.or 7 (.or 8 (.q 9 <| .done) (.nil)) (.or 8 (.q 7 <| .q 9 <| .done) (.nil))) (.or 8 (.q 6 <| .q 7 <| .q 9 <| .done) (.nil))) (.or 8 (.q 4 <| .q 6 <| .q 7 <| .q 9 <| .done) (.nil))) (.or 8 (.q 4 <| .q 5 <| .q 6 <| .q 7 <| .q 9 <| .done) (.nil)))) (.or 5 (.or 3 (.or 4 (.or 6 (.or 7 (.or 8 (.q 9 <| .done) (.nil)) (.or 8 (.q 7 <| .q 9 <| .done) (.nil))) (.or 8 (.q 6 <| .q 7 <| .q 9 <| .done) (.nil))) (.or 8 (.q 4 <| .q 6 <| .q 7 <| .q 9 <| .done) (.nil))) (.or 8 (.q 3 <| .q 4 <| .q 6 <| .q 7 <| .q 9 <| .done) (.nil))) (.or 8 (.q 3 <| .q 4 <| .q 5 <| .q 6 <| .q 7 <| .q 9 <| .done) (.nil)))) (by kernel_rfl) ?_ ?_
  ·simp [go_sem]
   repeat' apply And.intro
   all_goals
    refine ZU [1] (by simp) (by simp) (by simp) (by simp) (by simp [go_sem]) ?_ ?_
    ·simp [go_sem]
    ·simp [go_sem,noOp,POp.cells]
  ·have:=fin [(6,.ptr 0 4 0 0),(7,.lit (.bool false))] [some ⟨73,4,1,fun _=>noOp.cells⟩] noOp (fun e=>by rw [hno] at e;cases e)
   rw [hno] at this ⊢
   simp only [POp.cells,noOp] at this
   simp [go_sem,noOp,POp.cells] at this ⊢
   exact this
 ·rw [h1]
  have hyes:Z5 l z k=((Zl l j).kind==k):=by
   rw [Bool.eq_iff_iff,Xl]
   simp only [beq_iff_eq]
   constructor
   ·rintro ⟨j',hj',e1,e2⟩
    have:=hu j' j hj' hj (by rw [e1,h3]) (by rw [e2,h4])
    rw [←this];exact e2
   ·exact fun e=>⟨j,hj,h3,e⟩
  have hfin:=fin [(6,.ptr 0 4 0 0),(7,.lit (.bool ((Zl l j).kind==k)))] [some ⟨73,4,1,fun _=>(Zl l j).cells⟩] (Zl l j) (fun e=>⟨j,hj,rfl,h3,by rw [hyes] at e;simpa using e⟩)
  rw [hyes] at hfin ⊢
  simp [go_sem,opV]
  refine Zb5 (⟨[(6,.ptr 0 4 0 0),(7,.lit (.bool ((Zl l j).kind==k)))],[some ⟨73,4,1,fun _=>(Zl l j).cells⟩],[(b1,⟨109,es⟩)],0⟩) [8] (.q 0 <| .q 1 <| .q 2 <| .or 3 (.or 4 (.or 5 (.or 6 (.or 7 (.or 8 (.q 9 <| .done) (.nil)) (.or 8 (.q 7 <| .q 9 <| .done) (.nil))) (.or 8 (.q 6 <| .q 7 <| .q 9 <| .done) (.nil))) (.or 8 (.q 5 <| .q 6 <| .q 7 <| .q 9 <| .done) (.nil))) (.or 5 (.or 4 (.or 6 (.or 7 (.or 8 (.q 9 <| .done) (.nil)) (.or 8 (.q 7 <| .q 9 <| .done) (.nil))) (.or 8 (.q 6 <| .q 7 <| .q 9 <| .done) (.nil))) (.or 8 (.q 4 <| .q 6 <| .q 7 <| .q 9 <| .done) (.nil))) (.or 8 (.q 4 <| .q 5 <| .q 6 <| .q 7 <| .q 9 <| .done) (.nil)))) (.or 5 (.or 3 (.or 4 (.or 6 (.or 7 (.or 8 (.q 9 <| .done) (.nil)) (.or 8 (.q 7 <| .q 9 <| .done) (.nil))) (.or 8 (.q 6 <| .q 7 <| .q 9 <| .done) (.nil))) (.or 8 (.q 4 <| .q 6 <| .q 7 <| .q 9 <| .done) (.nil))) (.or 8 (.q 3 <| .q 4 <| .q 6 <| .q 7 <| .q 9 <| .done) (.nil))) (.or 8 (.q 3 <| .q 4 <| .q 5 <| .q 6 <| .q 7 <| .q 9 <| .done) (.nil)))) (by kernel_rfl) ?_ ?_
  ·simp [go_sem]
   repeat' apply And.intro
   all_goals
    refine ZU [1] (by simp) (by simp) (by simp) (by simp) (by simp [go_sem]) ?_ ?_
    ·simp [go_sem]
    ·simp [go_sem,POp.cells]
  ·simp only [POp.cells] at hfin
   simp [go_sem,POp.cells] at hfin ⊢
   exact hfin
end Go.Proofs.YtadghlfkddkelaaGreatDoor.V
