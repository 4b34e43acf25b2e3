import Derived.WalkKit
import Derived.WalkSpells
import Derived.WalkLawsBesides
import Derived.Maps.AppendAt
import Derived.Laws.OwnMore
import Derived.Laws.MakeOwn
import Derived.Laws.Slices
import Derived.Below
import Derived.Deep.Quiet
import Derived.Maps.OwnSet
import Derived.Lib.LaidTab
import Derived.Lib.ItoaNum
import Derived.Laws.CopyRow
import Derived.Laws.IdiomStrings
import Derived.Laws.Small
import Derived.Lib.AppendStr
import Derived.Lib.Builder
set_option linter.unusedVariables false
set_option linter.unusedSimpArgs false
set_option linter.constructorNameAsVariable false
namespace Go.Proofs.YtadghlfkddkelaaGreatDoor.V
open Go.RowKit
inductive AV where
 |undef
 |lit (v:Value)
 |agg (cs:List AV)
 |tup (vs:List AV)
 |sl (sz n:Nat) (f:Nat→List AV)
 |own (k:Nat)
 |sub (k sz lo n:Nat)
 |ptr (k sz i j:Nat)
 |bptr (cs:List AV)
 |fam (n:Nat) (vs:Nat→Value) (as:Nat→AV)
structure Ob where
 ty:TypeId
 sz:Nat
 n:Nat
 f:Nat→List AV
structure Mp where
 kt:TypeId
 es:List (Value×Value)
structure VS where
 tmps:List (Nat×AV)
 mem:List (Option Ob)
 maps:List (Nat×Mp):=[]
 fix:Nat:=0
abbrev VS.of (tmps:List (Nat×AV)) (mem:List (Option Ob)):VS:={ tmps,mem }
inductive Rep (w:World) (ok:Nat→Prop) (hd:Nat→Value) (m:Nat):AV→Value→Prop
 |undef (v:Value):Rep w ok hd m .undef v
 |lit (v:Value):Rep w ok hd m (.lit v) v
 |agg (cs:List AV) (vs:List Value) (hl:cs.length=vs.length) (h:∀ (j:Nat) a u,cs[j]?=some a→vs[j]?=some u→Rep w ok hd m a u):Rep w ok hd m (.agg cs) (.agg vs.toArray)
 |tup (cs:List AV) (vs:List Value) (hl:cs.length=vs.length) (h:∀ (j:Nat) a u,cs[j]?=some a→vs[j]?=some u→Rep w ok hd m a u):Rep w ok hd m (.tup cs) (.tuple vs.toArray)
 |sl (sz n:Nat) (f:Nat→List AV) (A:Option Addr) (c:Nat) (u:Nat→Nat→Value) (hc:n≤c) (hm:n≤9223372036854775807) (hsz:0<sz) (hl:∀ i,i<n→(f i).length=sz)
   (ha:0<n→∃ ad,A=some ad∧ok ad.block∧∀ i j,i<n→j<sz→w.cell? (ad.add (i*sz+j))=some (u i j)) (h:∀ (i j:Nat) a,i<n→(f i)[j]?=some a→Rep w ok hd m a (u i j)):Rep w ok hd m (.sl sz n f) (.slice A n c)
 |own (k:Nat) (hk:k<m):Rep w ok hd m (.own k) (hd k)
 |sub (k sz lo n:Nat) (A:Option Addr) (c:Nat) (hk:k<m) (hc:n≤c) (ha:0<c→∃ b n' c',hd k=.slice (some ⟨b,0,none⟩) n' c'∧A=some ⟨b,lo*sz,none⟩∧lo+c≤c'):Rep w ok hd m (.sub k sz lo n) (.slice A n c)
 |ptr (k sz i j b n' c':Nat) (hk:k<m) (h:hd k=.slice (some ⟨b,0,none⟩) n' c'):Rep w ok hd m (.ptr k sz i j) (.pointer (some ⟨b,i*sz+j,none⟩))
 |bptr (cs:List AV) (ad:Addr) (u:Nat→Value) (hne:cs≠[]) (hok:ok ad.block) (hc:∀ j,j<cs.length→w.cell? (ad.add j)=some (u j)) (h:∀ (j:Nat) a,cs[j]?=some a→Rep w ok hd m a (u j)):Rep w ok hd m (.bptr cs) (.pointer (some ad))
 |fam (n:Nat) (vs:Nat→Value) (as:Nat→AV) (v:Value) (h:∀ i,i<n→Rep w ok hd m (as i) (vs i)):Rep w ok hd m (.fam n vs as) v
theorem Rep.mono {w w':World} {ok ok':Nat→Prop} {hd hd':Nat→Value} {m m':Nat} (hc:∀ a u,ok a.block→w.cell? a=some u→w'.cell? a=some u∧ok' a.block)
  (hh:∀ k,k<m→hd' k=hd k) (hm:m≤m') {av:AV} {v:Value} (h:Rep w ok hd m av v):Rep w' ok' hd' m' av v:=by
 induction h with
 |undef v=>exact .undef v
 |lit v=>exact .lit v
 |agg cs vs hl _ ih=>exact .agg cs vs hl ih
 |tup cs vs hl _ ih=>exact .tup cs vs hl ih
 |sl sz n f A c u hcn hmn hsz hl ha _ ih=>
  refine .sl sz n f A c u hcn hmn hsz hl (fun hn=>?_) ih
  obtain ⟨ad,e,hok,hcell⟩:=ha hn
  have h0:=hc (ad.add (0*sz+0)) _ (by rw [show 0*sz+0=0 by omega];simpa [Addr.add] using hok) (hcell 0 0 hn hsz)
  refine ⟨ad,e,by rw [show 0*sz+0=0 by omega] at h0;simpa [Addr.add] using h0.2,fun i j hi hj=>(hc _ _ ?_ (hcell i j hi hj)).1⟩
  unfold Addr.add;split<;>exact hok
 |own k hk=>rw [←hh k hk];exact .own k (by omega)
 |sub k sz lo n A c hk hcn ha=>
  refine .sub k sz lo n A c (by omega) hcn fun hn=>?_
  rw [hh k hk];exact ha hn
 |ptr k sz i j b n' c' hk h=>exact .ptr k sz i j b n' c' (by omega) (by rw [hh k hk];exact h)
 |bptr cs ad u hne hok hcell _ ih=>
  have hp:0<cs.length:=by cases cs with
   |nil=>exact absurd rfl hne
   |cons _ _=>simp
  have h0:=hc (ad.add 0) _ (by simpa [Addr.add] using hok) (hcell 0 hp)
  refine .bptr cs ad u hne (by simpa [Addr.add] using h0.2) (fun j hj=>(hc _ _ ?_ (hcell j hj)).1) ih
  unfold Addr.add;split<;>exact hok
 |fam n vs as v _ ih=>exact .fam n vs as v ih
def tailOk (hd:Nat→Value) (b:Nat):Prop:=∃ K,∀ k,K≤k→(hd k).ownBlock≠some b
def TailEq (hd hd':Nat→Value):Prop:=∃ K,∀ k,K≤k→hd' k=hd k
theorem TailEq.refl (hd:Nat→Value):TailEq hd hd:=⟨0,fun _ _=>rfl⟩
theorem TailEq.of {hd hd':Nat→Value} (K:Nat) (h:∀ k,K≤k→hd' k=hd k):TailEq hd hd':=⟨K,h⟩
theorem TailEq.trans {hd hd' hd'':Nat→Value} (h:TailEq hd hd') (h':TailEq hd' hd''):TailEq hd hd'':=by
 obtain ⟨K,hK⟩:=h
 obtain ⟨L,hL⟩:=h'
 exact ⟨K+L,fun k hk=>(hL k (by omega)).trans (hK k (by omega))⟩
theorem TailEq.symm {hd hd':Nat→Value} (h:TailEq hd hd'):TailEq hd' hd:=by
 obtain ⟨K,hK⟩:=h
 exact ⟨K,fun k hk=>(hK k hk).symm⟩
theorem tailOk.eq {hd hd':Nat→Value} {b:Nat} (h:tailOk hd b) (e:TailEq hd hd'):tailOk hd' b:=by
 obtain ⟨K,hK⟩:=h
 obtain ⟨L,hL⟩:=e
 exact ⟨K+L,fun k hk=>by rw [hL k (by omega)];exact hK k (by omega)⟩
def Zw (mem:List (Option Ob)) (hd:Nat→Value) (b:Nat):Prop:=(∀ k ob,mem[k]?=some (some ob)→(hd k).ownBlock≠some b)∧tailOk hd b
def WP (hd:Nat→Value) (may:Nat→Prop):Prop:=∃ K,∀ k,K≤k→∀ b,(hd k).ownBlock=some b→¬may b
structure Bel (may:Nat→Prop) (w w':World):Prop where
 os:w'.os=w.os
 tape:w'.tape=w.tape
 output:w'.output=w.output
 size:w.heap.size≤w'.heap.size
 block:∀ k,k<w.heap.size→¬may k→w'.heap[k]?=w.heap[k]?
theorem Bel.refl (may:Nat→Prop) (w:World):Bel may w w:=⟨rfl,rfl,rfl,Nat.le_refl _,fun _ _ _=>rfl⟩
theorem Bel.grown {may:Nat→Prop} {a w w':World} {row:Option Nat} (h:Bel may a w) (hg:w.grownBy w' row) (hr:∀ k,row=some k→may k):Bel may a w':=
 ⟨hg.os.trans h.os,hg.tape.trans h.tape,hg.output.trans h.output,Nat.le_trans h.size hg.size,fun k hk hm=>(hg.block k (Nat.lt_of_lt_of_le hk h.size) (fun e=>hm (hr k e.symm))).trans (h.block k hk hm)⟩
def Wd:Nat:=1000000
def OkM (ty t:TypeId) (fz:Nat×Nat) (c:Nat):Prop:=(t=ty∧fz=(0,0))∨(ty=t+Wd∧(fz=(0,0)∨fz=(c,c+1)))
def Owns (w:World) (ty:TypeId) (sz:Nat) (v:Value) (n:Nat) (xs:List Value):Prop:=
 xs.length=n*sz∧((v=.slice none 0 0∧n=0)∨∃ g cap cur,v=.slice (some ⟨g,0,none⟩) n cap∧(∃ t fz,w.heap[g]?=some (.cells cur t fz)∧OkM ty t fz cur.size)∧n≤cap∧cap≤maxLen∧cur.size=cap*sz∧cur.toList.take (n*sz)=xs)
section
variable {w w':World} {ty:TypeId} {sz n:Nat} {v:Value} {xs:List Value}
theorem Owns.of_row {B:Nat} (h:w.ownsRow B ty sz v n xs):Owns w ty sz v n xs:=by
 refine ⟨h.1,?_⟩
 rcases h.2 with h0|⟨g,cap,cur,e,_,hg,r⟩
 ·exact .inl h0
 ·exact .inr ⟨g,cap,cur,e,⟨ty,(0,0),hg,.inl ⟨rfl,rfl⟩⟩,r⟩
theorem Owns.of_tag {B:Nat} (h:w.ownsRow B ty sz v n xs):Owns w (ty+Wd) sz v n xs:=by
 refine ⟨h.1,?_⟩
 rcases h.2 with h0|⟨g,cap,cur,e,_,hg,r⟩
 ·exact .inl h0
 ·exact .inr ⟨g,cap,cur,e,⟨ty,(0,0),hg,.inr ⟨rfl,.inl rfl⟩⟩,r⟩
theorem Owns.row (h:Owns w ty sz v n xs) (ht:ty<Wd):w.ownsRow 0 ty sz v n xs:=by
 refine ⟨h.1,?_⟩
 rcases h.2 with h0|⟨g,cap,cur,e,⟨t,fz,hg,hok⟩,r⟩
 ·exact .inl h0
 ·rcases hok with ⟨rfl,rfl⟩|⟨e2,_⟩
  ·exact .inr ⟨g,cap,cur,e,Nat.zero_le _,hg,r⟩
  ·have e3:ty=t+Wd:=e2
   have:Wd≤ty:=by rw [e3];exact Nat.le_add_left _ _
   exact absurd ht (Nat.not_lt.2 this)
theorem Owns.kept {row:Option Nat} (h:Owns w ty sz v n xs) (hg:w.grownBy w' row) (hne:v.ownBlock=none∨v.ownBlock≠row):Owns w' ty sz v n xs:=by
 refine ⟨h.1,?_⟩
 rcases h.2 with hn|⟨g,cap,cur,rfl,⟨t,fz,hgg,hok⟩,rest⟩
 ·exact .inl hn
 ·refine .inr ⟨g,cap,cur,rfl,⟨t,fz,?_,hok⟩,rest⟩
  rw [hg.block g (Array.getElem?_eq_some_iff.1 hgg).1 (by simpa [Value.ownBlock] using hne)]
  exact hgg
theorem Owns.cellAt {g cap:Nat} (h:Owns w ty sz (.slice (some ⟨g,0,none⟩) n cap) n xs) (j:Nat) (hj:j<n*sz):w.cell? ⟨g,j,none⟩=xs[j]?:=by
 rcases h.2 with ⟨h',_⟩|⟨g',cap',cur,h',⟨t,fz,hg,_⟩,_,_,_,htake⟩
 ·simp at h'
 ·simp only [Value.slice.injEq,Option.some.injEq,Addr.mk.injEq,and_true,true_and] at h'
  obtain ⟨rfl,rfl⟩:=h'
  rw [cell_of_row w g j cur t fz hg,←htake,List.getElem?_take,if_pos hj]
  simp
end
structure MemRel (base:Nat→Prop) (w:World) (hd:Nat→Value) (mem:List (Option Ob)):Prop where
 alw:∀ k ob,mem[k]?=some (some ob)→∀ b,(hd k).ownBlock=some b→base b
 obs:∀ k ob,mem[k]?=some (some ob)→0<ob.sz∧∃ vals,Owns w ob.ty ob.sz (hd k) ob.n vals∧
  ∀ i,i<ob.n→(ob.f i).length=ob.sz∧∀ (j:Nat) a,(ob.f i)[j]?=some a→∃ u,vals[i*ob.sz+j]?=some u∧u.oneCell'=true∧Rep w (Zw mem hd) hd mem.length a u
 hds:∀ k,k<mem.length→∃ A n c,hd k=.slice A n c
 apart:∀ k k' ob ob',mem[k]?=some (some ob)→mem[k']?=some (some ob')→k≠k'→(hd k).ownBlock=none∨(hd k).ownBlock≠(hd k').ownBlock
def lkm:List (Nat×Mp)→Nat→Option Mp
 |[],_=>none
 | (u,v)::r,t=>if u=t then some v else lkm r t
structure MapIs (P:Program) (mp:Mp) (es:Array MapEntry) (clock:Nat):Prop where
 eq:es.toList.map (fun e=>(e.key,e.val))=mp.es
 key:∀ e,e∈es.toList→∃ l,keyOf P mp.kt e.key=some l
 apart:mp.es.Pairwise (fun p q=>p.1≠q.1)
 born:(es.toList.map (·.born)).Nodup
 young:∀ e,e∈es.toList→e.born<clock
def MapRel (P:Program) (base:Nat→Prop) (w:World) (maps:List (Nat×Mp)):Prop:=
 ∀ b mp,lkm maps b=some mp→base b∧∃ es clock,w.heap[b]?=some (.map es clock)∧MapIs P mp es clock
def lk:List (Nat×AV)→Nat→AV
 |[],_=>.undef
 | (u,v)::r,t=>if u=t then v else lk r t
structure Fr where
 P:Program
 may:Nat→Prop
 hd0:Nat→Value
 ds:List Deferred
def LX (P:Program) (w:World):Prop:=Lib.TabIs P w "internal/strconv.uint64pow10" .u64 Lib.pow10Tab
def GW (P:Program) (w:World):Prop:=P.globals.size≤w.heap.size∧∃ W:World,W.ShapedOpen P∧LX P W∧∀ g,g<P.globals.size→w.heap[g]?=W.heap[g]?
theorem GW.same {P:Program} {w w':World} (h:GW P w) (hs:w.heap.size≤w'.heap.size) (hb:∀ g,g<P.globals.size→w'.heap[g]?=w.heap[g]?):GW P w':=by
 obtain ⟨h1,W,h2,h3,h4⟩:=h
 exact ⟨Nat.le_trans h1 hs,W,h2,h3,fun g hg=>(hb g hg).trans (h4 g hg)⟩
structure Start (base:Fr) (w0:World):Prop where
 all:∀ b,w0.heap.size≤b→base.may b
 gw:GW base.P w0
 low:∀ b,base.may b→base.P.globals.size≤b
instance {base:Fr} {w0:World}:CoeFun (Start base w0) (fun _=>∀ b,w0.heap.size≤b→base.may b):=⟨Start.all⟩
structure RelH (n:Nat) (base:Fr) (w0:World) (hd:Nat→Value) (s:VS) (a:Act) (w:World):Prop where
 defers:a.defers=base.ds
 size:a.tmps.size=n
 below:Bel base.may w0 w
 le:Start base w0
 fixl:s.fix≤s.mem.length
 fix:(∀ k,k<s.fix→hd k=base.hd0 k)∧TailEq base.hd0 hd∧WP base.hd0 base.may
 mp:MapRel base.P base.may w s.maps
 tm:∀ t,Rep w (Zw s.mem hd) hd s.mem.length (lk s.tmps t) (a.tmps.getD t undef)
 me:MemRel base.may w hd s.mem
theorem RelH.gw {n:Nat} {base:Fr} {w0 w:World} {hd:Nat→Value} {s:VS} {a:Act} (h:RelH n base w0 hd s a w):GW base.P w:=
 h.le.gw.same h.below.size fun g hg=>h.below.block g (Nat.lt_of_lt_of_le hg h.le.gw.1) fun hm=>by have:=h.le.low g hm;omega
def GS (P:Program) (w:World) (may:Nat→Prop) (args:List AV) (vs:List Value):Prop:=args.length=vs.length∧GW P w∧∀ b,may b→P.globals.size≤b
def ev (s:VS):Operand→AV
 | .tmp t=>lk s.tmps t
 | .const v=>.lit v
 | .global _=>.undef
 | .func f=>.lit (.func (.func f) #[] #[])
theorem RelH.ev_ {n:Nat} {base:Fr} {w0 w:World} {hd:Nat→Value} {s:VS} {a:Act} (h:RelH n base w0 hd s a w) (x:Operand):Rep w (Zw s.mem hd) hd s.mem.length (ev s x) (a.eval x):=by
 cases x with
 |tmp t=>exact h.tm t
 |const v=>exact .lit v
 |global g=>exact .undef _
 |func f=>exact .lit _
theorem Wz {w w':World} {a:Addr} {u:Value} (h:w'.heap[a.block]?=w.heap[a.block]?) (hc:w.cell? a=some u):w'.cell? a=some u:=by
 unfold World.cell? at *;rw [h];exact hc
theorem HA {w:World} {e size n:Nat} {v:Value} {xs:List Value} (h:Owns w e size v n xs) {k:Nat} (hk:v.ownBlock=some k):k<w.heap.size∧True:=by
 rcases h.2 with ⟨rfl,_⟩|⟨g,cap,cur,rfl,⟨_,_,hh,_⟩,_⟩
 ·simp [Value.ownBlock] at hk
 ·have:g=k:=by simpa [Value.ownBlock] using hk
  subst this
  exact ⟨(Array.getElem?_eq_some_iff.1 hh).1,trivial⟩
theorem MapRel.grown {P:Program} {may:Nat→Prop} {w w':World} {maps:List (Nat×Mp)} {row:Option Nat} (h:MapRel P may w maps) (hg:w.grownBy w' row) (hr:∀ b mp,row=some b→lkm maps b=some mp→False):MapRel P may w' maps:=by
 intro b mp hb
 obtain ⟨h1,es,clock,h2,h3⟩:=h b mp hb
 exact ⟨h1,es,clock,(hg.block b (Array.getElem?_eq_some_iff.1 h2).1 (fun e=>hr b mp e.symm hb)).trans h2,h3⟩
theorem MapRel.grownRow {P:Program} {may:Nat→Prop} {w w':World} {maps:List (Nat×Mp)} {e size n:Nat} {v:Value} {xs:List Value} (h:MapRel P may w maps) (ho:Owns w e size v n xs) (hg:w.grownBy w' v.ownBlock):MapRel P may w' maps:=by
 refine h.grown hg fun b mp hb hm=>?_
 obtain ⟨_,es,clock,h2,_⟩:=h b mp hm
 rcases ho.2 with ⟨rfl,_⟩|⟨g,cap,cur,rfl,⟨_,_,hh,_⟩,_⟩
 ·simp [Value.ownBlock] at hb
 ·simp only [Value.ownBlock,Option.some.injEq] at hb
  subst hb
  rw [h2] at hh;simp at hh
theorem RelH.grown {n:Nat} {base:Fr} {w0 w w':World} {hd:Nat→Value} {s:VS} {a:Act} (h:RelH n base w0 hd s a w) (hg:w.grownBy w' none):RelH n base w0 hd s a w':=by
 have hc:∀ ad u,Zw s.mem hd ad.block→w.cell? ad=some u→w'.cell? ad=some u∧Zw s.mem hd ad.block:=fun ad u ho hc=>⟨Wz (hg.block _ (World.block_lt_of_cell? w _ hc) (by simp)) hc,ho⟩
 refine ⟨h.defers,h.size,h.below.grown hg (by simp),h.le,h.fixl,h.fix,h.mp.grown hg (by simp),fun t=>(h.tm t).mono hc (fun _ _=>rfl) (Nat.le_refl _),⟨h.me.alw,fun k ob hk=>?_,h.me.hds,h.me.apart⟩⟩
 obtain ⟨hs,vals,ho,hr⟩:=h.me.obs k ob hk
 refine ⟨hs,vals,ho.kept hg (by cases (hd k).ownBlock<;>simp),fun i hi=>⟨(hr i hi).1,fun j av hj=>?_⟩⟩
 obtain ⟨u,h1,h2,h3⟩:=(hr i hi).2 j av hj
 exact ⟨u,h1,h2,h3.mono hc (fun _ _=>rfl) (Nat.le_refl _)⟩
theorem RelH.ownTail {n:Nat} {base:Fr} {w0 w:World} {hd:Nat→Value} {s:VS} {a:Act} (h:RelH n base w0 hd s a w) {b:Nat} (hb:base.may b):tailOk hd b:=by
 obtain ⟨K,hK⟩:=h.fix.2.2
 exact tailOk.eq ⟨K,fun k hk e=>hK k hk b e hb⟩ h.fix.2.1
theorem JL (a:Act) (t:Nat) (v:Value) (ht:t<a.tmps.size) (u:Nat):(a.put (some t) v).tmps.getD u undef=if t=u then v else a.tmps.getD u undef:=by
 simp only [Act.put,Array.getD_eq_getD_getElem?,Array.getElem?_setIfInBounds]
 by_cases h:t=u
 ·subst h;simp [ht]
 ·simp [h]
theorem RelH.put {n:Nat} {base:Fr} {w0 w:World} {hd:Nat→Value} {s:VS} {a:Act} (h:RelH n base w0 hd s a w) {t:Nat} (ht:t<n) {av:AV} {v:Value} (hv:Rep w (Zw s.mem hd) hd s.mem.length av v) :
  RelH n base w0 hd { s with tmps:=(t,av)::s.tmps } (a.put (some t) v) w:=by
 refine ⟨h.defers,by simp [Act.put,h.size],h.below,h.le,h.fixl,h.fix,h.mp,fun u=>?_,h.me⟩
 rw [JL a t v (by rw [h.size];exact ht) u]
 simp only [lk]
 split
 ·exact hv
 ·exact h.tm u
def Wk (l l':List (Nat×AV)):Prop:=∀ t,lk l' t=.undef∨lk l' t=lk l t
theorem RelH.weak {n:Nat} {base:Fr} {w0 w:World} {hd:Nat→Value} {s s':VS} {a:Act} (h:RelH n base w0 hd s a w) (hm:s'.mem=s.mem) (hm2:s'.maps=s.maps) (hm3:s'.fix=s.fix) (hw:Wk s.tmps s'.tmps):RelH n base w0 hd s' a w:=by
 refine ⟨h.defers,h.size,h.below,h.le,by rw [hm,hm3];exact h.fixl,by rw [hm3];exact h.fix,by rw [hm2];exact h.mp,fun t=>?_,by rw [hm];exact h.me⟩
 rw [hm]
 rcases hw t with e|e
 ·rw [e];exact .undef _
 ·rw [e];exact h.tm t
end Go.Proofs.YtadghlfkddkelaaGreatDoor.V
namespace Go.Proofs.YtadghlfkddkelaaGreatDoor.V
open Go.RowKit
def tsz (P:Program) (t:TypeId):Option Nat:=match (sizeOf t).run P default with | .ok n _=>some n | _=>none
def XU (P:Program) (t:TypeId):Option Bool:=match (isAgg t).run P default with | .ok n _=>some n | _=>none
theorem Hr (P:Program) (t:TypeId) (w:World):(sizeOf t).run P w=match P.info? t with|some i=>.ok i.size w|none=>.halt (.stuck "no such type") w:=by
 have e:sizeOf t=Sem.program fun p=>(match p.info? t with|some i=>(Sem.pure i:Sem TypeInfo)|none=>stuck "no such type").bind fun x=>Sem.pure x.size:=rfl
 rw [e];simp only [Sem.run]
 cases P.info? t<;>rfl
theorem ZkJ (P:Program) (t:TypeId) (w:World):(isAgg t).run P w=match P.underlying t with|some (.struct _)=>.ok true w|some (.array _ _)=>.ok true w|some _=>.ok false w|none=>.halt (.stuck "no such type") w:=by
 have e:isAgg t=Sem.program fun p=>(match p.underlying t with|some i=>(Sem.pure i:Sem TypeDesc)|none=>stuck "no such type").bind fun x=>match x with | .struct _=>Sem.pure true | .array _ _=>Sem.pure true | _=>Sem.pure false:=rfl
 rw [e];simp only [Sem.run]
 cases P.underlying t with
 |none=>rfl
 |some d=>cases d<;>rfl
theorem XB {P:Program} {t:TypeId} {n:Nat} (h:tsz P t=some n) (w:World):(sizeOf t).run P w=.ok n w:=by
 unfold tsz at h
 rw [Hr] at h ⊢
 cases hi:P.info? t<;>simp_all
theorem VK {P:Program} {t:TypeId} {n:Bool} (h:XU P t=some n) (w:World):(isAgg t).run P w=.ok n w:=by
 unfold XU at h
 rw [ZkJ] at h ⊢
 cases hi:P.underlying t with
 |none=>simp_all
 |some d=>cases d<;>simp_all
theorem Ya {P:Program} {t:TypeId} {d:TypeDesc} (h:P.underlying t=some d) (w:World):(underlying t).run P w=.ok d w:=by
 unfold underlying program
 simp [bind,Sem.bind,Sem.run,h,pure]
def ZJ:AV→List AV
 | .agg cs=>cs
 | .undef=>[]
 | .lit v=>v.cells.toList.map .lit
 | .fam _ _ _=>[]
 |x=>[x]
def Xg:AV→Bool
 | .lit v=>v.oneCell'
 | .sl _ _ _=>true
 | .own _=>true
 | .sub _ _ _ _=>true
 | .ptr _ _ _ _=>true
 | .bptr _=>true
 | _=>false
def Vw:List AV→Option (List Value)
 |[]=>some []
 | .lit v::r=>(Vw r).map (v::·)
 | _=>none
def Yb:AV→Option Value
 | .lit v=>some v
 | .agg cs=>(Vw cs).map fun vs=>.agg vs.toArray
 | _=>none
section
variable {w:World} {ok:Nat→Prop} {hd:Nat→Value} {m:Nat}
theorem Rep.cells_ {av:AV} {v:Value} (h:Rep w ok hd m av v) (hne:ZJ av≠[]∨False) (hh:∀ k,k<m→∃ A n c,hd k=.slice A n c):v.cells.size=(ZJ av).length∧∀ (j:Nat) a,(ZJ av)[j]?=some a→∃ u,v.cells[j]?=some u∧Rep w ok hd m a u:=by
 cases h with
 |undef v=>simp [ZJ] at hne
 |lit v=>exact ⟨by simp [ZJ],fun j a hj=>by
   simp only [ZJ,List.getElem?_map,Option.map_eq_some_iff] at hj
   obtain ⟨u,h1,rfl⟩:=hj
   exact ⟨u,by simpa using h1,.lit u⟩⟩
 |agg cs vs hl h=>exact ⟨by simp [ZJ,Value.cells,hl],fun j a hj=>by
   simp only [ZJ] at hj
   have hj':j<vs.length:=by rw [←hl];exact (List.getElem?_eq_some_iff.1 hj).1
   exact ⟨vs[j],by simp [Value.cells,hj'],h j a _ hj (by simp [hj'])⟩⟩
 |tup cs vs hl h=>exact ⟨by simp [ZJ,Value.cells],fun j a hj=>by
   cases j with
   |zero=>simp only [ZJ,List.getElem?_cons_zero,Option.some.injEq] at hj;subst hj;exact ⟨_,rfl,.tup cs vs hl h⟩
   |succ j=>simp [ZJ] at hj⟩
 |sl sz n f A c u hc hm hsz hl ha h=>exact ⟨by simp [ZJ,Value.cells],fun j a hj=>by
   cases j with
   |zero=>simp only [ZJ,List.getElem?_cons_zero,Option.some.injEq] at hj;subst hj;exact ⟨_,rfl,.sl sz n f A c u hc hm hsz hl ha h⟩
   |succ j=>simp [ZJ] at hj⟩
 |own k hk=>
  obtain ⟨A,n,c,e⟩:=hh k hk
  exact ⟨by simp [ZJ,e,Value.cells],fun j a hj=>by
   cases j with
   |zero=>simp only [ZJ,List.getElem?_cons_zero,Option.some.injEq] at hj;subst hj;exact ⟨hd k,by simp [e,Value.cells],.own k hk⟩
   |succ j=>simp [ZJ] at hj⟩
 |sub k sz lo n A c hk hc ha=>exact ⟨by simp [ZJ,Value.cells],fun j a hj=>by
   cases j with
   |zero=>simp only [ZJ,List.getElem?_cons_zero,Option.some.injEq] at hj;subst hj;exact ⟨_,rfl,.sub k sz lo n A c hk hc ha⟩
   |succ j=>simp [ZJ] at hj⟩
 |ptr k sz i j b n' c' hk h=>exact ⟨by simp [ZJ,Value.cells],fun j' a hj=>by
   cases j' with
   |zero=>simp only [ZJ,List.getElem?_cons_zero,Option.some.injEq] at hj;subst hj;exact ⟨_,rfl,.ptr k sz i j b n' c' hk h⟩
   |succ j=>simp [ZJ] at hj⟩
 |bptr cs ad u hne' hok hc h=>exact ⟨by simp [ZJ,Value.cells],fun j a hj=>by
   cases j with
   |zero=>simp only [ZJ,List.getElem?_cons_zero,Option.some.injEq] at hj;subst hj;exact ⟨_,rfl,.bptr cs ad u hne' hok hc h⟩
   |succ j=>simp [ZJ] at hj⟩
 |fam n vs as v h=>simp [ZJ] at hne
theorem Rep.one_ {av:AV} {v:Value} (h:Rep w ok hd m av v) (h1:Xg av=true) (hh:∀ k,k<m→∃ A n c,hd k=.slice A n c):v.oneCell'=true:=by
 cases h with
 |undef v=>simp [Xg] at h1
 |lit v=>exact h1
 |agg cs vs hl h=>simp [Xg] at h1
 |tup cs vs hl h=>simp [Xg] at h1
 |own k hk=>obtain ⟨A,n,c,e⟩:=hh k hk;rw [e];rfl
 |fam n vs as v h=>simp [Xg] at h1
 | _=>rfl
theorem ZkH {cs:List AV} {ls:List Value} (hl:Vw cs=some ls) {vs:List Value} (hlen:cs.length=vs.length) (h:∀ (j:Nat) a u,cs[j]?=some a→vs[j]?=some u→Rep w ok hd m a u):vs=ls:=by
 induction cs generalizing ls vs with
 |nil=>
  simp only [Vw,Option.some.injEq] at hl
  subst hl
  exact List.eq_nil_of_length_eq_zero (by simpa using hlen.symm)
 |cons c cs ih=>
  cases c with
  |lit v=>
   simp only [Vw,Option.map_eq_some_iff] at hl
   obtain ⟨r,hr,hre⟩:=hl
   subst hre
   cases vs with
   |nil=>simp at hlen
   |cons u vs=>
    have h0:=h 0 (.lit v) u rfl rfl
    cases h0
    have e:=ih (vs:=vs) hr (by simpa using hlen) (fun j a u' h1 h2=>h (j+1) a u' (by simpa using h1) (by simpa using h2))
    rw [e]
  | _=>simp [Vw] at hl
theorem Rep.val_ {av:AV} {v u:Value} (h:Rep w ok hd m av v) (hv:Yb av=some u):v=u:=by
 cases h with
 |lit v=>simpa [Yb] using hv
 |agg cs vs hl h=>
  simp only [Yb,Option.map_eq_some_iff] at hv
  obtain ⟨ls,h1,rfl⟩:=hv
  rw [ZkH h1 hl h]
 | _=>simp [Yb] at hv
end
def rd (P:Program) (T:TypeId) (cs:List AV) (c:Nat) (k:AV→Prop):Prop:=
 match XU P T,tsz P T with
 |some false,_=>c<cs.length∧k (cs.getD c .undef)
 |some true,some n=>c+n≤cs.length∧k (.agg ((cs.drop c).take n))
 | _,_=>False
def WK (P:Program) (T:TypeId) (f:Nat):Option (TypeId×Nat):=
 match P.underlying T with
 |some (.struct fs)=>(fs[f]?).map fun x=>(x.type,x.offset)
 | _=>none
theorem Zds {P:Program} {w:World} {ok:Nat→Prop} {hd:Nat→Value} {m:Nat} {T:TypeId} {cs:List AV} {c:Nat} {k:AV→Prop} (h:rd P T cs c k) (ad:Addr)
  (hc:∀ (j:Nat) a,cs[j]?=some a→∃ u,w.cell? (ad.add j)=some u∧Rep w ok hd m a u):∃ v av,(loadVar T (ad.add c)).run P w=.ok v w∧Rep w ok hd m av v∧k av:=by
 unfold rd at h
 have add2:∀ j,(ad.add c).add j=ad.add (c+j):=by
  intro j
  unfold Addr.add
  by_cases h1:c=0<;>by_cases h2:j=0<;>simp [h1,h2];omega
 split at h
 ·rename_i h1
  obtain ⟨hl,hk⟩:=h
  obtain ⟨u,hu,hr⟩:=hc c cs[c] (by simp [hl])
  refine ⟨u,_,?_,?_,hk⟩
  ·unfold loadVar
   simp only [Sem.run_bind,VK h1,Result.andThen_ok,Bool.false_eq_true,if_false]
   simp [load,Sem.run,hu]
  ·rw [List.getD_eq_getElem?_getD,List.getElem?_eq_getElem hl];exact hr
 ·rename_i n h1 h2
  obtain ⟨hl,hk⟩:=h
  have hf:∀ j:Nat,∃ u,j<n→w.cell? ((ad.add c).add j)=some u∧∀ a,cs[c+j]?=some a→Rep w ok hd m a u:=by
   intro j
   by_cases hj:j<n
   ·obtain ⟨u,hu,hr⟩:=hc (c+j) (cs[c+j]'(by omega)) (by simp [show c+j<cs.length by omega])
    refine ⟨u,fun _=>⟨by rw [add2];exact hu,fun a ha=>?_⟩⟩
    rw [List.getElem?_eq_getElem (by omega)] at ha
    simp only [Option.some.injEq] at ha
    subst ha;exact hr
   ·exact ⟨undef,fun h=>absurd h hj⟩
  obtain ⟨g,hg⟩:∃ g:Nat→Value,∀ j,j<n→w.cell? ((ad.add c).add j)=some (g j)∧∀ a,cs[c+j]?=some a→Rep w ok hd m a (g j):=⟨fun j=>(hf j).choose,fun j=>(hf j).choose_spec⟩
  refine ⟨.agg ((List.range n).map g).toArray,_,?_,?_,hk⟩
  ·unfold loadVar
   simp only [Sem.run_bind,VK h1,Result.andThen_ok,if_true,XB h2]
   rw [run_loadCells (P:=P) w (ad.add c) n g (fun j hj=>(hg j hj).1)]
   simp [Sem.run,pure]
  ·refine .agg _ _ (by simp;omega) fun j a u h3 h4=>?_
   simp only [List.getElem?_map,Option.map_eq_some_iff] at h4
   obtain ⟨j',h5,rfl⟩:=h4
   have:j'=j∧j<n:=by
    by_cases hj:j<n
    ·rw [List.getElem?_range hj] at h5
     simp only [Option.some.injEq] at h5
     omega
    ·rw [List.getElem?_eq_none (by simpa using hj)] at h5;simp at h5
   obtain ⟨rfl,hj⟩:=this
   refine (hg j' hj).2 a ?_
   rw [List.getElem?_take] at h3
   rw [if_pos hj,List.getElem?_drop] at h3
   exact h3
 ·exact h.elim
end Go.Proofs.YtadghlfkddkelaaGreatDoor.V
namespace Go.Proofs.YtadghlfkddkelaaGreatDoor.V
open Go.RowKit
def Ze (s:ByteArray) (i:Nat):Int:=if h:i<s.size then ((s[i]'h).toNat:Int) else 0
def Y5 (l:List AV) (c:Nat) (cells:List AV):List AV:=l.take c++cells++l.drop (c+cells.length)
def upd (ob:Ob) (i c:Nat) (cells:List AV):Ob:=
 { ob with f:=if ob.n=1 then (fun _=>Y5 (ob.f 0) c cells) else fun j=>if j=i then Y5 (ob.f i) c cells else ob.f j }
def Yl (s:VS) (d:Int):Option Operand→Option Int
 |none=>some d
 |some x=>match Yb (ev s x) with
  |some (.int _ n)=>some n
  | _=>none
def vop (P:Program) (op:Op) (s:VS) (k:AV→VS→Prop):Prop:=
 match op with
 | .move x=>k (ev s x) s
 | .assign x=>k (ev s x) s
 | .pick c a b=>match ev s c with
  | .lit (.bool t)=>(t=true→k (ev s a) s)∧(t=false→k (ev s b) s)
  | _=>False
 | .box T x=>match tsz P T with
  |some n=>0<n∧(ZJ (ev s x)).length=n∧(ZJ (ev s x)).all Xg=true∧k (.ptr s.mem.length n 0 0) { s with mem:=s.mem++[some ⟨T,n,1,fun _=>ZJ (ev s x)⟩] }
  |none=>False
 | .load T x=>match ev s x with
  | .ptr j sz i c=>match s.mem[j]? with
   |some (some ob)=>ob.sz=sz∧i<ob.n∧rd P T (ob.f i) c (fun av=>k av s)
   | _=>False
  | .bptr cs=>rd P T cs 0 (fun av=>k av s)
  | .lit (.pointer (some ad))=>∃ t N vs as i cs,lk s.tmps t=.fam N vs as∧i<N∧vs i=.pointer (some ad)∧as i=.bptr cs∧rd P T cs 0 (fun av=>k av s)
  | _=>False
 | .store T p x=>match ev s p,tsz P T with
  | .ptr j sz i c,some n=>match s.mem[j]? with
   |some (some ob)=>ob.sz=sz∧i<ob.n∧(ZJ (ev s x)).length=n∧0<n∧c+n≤sz∧(ZJ (ev s x)).all Xg=true∧k .undef { s with mem:=s.mem.set j (some (upd ob i c (ZJ (ev s x)))) }
   | _=>False
  | _,_=>False
 | .fieldAddr T x f=>match WK P T f with
  |some (ft,off)=>(∃ n,tsz P ft=some n∧n≠0)∧match ev s x with
   | .ptr j sz i c=>k (.ptr j sz i (c+off)) s
   | .bptr cs=>off<cs.length∧k (.bptr (cs.drop off)) s
   | _=>False
  |none=>False
 | .indexAddr T x ix=>match P.underlying T,Yb (ev s ix) with
  |some (.slice e),some (.int q i)=>match tsz P e with
   |some sz=>match ev s x with
    | .sl sz' n f=>sz'=sz∧0≤i∧i<n∧k (.bptr (f i.toNat)) s
    | .own j=>match s.mem[j]? with
     |some (some ob)=>ob.sz=sz∧0≤i∧i<ob.n∧k (.ptr j sz i.toNat 0) s
     | _=>False
    | .sub j sz' lo m=>sz'=sz∧0≤i∧i<m∧k (.ptr j sz (lo+i.toNat) 0) s
    | _=>False
   |none=>False
  | _,_=>False
 | .index T x ix=>match P.underlying T,Yb (ev s x),Yb (ev s ix) with
  |some .string,some (.string z),some (.int q i)=>0≤i∧i<z.size∧k (.lit (.int .u8 (Ze z i.toNat))) s
  | _,_,_=>False
 | .slice T x lo hi none=>match P.underlying T,ev s x,Yl s 0 lo with
  |some .string,.lit (.string z),some l=>match Yl s z.size hi with
   |some h=>0≤l∧l≤h∧h≤z.size∧k (.lit (.string (z.extract l.toNat h.toNat))) s
   |none=>False
  |some (.slice e),.sl sz n f,some l=>match Yl s n hi with
   |some h=>tsz P e=some sz∧0≤l∧l≤h∧h≤n∧k (.sl sz (h.toNat-l.toNat) (fun i=>f (l.toNat+i))) s
   |none=>False
  |some (.slice e),.own j,some l=>match s.mem[j]? with
   |some (some ob)=>match Yl s ob.n hi with
    |some h=>tsz P e=some ob.sz∧0≤l∧l≤h∧h≤ob.n∧k (.sub j ob.sz l.toNat (h.toNat-l.toNat)) s
    |none=>False
   | _=>False
  |some (.slice e),.sub j sz lo0 m,some l=>match Yl s m hi with
   |some h=>tsz P e=some sz∧0≤l∧l≤h∧h≤m∧k (.sub j sz (lo0+l.toNat) (h.toNat-l.toNat)) s
   |none=>False
  | _,_,_=>False
 | .field T x f=>match WK P T f,ev s x with
  |some (ft,off),.agg cs=>rd P ft cs off (fun av=>k av s)
  | _,_=>False
 | .binOp b T x y _=>match Yb (ev s x),Yb (ev s y) with
  |some vx,some vy=>∃ v,(∀ w,(do eqGuard b T x y vx vy;binOp b T vx vy:Sem Value).run P w=.ok v w)∧k (.lit v) s
  | _,_=>False
 | .unOp b _ x=>match Yb (ev s x) with
  |some vx=>∃ v,(∀ w,(Op.unary b vx).run P w=.ok v w)∧k (.lit v) s
  | _=>False
 | .convert a b x=>match Yb (ev s x) with
  |some vx=>∃ v,(∀ w,(convert a b vx).run P w=.ok v w)∧k (.lit v) s
  | _=>False
 | .extract x i=>match ev s x with
  | .tup vs=>i<vs.length∧k (vs.getD i .undef) s
  | _=>False
 | .nilCheck x=>match ev s x with
  | .ptr _ _ _ _=>k (ev s x) s
  | .bptr _=>k (ev s x) s
  | _=>False
 | _=>False
def Ends (P:Program) (n:Nat) (base:Fr) (w0:World) (a:Act) (res:Result Next) (k:AV→VS→Prop):Prop:=
 ∃ v w',(res=.ok (.value v) w'∨(res=.ok .skip w'∧v=undef))∧∃ hd' s' av,RelH n base w0 hd' s' a w'∧Rep w' (Zw s'.mem hd') hd' s'.mem.length av v∧k av s'
theorem JG (w:World) (b:Nat) (new:Array Value):w.grownBy (w.setRow b new) (some b):=by
 refine ⟨rfl,rfl,rfl,by simp [World.setRow],fun k _ hk=>?_⟩
 simp only [World.setRow,Array.getElem?_modify]
 rw [if_neg (fun e=>hk (by rw [e]))]
section
variable {P:Program} {n:Nat} {base:Fr} {w0 w:World} {hd:Nat→Value} {s:VS} {a:Act} {k:AV→VS→Prop}
theorem Ends.same (h:RelH n base w0 hd s a w) {v:Value} {av:AV} (hv:Rep w (Zw s.mem hd) hd s.mem.length av v) (hk:k av s) {res:Result Next} (hr:res=.ok (.value v) w):Ends P n base w0 a res k:=
 ⟨v,w,.inl hr,hd,s,av,h,hv,hk⟩
theorem RelH.cells_ (h:RelH n base w0 hd s a w) {j:Nat} {ob:Ob} (hj:s.mem[j]?=some (some ob)) {b n' c':Nat} (hb:hd j=.slice (some ⟨b,0,none⟩) n' c') {i:Nat} (hi:i<ob.n) :
  ∀ (c:Nat) av,(ob.f i)[c]?=some av→∃ u,w.cell? ((⟨b,i*ob.sz,none⟩:Addr).add c)=some u∧Rep w (Zw s.mem hd) hd s.mem.length av u:=by
 intro c av hc
 obtain ⟨hs,vals,ho,hr⟩:=h.me.obs j ob hj
 obtain ⟨hl,hr⟩:=hr i hi
 obtain ⟨u,hu,_,hrep⟩:=hr c av hc
 have hcl:c<ob.sz:=by rw [←hl];exact (List.getElem?_eq_some_iff.1 hc).1
 have hlt:i*ob.sz+c<ob.n*ob.sz:=by
  have:(i+1)*ob.sz≤ob.n*ob.sz:=Nat.mul_le_mul_right _ (by omega)
  rw [Nat.add_mul] at this;omega
 refine ⟨u,?_,hrep⟩
 have hn:n'=ob.n:=by
  rcases ho.2 with ⟨e,h0⟩|⟨g,cap,cur,e,_⟩
  ·rw [hb] at e;simp at e
  ·rw [hb] at e;simp at e;exact e.2.1
 rw [hb,hn] at ho
 have:=ho.cellAt (i*ob.sz+c) hlt
 rw [hu] at this
 have e:(⟨b,i*ob.sz,none⟩:Addr).add c=⟨b,i*ob.sz+c,none⟩:=by
  unfold Addr.add;split
  ·rename_i h0;simp [h0]
  ·rfl
 rw [e];exact this
theorem Qz {T:TypeId} {f ft off:Nat} (h:WK P T f=some (ft,off)):∃ fs fl,P.underlying T=some (.struct fs)∧fs[f]?=some fl∧fl.type=ft∧fl.offset=off:=by
 unfold WK at h
 split at h
 ·rename_i fs e
  obtain ⟨fl,h1,h2⟩:=Option.map_eq_some_iff.1 h
  simp only [Prod.mk.injEq] at h2
  exact ⟨fs,fl,e,h1,h2.1,h2.2⟩
 ·simp at h
theorem W4 {T:TypeId} {f ft off m:Nat} (h:WK P T f=some (ft,off)) (hm:tsz P ft=some m) (h0:m≠0) (ad:Addr) (w:World):(Instr.fieldAt T (.pointer (some ad)) f).run P w=.ok (.pointer (some (ad.add off))) w:=by
 obtain ⟨fs,fl,h1,h2,rfl,rfl⟩:=Qz h
 unfold Instr.fieldAt fieldPlace
 simp only [Sem.run_bind,Ya h1,Result.andThen_ok,h2,Instr.sureAddr,Sem.run_pure,XB hm,h0,if_false]
theorem RelH.newM (h:RelH n base w0 hd s a w) {T sz cnt cap:Nat} {T':TypeId} {fz:Nat×Nat} {vals:List Value} {f:Nat→List AV} (hs:0<sz) (hl:vals.length=cap*sz) (hle:cnt≤cap) (hcnt:cap≤9223372036854775807) (hM:OkM T T' fz vals.length)
  (hf:∀ i,i<cnt→(f i).length=sz∧∀ (j:Nat) av,(f i)[j]?=some av→∃ u,vals[i*sz+j]?=some u∧u.oneCell'=true∧Rep w (Zw s.mem hd) hd s.mem.length av u) :
  RelH n base w0 (fun j=>if j=s.mem.length then .slice (some ⟨w.heap.size,0,none⟩) cnt cap else hd j) { s with mem:=s.mem++[some ⟨T,sz,cnt,f⟩] } a (w.alloc (.cells vals.toArray T' fz)):=by
 have hg:w.grownBy (w.alloc (.cells vals.toArray T' fz)) none:=World.grownBy_alloc w _ none
 have hok:∀ ad u,Zw s.mem hd ad.block→w.cell? ad=some u→(w.alloc (.cells vals.toArray T' fz)).cell? ad=some u∧Zw (s.mem++[some ⟨T,sz,cnt,f⟩]) (fun j=>if j=s.mem.length then .slice (some ⟨w.heap.size,0,none⟩) cnt cap else hd j) ad.block:=by
  intro ad u ho hc
  have hlt:=World.block_lt_of_cell? w _ hc
  refine ⟨Wz (hg.block _ hlt (by simp)) hc,fun k ob hk=>?_,ho.2.eq (TailEq.of (s.mem.length+1) fun k hk=>if_neg (by omega))⟩
  simp only
  split
  ·simp [Value.ownBlock];omega
  ·rename_i hne
   rw [List.getElem?_append] at hk
   split at hk
   ·exact ho.1 k ob hk
   ·rw [List.getElem?_eq_none (by simp;omega)] at hk;simp at hk
 have hhd:∀ k,k<s.mem.length→(fun j=>if j=s.mem.length then (Value.slice (some ⟨w.heap.size,0,none⟩) cnt cap) else hd j) k=hd k:=by
  intro k hk;simp only;rw [if_neg (by omega)]
 have hlen:s.mem.length≤(s.mem++[some (⟨T,sz,cnt,f⟩:Ob)]).length:=by simp
 have hfixm:∀ k,k<s.fix→k≠s.mem.length:=fun k hk e=>by have:=h.fixl;omega
 refine ⟨h.defers,h.size,h.below.grown hg (by simp),h.le,by have:=h.fixl;simp;omega,⟨fun k hk=>(if_neg (hfixm k hk)).trans (h.fix.1 k hk),h.fix.2.1.trans (TailEq.of (s.mem.length+1) fun k hk=>if_neg (by omega)),h.fix.2.2⟩,h.mp.grown hg (by simp),fun t=>(h.tm t).mono hok hhd hlen,⟨fun k ob hk b hb=>?_,fun k ob hk=>?_,fun k hk=>?_,fun k k' ob ob' hk hk' hne=>?_⟩⟩
 ·split at hb
  ·simp only [Value.ownBlock,Option.some.injEq] at hb
   subst hb
   exact h.le _ h.below.size
  ·rename_i hne
   rw [List.getElem?_append] at hk
   split at hk
   ·exact h.me.alw k ob hk b hb
   ·rw [List.getElem?_eq_none (by simp;omega)] at hk;simp at hk
 ·rw [List.getElem?_append] at hk
  split at hk
  ·rename_i hlt
   obtain ⟨hs',vs,ho,hr⟩:=h.me.obs k ob hk
   refine ⟨hs',vs,by rw [if_neg (by omega)];exact ho.kept hg (by cases (hd k).ownBlock<;>simp),fun i hi=>⟨(hr i hi).1,fun j av hj=>?_⟩⟩
   obtain ⟨u,h1,h2,h3⟩:=(hr i hi).2 j av hj
   exact ⟨u,h1,h2,h3.mono hok hhd hlen⟩
  ·rename_i hge
   have hk0:k=s.mem.length:=by
    have:=(List.getElem?_eq_some_iff.1 hk).1
    simp at this;omega
   subst hk0
   simp only [Nat.sub_self,List.getElem?_cons_zero,Option.some.injEq] at hk
   subst hk
   have hcs:cnt*sz≤cap*sz:=Nat.mul_le_mul_right _ hle
   refine ⟨hs,vals.take (cnt*sz),⟨by rw [List.length_take,hl];exact Nat.min_eq_left hcs,.inr ⟨w.heap.size,cap,vals.toArray,by simp,⟨T',fz,heap_alloc_new w _,by simpa using hM⟩,hle,by simp only [maxLen];omega,by simp [hl],by simp⟩⟩,fun i hi=>⟨(hf i hi).1,fun j av hj=>?_⟩⟩
   obtain ⟨u,h1,h2,h3⟩:=(hf i hi).2 j av hj
   have hjs:j<sz:=by rw [←(hf i hi).1];exact (List.getElem?_eq_some_iff.1 hj).1
   have hlt:i*sz+j<cnt*sz:=by
    have:(i+1)*sz≤cnt*sz:=Nat.mul_le_mul_right _ hi
    rw [Nat.add_mul] at this;omega
   exact ⟨u,by rw [List.getElem?_take,if_pos hlt];exact h1,h2,h3.mono hok hhd hlen⟩
 ·simp only [List.length_append,List.length_cons,List.length_nil] at hk
  split
  ·exact ⟨_,_,_,rfl⟩
  ·exact h.me.hds k (by omega)
 ·have old:∀ q oq,(s.mem++[some (⟨T,sz,cnt,f⟩:Ob)])[q]?=some (some oq)→q≠s.mem.length→s.mem[q]?=some (some oq):=by
   intro q oq hq hqn
   rw [List.getElem?_append] at hq
   split at hq
   ·exact hq
   ·rw [List.getElem?_eq_none (by simp;omega)] at hq;simp at hq
  have low:∀ q oq,s.mem[q]?=some (some oq)→(hd q).ownBlock≠some w.heap.size:=by
   intro q oq hq e
   obtain ⟨_,vs,ho,_⟩:=h.me.obs q oq hq
   have:=(HA ho e).1
   omega
  by_cases e1:k=s.mem.length
  ·have e2:k'≠s.mem.length:=by omega
   rw [if_pos e1,if_neg e2]
   right
   have:=low k' ob' (old k' ob' hk' e2)
   simp only [Value.ownBlock]
   exact fun e=>this e.symm
  ·rw [if_neg e1]
   by_cases e2:k'=s.mem.length
   ·rw [if_pos e2]
    right
    have:=low k ob (old k ob hk e1)
    simp only [Value.ownBlock]
    exact this
   ·rw [if_neg e2]
    exact h.me.apart k k' ob ob' (old k ob hk e1) (old k' ob' hk' e2) hne
theorem RelH.newC (h:RelH n base w0 hd s a w) {T sz cnt cap:Nat} {vals:List Value} {f:Nat→List AV} (hs:0<sz) (hl:vals.length=cap*sz) (hle:cnt≤cap) (hcnt:cap≤9223372036854775807)
  (hf:∀ i,i<cnt→(f i).length=sz∧∀ (j:Nat) av,(f i)[j]?=some av→∃ u,vals[i*sz+j]?=some u∧u.oneCell'=true∧Rep w (Zw s.mem hd) hd s.mem.length av u) :
  RelH n base w0 (fun j=>if j=s.mem.length then .slice (some ⟨w.heap.size,0,none⟩) cnt cap else hd j) { s with mem:=s.mem++[some ⟨T,sz,cnt,f⟩] } a (w.alloc (.cells vals.toArray T)):=
 h.newM hs hl hle hcnt (.inl ⟨rfl,rfl⟩) hf
theorem RelH.new (h:RelH n base w0 hd s a w) {T sz cnt:Nat} {vals:List Value} {f:Nat→List AV} (hs:0<sz) (hl:vals.length=cnt*sz) (hcnt:cnt≤9223372036854775807)
  (hf:∀ i,i<cnt→(f i).length=sz∧∀ (j:Nat) av,(f i)[j]?=some av→∃ u,vals[i*sz+j]?=some u∧u.oneCell'=true∧Rep w (Zw s.mem hd) hd s.mem.length av u) :
  RelH n base w0 (fun j=>if j=s.mem.length then .slice (some ⟨w.heap.size,0,none⟩) cnt cnt else hd j) { s with mem:=s.mem++[some ⟨T,sz,cnt,f⟩] } a (w.alloc (.cells vals.toArray T)):=
 h.newC hs hl (Nat.le_refl _) hcnt hf
theorem UW (l:List AV) (c:Nat) (cells:List AV) (h:c+cells.length≤l.length):(Y5 l c cells).length=l.length:=by
 unfold Y5;simp;omega
theorem Zaz {l:List AV} {c:Nat} {cells:List AV} (h:c+cells.length≤l.length) (j:Nat):(Y5 l c cells)[j]?=if c≤j∧j<c+cells.length then cells[j-c]? else l[j]?:=by
 unfold Y5
 by_cases h1:j<c
 ·rw [if_neg (by omega),List.append_assoc,List.getElem?_append_left (by simp;omega),List.getElem?_take,if_pos h1]
 ·by_cases h2:j<c+cells.length
  ·rw [if_pos ⟨by omega,h2⟩,List.getElem?_append_left (by simp;omega),List.getElem?_append_right (by simp;omega)]
   simp only [List.length_take]
   rw [Nat.min_eq_left (by omega)]
  ·rw [if_neg (by omega),List.getElem?_append_right (by simp;omega),List.getElem?_drop]
   congr 1
   simp;omega
theorem OkM.free {ty t:TypeId} {fz:Nat×Nat} {c:Nat} (h:OkM ty t fz c):∀ j,j<c→(decide (fz.1≤j)&&decide (j<fz.2))=false:=by
 intro j hj
 have:fz=(0,0)∨fz=(c,c+1):=by
  rcases h with ⟨_,h⟩|⟨_,h⟩
  ·exact .inl h
  ·exact h
 rcases this with h|h<;>rw [h]<;>simp<;>omega
theorem Xk {P:Program} (g o:Nat) (t:TypeId) (fz:Nat×Nat):∀ (vs:List Value) (i:Nat) (cur:Array Value) (w:World),w.heap[g]?=some (.cells cur t fz)→(∀ j,j<cur.size→(decide (fz.1≤j)&&decide (j<fz.2))=false)→o+i+vs.length≤cur.size→(∀ v∈vs,v.oneCell'=true)→
  (storeCells ⟨g,o,none⟩ vs i).run P w=.ok () (w.setRow g (cur.toList.take (o+i)++vs++cur.toList.drop (o+i+vs.length)).toArray)
 |[],i,cur,w,hg,_,_,_=>by
  simp only [storeCells,List.append_nil,List.length_nil,Nat.add_zero,List.take_append_drop,Array.toArray_toList]
  rw [setRow_self w g cur t fz hg]
  rfl
 |v::rest,i,cur,w,hg,hfr,hl,h1=>by
  have hi:o+i<cur.size:=by simp at hl;omega
  have hadd:(⟨g,o,none⟩:Addr).add i=⟨g,o+i,none⟩:=by unfold Addr.add;split<;>simp_all
  have hcell:w.cell? ⟨g,o+i,none⟩=some cur[o+i]:=by simp [World.cell?,hg,hi]
  have hfro:w.frozen? ⟨g,o+i,none⟩=false:=by
   have:=hfr (o+i) hi
   obtain ⟨lo,hi'⟩:=fz
   simpa [World.frozen?,hg] using this
  have hst:(store ((⟨g,o,none⟩:Addr).add i) v).run P w=.ok () (w.setRow g (cur.setIfInBounds (o+i) v)):=by
   rw [hadd,run_store P w _ v _ (h1 v (by simp)),hcell]
   simp [hfro,setCell_eq_setRow w g (o+i) cur t fz v hg]
  have ih:=Xk (P:=P) g o t fz rest (i+1) (cur.setIfInBounds (o+i) v) (w.setRow g (cur.setIfInBounds (o+i) v)) (setRow_heap w g cur _ t fz hg) (by simpa using hfr) (by simp at hl ⊢;omega) (fun x hx=>h1 x (by simp [hx]))
  simp only [storeCells,Sem.run_bind,hst,Result.andThen_ok,ih,setRow_setRow]
  congr 3
  have e:=list_seg_step cur.toList (o+i) v rest (by simp at hl ⊢;omega)
  simpa [Array.toList_setIfInBounds,Nat.add_assoc] using e
theorem RelH.store (h:RelH n base w0 hd s a w) {q:Nat} {ob:Ob} (hq:s.mem[q]?=some (some ob)) {b n' c':Nat} (hb:hd q=.slice (some ⟨b,0,none⟩) n' c') {i c:Nat} {cells:List AV} (hi:i<ob.n) (hc:c+cells.length≤ob.sz)
  {vs:List Value} (hl:vs.length=cells.length) (hv:∀ (j:Nat) av,cells[j]?=some av→∃ u,vs[j]?=some u∧Rep w (Zw s.mem hd) hd s.mem.length av u) (h1:∀ u∈vs,u.oneCell'=true) :
  ∃ w',(storeCells ⟨b,i*ob.sz+c,none⟩ vs).run P w=.ok () w'∧RelH n base w0 hd { s with mem:=s.mem.set q (some (upd ob i c cells)) } a w':=by
 obtain ⟨hs,vals,ho,hr⟩:=h.me.obs q ob hq
 rcases id ho.2 with ⟨e,_⟩|⟨g,cap,cur,e,⟨ty,fz,hgg,hM⟩,hnc,hcm,hcs,htake⟩
 ·rw [hb] at e;simp at e
 rw [hb] at e
 simp only [Value.slice.injEq,Option.some.injEq,Addr.mk.injEq,and_true] at e
 obtain ⟨rfl,rfl,rfl⟩:=e
 have hin:(i+1)*ob.sz≤ob.n*ob.sz:=Nat.mul_le_mul_right _ (by omega)
 rw [Nat.add_mul,Nat.one_mul] at hin
 have hnc':ob.n*ob.sz≤c'*ob.sz:=Nat.mul_le_mul_right _ hnc
 have hrun:=Xk (P:=P) b (i*ob.sz+c) ty fz vs 0 cur w hgg hM.free (by rw [hl,hcs];omega) h1
 rw [Nat.add_zero] at hrun
 generalize hnew:(cur.toList.take (i*ob.sz+c)++vs++cur.toList.drop (i*ob.sz+c+vs.length)).toArray=new at hrun
 refine ⟨_,hrun,?_⟩
 have hng:(w.setRow b new).heap[b]?=some (.cells new ty fz):=setRow_heap w b cur new ty fz hgg
 have hnsz:new.size=cur.size:=by rw [←hnew];simp;omega
 have hgr:w.grownBy (w.setRow b new) (some b):=JG w b new
 have hlen:(s.mem.set q (some (upd ob i c cells))).length=s.mem.length:=by simp
 have live:∀ k ok',(s.mem.set q (some (upd ob i c cells)))[k]?=some (some ok')→∃ ok0,s.mem[k]?=some (some ok0)∧(k≠q→ok0=ok'):=by
  intro k ok' hk
  by_cases e:q=k
  ·subst e;exact ⟨ob,hq,fun h=>absurd rfl h⟩
  ·rw [List.getElem?_set_ne e] at hk;exact ⟨ok',hk,fun _=>rfl⟩
 have hok:∀ ad u,Zw s.mem hd ad.block→w.cell? ad=some u→(w.setRow b new).cell? ad=some u∧Zw (s.mem.set q (some (upd ob i c cells))) hd ad.block:=by
  intro ad u hoA hcA
  have hne:b≠ad.block:=fun e=>hoA.1 q ob hq (by rw [hb,e];rfl)
  refine ⟨Wz (hgr.block _ (World.block_lt_of_cell? w _ hcA) (by simpa using fun e=>hne e.symm)) hcA,fun k ok' hk=>?_,hoA.2⟩
  obtain ⟨ok0,h0,_⟩:=live k ok' hk
  exact hoA.1 k ok0 h0
 have hmay:base.may b:=h.me.alw q ob hq b (by rw [hb];rfl)
 have hmp:MapRel base.P base.may (w.setRow b new) s.maps:=h.mp.grownRow ho (by rw [hb];exact hgr)
 refine ⟨h.defers,h.size,h.below.grown hgr (fun k hk=>by simp only [Option.some.injEq] at hk;rw [←hk];exact hmay),h.le,by simpa using h.fixl,h.fix,hmp,fun t=>(h.tm t).mono hok (fun _ _=>rfl) (by simp),⟨fun k ok' hk b' hb'=>?_,fun k ok' hk=>?_,fun k hk=>h.me.hds k (by simpa using hk),fun k k' o o' hk hk' hne=>?_⟩⟩
 ·obtain ⟨ok0,h0,_⟩:=live k ok' hk
  exact h.me.alw k ok0 h0 b' hb'
 ·by_cases e:q=k
  ·subst e
   rw [List.getElem?_set_self (List.getElem?_eq_some_iff.1 hq).1] at hk
   simp only [Option.some.injEq] at hk
   subst hk
   have hfi:=hr i hi
   refine ⟨hs,new.toList.take (ob.n*ob.sz),⟨?_,.inr ⟨b,c',new,hb,⟨ty,fz,hng,by rw [hnsz];exact hM⟩,hnc,hcm,?_,rfl⟩⟩,?_⟩
   ·simp only [upd]
    rw [List.length_take,Nat.min_eq_left]
    rw [←hnew];simp;rw [hl];omega
   ·simp only [upd];rw [←hnew];simp;omega
   ·intro i' hi'
    have hi'':i'<ob.n:=hi'
    have hin2:(i'+1)*ob.sz≤ob.n*ob.sz:=Nat.mul_le_mul_right _ (by omega)
    rw [Nat.add_mul,Nat.one_mul] at hin2
    -- a cell behind the store
    have get:∀ p:Nat,p<ob.n*ob.sz→(new.toList.take (ob.n*ob.sz))[p]?=if i*ob.sz+c≤p∧p<i*ob.sz+c+cells.length then vs[p-(i*ob.sz+c)]? else vals[p]?:=by
     intro p hp
     rw [List.getElem?_take,if_pos hp,←hnew]
     simp only [List.toList_toArray]
     by_cases h1:p<i*ob.sz+c
     ·rw [if_neg (by omega),List.append_assoc,List.getElem?_append_left (by simp;omega),List.getElem?_take,if_pos h1,←htake,List.getElem?_take,if_pos hp]
     ·by_cases h2:p<i*ob.sz+c+cells.length
      ·rw [if_pos ⟨by omega,h2⟩,List.getElem?_append_left (by simp;omega),List.getElem?_append_right (by simp;omega)]
       simp only [List.length_take,Array.length_toList]
       rw [Nat.min_eq_left (by omega)]
      ·rw [if_neg (by omega),List.getElem?_append_right (by simp;omega),List.getElem?_drop,←htake,List.getElem?_take,if_pos hp]
       congr 1
       simp;omega
    have key:∀ (L:List AV),L=(if i'=i then Y5 (ob.f i) c cells else ob.f i')→L.length=ob.sz∧∀ (j:Nat) av,L[j]?=some av→∃ u,(new.toList.take (ob.n*ob.sz))[i'*ob.sz+j]?=some u∧u.oneCell'=true∧Rep (w.setRow b new) (Zw (s.mem.set q (some (upd ob i c cells))) hd) hd (s.mem.set q (some (upd ob i c cells))).length av u:=by
     intro L hL
     by_cases e:i'=i
     ·subst e
      rw [if_pos rfl] at hL
      subst hL
      refine ⟨by rw [UW _ _ _ (by rw [hfi.1];exact hc)];exact hfi.1,fun j av hj=>?_⟩
      have hjl:j<ob.sz:=by
       have:=(List.getElem?_eq_some_iff.1 hj).1
       rw [UW _ _ _ (by rw [hfi.1];exact hc),hfi.1] at this
       exact this
      rw [Zaz (by rw [hfi.1];exact hc)] at hj
      rw [get _ (by omega)]
      split at hj
      ·rename_i hin3
       rw [if_pos (by omega)]
       obtain ⟨u,hu,hrep⟩:=hv _ av hj
       refine ⟨u,?_,h1 u (List.mem_of_getElem? hu),hrep.mono hok (fun _ _=>rfl) (by simp)⟩
       rw [show i'*ob.sz+j-(i'*ob.sz+c)=j-c by omega];exact hu
      ·rename_i hin3
       rw [if_neg (by omega)]
       obtain ⟨u,hu,h1u,hrep⟩:=hfi.2 j av hj
       exact ⟨u,hu,h1u,hrep.mono hok (fun _ _=>rfl) (by simp)⟩
     ·rw [if_neg e] at hL
      subst hL
      have hfi':=hr i' hi''
      refine ⟨hfi'.1,fun j av hj=>?_⟩
      have hjl:j<ob.sz:=by
       have:=(List.getElem?_eq_some_iff.1 hj).1
       rw [hfi'.1] at this;exact this
      obtain ⟨u,hu,h1u,hrep⟩:=hfi'.2 j av hj
      refine ⟨u,?_,h1u,hrep.mono hok (fun _ _=>rfl) (by simp)⟩
      rw [get _ (by omega),if_neg,hu]
      intro ⟨g1,g2⟩
      rcases Nat.lt_or_ge i' i with hlt|hge
      ·have:(i'+1)*ob.sz≤i*ob.sz:=Nat.mul_le_mul_right _ (by omega)
       rw [Nat.add_mul,Nat.one_mul] at this;omega
      ·have:(i+1)*ob.sz≤i'*ob.sz:=Nat.mul_le_mul_right _ (by omega)
       rw [Nat.add_mul,Nat.one_mul] at this;omega
    refine key _ ?_
    simp only [upd]
    by_cases h1n:ob.n=1
    ·have:i'=i:=by omega
     have:i=0:=by omega
     subst this;subst i'
     simp [h1n]
    ·simp [h1n]
  ·rw [List.getElem?_set_ne e] at hk
   obtain ⟨hs',vs',ho',hr'⟩:=h.me.obs k ok' hk
   have hne:(hd k).ownBlock=none∨(hd k).ownBlock≠some b:=by
    have:=h.me.apart k q ok' ob hk hq (fun e'=>e e'.symm)
    rw [hb] at this;exact this
   refine ⟨hs',vs',ho'.kept hgr hne,fun i hi=>⟨(hr' i hi).1,fun j av hj=>?_⟩⟩
   obtain ⟨u,g1,g2,g3⟩:=(hr' i hi).2 j av hj
   exact ⟨u,g1,g2,g3.mono hok (fun _ _=>rfl) (by simp)⟩
 ·obtain ⟨o1,g1,_⟩:=live k o hk
  obtain ⟨o2,g2,_⟩:=live k' o' hk'
  exact h.me.apart k k' o1 o2 g1 g2 hne
end
end Go.Proofs.YtadghlfkddkelaaGreatDoor.V
namespace Go.Proofs.YtadghlfkddkelaaGreatDoor.V
open Go.RowKit
section
variable {P:Program} {n:Nat} {base:Fr} {w0 w:World} {hd:Nat→Value} {s:VS} {a:Act} {k:AV→VS→Prop}
theorem ZM {x:Sem Value} {v:Value} {w w':World} (h:x.run P w=.ok v w'):(do pure (Next.value (←x)):Sem Next).run P w=.ok (.value v) w':=by
 simp only [Sem.run_bind,h,Result.andThen_ok];rfl
theorem Zev {x:Sem Unit} {w w':World} (h:x.run P w=.ok () w'):(do x;pure Next.skip:Sem Next).run P w=.ok .skip w':=by
 simp only [Sem.run_bind,h,Result.andThen_ok];rfl
theorem X9 {av:AV} {v:Value} (h:av=.lit v):Yb av=some v:=by rw [h];rfl
theorem ZaY (h:RelH n base w0 hd s a w) {T:TypeId} {x:Operand} (hv:vop P (.load T x) s k):∃ v av,(Instr.loadAt T (a.eval x)).run P w=.ok v w∧Rep w (Zw s.mem hd) hd s.mem.length av v∧k av s:=by
 simp only [vop] at hv
 have hx:=h.ev_ x
 generalize ev s x=ax at *
 cases ax with
 |ptr j sz i c=>
  simp only at hv
  cases hx':a.eval x with
  |pointer ad=>
   rw [hx'] at hx
   cases hx with
   |ptr _ _ _ _ b n' c' hk hb=>
    split at hv
    ·rename_i ob hob
     obtain ⟨rfl,hi,hrd⟩:=hv
     obtain ⟨v,av,h1,h2,h3⟩:=Zds (w:=w) hrd ⟨b,i*ob.sz,none⟩ (h.cells_ hob hb hi)
     refine ⟨v,av,?_,h2,h3⟩
     unfold Instr.loadAt Instr.sureAddr
     simp only [Sem.run_bind,Sem.run_pure,Result.andThen_ok]
     have e:(⟨b,i*ob.sz,none⟩:Addr).add c=⟨b,i*ob.sz+c,none⟩:=by
      unfold Addr.add;split
      ·rename_i h0;simp [h0]
      ·rfl
     rw [←e];exact h1
    ·exact hv.elim
  | _=>rw [hx'] at hx;cases hx
 |bptr cs=>
  simp only at hv
  cases hx':a.eval x with
  |pointer ad=>
   rw [hx'] at hx
   cases hx with
   |bptr _ ad u hne hok hc hr=>
    obtain ⟨v,av,h1,h2,h3⟩:=Zds (w:=w) hv ad (fun j av hj=>⟨u j,hc j (List.getElem?_eq_some_iff.1 hj).1,hr j av hj⟩)
    refine ⟨v,av,?_,h2,h3⟩
    unfold Instr.loadAt Instr.sureAddr
    simp only [Sem.run_bind,Sem.run_pure,Result.andThen_ok]
    have e:ad.add 0=ad:=by simp [Addr.add]
    rw [e] at h1;exact h1
  | _=>rw [hx'] at hx;cases hx
 |lit lv=>
  cases lv with
  |pointer p=>
   cases p with
   |none=>exact hv.elim
   |some ad=>
    obtain ⟨t,N,vs,as,i,cs,ht,hi,hvs,has,hrd⟩:=hv
    have hx':a.eval x=.pointer (some ad):=by
     generalize a.eval x=y at hx
     cases hx;rfl
    have hf:=h.tm t
    rw [ht] at hf
    generalize a.tmps.getD t undef=u0 at hf
    cases hf with
    |fam _ _ _ _ hf=>
    have hb:=hf i hi
    rw [hvs,has] at hb
    cases hb with
    |bptr _ ad u hne hok hc hr=>
    obtain ⟨v,av,h1,h2,h3⟩:=Zds (w:=w) hrd ad (fun j av hj=>⟨u j,hc j (List.getElem?_eq_some_iff.1 hj).1,hr j av hj⟩)
    refine ⟨v,av,?_,h2,h3⟩
    unfold Instr.loadAt Instr.sureAddr
    simp only [hx',Sem.run_bind,Sem.run_pure,Result.andThen_ok]
    have e:ad.add 0=ad:=by simp [Addr.add]
    rw [e] at h1;exact h1
  | _=>exact hv.elim
 | _=>exact hv.elim
theorem Zjc (h:RelH n base w0 hd s a w) {T:TypeId} {x:Operand} {o:Oper} (ho:o.op=.box T x) (hv:vop P (.box T x) s k):Ends P n base w0 a ((execOp a.eval o).run P w) k:=by
 simp only [vop] at hv
 split at hv
 ·rename_i sz hsz
  obtain ⟨h0,hl,h1,hk⟩:=hv
  have hx:=h.ev_ x
  obtain ⟨g1,g2⟩:=hx.cells_ (.inl (by intro e;rw [e] at hl;simp at hl;omega)) h.me.hds
  have hnew:=h.new (T:=T) (sz:=sz) (cnt:=1) (vals:=(a.eval x).cells.toList) (f:=fun _=>ZJ (ev s x)) h0 (by simp [g1,hl]) (by omega) (fun i hi=>⟨hl,fun j av hj=>by
   obtain ⟨u,e1,e2⟩:=g2 j av hj
   have hi0:i=0:=by omega
   subst hi0
   exact ⟨u,by simpa using e1,e2.one_ (List.all_eq_true.1 h1 av (List.mem_of_getElem? hj)) h.me.hds,e2⟩⟩)
  refine ⟨.pointer (some ⟨w.heap.size,0,none⟩),_,.inl ?_,_,_,_,hnew,?_,hk⟩
  ·unfold execOp;simp only [ho]
   refine ZM ?_
   rw [show (a.eval x).cells.toList.toArray=(a.eval x).cells by simp]
   rfl
  ·have:=Rep.ptr (w:=w.alloc (.cells (a.eval x).cells.toList.toArray T)) (ok:=Zw (s.mem++[some ⟨T,sz,1,fun _=>ZJ (ev s x)⟩]) (fun j=>if j=s.mem.length then .slice (some ⟨w.heap.size,0,none⟩) 1 1 else hd j)) (hd:=fun j=>if j=s.mem.length then .slice (some ⟨w.heap.size,0,none⟩) 1 1 else hd j) (m:=(s.mem++[some (⟨T,sz,1,fun _=>ZJ (ev s x)⟩:Ob)]).length) s.mem.length sz 0 0 w.heap.size 1 1 (by simp) (by simp)
   simpa using this
 ·exact hv.elim
theorem Zen (h:RelH n base w0 hd s a w) {T:TypeId} {p x:Operand} {o:Oper} (ho:o.op=.store T p x) (hv:vop P (.store T p x) s k):Ends P n base w0 a ((execOp a.eval o).run P w) k:=by
 simp only [vop] at hv
 have hp:=h.ev_ p
 split at hv
 ·rename_i j sz i c sn ep hsz
  split at hv
  ·rename_i ob hob
   obtain ⟨rfl,hi,hl,h0,hc,h1,hk⟩:=hv
   have hx:=h.ev_ x
   obtain ⟨g1,g2⟩:=hx.cells_ (.inl (by intro e;rw [e] at hl;simp at hl;omega)) h.me.hds
   rw [ep] at hp
   cases hp':a.eval p with
   |pointer ad=>
    rw [hp'] at hp
    cases hp with
    |ptr _ _ _ _ b n' c' hkm hb=>
     obtain ⟨w',e1,e2⟩:=h.store (P:=P) hob hb (i:=i) (c:=c) (cells:=ZJ (ev s x)) hi (by omega) (vs:=(a.eval x).cells.toList) (by simp [g1]) (fun j av hj=>by
      obtain ⟨u,q1,q2⟩:=g2 j av hj
      exact ⟨u,by simpa using q1,q2⟩) (fun u hu=>by
      obtain ⟨j,hj⟩:=List.getElem?_of_mem hu
      have hjl:j<(ZJ (ev s x)).length:=by
       rw [←g1];simpa using (List.getElem?_eq_some_iff.1 hj).1
      obtain ⟨u',q1,q2⟩:=g2 j _ (List.getElem?_eq_getElem hjl)
      have:u'=u:=by
       have:(a.eval x).cells.toList[j]?=some u':=by simpa using q1
       rw [hj] at this;exact (Option.some.inj this).symm
      subst this
      exact q2.one_ (List.all_eq_true.1 h1 _ (List.getElem_mem hjl)) h.me.hds)
     refine ⟨undef,w',.inr ⟨?_,rfl⟩,hd,_,.undef,e2,.undef _,hk⟩
     unfold execOp;simp only [ho,hp']
     refine Zev ?_
     unfold Instr.storeAt Instr.sureAddr storeVar
     simp only [Sem.run_bind,Sem.run_pure,Result.andThen_ok,XB hsz]
     rw [if_neg (by rw [g1,hl];simp)]
     exact e1
   | _=>rw [hp'] at hp;cases hp
  ·exact hv.elim
 ·exact hv.elim
theorem GN (h:RelH n base w0 hd s a w) {T:TypeId} {x:Operand} {f:Nat} {o:Oper} (ho:o.op=.fieldAddr T x f) (hv:vop P (.fieldAddr T x f) s k):Ends P n base w0 a ((execOp a.eval o).run P w) k:=by
 simp only [vop] at hv
 split at hv
 ·rename_i ft off hf
  obtain ⟨⟨m,hm,hm0⟩,hv⟩:=hv
  have hx:=h.ev_ x
  split at hv
  ·rename_i j sz i c e
   rw [e] at hx
   cases hx':a.eval x with
   |pointer ad=>
    rw [hx'] at hx
    cases hx with
    |ptr _ _ _ _ b n' c' hk hb=>
     refine Ends.same h (.ptr j sz i (c+off) b n' c' hk hb) hv ?_
     unfold execOp;simp only [ho,hx']
     refine ZM ((W4 hf hm hm0 _ _).trans ?_)
     congr 3
     unfold Addr.add;split
     ·rename_i h0;subst h0;simp
     ·simp [Nat.add_assoc]
   | _=>rw [hx'] at hx;cases hx
  ·rename_i cs e
   rw [e] at hx
   cases hx':a.eval x with
   |pointer ad=>
    rw [hx'] at hx
    cases hx with
    |bptr _ ad u hne hok hc hr=>
     have add2:∀ j,(ad.add off).add j=ad.add (off+j):=by
      intro j
      unfold Addr.add
      by_cases h1:off=0<;>by_cases h2:j=0<;>simp [h1,h2];omega
     have hblk:(ad.add off).block=ad.block:=by unfold Addr.add;split<;>rfl
     refine Ends.same h (.bptr (cs.drop off) (ad.add off) (fun j=>u (off+j)) (by intro e2;rw [List.drop_eq_nil_iff] at e2;omega) (by rw [hblk];exact hok) (fun j hj=>by rw [add2];exact hc _ (by simp at hj;omega)) (fun j av hj=>hr _ av (by rw [List.getElem?_drop] at hj;exact hj))) hv.2 ?_
     unfold execOp;simp only [ho,hx']
     exact ZM (W4 hf hm hm0 _ _)
   | _=>rw [hx'] at hx;cases hx
  ·exact hv.elim
 ·exact hv.elim
theorem Ze9 (h:RelH n base w0 hd s a w) {T:TypeId} {x:Operand} {f:Nat} {o:Oper} (ho:o.op=.field T x f) (hv:vop P (.field T x f) s k):Ends P n base w0 a ((execOp a.eval o).run P w) k:=by
 simp only [vop] at hv
 split at hv
 ·rename_i ft off cs hf e
  have hx:=h.ev_ x
  rw [e] at hx
  cases hx':a.eval x with
  |agg arr=>
   rw [hx'] at hx
   cases hx with
   |agg _ vs hl hr=>
    obtain ⟨fs,fl,h1,h2,rfl,rfl⟩:=Qz hf
    unfold rd at hv
    split at hv
    ·rename_i ht
     obtain ⟨hlt,hk⟩:=hv
     refine Ends.same h (v:=vs[fl.offset]'(by omega)) (av:=cs.getD fl.offset .undef) ?_ hk ?_
     ·rw [List.getD_eq_getElem?_getD,List.getElem?_eq_getElem hlt]
      exact hr fl.offset _ _ (List.getElem?_eq_getElem hlt) (List.getElem?_eq_getElem (by omega))
     ·unfold execOp;simp only [ho,hx']
      refine ZM ?_
      unfold Instr.field part
      simp only [Sem.run_bind,Ya h1,Result.andThen_ok,h2,asAgg,Sem.run_pure,VK ht,Bool.false_eq_true,if_false]
      simp [show fl.offset<vs.length by omega]
    ·rename_i m ht hm
     obtain ⟨hlt,hk⟩:=hv
     refine Ends.same h (v:=.agg ((vs.drop fl.offset).take m).toArray) ?_ hk ?_
     ·refine .agg _ _ (by simp;omega) fun j av u h3 h4=>?_
      rw [List.getElem?_take] at h3 h4
      split at h3
      ·rename_i hj
       rw [if_pos hj] at h4
       rw [List.getElem?_drop] at h3 h4
       exact hr _ av u h3 h4
      ·simp at h3
     ·unfold execOp;simp only [ho,hx']
      refine ZM ?_
      unfold Instr.field part
      simp only [Sem.run_bind,Ya h1,Result.andThen_ok,h2,asAgg,Sem.run_pure,VK ht,if_true,XB hm]
      congr 2
      apply Array.ext'
      simp [List.extract_eq_take_drop]
    ·exact hv.elim
  | _=>rw [hx'] at hx;cases hx
 ·exact hv.elim
end
end Go.Proofs.YtadghlfkddkelaaGreatDoor.V
namespace Go.Proofs.YtadghlfkddkelaaGreatDoor.V
open Go.RowKit
section
variable {P:Program} {n:Nat} {base:Fr} {w0 w:World} {hd:Nat→Value} {s:VS} {a:Act} {k:AV→VS→Prop}
theorem Jb (h:RelH n base w0 hd s a w) {d:Int} {x:Operand} {i:Int} (he:Yl s d (some x)=some i):∃ q,a.eval x=.int q i:=by
 simp only [Yl] at he
 split at he
 ·rename_i q m hv
  simp only [Option.some.injEq] at he
  subst he
  exact ⟨q,(h.ev_ _).val_ hv⟩
 ·simp at he
theorem Kx {q:IntKind} {i:Int} {y:Nat} {c:BoundsCode} (h0:0≤i) (h1:i≤y) (w:World):(Instr.sliceBound (.int q i) y c).run P w=.ok i.toNat w:=by
 unfold Instr.sliceBound asIntOf
 simp only [Sem.run_bind,Sem.run_pure,Result.andThen_ok]
 rw [if_pos ⟨h0,h1⟩];rfl
theorem XK (h:RelH n base w0 hd s a w) {isS:Bool} {len cap:Nat} {lo hi:Option Operand} {l e:Int} (hlo:Yl s 0 lo=some l) (hhi:Yl s len hi=some e) (h0:0≤l) (h1:l≤e) (h2:e≤len) (hc:len≤cap) (w':World) :
  (Instr.sliceBounds isS len cap (lo.map a.eval) (hi.map a.eval) none).run P w'=.ok (l.toNat,e.toNat,cap) w':=by
 unfold Instr.sliceBounds
 cases lo with
 |none=>
  simp only [Yl,Option.some.injEq] at hlo
  subst hlo
  cases hi with
  |none=>
   simp only [Yl,Option.some.injEq] at hhi
   have:e.toNat=len:=by omega
   simp [Sem.run_bind,this]
  |some x=>
   obtain ⟨q,hq⟩:=Jb h hhi
   simp [Sem.run_bind,hq,Kx (c:=_) (show 0≤e by omega) (show e≤cap by omega)]
 |some y=>
  obtain ⟨q',hq'⟩:=Jb h hlo
  cases hi with
  |none=>
   simp only [Yl,Option.some.injEq] at hhi
   have:e.toNat=len:=by omega
   simp [Sem.run_bind,hq',Kx (c:=_) h0 (show l≤(len:Int) by omega),this]
  |some x=>
   obtain ⟨q,hq⟩:=Jb h hhi
   simp [Sem.run_bind,hq,hq',Kx (c:=_) (show 0≤e by omega) (show e≤cap by omega),Kx (c:=_) h0 (show l≤(e.toNat:Int) by omega)]
theorem add_add (ad:Addr) (x y:Nat):(ad.add x).add y=ad.add (x+y):=by
 unfold Addr.add
 by_cases h1:x=0<;>by_cases h2:y=0<;>simp [h1,h2];omega
theorem GM (h:RelH n base w0 hd s a w) {T:TypeId} {x ix:Operand} {o:Oper} (ho:o.op=.indexAddr T x ix) (hv:vop P (.indexAddr T x ix) s k):Ends P n base w0 a ((execOp a.eval o).run P w) k:=by
 simp only [vop] at hv
 split at hv
 ·rename_i e q i hT hi
  split at hv
  ·rename_i sz hsz
   have hx:=h.ev_ x
   have hix:=(h.ev_ ix).val_ hi
   have key:∀ (A:Option Addr) (len cap:Nat) (ad:Addr),a.eval x=.slice A len cap→A=some ad→0≤i→i<len→(execOp a.eval o).run P w=.ok (.value (.pointer (some (ad.add (i.toNat*sz))))) w:=by
    intro A len cap ad hx' hA h0 h1
    unfold execOp;simp only [ho,hx',hix]
    refine ZM ?_
    unfold Instr.indexAt asIntOf
    simp only [Sem.run_bind,Sem.run_pure,Result.andThen_ok,Ya hT,hA]
    rw [if_pos ⟨h0,h1⟩]
    simp [Sem.run_bind,XB hsz]
   split at hv
   ·rename_i sz' m f e1
    obtain ⟨rfl,h0,h1,hk⟩:=hv
    rw [e1] at hx
    cases hx':a.eval x with
    |slice A len cap=>
     rw [hx'] at hx
     cases hx with
     |sl _ _ _ _ _ u hc hm hsz' hl ha hr=>
      have hlt:i.toNat<m:=by omega
      obtain ⟨ad,hA,hok,hcell⟩:=ha (by omega)
      refine Ends.same h (.bptr (f i.toNat) (ad.add (i.toNat*sz')) (fun j=>u i.toNat j) (by intro e2;have:=hl _ hlt;rw [e2] at this;simp at this;omega) (by unfold Addr.add;split<;>exact hok) (fun j hj=>?_) (fun j av hj=>hr _ _ av hlt hj)) hk (key A m cap ad hx' hA h0 h1)
      have:(ad.add (i.toNat*sz')).add j=ad.add (i.toNat*sz'+j):=by
       unfold Addr.add
       by_cases h1:i.toNat*sz'=0<;>by_cases h2:j=0<;>simp [h1,h2];omega
      rw [this]
      exact hcell _ _ hlt (by rw [←hl _ hlt];exact hj)
    | _=>rw [hx'] at hx;cases hx
   ·rename_i j e1
    split at hv
    ·rename_i ob hob
     obtain ⟨rfl,h0,h1,hk⟩:=hv
     rw [e1] at hx
     obtain ⟨hs0,vals,hown,_⟩:=h.me.obs j ob hob
     rcases hown.2 with ⟨_,h00⟩|⟨g,cap,cur,hh,_⟩
     ·omega
     ·have hx':a.eval x=hd j:=by
       generalize a.eval x=vx at hx
       cases hx;rfl
      have hkm:j<s.mem.length:=(List.getElem?_eq_some_iff.1 hob).1
      have e2:=key (some ⟨g,0,none⟩) ob.n cap ⟨g,0,none⟩ (by rw [hx',hh]) rfl h0 h1
      refine Ends.same h (.ptr j ob.sz i.toNat 0 g ob.n cap hkm hh) hk ?_
      rw [e2]
      congr 4
      unfold Addr.add;split
      ·rename_i h3;simp [h3]
      ·simp
    ·exact hv.elim
   ·rename_i j sz' lo m e1
    obtain ⟨rfl,h0,h1,hk⟩:=hv
    rw [e1] at hx
    generalize hxv:a.eval x=xv at hx
    cases hx with
    |sub _ _ _ _ A c hkm hc ha=>
     obtain ⟨b,n',c',hb,rfl,_⟩:=ha (by omega)
     refine Ends.same h (.ptr j sz' (lo+i.toNat) 0 b n' c' hkm hb) hk ?_
     rw [key _ m c ⟨b,lo*sz',none⟩ hxv rfl h0 h1]
     congr 4
     rw [Nat.add_mul]
     unfold Addr.add;split
     ·rename_i h3;simp [h3]
     ·simp
   ·exact hv.elim
  ·exact hv.elim
 ·exact hv.elim
theorem Ze3 (h:RelH n base w0 hd s a w) {T:TypeId} {x ix:Operand} {o:Oper} (ho:o.op=.index T x ix) (hv:vop P (.index T x ix) s k):Ends P n base w0 a ((execOp a.eval o).run P w) k:=by
 simp only [vop] at hv
 split at hv
 ·rename_i z q i hT hx hi
  obtain ⟨h0,h1,hk⟩:=hv
  refine Ends.same h (.lit _) hk ?_
  unfold execOp;simp only [ho,(h.ev_ x).val_ hx,(h.ev_ ix).val_ hi]
  refine ZM ?_
  unfold Instr.index asIntOf
  have hlt:i.toNat<z.size:=by omega
  simp only [Sem.run_bind,Sem.run_pure,Result.andThen_ok,Ya hT]
  rw [if_pos h0]
  have:z[i.toNat]?=some (z[i.toNat]'hlt):=getElem?_pos z i.toNat hlt
  rw [this]
  simp [Ze,hlt]
 ·exact hv.elim
theorem Zeq (h:RelH n base w0 hd s a w) {T:TypeId} {x:Operand} {lo hi mx:Option Operand} {o:Oper} (ho:o.op=.slice T x lo hi mx) (hv:vop P (.slice T x lo hi mx) s k):Ends P n base w0 a ((execOp a.eval o).run P w) k:=by
 cases mx with
 |some _=>exact hv.elim
 |none=>
  simp only [vop] at hv
  have hx:=h.ev_ x
  have at_:(∀ n e,P.underlying T≠some (.array n e))→∀ (d:TypeDesc),P.underlying T=some d→(execOp a.eval o).run P w=((do pure (Next.value (←Instr.slice T (a.eval x) (lo.map a.eval) (hi.map a.eval) none)):Sem Next)).run P w:=by
   intro hna d hd'
   unfold execOp;simp only [ho]
   simp only [Sem.run_bind,Option.map_none]
   congr 1
   unfold Instr.sliceAt
   simp only [Sem.run_bind,Ya hd',Result.andThen_ok]
   cases d<;>first|rfl|exact absurd hd' (hna _ _)
  split at hv
  ·rename_i z l hT e1 hl
   split at hv
   ·rename_i e he
    obtain ⟨h0,h1,h2,hk⟩:=hv
    refine Ends.same h (.lit _) hk ?_
    rw [at_ (by rw [hT];simp) _ hT]
    refine ZM ?_
    have hz:=(h.ev_ x).val_ (X9 e1)
    unfold Instr.slice
    simp only [Sem.run_bind,Ya hT,Result.andThen_ok,hz,XK (P:=P) h (isS:=false) hl he h0 h1 h2 (Nat.le_refl _),Sem.run_pure]
    simp [Sem.run_bind,XK (P:=P) h (isS:=false) hl he h0 h1 h2 (Nat.le_refl _)]
   ·exact hv.elim
  ·rename_i el sz m f l hT e1 hl
   split at hv
   ·rename_i e he
    obtain ⟨hsz,h0,h1,h2,hk⟩:=hv
    rw [e1] at hx
    cases hx':a.eval x with
    |slice A len cap=>
     rw [hx'] at hx
     cases hx with
     |sl _ _ _ _ _ u hc hm hsz' hll ha hr=>
      refine Ends.same h (v:=.slice (if cap=l.toNat then A else A.map (·.add (l.toNat*sz))) (e.toNat-l.toNat) (cap-l.toNat)) (.sl sz (e.toNat-l.toNat) (fun i=>f (l.toNat+i)) _ _ (fun i j=>u (l.toNat+i) j) (by omega) (by omega) hsz' (fun i hi=>hll _ (by omega)) (fun hp=>?_) (fun i j av hi hj=>hr _ _ av (by omega) hj)) hk ?_
      ·obtain ⟨ad,hA,hok,hcell⟩:=ha (by omega)
       refine ⟨ad.add (l.toNat*sz),by rw [hA,if_neg (by omega)];rfl,by unfold Addr.add;split<;>exact hok,fun i j hi hj=>?_⟩
       have:(ad.add (l.toNat*sz)).add (i*sz+j)=ad.add ((l.toNat+i)*sz+j):=by
        rw [add_add,Nat.add_mul,Nat.add_assoc]
       rw [this];exact hcell _ _ (by omega) hj
      ·rw [at_ (by rw [hT];simp) _ hT]
       refine ZM ?_
       unfold Instr.slice
       simp only [Sem.run_bind,Ya hT,Result.andThen_ok,hx',XK (P:=P) h (isS:=true) hl he h0 h1 h2 hc,XB hsz,Sem.run_pure]
    | _=>rw [hx'] at hx;cases hx
   ·exact hv.elim
  ·rename_i el j l hT e1 hl
   split at hv
   ·rename_i ob hob
    split at hv
    ·rename_i e he
     obtain ⟨hsz,h0,h1,h2,hk⟩:=hv
     rw [e1] at hx
     have hx':a.eval x=hd j:=by
      generalize a.eval x=vx at hx
      cases hx;rfl
     have hkm:j<s.mem.length:=(List.getElem?_eq_some_iff.1 hob).1
     obtain ⟨hs0,vals,hown,_⟩:=h.me.obs j ob hob
     obtain ⟨A,cap,hform,hcap,hA⟩:∃ A cap,hd j=.slice A ob.n cap∧ob.n≤cap∧(0<cap→∃ g,A=some ⟨g,0,none⟩):=by
      rcases hown.2 with ⟨e2,h00⟩|⟨g,cap,cur,hh,_,hc,_⟩
      ·exact ⟨none,0,by rw [e2,h00],by omega,fun h=>by omega⟩
      ·exact ⟨some ⟨g,0,none⟩,cap,hh,hc,fun _=>⟨g,rfl⟩⟩
     refine Ends.same h (v:=.slice (if cap=l.toNat then A else A.map (·.add (l.toNat*ob.sz))) (e.toNat-l.toNat) (cap-l.toNat)) (.sub j ob.sz l.toNat (e.toNat-l.toNat) _ _ hkm (by omega) (fun hp=>?_)) hk ?_
     ·obtain ⟨g,hg⟩:=hA (by omega)
      refine ⟨g,ob.n,cap,by rw [hform,hg],?_,by omega⟩
      rw [if_neg (by omega),hg]
      simp only [Option.map_some]
      congr 1
      unfold Addr.add;split
      ·rename_i h3;simp [h3]
      ·simp
     ·rw [at_ (by rw [hT];simp) _ hT]
      refine ZM ?_
      unfold Instr.slice
      simp only [Sem.run_bind,Ya hT,Result.andThen_ok,hx',hform,XK (P:=P) h (isS:=true) hl he h0 h1 h2 hcap,XB hsz,Sem.run_pure]
    ·exact hv.elim
   ·exact hv.elim
  ·rename_i el j sz lo0 m l hT e1 hl
   split at hv
   ·rename_i e he
    obtain ⟨hsz,h0,h1,h2,hk⟩:=hv
    rw [e1] at hx
    generalize hx':a.eval x=xv at hx
    cases hx with
    |sub _ _ _ _ A cap hkm hcap ha=>
     refine Ends.same h (v:=.slice (if cap=l.toNat then A else A.map (·.add (l.toNat*sz))) (e.toNat-l.toNat) (cap-l.toNat)) (.sub j sz (lo0+l.toNat) (e.toNat-l.toNat) _ _ hkm (by omega) (fun hp=>?_)) hk ?_
     ·have hp0:0<cap-l.toNat:=hp
      have hc0:0<cap:=Nat.lt_of_lt_of_le hp0 (Nat.sub_le _ _)
      obtain ⟨b,n',c',hb,hA0,hle⟩:=ha hc0
      subst hA0
      have hle2:lo0+l.toNat+(cap-l.toNat)≤c':=by
       clear hb ha
       omega
      refine ⟨b,n',c',hb,?_,hle2⟩
      rw [if_neg (fun e=>by rw [e,Nat.sub_self] at hp0;exact absurd hp0 (Nat.lt_irrefl 0))]
      simp only [Option.map_some]
      congr 1
      rw [Nat.add_mul]
      unfold Addr.add;split
      ·rename_i h3;simp [h3]
      ·simp
     ·rw [at_ (by rw [hT];simp) _ hT]
      refine ZM ?_
      unfold Instr.slice
      simp only [Sem.run_bind,Ya hT,Result.andThen_ok,hx',XK (P:=P) h (isS:=true) hl he h0 h1 h2 hcap,XB hsz,Sem.run_pure]
   ·exact hv.elim
  ·exact hv.elim
theorem Zh6 (h:RelH n base w0 hd s a w) (o:Oper) (hv:vop P o.op s k):Ends P n base w0 a ((execOp a.eval o).run P w) k:=by
 obtain ⟨d,op,ty,pos,af,g⟩:=o
 cases op with
 |move x=>exact Ends.same h (h.ev_ x) hv rfl
 |assign x=>exact Ends.same h (h.ev_ x) hv rfl
 |pick c x y=>
  simp only [vop] at hv
  split at hv
  ·rename_i t e
   have hc:=(h.ev_ c).val_ (X9 e)
   cases t with
   |true=>exact Ends.same h (h.ev_ x) (hv.1 rfl) (by simp [execOp,hc,asBool,Sem.run_bind])
   |false=>exact Ends.same h (h.ev_ y) (hv.2 rfl) (by simp [execOp,hc,asBool,Sem.run_bind])
  ·exact hv.elim
 |box T x=>exact Zjc h rfl hv
 |load T x=>
  obtain ⟨v,av,h1,h2,h3⟩:=ZaY h hv
  exact Ends.same h h2 h3 (by unfold execOp;exact ZM h1)
 |store T p x=>exact Zen h rfl hv
 |fieldAddr T x f=>exact GN h rfl hv
 |field T x f=>exact Ze9 h rfl hv
 |indexAddr T x ix=>exact GM h rfl hv
 |index T x ix=>exact Ze3 h rfl hv
 |slice T x lo hi mx=>exact Zeq h rfl hv
 |binOp b T x y T2=>
  simp only [vop] at hv
  split at hv
  ·rename_i vx vy hx hy
   obtain ⟨v,hrun,hk⟩:=hv
   refine Ends.same h (.lit v) hk ?_
   unfold execOp
   simp only [(h.ev_ x).val_ hx,(h.ev_ y).val_ hy]
   exact ZM (hrun w)
  ·exact hv.elim
 |unOp b T x=>
  simp only [vop] at hv
  split at hv
  ·rename_i vx hx
   obtain ⟨v,hrun,hk⟩:=hv
   refine Ends.same h (.lit v) hk ?_
   unfold execOp
   simp only [(h.ev_ x).val_ hx]
   exact ZM (hrun w)
  ·exact hv.elim
 |convert c d x=>
  simp only [vop] at hv
  split at hv
  ·rename_i vx hx
   obtain ⟨v,hrun,hk⟩:=hv
   refine Ends.same h (.lit v) hk ?_
   unfold execOp
   simp only [(h.ev_ x).val_ hx]
   exact ZM (hrun w)
  ·exact hv.elim
 |extract x i=>
  simp only [vop] at hv
  split at hv
  ·rename_i vs e
   obtain ⟨hlt,hk⟩:=hv
   have hx:=h.ev_ x
   rw [e] at hx
   cases hx':a.eval x with
   |tuple arr=>
    rw [hx'] at hx
    cases hx with
    |tup _ us hl hr=>
     refine Ends.same h (v:=us[i]'(by omega)) (av:=vs.getD i .undef) ?_ hk ?_
     ·rw [List.getD_eq_getElem?_getD,List.getElem?_eq_getElem hlt]
      exact hr i _ _ (List.getElem?_eq_getElem hlt) (List.getElem?_eq_getElem (by omega))
     ·unfold execOp;simp only [hx']
      refine ZM ?_
      unfold Instr.extract
      simp [show i<us.length by omega]
   | _=>rw [hx'] at hx;cases hx
  ·exact hv.elim
 |nilCheck x=>
  simp only [vop] at hv
  have hx:=h.ev_ x
  split at hv
  ·rename_i e
   have hx0:=hx
   rw [e] at hx
   cases hx':a.eval x with
   |pointer ad=>
    rw [hx'] at hx
    cases hx with
    |ptr=>exact Ends.same h hx0 (by rw [e] at hv ⊢;exact hv) (by unfold execOp;simp only [hx'];rfl)
   | _=>rw [hx'] at hx;cases hx
  ·rename_i e
   have hx0:=hx
   rw [e] at hx
   cases hx':a.eval x with
   |pointer ad=>
    rw [hx'] at hx
    cases hx with
    |bptr=>exact Ends.same h hx0 (by rw [e] at hv ⊢;exact hv) (by unfold execOp;simp only [hx'];rfl)
   | _=>rw [hx'] at hx;cases hx
  ·exact hv.elim
 | _=>exact hv.elim
end
end Go.Proofs.YtadghlfkddkelaaGreatDoor.V
namespace Go.Proofs.YtadghlfkddkelaaGreatDoor.V
open Go.RowKit
def Yq (P:Program) (t:TypeId):Option (Value×Nat×Nat):=match P.info? t with
 |some i=>i.zero.map fun z=>(z,i.size,i.bytes)
 |none=>none
theorem Xj {P:Program} {t:TypeId} {z:Value} {sz by_:Nat} (h:Yq P t=some (z,sz,by_)):∃ i,P.info? t=some i∧i.zero=some z∧i.size=sz∧i.bytes=by_:=by
 unfold Yq at h
 split at h
 ·rename_i i hi
  obtain ⟨z',h1,h2⟩:=Option.map_eq_some_iff.1 h
  simp only [Prod.mk.injEq] at h2
  exact ⟨i,hi,by rw [h1,h2.1],h2.2.1,h2.2.2⟩
 ·simp at h
def ZY (mem:List (Option Ob)) (sz:Nat):AV→Option (Nat×(Nat→List AV))
 | .sl sz' n f=>if sz'=sz then some (n,f) else none
 | .own k=>match mem[k]? with
  |some (some ob)=>if ob.sz=sz then some (ob.n,ob.f) else none
  | _=>none
 | .sub k sz' lo n=>match mem[k]? with
  |some (some ob)=>if ob.sz=sz∧sz'=sz∧lo+n≤ob.n then some (n,fun i=>ob.f (lo+i)) else none
  | _=>none
 | .lit (.slice none 0 0)=>some (0,fun _=>[])
 | _=>none
def WM (mem:List (Option Ob)):AV→Option Nat
 | .sl _ n _=>some n
 | .own k=>match mem[k]? with
  |some (some ob)=>some ob.n
  | _=>none
 | .sub _ _ _ n=>some n
 | .lit (.slice _ n _)=>some n
 | .lit (.string s)=>some s.size
 | _=>none
def JM (mem:List (Option Ob)) (e:TypeId) (sz:Nat):AV→Option (List (Option Ob)×Nat×(Nat→List AV))
 | .own k=>match mem[k]? with
  |some (some ob)=>if ob.sz=sz∧ob.ty=e then some (mem.set k none,ob.n,ob.f) else none
  | _=>none
 | .lit (.slice none 0 0)=>some (mem,0,fun _=>[])
 | _=>none
def QH (mem:List (Option Ob)) (e:TypeId):AV→TypeId
 | .own k=>match mem[k]? with
  |some (some ob)=>if ob.ty=e+Wd then e+Wd else e
  | _=>e
 | _=>e
theorem Zj8 (mem:List (Option Ob)) (e:TypeId) (x:AV):QH mem e x=e∨QH mem e x=e+Wd:=by
 unfold QH
 split
 ·split
  ·split
   ·exact .inr rfl
   ·exact .inl rfl
  ·exact .inl rfl
 ·exact .inl rfl
def ZH (n:Nat) (f g:Nat→List AV) (i:Nat):List AV:=if i<n then f i else g (i-n)
def Wq (s:VS):List (Nat×Operand)→Nat→Option (List (List AV))
 |[],_=>some []
 | (i,x)::r,j=>if i=j then (Wq s r (j+1)).map (ZJ (ev s x)::·) else none
def Zec (P:Program) (x:Operand) (t:TypeId) (s:VS) (k:AV→VS→Prop):Prop:=
 match WM s.mem (ev s x),P.underlying t with
 |some n,some .string=>(∃ z,ev s x=.lit (.string z))∧k (.lit (.int .i64 n)) s
 |some n,some (.slice _)=>(∀ z,ev s x≠.lit (.string z))∧n≤9223372036854775807∧k (.lit (.int .i64 n)) s
 | _,_=>False
def ZjS (P:Program) (x y:Operand) (t t':TypeId) (s:VS) (k:AV→VS→Prop):Prop:=
 t=t'∧match P.underlying t with
 |some (.slice e)=>match Yq P e with
  |some (z,sz,by_)=>z.cells.size=sz∧0<sz∧match JM s.mem (QH s.mem e (ev s x)) sz (ev s x),ZY s.mem sz (ev s y) with
   |some (mem,n,f),some (m,g)=>ev s y≠ev s x∧(∀ i,i<m→(g i).all Xg=true)∧n+m≤9223372036854775807∧(n+m)*by_≤140737488355328∧k (.own s.mem.length) { s with mem:=mem++[some ⟨QH s.mem e (ev s x),sz,n+m,ZH n f g⟩] }
   | _,_=>False
  |none=>False
 | _=>False
def H8 (P:Program) (t:TypeId) (len:Nat) (parts:List (Nat×Operand)) (s:VS) (k:AV→VS→Prop):Prop:=
 match P.underlying t with
 |some (.slice e)=>match Yq P e,Wq s parts 0 with
  |some (z,sz,by_),some css=>z.cells.size=sz∧0<sz∧css.length=len∧len*sz≤16777216∧(∀ c∈css,c.length=sz∧c.all Xg=true)∧k (.own s.mem.length) { s with mem:=s.mem++[some ⟨e,sz,len,fun i=>css.getD i []⟩] }
  | _,_=>False
 | _=>False
def QO (P:Program) (t:TypeId) (s:VS) (k:AV→VS→Prop):Prop:=
 match Yq P t with
 |some (z,sz,_)=>0<sz∧z.cells.size=sz∧(z.cells.toList.all fun v=>v.oneCell')=true∧k (.ptr s.mem.length sz 0 0) { s with mem:=s.mem++[some ⟨t,sz,1,fun _=>z.cells.toList.map .lit⟩] }
 |none=>False
def UH (P:Program) (fs:Array Field) (s:VS):List (Nat×Operand)→List AV→Option (List AV)
 |[],cells=>some cells
 | (i,x)::r,cells=>match fs[i]? with
  |some fl=>match tsz P fl.type with
   |some m=>if (ZJ (ev s x)).length=m∧0<m∧fl.offset+m≤cells.length then UH P fs s r (Y5 cells fl.offset (ZJ (ev s x))) else none
   |none=>none
  |none=>none
def UA (P:Program) (fs:List Field):Bool:=fs.all fun fl=>(tsz P fl.type).isSome
def KZ (P:Program) (t:TypeId) (parts:List (Nat×Operand)) (s:VS) (k:AV→VS→Prop):Prop:=
 match P.underlying t with
 |some (.struct fs)=>match Yq P t with
  |some (z,_,_)=>UA P fs.toList=true∧match UH P fs s parts (z.cells.toList.map .lit) with
   |some cells=>k (.agg cells) s
   |none=>False
  |none=>False
 | _=>False
def Zjw (P:Program) (op:Op) (s:VS) (k:AV→VS→Prop):Prop:=
 match op with
 | .call c=>match c.callee,c.args.toList,c.argTypes.toList with
  | .builtin .len,[x],[t]=>Zec P x t s k
  | .builtin .append,[x,y],[t,t']=>ZjS P x y t t' s k
  | .builtin .min,_,_=>match Vw (c.args.toList.map (ev s)) with
   |some vs=>∃ v,(∀ ty w,(Builtin.min_ c.argTypes ty vs.toArray).run P w=.ok v w)∧k (.lit v) s
   |none=>False
  | .builtin .max,_,_=>match Vw (c.args.toList.map (ev s)) with
   |some vs=>∃ v,(∀ ty w,(Builtin.max_ c.argTypes ty vs.toArray).run P w=.ok v w)∧k (.lit v) s
   |none=>False
  | _,_,_=>False
 | .buildSlice t len parts=>H8 P t len parts.toList s k
 | .alloc t=>QO P t s k
 | .build t parts=>KZ P t parts.toList s k
 |op=>vop P op s k
section
variable {P:Program} {n:Nat} {base:Fr} {w0 w:World} {hd:Nat→Value} {s:VS} {a:Act} {k:AV→VS→Prop}
theorem G0 (h:RelH n base w0 hd s a w) {x:Operand} {j:Nat} (e:ev s x=.own j):a.eval x=hd j:=by
 have hx:=h.ev_ x
 rw [e] at hx
 generalize a.eval x=vx at hx
 cases hx;rfl
theorem Zay (h:RelH n base w0 hd s a w) {x:Operand} {sz m:Nat} {f:Nat→List AV} (hc:ZY s.mem sz (ev s x)=some (m,f)) :
  ∃ A c,∃ u:Nat→Nat→Value,a.eval x=.slice A m c∧m≤c∧(0<m→∃ ad,A=some ad∧∀ i j,i<m→j<sz→w.cell? (ad.add (i*sz+j))=some (u i j))∧
   ∀ i,i<m→(f i).length=sz∧∀ (j:Nat) av,(f i)[j]?=some av→Rep w (Zw s.mem hd) hd s.mem.length av (u i j)∧(Xg av=true→(u i j).oneCell'=true):=by
 have hx:=h.ev_ x
 have fromOwn:∀ (q lo m:Nat) (ob:Ob),s.mem[q]?=some (some ob)→ob.sz=sz→lo+m≤ob.n→
   ∃ u:Nat→Nat→Value,(0<m→∀ b n' c',hd q=.slice (some ⟨b,0,none⟩) n' c'→∀ i j,i<m→j<sz→w.cell? ⟨b,(lo+i)*sz+j,none⟩=some (u i j))∧
    ∀ i,i<m→(ob.f (lo+i)).length=sz∧∀ (j:Nat) av,(ob.f (lo+i))[j]?=some av→Rep w (Zw s.mem hd) hd s.mem.length av (u i j)∧(Xg av=true→(u i j).oneCell'=true):=by
  intro q lo m ob hob hsz hle
  subst hsz
  obtain ⟨hs,vals,ho,hr⟩:=h.me.obs q ob hob
  refine ⟨fun i j=>vals.getD ((lo+i)*ob.sz+j) undef,fun hp b n' c' hb i j hi hj=>?_,fun i hi=>⟨(hr _ (by omega)).1,fun j av hj=>?_⟩⟩
  ·have hn:n'=ob.n:=by
    rcases ho.2 with ⟨e,h0⟩|⟨g,cap,cur,e,_⟩
    ·rw [hb] at e;simp at e
    ·rw [hb] at e;simp at e;exact e.2.1
   rw [hb,hn] at ho
   have hin:(lo+i+1)*ob.sz≤ob.n*ob.sz:=Nat.mul_le_mul_right _ (by omega)
   rw [Nat.add_mul,Nat.one_mul] at hin
   have:=ho.cellAt ((lo+i)*ob.sz+j) (by omega)
   rw [this]
   simp only [List.getD_eq_getElem?_getD]
   rw [List.getElem?_eq_getElem (by rw [ho.1];omega)]
   rfl
  ·obtain ⟨u,hu,hu1,hrep⟩:=(hr (lo+i) (by omega)).2 j av hj
   simp only [List.getD_eq_getElem?_getD,hu,Option.getD_some]
   exact ⟨hrep,fun _=>hu1⟩
 have hds:=h.me.hds
 generalize hev:ev s x=ax at *
 cases ax with
 |sl sz' m' f'=>
  simp only [ZY] at hc
  split at hc
  ·rename_i hsz
   simp only [Option.some.injEq,Prod.mk.injEq] at hc
   obtain ⟨rfl,rfl⟩:=hc
   subst hsz
   cases hx':a.eval x with
   |slice A len cap=>
    rw [hx'] at hx
    cases hx with
    |sl _ _ _ _ _ u hcn hm hsz' hl ha hr=>
     refine ⟨A,cap,u,rfl,hcn,fun hp=>?_,fun i hi=>⟨hl i hi,fun j av hj=>⟨hr i j av hi hj,fun h1=>?_⟩⟩⟩
     ·obtain ⟨ad,e1,_,e2⟩:=ha hp
      exact ⟨ad,e1,e2⟩
     ·exact (hr i j av hi hj).one_ h1 hds
   | _=>rw [hx'] at hx;cases hx
  ·simp at hc
 |own q=>
  simp only [ZY] at hc
  split at hc
  ·rename_i ob hob
   split at hc
   ·rename_i hsz
    simp only [Option.some.injEq,Prod.mk.injEq] at hc
    obtain ⟨rfl,rfl⟩:=hc
    obtain ⟨u,g1,g2⟩:=fromOwn q 0 ob.n ob hob hsz (by omega)
    have hval:=G0 h hev
    obtain ⟨hs,vals,ho,hr⟩:=h.me.obs q ob hob
    rcases ho.2 with ⟨e,h0⟩|⟨g,cap,cur,e,_,hcc,_⟩
    ·exact ⟨none,0,u,by rw [hval,e,h0],by omega,fun hp=>by omega,fun i hi=>by omega⟩
    ·refine ⟨some ⟨g,0,none⟩,cap,u,by rw [hval,e],hcc,fun hp=>⟨_,rfl,fun i j hi hj=>?_⟩,fun i hi=>by have:=g2 i hi;rw [Nat.zero_add] at this;exact this⟩
     have:=g1 hp g ob.n cap e i j hi hj
     rw [Nat.zero_add] at this
     have e2:(⟨g,0,none⟩:Addr).add (i*sz+j)=⟨g,i*sz+j,none⟩:=by
      unfold Addr.add;split
      ·rename_i h3;rw [h3]
      ·simp
     rw [e2];exact this
   ·simp at hc
  ·simp at hc
 |sub q sz' lo m'=>
  simp only [ZY] at hc
  split at hc
  ·rename_i ob hob
   split at hc
   ·rename_i hsz
    simp only [Option.some.injEq,Prod.mk.injEq] at hc
    obtain ⟨rfl,rfl⟩:=hc
    obtain ⟨u,g1,g2⟩:=fromOwn q lo m' ob hob hsz.1 hsz.2.2
    cases hx':a.eval x with
    |slice A len cap=>
     rw [hx'] at hx
     cases hx with
     |sub _ _ _ _ _ _ hk hcn ha=>
      refine ⟨A,cap,u,rfl,hcn,fun hp=>?_,g2⟩
      obtain ⟨b,n',c',e1,e2,_⟩:=ha (by omega)
      obtain ⟨hs,vals,ho,hr⟩:=h.me.obs q ob hob
      refine ⟨_,e2,fun i j hi hj=>?_⟩
      obtain rfl:sz'=sz:=hsz.2.1
      have:=g1 hp b n' c' e1 i j hi hj
      have e3:(⟨b,lo*sz',none⟩:Addr).add (i*sz'+j)=⟨b,(lo+i)*sz'+j,none⟩:=by
       rw [Nat.add_mul]
       unfold Addr.add;split<;>first|(simp;done)|(simp;omega)
      rw [e3];exact this
    | _=>rw [hx'] at hx;cases hx
   ·simp at hc
  ·simp at hc
 |lit v=>
  unfold ZY at hc
  split at hc
  ·rename_i e;cases e
  ·rename_i e;cases e
  ·rename_i e;cases e
  ·rename_i e
   cases e
   simp only [Option.some.injEq,Prod.mk.injEq] at hc
   obtain ⟨rfl,rfl⟩:=hc
   exact ⟨none,0,fun _ _=>undef,(h.ev_ x).val_ (by rw [hev];rfl),by omega,fun hp=>by omega,fun i hi=>by omega⟩
  ·simp at hc
 | _=>simp [ZY] at hc
theorem Zcy (h:RelH n base w0 hd s a w) {x:Operand} {t:TypeId} {o:Oper} (ho:o.op=.call { callee:=.builtin .len,args:=#[x],argTypes:=#[t] })
  (hv:Zec P x t s k):Ends P n base w0 a ((execOp a.eval o).run P w) k:=by
 unfold Zec at hv
 have hrun:(execOp a.eval o).run P w=((do pure (Next.value (←Builtin.len_ #[t] o.type #[a.eval x])):Sem Next)).run P w:=by
  unfold execOp;simp only [ho];simp [resolve,invoke,builtin,Sem.run_bind]
 split at hv
 ·rename_i m hl ht
  obtain ⟨⟨z,hz⟩,hk⟩:=hv
  rw [hz] at hl
  simp only [WM,Option.some.injEq] at hl
  subst hl
  refine Ends.same h (.lit _) hk ?_
  rw [hrun]
  refine ZM ?_
  have:=(h.ev_ x).val_ (X9 hz)
  simp only [Builtin.len_,List.getElem?_toArray,List.getElem?_cons_zero,Sem.run_bind,Ya ht,Result.andThen_ok,this]
  rfl
 ·rename_i m e hl ht
  obtain ⟨hns,hm,hk⟩:=hv
  have key:∃ A c,a.eval x=.slice A m c:=by
   have hx:=h.ev_ x
   generalize hev:ev s x=ax at *
   cases ax with
   |sl sz m' f=>
    simp only [WM,Option.some.injEq] at hl;subst hl
    generalize a.eval x=v at hx
    cases hx;exact ⟨_,_,rfl⟩
   |own q=>
    simp only [WM] at hl
    split at hl
    ·rename_i ob hob
     simp only [Option.some.injEq] at hl;subst hl
     obtain ⟨hs,vals,ho2,_⟩:=h.me.obs q ob hob
     rw [G0 h hev]
     rcases ho2.2 with ⟨e,h0⟩|⟨g,cap,cur,e,_⟩
     ·exact ⟨none,0,by rw [e,h0]⟩
     ·exact ⟨_,_,e⟩
    ·simp at hl
   |sub q sz lo m'=>
    simp only [WM,Option.some.injEq] at hl;subst hl
    generalize a.eval x=v at hx
    cases hx;exact ⟨_,_,rfl⟩
   |lit v=>
    have e:=(h.ev_ x).val_ (u:=v) (by rw [hev];rfl)
    cases v with
    |slice A m' c=>simp only [WM,Option.some.injEq] at hl;subst hl;exact ⟨_,_,e⟩
    |string z=>exact absurd rfl (hns z)
    | _=>simp [WM] at hl
   | _=>simp [WM] at hl
  obtain ⟨A,c,hx'⟩:=key
  refine Ends.same h (.lit _) hk ?_
  rw [hrun]
  refine ZM ?_
  simp only [Builtin.len_,List.getElem?_toArray,List.getElem?_cons_zero,Sem.run_bind,Ya ht,Result.andThen_ok,hx']
  rfl
 ·exact hv.elim
theorem Zcq (h:RelH n base w0 hd s a w) {x:Operand} {e:TypeId} {sz:Nat} {mem:List (Option Ob)} {m:Nat} {f:Nat→List AV} (hsz:0<sz) (ho:JM s.mem e sz (ev s x)=some (mem,m,f)) :
  ∃ vals,Owns w e sz (a.eval x) m vals∧mem.length=s.mem.length∧(∀ k ob,mem[k]?=some (some ob)→s.mem[k]?=some (some ob)∧((hd k).ownBlock=none∨(hd k).ownBlock≠(a.eval x).ownBlock))∧
   (∀ b,Zw s.mem hd b→(a.eval x).ownBlock≠some b)∧(∀ b,(a.eval x).ownBlock=some b→base.may b)∧
   ∀ i,i<m→(f i).length=sz∧∀ (j:Nat) av,(f i)[j]?=some av→∃ u,vals[i*sz+j]?=some u∧u.oneCell'=true∧Rep w (Zw s.mem hd) hd s.mem.length av u:=by
 generalize hev:ev s x=ax at ho
 cases ax with
 |own q=>
  simp only [JM] at ho
  split at ho
  ·rename_i ob hob
   split at ho
   ·rename_i hc
    simp only [Option.some.injEq,Prod.mk.injEq] at ho
    obtain ⟨rfl,rfl,rfl⟩:=ho
    obtain ⟨rfl,rfl⟩:=hc
    obtain ⟨hs,vals,hown,hr⟩:=h.me.obs q ob hob
    rw [G0 h hev]
    refine ⟨vals,hown,by simp,fun k ob' hk=>?_,fun b hb=>hb.1 q ob hob,fun b hb=>h.me.alw q ob hob b hb,hr⟩
    by_cases e:q=k
    ·subst e;rw [List.getElem?_set_self (List.getElem?_eq_some_iff.1 hob).1] at hk;simp at hk
    ·rw [List.getElem?_set_ne e] at hk
     exact ⟨hk,h.me.apart k q ob' ob hk hob (fun e'=>e e'.symm)⟩
   ·simp at ho
  ·simp at ho
 |lit v=>
  unfold JM at ho
  split at ho
  ·rename_i e;cases e
  ·rename_i e
   cases e
   simp only [Option.some.injEq,Prod.mk.injEq] at ho
   obtain ⟨rfl,rfl,rfl⟩:=ho
   have e:=(h.ev_ x).val_ (u:=.slice none 0 0) (by rw [hev];rfl)
   rw [e]
   exact ⟨[],Owns.of_row (World.ownsRow_nil _ 0 _ _),rfl,fun k ob hk=>⟨hk,by
    cases hb:(hd k).ownBlock with
    |none=>exact .inl rfl
    |some b=>exact .inr (by simp [Value.ownBlock])⟩,fun b hb=>by simp [Value.ownBlock],fun b hb=>by simp [Value.ownBlock] at hb,fun i hi=>by omega⟩
  ·simp at ho
 | _=>simp [JM] at ho
end
end Go.Proofs.YtadghlfkddkelaaGreatDoor.V
namespace Go.Proofs.YtadghlfkddkelaaGreatDoor.V
open Go.RowKit
section
variable {P:Program} {n:Nat} {base:Fr} {w0 w:World} {hd:Nat→Value} {s:VS} {a:Act} {k:AV→VS→Prop}
theorem GK {t ty e:TypeId} {i:TypeInfo} (ht:P.underlying t=some (.slice e)) (hi:P.info? e=some i) {v:Value} {m:Nat} {sz:Nat} {xs:List Value} {ty2:TypeId} (hown:Owns w ty2 sz v m xs) (A:Option Addr) (c:Nat) :
  (Builtin.append_ #[t,t] ty #[v,.slice A 0 c]).run P w=.ok v w:=by
 have hsl:(Builtin.firstCells i.size 0 (.slice A 0 c)).run P w=.ok #[] w:=by
  cases A<;>simp [Builtin.firstCells,loadCells,loadCellsFrom]
 rcases hown.2 with ⟨rfl,rfl⟩|⟨g,cap,cur,rfl,_,hnc,_⟩
 ·simp [Builtin.append_,run_underlying ht,sizeOf,typeInfo,hi,Builtin.lenOf,hsl]
 ·simp [Builtin.append_,run_underlying ht,sizeOf,typeInfo,hi,Builtin.lenOf,hsl,hnc,storeCells]
theorem ZiK {f g:Nat→List AV} {N M sz:Nat} (h1:∀ i,i<N→(f i).length=sz) (h2:∀ i,i<M→(g i).length=sz):∀ i,i<N+M→(ZH N f g i).length=sz:=by
 intro i hi
 unfold ZH
 split
 ·rename_i h;exact h1 i h
 ·exact h2 _ (by omega)
theorem ZkP {sz i j:Nat} (hj:j<sz):(i*sz+j)/sz=i∧(i*sz+j)%sz=j:=by
 constructor
 ·rw [Nat.add_comm,Nat.add_mul_div_right _ _ (by omega),Nat.div_eq_of_lt hj];omega
 ·rw [Nat.add_comm,Nat.add_mul_mod_self_right,Nat.mod_eq_of_lt hj]
theorem Zkk {w:World} {e size m:Nat} {v:Value} {xs:List Value} (h:Owns w e size v m xs):∃ A c,v=.slice A m c:=by
 rcases h.2 with ⟨e,h0⟩|⟨g,cap,cur,e,_⟩
 ·exact ⟨none,0,by rw [e,h0]⟩
 ·exact ⟨_,_,e⟩
theorem JJ (w:World) (t ty e ty2:TypeId) (h2:ty2=e∨ty2=e+Wd) (i:TypeInfo) (z:Value) (size bytes:Nat) (ht:P.underlying t=some (.slice e)) (hi:P.info? e=some i) (hz:i.zero=some z)
  (hsize:i.size=size) (hby:i.bytes=bytes) (hzs:z.cells.size=size) (hsz:0<size)
  (v:Value) (n:Nat) (xs:List Value) (hown:Owns w ty2 size v n xs)
  (a:Addr) (m c:Nat) (news:List Value) (hl:news.length=m*size) (hnews:∀ j u,news[j]?=some u→w.cell? (a.add j)=some u) (h1:∀ u∈news,u.oneCell'=true)
  (h63:n+m≤maxLen) (hbytes:(n+m)*bytes≤140737488355328) :
  ∃ v' w',(Builtin.append_ #[t,t] ty #[v,.slice (some a) m c]).run P w=.ok v' w'∧Owns w' ty2 size v' (n+m) (xs++news)∧w.grownBy w' v.ownBlock∧
   (v'=.slice none 0 0↔v=.slice none 0 0∧m=0)∧(v'.ownBlock=v.ownBlock∨v'.ownBlock=some w.heap.size):=by
 have toOwn:∀ {w':World} {v':Value} {n':Nat} {ys:List Value},w'.ownsRow 0 e size v' n' ys→Owns w' ty2 size v' n' ys:=fun hr=>by
  rcases h2 with rfl|rfl
  ·exact Owns.of_row hr
  ·exact Owns.of_tag hr
 have hsmall:n+m≤9223372036854775807:=by simp only [maxLen] at h63;omega
 subst hsize
 subst hby
 have hlen:(xs++news).length=(n+m)*i.size:=by rw [List.length_append,hown.1,hl,Nat.add_mul]
 rcases id hown.2 with ⟨rfl,rfl⟩|⟨g,cap,cur,rfl,⟨t2,fz,hg,hM⟩,hnc,hcm,hcs,htake⟩
 ·have hx:xs=[]:=List.eq_nil_of_length_eq_zero (by simpa using hown.1)
  subst hx
  obtain ⟨v',w',g1,g2,g3,g4,g5⟩:=run_append_own_at (P:=P) w 0 t ty e i z i.size i.bytes ht hi hz rfl rfl hzs hsz (.slice none 0 0) 0 [] (World.ownsRow_nil w 0 e i.size) a m c news hl hnews h1 h63 hbytes (Nat.zero_le _)
  exact ⟨v',w',g1,toOwn g2,g3,g4,g5⟩
 ·by_cases hroom:n+m≤cap
  ·have hfit:n*i.size+news.length≤cur.size:=by rw [hl,hcs,←Nat.add_mul];exact Nat.mul_le_mul_right _ hroom
   have hf:=run_firstCells_some (P:=P) w i.size m a m c news hl hnews
   have hst:=Xk (P:=P) g (n*i.size) t2 fz news 0 cur w hg hM.free (by simpa using hfit) h1
   simp only [Nat.add_zero] at hst
   have hr:(Builtin.append_ #[t,t] ty #[.slice (some ⟨g,0,none⟩) n cap,.slice (some a) m c]).run P w=
     .ok (.slice (some ⟨g,0,none⟩) (n+m) cap) (w.setRow g (cur.toList.take (n*i.size)++news++cur.toList.drop (n*i.size+news.length)).toArray):=by
    simp [Builtin.append_,run_underlying ht,sizeOf,typeInfo,hi,Builtin.lenOf,hroom,hf,Addr.add_lit,hst]
   have hns:(cur.toList.take (n*i.size)++news++cur.toList.drop (n*i.size+news.length)).toArray.size=cur.size:=by
    simp only [List.size_toArray,List.length_append,List.length_take,List.length_drop,Array.length_toList]
    omega
   refine ⟨_,_,hr,⟨hlen,.inr ⟨g,cap,_,rfl,⟨t2,fz,setRow_heap w g cur _ t2 fz hg,by rw [hns];exact hM⟩,hroom,hcm,?_,?_⟩⟩,⟨rfl,rfl,rfl,by simp,fun k _ hk=>setRow_other w g k _ (fun e=>hk (by simp [Value.ownBlock,e]))⟩,by simp,Or.inl rfl⟩
   ·rw [hns];exact hcs
   ·rw [htake,←hlen]
    exact List.take_left
  ·have holds:∀ j u,xs[j]?=some u→w.cell? ((⟨g,0,none⟩:Addr).add j)=some u:=fun j u hu=>by
    have hj:j<n*i.size:=by rw [←hown.1];exact (List.getElem?_eq_some_iff.1 hu).1
    have hadd:(⟨g,0,none⟩:Addr).add j=⟨g,j,none⟩:=by unfold Addr.add;split<;>simp_all
    rw [hadd,hown.cellAt j hj];exact hu
   have hge:=grownCap_ge w (n+m) cap e
   have hcm2:grownCap w (n+m) cap e≤maxLen:=grownCap_le_maxLen w (n+m) cap e h63
   have hr:=run_append_grow (P:=P) w t ty e i z ht hi hz ⟨g,0,none⟩ n cap xs hown.1 holds a m c news hl hnews (by omega) (by omega) (growslice_fits (by omega) (by omega))
   refine ⟨_,_,hr,toOwn ⟨hlen,.inr ⟨w.heap.size,_,_,rfl,Nat.zero_le _,heap_alloc_new w.drew _,hge,hcm2,?_,?_⟩⟩,⟨rfl,rfl,rfl,by simp,fun k hk _=>heap_alloc_old w.drew _ hk⟩,by simp,Or.inr rfl⟩
   ·simp only [Array.size_append,List.size_toArray,size_zeroCells,hzs,hown.1,hl,←Nat.add_mul]
    congr 1
    omega
   ·simp only [Array.toList_append,List.append_assoc]
    rw [←List.append_assoc,←hlen]
    exact List.take_left
theorem H1 (h:RelH n base w0 hd s a w) {o:Oper} {e:TypeId} {sz:Nat} {row:Option Nat} {mem:List (Option Ob)} {N M:Nat} {f g:Nat→List AV} {u:Nat→Nat→Value} {vals:List Value} (hsz:0<sz)
  (hvl:vals.length=N*sz) (hml:mem.length=s.mem.length) (hlive:∀ k ob,mem[k]?=some (some ob)→s.mem[k]?=some (some ob)∧((hd k).ownBlock=none∨(hd k).ownBlock≠row))
  (hokx:∀ b,Zw s.mem hd b→row≠some b) (halw:∀ b,row=some b→base.may b)
  (hf:∀ i,i<N→(f i).length=sz∧∀ (j:Nat) av,(f i)[j]?=some av→∃ u,vals[i*sz+j]?=some u∧u.oneCell'=true∧Rep w (Zw s.mem hd) hd s.mem.length av u)
  (hg:∀ i,i<M→(g i).length=sz∧∀ (j:Nat) av,(g i)[j]?=some av→Rep w (Zw s.mem hd) hd s.mem.length av (u i j)∧(u i j).oneCell'=true)
  {v':Value} {w':World} {rv:Value} {rav:AV} (hrun:(execOp a.eval o).run P w=.ok (.value rv) w') (hmp:MapRel base.P base.may w' s.maps) (hrv:∀ (ok:Nat→Prop) (hd':Nat→Value) (m:Nat),hd' s.mem.length=v'→s.mem.length<m→Rep w' ok hd' m rav rv) (g2:Owns w' e sz v' (N+M) (vals++(List.range (M*sz)).map (fun p=>u (p/sz) (p%sz)))) (g3:w.grownBy w' row)
  (g5:v'.ownBlock=row∨v'.ownBlock=some w.heap.size) (hk:k rav { s with mem:=mem++[some ⟨e,sz,N+M,ZH N f g⟩] }):Ends P n base w0 a ((execOp a.eval o).run P w) k:=by
 have hvx:∀ q,row=some q→base.may q:=halw
 have hbel:Bel base.may w0 w':=h.below.grown g3 hvx
 have hlen:s.mem.length≤(mem++[some (⟨e,sz,N+M,ZH N f g⟩:Ob)]).length:=by simp [hml]
 have hhd:∀ q,q<s.mem.length→(fun j=>if j=s.mem.length then v' else hd j) q=hd q:=by
  intro q hq;simp only;rw [if_neg (by omega)]
 have old:∀ q oq,(mem++[some (⟨e,sz,N+M,ZH N f g⟩:Ob)])[q]?=some (some oq)→q≠s.mem.length→mem[q]?=some (some oq)∧q<s.mem.length:=by
  intro q oq hq hqn
  rw [List.getElem?_append] at hq
  split at hq
  ·exact ⟨hq,by omega⟩
  ·rw [List.getElem?_eq_none (by simp;omega)] at hq;simp at hq
 have hok:∀ ad v,Zw s.mem hd ad.block→w.cell? ad=some v→w'.cell? ad=some v∧Zw (mem++[some (⟨e,sz,N+M,ZH N f g⟩:Ob)]) (fun j=>if j=s.mem.length then v' else hd j) ad.block:=by
  intro ad v hoA hcA
  have hlt:=World.block_lt_of_cell? w _ hcA
  refine ⟨Wz (g3.block _ hlt (fun e2=>hokx _ hoA e2.symm)) hcA,fun q oq hq=>?_,hoA.2.eq (TailEq.of (s.mem.length+1) fun k hk=>if_neg (by omega))⟩
  simp only
  by_cases e1:q=s.mem.length
  ·rw [if_pos e1]
   rcases g5 with e2|e2
   ·rw [e2];exact hokx _ hoA
   ·rw [e2];simp;omega
  ·rw [if_neg e1]
   exact hoA.1 q oq (hlive q oq (old q oq hq e1).1).1
 refine ⟨rv,w',.inl hrun,fun j=>if j=s.mem.length then v' else hd j,_,rav,?_,?_,hk⟩
 ·refine ⟨h.defers,h.size,hbel,h.le,by have:=h.fixl;simp;omega,⟨fun q hq=>(if_neg (fun e=>by have:=h.fixl;have hq':q<s.fix:=hq;omega)).trans (h.fix.1 q hq),h.fix.2.1.trans (TailEq.of (s.mem.length+1) fun k hk=>if_neg (by omega)),h.fix.2.2⟩,hmp,fun q=>(h.tm q).mono hok hhd hlen,⟨fun q oq hq b hb=>?_,fun q oq hq=>?_,fun q hq=>?_,fun q q' oq oq' hq hq' hqq=>?_⟩⟩
  ·by_cases e1:q=s.mem.length
   ·rw [if_pos e1] at hb
    rcases g5 with e2|e2
    ·rw [e2] at hb;exact halw b hb
    ·rw [e2] at hb
     simp only [Option.some.injEq] at hb
     rw [←hb];exact h.le _ h.below.size
   ·rw [if_neg e1] at hb
    exact h.me.alw q oq (hlive q oq (old q oq hq e1).1).1 b hb
  ·simp only
   by_cases e1:q=s.mem.length
   ·rw [if_pos e1]
    subst e1
    rw [←hml,List.getElem?_append_right (Nat.le_refl _),Nat.sub_self] at hq
    simp only [List.getElem?_cons_zero,Option.some.injEq] at hq
    subst hq
    refine ⟨hsz,_,g2,fun i hi=>?_⟩
    simp only at hi
    refine ⟨ZiK (fun i hi=>(hf i hi).1) (fun i hi=>(hg i hi).1) i hi,fun j av hj=>?_⟩
    simp only [ZH] at hj
    split at hj
    ·rename_i hlt
     obtain ⟨v,q1,q2,q3⟩:=(hf i hlt).2 j av hj
     refine ⟨v,?_,q2,q3.mono hok hhd hlen⟩
     rw [List.getElem?_append_left (List.getElem?_eq_some_iff.1 q1).1];exact q1
    ·rename_i hge
     have hi':i-N<M:=by omega
     have hjl:j<sz:=by
      have:=(List.getElem?_eq_some_iff.1 hj).1
      rw [(hg _ hi').1] at this;exact this
     obtain ⟨q1,q2⟩:=(hg _ hi').2 j av hj
     refine ⟨u (i-N) j,?_,q2,q1.mono hok hhd hlen⟩
     have e3:i*sz+j=N*sz+((i-N)*sz+j):=by
      rw [←Nat.add_assoc,←Nat.add_mul,show N+(i-N)=i by omega]
     have hin:(i-N+1)*sz≤M*sz:=Nat.mul_le_mul_right _ (by omega)
     rw [Nat.add_mul,Nat.one_mul] at hin
     rw [e3,List.getElem?_append_right (by rw [hvl];omega),hvl,show N*sz+((i-N)*sz+j)-N*sz=(i-N)*sz+j by omega]
     rw [List.getElem?_map,List.getElem?_range (by omega)]
     simp only [Option.map_some,(ZkP (i:=i-N) hjl).1,(ZkP (i:=i-N) hjl).2]
   ·rw [if_neg e1]
    have hq0:=hlive q oq (old q oq hq e1).1
    obtain ⟨hs',vs',ho',hr'⟩:=h.me.obs q oq hq0.1
    refine ⟨hs',vs',ho'.kept g3 hq0.2,fun i hi=>⟨(hr' i hi).1,fun j av hj=>?_⟩⟩
    obtain ⟨v,q1,q2,q3⟩:=(hr' i hi).2 j av hj
    exact ⟨v,q1,q2,q3.mono hok hhd hlen⟩
  ·split
   ·obtain ⟨A',c',e2⟩:=Zkk g2
    exact ⟨A',_,c',e2⟩
   ·simp only [List.length_append,List.length_cons,List.length_nil] at hq
    exact h.me.hds q (by omega)
  ·have low:∀ p op,(mem++[some (⟨e,sz,N+M,ZH N f g⟩:Ob)])[p]?=some (some op)→p≠s.mem.length→(hd p).ownBlock=none∨(hd p).ownBlock≠v'.ownBlock:=by
    intro p op hp hpn
    have hp0:=hlive p op (old p op hp hpn).1
    rcases g5 with e2|e2
    ·rw [e2];exact hp0.2
    ·rw [e2]
     refine .inr fun e3=>?_
     obtain ⟨_,vs,hoo,_⟩:=h.me.obs p op hp0.1
     have:=(HA hoo e3).1
     omega
   by_cases e1:q=s.mem.length
   ·have e2:q'≠s.mem.length:=by omega
    rw [if_pos e1,if_neg e2]
    rcases low q' oq' hq' e2 with e3|e3
    ·rw [e3]
     cases v'.ownBlock<;>simp
    ·exact .inr (fun e4=>e3 e4.symm)
   ·rw [if_neg e1]
    by_cases e2:q'=s.mem.length
    ·rw [if_pos e2];exact low q oq hq e1
    ·rw [if_neg e2]
     exact h.me.apart q q' oq oq' (hlive q oq (old q oq hq e1).1).1 (hlive q' oq' (old q' oq' hq' e2).1).1 hqq
 ·exact hrv _ _ _ (if_pos rfl) (by simp [hml])
theorem ZfO (h:RelH n base w0 hd s a w) {o:Oper} {e:TypeId} {sz:Nat} {xv:Value} {mem:List (Option Ob)} {N M:Nat} {f g:Nat→List AV} {u:Nat→Nat→Value} {vals:List Value} (hsz:0<sz)
  (hown:Owns w e sz xv N vals) (hml:mem.length=s.mem.length) (hlive:∀ k ob,mem[k]?=some (some ob)→s.mem[k]?=some (some ob)∧((hd k).ownBlock=none∨(hd k).ownBlock≠xv.ownBlock))
  (hokx:∀ b,Zw s.mem hd b→xv.ownBlock≠some b) (halw:∀ b,xv.ownBlock=some b→base.may b)
  (hf:∀ i,i<N→(f i).length=sz∧∀ (j:Nat) av,(f i)[j]?=some av→∃ u,vals[i*sz+j]?=some u∧u.oneCell'=true∧Rep w (Zw s.mem hd) hd s.mem.length av u)
  (hg:∀ i,i<M→(g i).length=sz∧∀ (j:Nat) av,(g i)[j]?=some av→Rep w (Zw s.mem hd) hd s.mem.length av (u i j)∧(u i j).oneCell'=true)
  {v':Value} {w':World} (hrun:(execOp a.eval o).run P w=.ok (.value v') w') (g2:Owns w' e sz v' (N+M) (vals++(List.range (M*sz)).map (fun p=>u (p/sz) (p%sz)))) (g3:w.grownBy w' xv.ownBlock)
  (g5:v'.ownBlock=xv.ownBlock∨v'.ownBlock=some w.heap.size) (hk:k (.own s.mem.length) { s with mem:=mem++[some ⟨e,sz,N+M,ZH N f g⟩] }):Ends P n base w0 a ((execOp a.eval o).run P w) k:=by
 refine H1 h hsz hown.1 hml hlive hokx halw hf hg hrun (h.mp.grownRow hown g3) (fun ok hd' m e hm=>?_) g2 g3 g5 hk
 rw [←e];exact .own _ hm
theorem Zjj (h:RelH n base w0 hd s a w) {x y:Operand} {t t':TypeId} {o:Oper} (ho:o.op=.call { callee:=.builtin .append,args:=#[x,y],argTypes:=#[t,t'] })
  (hv:ZjS P x y t t' s k):Ends P n base w0 a ((execOp a.eval o).run P w) k:=by
 unfold ZjS at hv
 obtain ⟨rfl,hv⟩:=hv
 have hrun:(execOp a.eval o).run P w=((do pure (Next.value (←Builtin.append_ #[t,t] o.type #[a.eval x,a.eval y])):Sem Next)).run P w:=by
  unfold execOp;simp only [ho];simp [resolve,invoke,builtin,Sem.run_bind]
 split at hv
 ·rename_i e ht
  split at hv
  ·rename_i z sz by_ hinfo
   obtain ⟨hz,hsz,hv⟩:=hv
   obtain ⟨ti,hi1,hi2,hi3,hi4⟩:=Xj hinfo
   split at hv
   ·rename_i mem N f M g hox hcy
    obtain ⟨hne,hone,hmax,hby,hk⟩:=hv
    obtain ⟨vals,hown,hml,hlive,hokx,halw,hf⟩:=Zcq h hsz hox
    obtain ⟨A,c,u,hy,hmc,hcell,hg0⟩:=Zay h hcy
    have hg:∀ i,i<M→(g i).length=sz∧∀ (j:Nat) av,(g i)[j]?=some av→Rep w (Zw s.mem hd) hd s.mem.length av (u i j)∧(u i j).oneCell'=true:=fun i hi=>⟨(hg0 i hi).1,fun j av hj=>⟨((hg0 i hi).2 j av hj).1,((hg0 i hi).2 j av hj).2 (List.all_eq_true.1 (hone i hi) av (List.mem_of_getElem? hj))⟩⟩
    have news:∃ v' w',(Builtin.append_ #[t,t] o.type #[a.eval x,a.eval y]).run P w=.ok v' w'∧Owns w' (QH s.mem e (ev s x)) sz v' (N+M) (vals++(List.range (M*sz)).map (fun p=>u (p/sz) (p%sz)))∧
      w.grownBy w' (a.eval x).ownBlock∧(v'.ownBlock=(a.eval x).ownBlock∨v'.ownBlock=some w.heap.size):=by
     rcases Nat.eq_zero_or_pos M with h0|h0
     ·subst h0
      refine ⟨a.eval x,w,by rw [hy];exact GK ht hi1 hown A c,by simpa using hown,⟨rfl,rfl,rfl,Nat.le_refl _,fun _ _ _=>rfl⟩,.inl rfl⟩
     ·obtain ⟨ad,hA,hcs⟩:=hcell h0
      subst hA
      obtain ⟨v',w',g1,g2,g3,_,g5⟩:=JJ (P:=P) w t o.type e (QH s.mem e (ev s x)) (Zj8 _ _ _) ti z sz by_ ht hi1 hi2 hi3 hi4 hz hsz (a.eval x) N vals hown ad M c ((List.range (M*sz)).map (fun p=>u (p/sz) (p%sz))) (by simp)
       (fun j v hj=>by
        simp only [List.getElem?_map,Option.map_eq_some_iff] at hj
        obtain ⟨p,hp,rfl⟩:=hj
        have hjl:j<M*sz:=by
         have:=(List.getElem?_eq_some_iff.1 hp).1
         simpa using this
        rw [List.getElem?_range hjl] at hp
        simp only [Option.some.injEq] at hp
        subst hp
        have:=hcs (j/sz) (j%sz) (by rw [Nat.div_lt_iff_lt_mul hsz];exact hjl) (Nat.mod_lt _ hsz)
        rw [show j/sz*sz+j%sz=j by rw [Nat.mul_comm];exact Nat.div_add_mod j sz] at this
        exact this)
       (fun v hv'=>by
        simp only [List.mem_map,List.mem_range] at hv'
        obtain ⟨p,hp,rfl⟩:=hv'
        have hi':p/sz<M:=by rw [Nat.div_lt_iff_lt_mul hsz];exact hp
        have hgl:=(hg _ hi').1
        exact ((hg _ hi').2 (p%sz) _ (List.getElem?_eq_getElem (by rw [hgl];exact Nat.mod_lt _ hsz))).2)
       (by simp only [maxLen];omega) hby
      exact ⟨v',w',by rw [hy];exact g1,g2,g3,g5⟩
    obtain ⟨v',w',g1,g2,g3,g5⟩:=news
    exact ZfO h hsz hown hml hlive hokx halw hf hg (by rw [hrun];exact ZM g1) g2 g3 g5 hk
   ·exact hv.elim
  ·exact hv.elim
 ·exact hv.elim
theorem Jj:∀ (l:List (Value×Nat)) (off:Nat) (vs:List Value) (q:Nat) (cells:Array Value),l=vs.zipIdx q→off+q+vs.length≤cells.size→
  (l.foldl (fun (cs:Array Value) x=>cs.setIfInBounds (off+x.2) x.1) cells).toList=cells.toList.take (off+q)++vs++cells.toList.drop (off+q+vs.length)
 |[],off,[],q,cells,_,_=>by simp
 | _,off,v::vs,q,cells,rfl,hl=>by
  simp only [List.length_cons] at hl
  simp only [List.zipIdx_cons,List.foldl_cons]
  rw [Jj (vs.zipIdx (q+1)) off vs (q+1) (cells.setIfInBounds (off+q) v) rfl (by simp;omega)]
  have e:=list_seg_step cells.toList (off+q) v vs (by simp;omega)
  simpa [Array.toList_setIfInBounds,Nat.add_assoc,Nat.add_comm,Nat.add_left_comm] using e
theorem Jk (sz:Nat):∀ (vs:List Value) (j:Nat) (cells:Array Value),(∀ v∈vs,v.cells.size=sz)→(j+vs.length)*sz≤cells.size→
  ∃ cells',Instr.fill (fun i=>some (i*sz,sz)) cells ((vs.zipIdx j).map fun x=>(x.2,x.1))=some cells'∧cells'.toList=cells.toList.take (j*sz)++vs.flatMap (fun v=>v.cells.toList)++cells.toList.drop ((j+vs.length)*sz)
 |[],j,cells,_,_=>⟨cells,by simp [Instr.fill],by simp⟩
 |v::vs,j,cells,h1,h2=>by
  have hv:=h1 v (by simp)
  simp only [List.length_cons] at h2
  have e2:(j+(vs.length+1))*sz=j*sz+sz+vs.length*sz:=by
   rw [←Nat.add_assoc,Nat.add_mul,Nat.add_mul,Nat.one_mul];omega
  have hfold:=Jj v.cells.zipIdx.toList (j*sz) v.cells.toList 0 cells (by simp [Array.toList_zipIdx]) (by simp [hv];omega)
  have hsize:(v.cells.zipIdx.foldl (fun (cs:Array Value) (c,q)=>cs.setIfInBounds (j*sz+q) c) cells).toList=cells.toList.take (j*sz)++v.cells.toList++cells.toList.drop (j*sz+sz):=by
   rw [←Array.foldl_toList]
   simpa [hv] using hfold
  generalize hc1:v.cells.zipIdx.foldl (fun (cs:Array Value) (c,q)=>cs.setIfInBounds (j*sz+q) c) cells=c1 at hsize
  have hl1:c1.size=cells.size:=by
   rw [←Array.length_toList,hsize];simp [hv];omega
  obtain ⟨cells',g1,g2⟩:=Jk sz vs (j+1) c1 (fun u hu=>h1 u (by simp [hu])) (by rw [hl1,show j+1+vs.length=j+(vs.length+1) by omega];exact h2)
  refine ⟨cells',?_,?_⟩
  ·simp only [List.zipIdx_cons,List.map_cons,Instr.fill]
   rw [if_neg (by simp [hv];omega)]
   rw [show (v.cells.zipIdx.foldl (fun cs (x:Value×Nat)=>match x with|(c,j_1)=>cs.setIfInBounds (j*sz+j_1) c) cells)=c1 from hc1]
   exact g1
  ·rw [g2,hsize]
   have e3:(j+1)*sz=j*sz+sz:=by rw [Nat.add_mul,Nat.one_mul]
   have e4:(j+1+vs.length)*sz=j*sz+sz+vs.length*sz:=by rw [Nat.add_mul,e3]
   simp only [List.length_cons,List.flatMap_cons]
   rw [e3,e4,e2]
   have hlen1:(cells.toList.take (j*sz)++v.cells.toList).length=j*sz+sz:=by simp [hv];omega
   rw [List.take_left' hlen1,←List.drop_drop,List.drop_left' hlen1,List.drop_drop]
   simp [List.append_assoc]
theorem Zba {sz:Nat}:∀ (vs:List Value),(∀ v∈vs,v.cells.size=sz)→∀ (i j:Nat),j<sz→∀ v,vs[i]?=some v→(vs.flatMap (fun v=>v.cells.toList))[i*sz+j]?=v.cells[j]?
 |[],_,i,j,_,v,hv=>by simp at hv
 |u::vs,h1,i,j,hj,v,hv=>by
  have hu:=h1 u (by simp)
  simp only [List.flatMap_cons]
  cases i with
  |zero=>
   simp only [List.getElem?_cons_zero,Option.some.injEq] at hv
   subst hv
   rw [List.getElem?_append_left (by simp [hu];omega)]
   simp
  |succ i=>
   simp only [List.getElem?_cons_succ] at hv
   rw [List.getElem?_append_right (by simp [hu,Nat.add_mul];omega)]
   have:=Zba vs (fun x hx=>h1 x (by simp [hx])) i j hj v hv
   rw [←this]
   congr 1
   simp [hu,Nat.add_mul];omega
theorem Un (h:RelH n base w0 hd s a w) {sz:Nat} (hsz:0<sz):∀ (ps:List (Nat×Operand)) (j:Nat) (css:List (List AV)),Wq s ps j=some css→(∀ c∈css,c.length=sz∧c.all Xg=true)→
  ∃ vs:List Value,ps.map (fun x=>(x.1,a.eval x.2))=(vs.zipIdx j).map (fun x=>(x.2,x.1))∧vs.length=css.length∧(∀ v∈vs,v.cells.size=sz)∧
   ∀ (i:Nat) c v,css[i]?=some c→vs[i]?=some v→∀ (q:Nat) av,c[q]?=some av→∃ u,v.cells[q]?=some u∧u.oneCell'=true∧Rep w (Zw s.mem hd) hd s.mem.length av u
 |[],j,css,hp,_=>by
  simp only [Wq,Option.some.injEq] at hp
  subst hp
  exact ⟨[],rfl,rfl,fun v hv=>by simp at hv,fun i c v hc=>by simp at hc⟩
 | (i,x)::ps,j,css,hp,hc=>by
  simp only [Wq] at hp
  split at hp
  ·rename_i e
   subst e
   obtain ⟨r,hr,rfl⟩:=Option.map_eq_some_iff.1 hp
   obtain ⟨vs,g1,g2,g3,g4⟩:=Un h hsz ps (i+1) r hr (fun c hc'=>hc c (by simp [hc']))
   have hx:=h.ev_ x
   have hcx:=hc (ZJ (ev s x)) (by simp)
   obtain ⟨q1,q2⟩:=hx.cells_ (.inl (by intro e;rw [e] at hcx;simp at hcx;omega)) h.me.hds
   refine ⟨a.eval x::vs,by simp [List.zipIdx_cons,g1],by simp [g2],fun v hv=>?_,fun p c v hpc hpv=>?_⟩
   ·simp only [List.mem_cons] at hv
    rcases hv with rfl|hv
    ·rw [q1,hcx.1]
    ·exact g3 v hv
   ·cases p with
    |zero=>
     simp only [List.getElem?_cons_zero,Option.some.injEq] at hpc hpv
     subst hpc;subst hpv
     intro q av hq
     obtain ⟨u,r1,r2⟩:=q2 q av hq
     exact ⟨u,r1,r2.one_ (List.all_eq_true.1 hcx.2 av (List.mem_of_getElem? hq)) h.me.hds,r2⟩
    |succ p=>exact g4 p c v (by simpa using hpc) (by simpa using hpv)
  ·simp at hp
theorem ZgE (h:RelH n base w0 hd s a w) {t:TypeId} {len:Nat} {parts:Array (Nat×Operand)} {o:Oper} (ho:o.op=.buildSlice t len parts)
  (hv:H8 P t len parts.toList s k):Ends P n base w0 a ((execOp a.eval o).run P w) k:=by
 unfold H8 at hv
 split at hv
 ·rename_i e ht
  split at hv
  ·rename_i z sz by_ css hinfo hps
   obtain ⟨hz,hsz,hlen,hbig,hall,hk⟩:=hv
   obtain ⟨ti,hi1,hi2,hi3,hi4⟩:=Xj hinfo
   obtain ⟨vs,g1,g2,g3,g4⟩:=Un h hsz parts.toList 0 css hps hall
   have hvl:vs.length=len:=by rw [g2,hlen]
   have hmk:∀ zero:Array Value,((Array.range (len*sz)).map (zero[·%zero.size]!)).size=len*sz:=by intro zero;simp
   obtain ⟨zero,hzero⟩:∃ zero:Array Value,zero=if len*sz=0 then #[] else z.cells:=⟨_,rfl⟩
   obtain ⟨cells,f1,f2⟩:=Jk sz vs 0 ((Array.range (len*sz)).map (zero[·%zero.size]!)) g3 (by rw [hmk,hvl,Nat.zero_add];exact Nat.le_refl _)
   have hcells:cells.toList=vs.flatMap (fun v=>v.cells.toList):=by
    rw [f2,hvl,Nat.zero_add]
    have:(((Array.range (len*sz)).map (zero[·%zero.size]!)).toList.drop (len*sz))=[]:=by
     rw [List.drop_eq_nil_iff];simp
    rw [this];simp
   have hclen:cells.toList.length=len*sz:=by
    rw [f2,hvl,Nat.zero_add]
    simp
    have:=congrArg List.length f2
    rw [hvl,Nat.zero_add] at this
    simp at this
    clear this
    have key:∀ (l:List Value),(∀ v∈l,v.cells.size=sz)→(l.map (fun v=>v.cells.size)).sum=l.length*sz:=by
     intro l
     induction l with
     |nil=>intro _;simp
     |cons x l ih=>
      intro hh
      simp only [List.map_cons,List.sum_cons,List.length_cons]
      rw [ih (fun v hv=>hh v (by simp [hv])),hh x (by simp),Nat.add_mul];omega
    rw [←hvl]
    have:=key vs g3
    simpa [Function.comp_def] using this
   have hnew:=h.new (T:=e) (sz:=sz) (cnt:=len) (vals:=cells.toList) (f:=fun i=>css.getD i []) hsz hclen (by
    have:len≤len*sz:=Nat.le_mul_of_pos_right _ hsz
    omega) (fun i hi=>by
    have hic:i<css.length:=by omega
    have hiv:i<vs.length:=by omega
    simp only [List.getD_eq_getElem?_getD,List.getElem?_eq_getElem hic,Option.getD_some]
    have hc:=hall _ (List.getElem_mem hic)
    refine ⟨hc.1,fun j av hj=>?_⟩
    have hjl:j<sz:=by
     have:=(List.getElem?_eq_some_iff.1 hj).1
     rw [hc.1] at this;exact this
    obtain ⟨u,r1,r2,r3⟩:=g4 i _ _ (List.getElem?_eq_getElem hic) (List.getElem?_eq_getElem hiv) j av hj
    exact ⟨u,by rw [hcells,Zba vs g3 i j hjl _ (List.getElem?_eq_getElem hiv)];exact r1,r2,r3⟩)
   refine ⟨.slice (some ⟨w.heap.size,0,none⟩) len len,_,.inl ?_,_,_,_,hnew,?_,hk⟩
   ·unfold execOp;simp only [ho]
    refine ZM ?_
    have hp:(parts.map fun x=>(x.1,a.eval x.2)).toList=(vs.zipIdx 0).map (fun x=>(x.2,x.1)):=by rw [Array.toList_map];exact g1
    unfold Instr.buildSlice
    simp only [Sem.run_bind,Ya ht,Result.andThen_ok,XB (show tsz P e=some sz by unfold tsz;rw [Hr,hi1];simp [hi3])]
    rw [if_neg (by omega)]
    rw [show cells.toList.toArray=cells by simp]
    by_cases h0:len*sz=0
    ·rw [if_pos h0] at hzero ⊢
     subst hzero
     simp only [Sem.run_bind,Sem.run_pure,Result.andThen_ok]
     rw [hp,f1]
     rfl
    ·rw [if_neg h0] at hzero ⊢
     subst hzero
     have hzv:(zeroValue e).run P w=.ok z w:=by simp [zeroValue,typeInfo,Sem.run_bind,hi1,hi2]
     simp only [Sem.run_bind,hzv,Sem.run_pure,Result.andThen_ok]
     rw [hp,f1]
     rfl
   ·have:=Rep.own (w:=w.alloc (.cells cells.toList.toArray e)) (ok:=Zw (s.mem++[some ⟨e,sz,len,fun i=>css.getD i []⟩]) (fun j=>if j=s.mem.length then .slice (some ⟨w.heap.size,0,none⟩) len len else hd j)) (hd:=fun j=>if j=s.mem.length then .slice (some ⟨w.heap.size,0,none⟩) len len else hd j) (m:=(s.mem++[some (⟨e,sz,len,fun i=>css.getD i []⟩:Ob)]).length) s.mem.length (by simp)
    simpa using this
  ·exact hv.elim
 ·exact hv.elim
theorem ZfR (h:RelH n base w0 hd s a w) {t:TypeId} {o:Oper} (ho:o.op=.alloc t) (hv:QO P t s k):Ends P n base w0 a ((execOp a.eval o).run P w) k:=by
 unfold QO at hv
 split at hv
 ·rename_i z sz by_ hinfo
  obtain ⟨h0,hz,h1,hk⟩:=hv
  obtain ⟨ti,hi1,hi2,hi3,hi4⟩:=Xj hinfo
  have hnew:=h.new (T:=t) (sz:=sz) (cnt:=1) (vals:=z.cells.toList) (f:=fun _=>z.cells.toList.map .lit) h0 (by simp [hz]) (by omega) (fun i hi=>⟨by simp [hz],fun j av hj=>by
   have hi0:i=0:=by omega
   subst hi0
   simp only [List.getElem?_map,Option.map_eq_some_iff] at hj
   obtain ⟨u,q1,rfl⟩:=hj
   exact ⟨u,by simpa using q1,List.all_eq_true.1 h1 u (List.mem_of_getElem? q1),.lit u⟩⟩)
  refine ⟨.pointer (some ⟨w.heap.size,0,none⟩),_,.inl ?_,_,_,_,hnew,?_,hk⟩
  ·unfold execOp;simp only [ho]
   refine ZM ?_
   have hzv:(zeroValue t).run P w=.ok z w:=by simp [zeroValue,typeInfo,Sem.run_bind,hi1,hi2]
   unfold Instr.alloc
   rw [Sem.run_bind,hzv]
   rw [show z.cells.toList.toArray=z.cells by simp]
   rfl
  ·have:=Rep.ptr (w:=w.alloc (.cells z.cells.toList.toArray t)) (ok:=Zw (s.mem++[some ⟨t,sz,1,fun _=>z.cells.toList.map .lit⟩]) (fun j=>if j=s.mem.length then .slice (some ⟨w.heap.size,0,none⟩) 1 1 else hd j)) (hd:=fun j=>if j=s.mem.length then .slice (some ⟨w.heap.size,0,none⟩) 1 1 else hd j) (m:=(s.mem++[some (⟨t,sz,1,fun _=>z.cells.toList.map .lit⟩:Ob)]).length) s.mem.length sz 0 0 w.heap.size 1 1 (by simp) (by simp)
   simpa using this
 ·exact hv.elim
def Zjm (w:World) (ok:Nat→Prop) (hd:Nat→Value) (m:Nat) (cs:List AV) (vs:List Value):Prop:=cs.length=vs.length∧∀ (j:Nat) c u,cs[j]?=some c→vs[j]?=some u→Rep w ok hd m c u
theorem ZeC {w:World} {ok:Nat→Prop} {hd:Nat→Value} {m:Nat} {cs ds:List AV} {vs us:List Value} {off:Nat} (h:Zjm w ok hd m cs vs) (h2:Zjm w ok hd m ds us) (hl:off+ds.length≤cs.length) :
  Zjm w ok hd m (Y5 cs off ds) (vs.take off++us++vs.drop (off+us.length)):=by
 obtain ⟨h1,h3⟩:=h
 obtain ⟨h4,h5⟩:=h2
 refine ⟨by rw [UW _ _ _ hl];simp;omega,fun j c u hc hu=>?_⟩
 rw [Zaz hl] at hc
 split at hc
 ·rename_i hj
  rw [List.getElem?_append_left (by simp;omega),List.getElem?_append_right (by simp;omega)] at hu
  simp only [List.length_take] at hu
  rw [Nat.min_eq_left (by omega)] at hu
  exact h5 _ c u hc hu
 ·rename_i hj
  by_cases hlt:j<off
  ·rw [List.append_assoc,List.getElem?_append_left (by simp;omega),List.getElem?_take,if_pos hlt] at hu
   exact h3 j c u hc hu
  ·rw [List.getElem?_append_right (by simp;omega),List.getElem?_drop] at hu
   have:off+us.length+(j-(vs.take off++us).length)=j:=by simp;omega
   rw [this] at hu
   exact h3 j c u hc hu
theorem Jn (h:RelH n base w0 hd s a w) {fs:Array Field} {places:Nat→Option (Nat×Nat)} (hp:∀ (i:Nat) fl m,fs[i]?=some fl→tsz P fl.type=some m→places i=some (fl.offset,m)) :
  ∀ (ps:List (Nat×Operand)) (cells res:List AV) (vals:Array Value),UH P fs s ps cells=some res→Zjm w (Zw s.mem hd) hd s.mem.length cells vals.toList→
   ∃ out,Instr.fill places vals (ps.map fun x=>(x.1,a.eval x.2))=some out∧Zjm w (Zw s.mem hd) hd s.mem.length res out.toList
 |[],cells,res,vals,hb,hr=>by
  simp only [UH,Option.some.injEq] at hb
  subst hb
  exact ⟨vals,rfl,hr⟩
 | (i,x)::ps,cells,res,vals,hb,hr=>by
  simp only [UH] at hb
  split at hb
  ·rename_i fl hfl
   split at hb
   ·rename_i m hm
    split at hb
    ·rename_i hc
     obtain ⟨c1,c2,c3⟩:=hc
     have hx:=h.ev_ x
     obtain ⟨q1,q2⟩:=hx.cells_ (.inl (by intro e;rw [e] at c1;simp at c1;omega)) h.me.hds
     have hL:Zjm w (Zw s.mem hd) hd s.mem.length (ZJ (ev s x)) (a.eval x).cells.toList:=⟨by simp [q1],fun j c u h1 h2=>by
      obtain ⟨u',h3,h4⟩:=q2 j c h1
      have:u'=u:=by
       have h5:(a.eval x).cells.toList[j]?=some u':=by simpa using h3
       rw [h2] at h5;exact (Option.some.inj h5).symm
      rw [←this];exact h4⟩
     have hsp:=ZeC hr hL (off:=fl.offset) (by omega)
     have hvl:=hr.1
     have hfold:=Jj (a.eval x).cells.zipIdx.toList fl.offset (a.eval x).cells.toList 0 vals (by simp [Array.toList_zipIdx]) (by
      have:vals.size=vals.toList.length:=by simp
      simp [q1];omega)
     have hset:((a.eval x).cells.zipIdx.foldl (fun (cs:Array Value) (c,q)=>cs.setIfInBounds (fl.offset+q) c) vals).toList=vals.toList.take fl.offset++(a.eval x).cells.toList++vals.toList.drop (fl.offset+(a.eval x).cells.toList.length):=by
      rw [←Array.foldl_toList]
      simpa using hfold
     generalize hc1:(a.eval x).cells.zipIdx.foldl (fun (cs:Array Value) (c,q)=>cs.setIfInBounds (fl.offset+q) c) vals=v1 at hset
     obtain ⟨out,g1,g2⟩:=Jn h hp ps _ res v1 hb (by rw [hset];exact hsp)
     refine ⟨out,?_,g2⟩
     simp only [List.map_cons,Instr.fill,hp i fl m hfl hm]
     rw [if_neg (by
      have:vals.size=vals.toList.length:=by simp
      simp [q1];omega)]
     rw [show ((a.eval x).cells.zipIdx.foldl (fun cs (x:Value×Nat)=>match x with|(c,j)=>cs.setIfInBounds (fl.offset+j) c) vals)=v1 from hc1]
     exact g1
    ·simp at hb
   ·simp at hb
  ·simp at hb
theorem Gp {fs:List Field} (hok:UA P fs=true) (w:World):(fs.mapM (m:=Sem) fun f=>do pure (f.offset,←sizeOf f.type)).run P w=.ok (fs.map fun f=>(f.offset,(tsz P f.type).getD 0)) w:=by
 induction fs with
 |nil=>rfl
 |cons f fs ih=>
  simp only [UA,List.all_cons,Bool.and_eq_true] at hok
  obtain ⟨m,hm⟩:=Option.isSome_iff_exists.1 hok.1
  simp only [List.mapM_cons,Sem.run_bind,XB hm,Result.andThen_ok,Sem.run_pure,ih (by simpa [UA] using hok.2),List.map_cons,hm,Option.getD_some]
theorem build_sound (h:RelH n base w0 hd s a w) {t:TypeId} {parts:Array (Nat×Operand)} {o:Oper} (ho:o.op=.build t parts) (hv:KZ P t parts.toList s k):Ends P n base w0 a ((execOp a.eval o).run P w) k:=by
 unfold KZ at hv
 split at hv
 ·rename_i fs ht
  split at hv
  ·rename_i z sz by_ hinfo
   obtain ⟨hok,hv⟩:=hv
   obtain ⟨ti,hi1,hi2,hi3,hi4⟩:=Xj hinfo
   split at hv
   ·rename_i cells hb
    obtain ⟨out,g1,g2⟩:=Jn h (places:=fun i=>(fs.toList.map fun f=>(f.offset,(tsz P f.type).getD 0)).toArray[i]?) (fun i fl m hfl hm=>by
     have:fs.toList[i]?=some fl:=by simpa using hfl
     simp [hfl,hm]) parts.toList _ cells z.cells hb ⟨by simp,fun j c u h1 h2=>by
      simp only [List.getElem?_map,Option.map_eq_some_iff] at h1
      obtain ⟨u',h3,rfl⟩:=h1
      rw [h2] at h3
      simp only [Option.some.injEq] at h3
      subst h3;exact .lit _⟩
    have hagg:Rep w (Zw s.mem hd) hd s.mem.length (.agg cells) (.agg out):=by
     have:=Rep.agg (w:=w) (ok:=Zw s.mem hd) (hd:=hd) (m:=s.mem.length) cells out.toList g2.1 g2.2
     simpa using this
    refine Ends.same h hagg hv ?_
    unfold execOp;simp only [ho]
    refine ZM ?_
    have hzv:(zeroValue t).run P w=.ok z w:=by simp [zeroValue,typeInfo,Sem.run_bind,hi1,hi2]
    have hpl:(fs.mapM (m:=Sem) fun f=>do pure (f.offset,←sizeOf f.type)).run P w=.ok (fs.toList.map fun f=>(f.offset,(tsz P f.type).getD 0)).toArray w:=by
     rw [Array.mapM_eq_mapM_toList,Sem.run_map,Gp hok];rfl
    unfold Instr.build
    simp only [Sem.run_bind,hzv,Ya ht,Result.andThen_ok]
    rw [hpl]
    simp only [Result.andThen_ok]
    have hp:(parts.map fun x=>(x.1,a.eval x.2)).toList=parts.toList.map (fun x=>(x.1,a.eval x.2)):=Array.toList_map
    rw [hp,g1]
    rfl
   ·exact hv.elim
  ·exact hv.elim
 ·exact hv.elim
theorem Za0 (h:RelH n base w0 hd s a w):∀ {xs:List Operand} {vs:List Value},Vw (xs.map (ev s))=some vs→xs.map a.eval=vs
 |[],vs,hl=>by simpa [Vw] using hl
 |x::xs,vs,hl=>by
  simp only [List.map_cons] at hl ⊢
  cases hx:ev s x with
  |lit v=>
   rw [hx] at hl
   simp only [Vw,Option.map_eq_some_iff] at hl
   obtain ⟨r,hr,rfl⟩:=hl
   rw [Za0 h hr,(h.ev_ x).val_ (X9 hx)]
  | _=>rw [hx] at hl;simp [Vw] at hl
theorem Zaj (h:RelH n base w0 hd s a w) (o:Oper) (hv:Zjw P o.op s k):Ends P n base w0 a ((execOp a.eval o).run P w) k:=by
 unfold Zjw at hv
 split at hv
 ·rename_i c hc
  obtain ⟨cal,args,tys⟩:=c
  simp only at hv
  split at hv
  ·rename_i x t h1 h2
   refine Zcy h (x:=x) (t:=t) ?_ hv
   rw [hc]
   congr 2
   ·exact Array.toList_inj.1 h1
   ·exact Array.toList_inj.1 h2
  ·rename_i x y t t' h1 h2
   refine Zjj h (x:=x) (y:=y) (t:=t) (t':=t') ?_ hv
   rw [hc]
   congr 2
   ·exact Array.toList_inj.1 h1
   ·exact Array.toList_inj.1 h2
  ·split at hv
   ·rename_i vs hl
    obtain ⟨v,hrun,hk⟩:=hv
    refine Ends.same h (.lit v) hk ?_
    unfold execOp;simp only [hc]
    have e:args.map a.eval=vs.toArray:=by rw [←Za0 h hl];apply Array.ext';simp
    simp [resolve,invoke,builtin,Sem.run_bind,e,hrun]
   ·exact hv.elim
  ·split at hv
   ·rename_i vs hl
    obtain ⟨v,hrun,hk⟩:=hv
    refine Ends.same h (.lit v) hk ?_
    unfold execOp;simp only [hc]
    have e:args.map a.eval=vs.toArray:=by rw [←Za0 h hl];apply Array.ext';simp
    simp [resolve,invoke,builtin,Sem.run_bind,e,hrun]
   ·exact hv.elim
  ·exact hv.elim
 ·rename_i t len parts hc
  exact ZgE h hc hv
 ·rename_i t hc
  exact ZfR h hc hv
 ·rename_i t parts hc
  exact build_sound h hc hv
 ·exact Zh6 h o hv
end
end Go.Proofs.YtadghlfkddkelaaGreatDoor.V
namespace Go.Proofs.YtadghlfkddkelaaGreatDoor.V
open Go.RowKit
def Zd8 (P:Program) (t:TypeId) (x y:Operand) (s:VS) (k:AV→VS→Prop):Prop:=match P.underlying t with
 |some (.slice e)=>match Yq P e,Yb (ev s x),Yb (ev s y) with
  |some (z,sz,by_),some (.int _ l),some (.int _ c)=>l≤c∧0≤l∧z.cells.size=sz∧0<sz∧(z.cells.toList.all fun v=>v.oneCell')=true∧(by_:Int)*c≤281474976710656∧c≤9223372036854775807∧
    k (.own s.mem.length) { s with mem:=s.mem++[some ⟨e,sz,l.toNat,fun _=>z.cells.toList.map .lit⟩] }
  | _,_,_=>False
 | _=>False
def Yd (z:ByteArray) (i:Nat):List AV:=[.lit (.int .u8 (Ze z i))]
def ZcZ (P:Program) (e:TypeId) (s:VS) (k:AV→VS→Prop):AV→Prop
 | .lit (.string z)=>P.underlying e=some (.int .u8)∧z.size≤140737488355328∧k (.own s.mem.length) { s with mem:=s.mem++[some ⟨e+Wd,1,z.size,Yd z⟩] }
 | _=>False
def UV (P:Program) (e:TypeId) (s:VS) (k:AV→VS→Prop) (av:AV):Prop:=match ZY s.mem 1 av with
 |some (n,f)=>P.underlying e=some (.int .u8)∧∃ z:ByteArray,z.size=n∧(∀ i,i<n→f i=Yd z i)∧k (.lit (.string z)) s
 |none=>False
def QL (P:Program) (op:Op) (s:VS) (k:AV→VS→Prop):Prop:=match op with
 | .makeSlice t x y=>Zd8 P t x y s k
 | .convert a b x=>match P.underlying a,P.underlying b with
  |some .string,some (.slice e)=>ZcZ P e s k (ev s x)
  |some (.slice e),some .string=>UV P e s k (ev s x)
  | _,_=>Zjw P (.convert a b x) s k
 |op=>Zjw P op s k
section
variable {P:Program} {n:Nat} {base:Fr} {w0 w:World} {hd:Nat→Value} {s:VS} {a:Act} {k:AV→VS→Prop}
theorem Zcb (h:RelH n base w0 hd s a w) {x:Operand} {v:Value} (e:Yb (ev s x)=some v):a.eval x=v:=(h.ev_ x).val_ e
theorem ZgC (h:RelH n base w0 hd s a w) {t:TypeId} {x y:Operand} {o:Oper} (ho:o.op=.makeSlice t x y) (hv:Zd8 P t x y s k):Ends P n base w0 a ((execOp a.eval o).run P w) k:=by
 unfold Zd8 at hv
 split at hv
 ·rename_i e ht
  split at hv
  ·rename_i z sz by_ q l q' c hinfo hx hy
   obtain ⟨hlc,h0,hz,hsz,h1,hb,hm,hk⟩:=hv
   have hln:l.toNat≤c.toNat:=by omega
   obtain ⟨ti,hi1,hi2,hi3,hi4⟩:=Xj hinfo
   subst hi3 hi4
   have ex:=Zcb h hx
   have ey:=Zcb h hy
   have hnew:=h.newC (T:=e) (sz:=ti.size) (cnt:=l.toNat) (cap:=c.toNat) (vals:=(madeCells z.cells (c.toNat*ti.size)).toList) (f:=fun _=>z.cells.toList.map .lit) hsz (by simp [size_madeCells]) hln (by omega) (fun i hi=>⟨by simp [hz],fun j av hj=>by
    simp only [List.getElem?_map,Option.map_eq_some_iff] at hj
    obtain ⟨u,q1,rfl⟩:=hj
    have hj2:j<ti.size:=by rw [←hz];simpa using (List.getElem?_eq_some_iff.1 q1).1
    have hlt:i*ti.size+j<c.toNat*ti.size:=by
     have:(i+1)*ti.size≤c.toNat*ti.size:=Nat.mul_le_mul_right _ (by omega)
     rw [Nat.add_mul] at this;omega
    refine ⟨u,?_,List.all_eq_true.1 h1 u (List.mem_of_getElem? q1),.lit u⟩
    have e2:(i*ti.size+j)%z.cells.size=j:=by rw [hz,Nat.mul_comm,Nat.mul_add_mod,Nat.mod_eq_of_lt hj2]
    have hu:z.cells[j]?=some u:=by simpa using q1
    have hj3:j<z.cells.size:=by omega
    simp [madeCells,hlt,e2]
    rw [getElem!_pos z.cells j hj3]
    exact Option.some.inj (by rw [←Array.getElem?_eq_getElem hj3,hu])⟩)
   refine ⟨.slice (some ⟨w.heap.size,0,none⟩) l.toNat c.toNat,_,.inl ?_,_,_,_,hnew,?_,hk⟩
   ·unfold execOp;simp only [ho]
    refine ZM ?_
    rw [ex,ey,run_make w t e ti z ht hi1 hi2 q q' l c h0 hlc hb hm]
   ·have:=Rep.own (w:=w.alloc (.cells (madeCells z.cells (c.toNat*ti.size)).toList.toArray e)) (ok:=Zw (s.mem++[some ⟨e,ti.size,l.toNat,fun _=>z.cells.toList.map .lit⟩]) (fun j=>if j=s.mem.length then .slice (some ⟨w.heap.size,0,none⟩) l.toNat c.toNat else hd j)) (hd:=fun j=>if j=s.mem.length then .slice (some ⟨w.heap.size,0,none⟩) l.toNat c.toNat else hd j) (m:=(s.mem++[some (⟨e,ti.size,l.toNat,fun _=>z.cells.toList.map .lit⟩:Ob)]).length) s.mem.length (by simp)
    simpa using this
  ·exact hv.elim
 ·exact hv.elim
theorem Zfi (h:RelH n base w0 hd s a w) {t1 t2 e:TypeId} {x:Operand} {o:Oper} (ho:o.op=.convert t1 t2 x) (h1:P.underlying t1=some .string) (h2:P.underlying t2=some (.slice e)) (hv:ZcZ P e s k (ev s x)) :
  Ends P n base w0 a ((execOp a.eval o).run P w) k:=by
 have hx:=h.ev_ x
 generalize ev s x=ax at hv hx
 unfold ZcZ at hv
 split at hv
 ·rename_i z
  obtain ⟨he,hm,hk⟩:=hv
  have ex:a.eval x=.string z:=by
   generalize a.eval x=v at hx
   cases hx;rfl
  have hrun:=run_bytes_of_string w t1 t2 e z h1 h2 he
  have hd0:=h.grown (w':=w.drew) ⟨rfl,rfl,rfl,Nat.le_refl _,fun _ _ _=>rfl⟩
  have hge:=grownCap_ge w z.size 0 e
  have hle:=grownCap_le_maxLen w z.size 0 e (by simp only [maxLen];omega)
  have hbs:(bytesRow z (grownCap w z.size 0 e)).size=grownCap w z.size 0 e:=by
   simp only [bytesRow,Array.size_append,Array.size_map,Array.size_replicate]
   have:z.data.size=z.size:=rfl
   omega
  have hcell:∀ j,j<z.size→(bytesRow z (grownCap w z.size 0 e)).toList[j]?=some (.int .u8 (Ze z j)):=by
   intro j hj
   have hj':j<z.data.size:=hj
   have hb:=bytesRow_at z (grownCap w z.size 0 e) j hj'
   have e3:Ze z j=(z.data[j].toNat:Int):=by unfold Ze;rw [dif_pos hj];rfl
   rw [Array.getElem?_toList,e3]
   exact hb
  have hnew:=hd0.newM (T:=e+Wd) (T':=e) (sz:=1) (cnt:=z.size) (cap:=grownCap w z.size 0 e) (vals:=(bytesRow z (grownCap w z.size 0 e)).toList) (f:=Yd z) (fz:=((bytesRow z (grownCap w z.size 0 e)).size,(bytesRow z (grownCap w z.size 0 e)).size+1)) (by omega) (by rw [Array.length_toList,hbs,Nat.mul_one]) hge (by simp only [maxLen] at hle;omega) (.inr ⟨rfl,.inr (by rw [Array.length_toList])⟩) (fun i hi=>⟨rfl,fun j av hj=>by
   cases j with
   |zero=>
    simp [Yd] at hj
    subst hj
    exact ⟨_,by rw [Nat.mul_one,Nat.add_zero];exact hcell i hi,rfl,.lit _⟩
   |succ j=>simp [Yd] at hj⟩)
  rw [Array.toArray_toList] at hnew
  refine ⟨.slice (some ⟨w.heap.size,0,none⟩) z.size (grownCap w z.size 0 e),_,.inl ?_,_,_,.own s.mem.length,hnew,?_,hk⟩
  ·unfold execOp;simp only [ho]
   exact ZM (by rw [ex];exact hrun)
  ·have:=Rep.own (w:=w.drew.alloc (.cells (bytesRow z (grownCap w z.size 0 e)) e ((bytesRow z (grownCap w z.size 0 e)).size,(bytesRow z (grownCap w z.size 0 e)).size+1))) (ok:=Zw (s.mem++[some ⟨e+Wd,1,z.size,Yd z⟩]) (fun j=>if j=s.mem.length then .slice (some ⟨w.drew.heap.size,0,none⟩) z.size (grownCap w z.size 0 e) else hd j)) (hd:=fun j=>if j=s.mem.length then .slice (some ⟨w.drew.heap.size,0,none⟩) z.size (grownCap w z.size 0 e) else hd j) (m:=(s.mem++[some (⟨e+Wd,1,z.size,Yd z⟩:Ob)]).length) s.mem.length (by simp)
   simpa using this
 ·exact hv.elim
theorem Zfj (h:RelH n base w0 hd s a w) {t1 t2 e:TypeId} {x:Operand} {o:Oper} (ho:o.op=.convert t1 t2 x) (h1:P.underlying t1=some (.slice e)) (h2:P.underlying t2=some .string) (hv:UV P e s k (ev s x)) :
  Ends P n base w0 a ((execOp a.eval o).run P w) k:=by
 unfold UV at hv
 split at hv
 ·rename_i m f hc
  obtain ⟨he,z,rfl,hf,hk⟩:=hv
  obtain ⟨A,c,u,ex,hmc,hcell,hr⟩:=Zay h hc
  have hu:∀ i,i<z.size→u i 0=.int .u8 (Ze z i):=by
   intro i hi
   have:=(hr i hi).2 0 (.lit (.int .u8 (Ze z i))) (by rw [hf i hi];rfl)
   have h3:=this.1
   generalize u i 0=q at h3
   cases h3;rfl
  refine Ends.same h (.lit (.string z)) hk ?_
  unfold execOp;simp only [ho]
  refine ZM ?_
  rw [ex]
  cases A with
  |none=>
   have hz:z.size=0:=by
    rcases Nat.eq_zero_or_pos z.size with h0|h0
    ·exact h0
    ·obtain ⟨_,e1,_⟩:=hcell h0;cases e1
   have ez:z=⟨#[]⟩:=by
    obtain ⟨d⟩:=z
    have hz':d.size=0:=hz
    have:d=#[]:=Array.eq_empty_of_size_eq_zero hz'
    rw [this]
   rw [hz,run_convert_bytes_string w t1 t2 e none 0 c h1 he h2,ez]
   simp [Conv.bytesToString]
   rfl
  |some ad=>
   have hl:z.size=z.data.toList.length:=by simp
   have hb:=run_convert_bytes_back w t1 t2 e ad c z.data.toList h1 he h2 (fun j hj=>by
    have hj':j<z.size:=by rw [hl];exact hj
    obtain ⟨ad',e1,hcell⟩:=hcell (by omega)
    cases e1
    have:=hcell j 0 hj' (by omega)
    rw [hu j hj',Nat.mul_one,Nat.add_zero] at this
    rw [this]
    unfold Ze
    rw [dif_pos hj']
    simp
    rfl)
   rw [←hl] at hb
   simpa using hb
 ·exact hv.elim
theorem Uj (h:RelH n base w0 hd s a w) (o:Oper) (hv:QL P o.op s k):Ends P n base w0 a ((execOp a.eval o).run P w) k:=by
 unfold QL at hv
 split at hv
 ·rename_i t x y hc
  exact ZgC h hc hv
 ·rename_i t1 t2 x hc
  split at hv
  ·rename_i e h1 h2;exact Zfi h hc h1 h2 hv
  ·rename_i e h1 h2;exact Zfj h hc h1 h2 hv
  ·exact Zaj h o (by rw [hc];exact hv)
 ·exact Zaj h o hv
end
end Go.Proofs.YtadghlfkddkelaaGreatDoor.V
namespace Go.Proofs.YtadghlfkddkelaaGreatDoor.V
open Go.RowKit Go.ChangeMaps
open Go.Maps (Keyed)
open Classical in
noncomputable def mget:List (Value×Value)→Value→Option Value
 |[],_=>none
 | (k,v)::r,x=>if k=x then some v else mget r x
open Classical in
noncomputable def mput:List (Value×Value)→Value→Value→List (Value×Value)
 |[],x,u=>[(x,u)]
 | (k,v)::r,x,u=>if k=x then (k,u)::r else (k,v)::mput r x u
def Ht:List (Nat×Mp)→Nat→Mp→List (Nat×Mp)
 |[],_,_=>[]
 | (c,q)::r,b,mp=>if c=b then (c,mp)::r else (c,q)::Ht r b mp
theorem ZaZ:∀ (l:List (Nat×Mp)) (b c:Nat) (mp:Mp),lkm (Ht l b mp) c=if b=c∧(lkm l b).isSome then some mp else lkm l c
 |[],b,c,mp=>by simp [Ht,lkm]
 | (d,q)::r,b,c,mp=>by
  simp only [Ht]
  by_cases h:d=b
  ·subst h
   simp only [if_true,lkm]
   by_cases h2:d=c<;>simp [h2]
  ·rw [if_neg h]
   simp only [lkm,if_neg h]
   by_cases h2:d=c
   ·subst h2
    have:¬b=d:=fun e=>h e.symm
    simp [this]
   ·simp only [if_neg h2]
    exact ZaZ r b c mp
def W7 (P:Program) (e:TypeId) (z:Value):Prop:=∀ w,(zeroValue e).run P w=.ok z w
def Zf1 (ok:Bool) (s:VS) (k:AV→VS→Prop):Option Value→Prop
 |some u=>ok=true∧∃ g N vs as',∃ i,lk s.tmps g=.fam N vs as'∧i<N∧vs i=u∧k (.tup [as' i,.lit (.bool true)]) s
 |none=>False
def Zea (P:Program) (t:TypeId) (ok:Bool) (s:VS) (k:AV→VS→Prop):AV→AV→Prop
 | .lit (.map (some b)),x=>match lkm s.maps b,P.underlying t,Yb x with
  |some mp,some (.map kt e),some kv=>mp.kt=kt∧Keyed P kt∧(∃ l,keyOf P kt kv=some l)∧∃ z,W7 P e z∧
    (k (if ok then .tup [.lit ((mget mp.es kv).getD z),.lit (.bool (mget mp.es kv).isSome)] else .lit ((mget mp.es kv).getD z)) s∨Zf1 ok s k (mget mp.es kv))
  | _,_,_=>False
 | _,_=>False
def Zb3 (P:Program) (t:TypeId) (s:VS) (k:AV→VS→Prop):AV→AV→AV→Prop
 | .lit (.map (some b)),x,v=>match lkm s.maps b,P.underlying t,Yb x,Yb v with
  |some mp,some (.map kt e),some kv,some u=>mp.kt=kt∧Keyed P kt∧(∃ l,keyOf P kt kv=some l)∧k .undef { s with maps:=Ht s.maps b { mp with es:=mput mp.es kv u } }
  |some mp,some (.map kt e),some kv,none=>mp.kt=kt∧Keyed P kt∧(∃ l,keyOf P kt kv=some l)∧∃ g N vs as',lk s.tmps g=.fam N vs as'∧
    ∀ u,k .undef { s with tmps:=(g,.fam (N+1) (fun i=>if i=N then u else vs i) (fun i=>if i=N then v else as' i))::s.tmps,maps:=Ht s.maps b { mp with es:=mput mp.es kv u } }
  | _,_,_,_=>False
 | _,_,_=>False
def H7 (P:Program) (t:TypeId) (s:VS) (k:AV→VS→Prop):AV→Prop
 | .lit (.map (some b))=>match lkm s.maps b,P.underlying t with
  |some mp,some (.map kt e)=>k (.lit (.int .i64 mp.es.length)) s
  | _,_=>False
 | _=>False
def Zak (P:Program) (t:TypeId) (s:VS) (k:AV→VS→Prop):Prop:=match P.underlying t with
 |some (.map kt e)=>∀ b,lkm s.maps b=none→k (.lit (.map (some b))) { s with maps:=(b,⟨kt,[]⟩)::s.maps }
 | _=>False
def XO (P:Program) (t:TypeId):Bool:=match P.underlying t with
 |some (.map _ _)=>true
 | _=>false
def Zjy (s:VS) (k:AV→VS→Prop):AV→AV→Prop
 | .lit (.int q i),.lit (.int _ j)=>k (.lit (.int q (if j<i then j else i))) s
 | _,_=>False
def Zhn (P:Program) (x:Operand) (z:ByteArray) (t t':TypeId) (s:VS) (k:AV→VS→Prop):Prop:=match P.underlying t,P.underlying t' with
 |some (.slice e),some .string=>Yq P e=some (.int .u8 0,1,1)∧e<Wd∧∃ mem m f,JM s.mem e 1 (ev s x)=some (mem,m,f)∧m+z.size≤140737488355328∧
   k (.own s.mem.length) { s with mem:=mem++[some ⟨e,1,m+z.size,ZH m f (Yd z)⟩] }
 | _,_=>False
def Zef (P:Program) (y:Operand) (t t':TypeId) (s:VS) (k:AV→VS→Prop) (j sz lo m:Nat):Prop:=t=t'∧match P.underlying t with
 |some (.slice e)=>match Yq P e,s.mem[j]?,ZY s.mem sz (ev s y) with
  |some (z,sz',by_),some (some ob),some (M,g)=>z.cells.size=sz'∧0<sz'∧sz'=sz∧ob.ty=e∧ob.sz=sz∧lo+m=ob.n∧0<M∧(∀ i,i<M→(g i).all Xg=true)∧ob.n+M≤9223372036854775807∧(ob.n+M)*by_≤140737488355328∧
    k (.sub s.mem.length sz lo (m+M)) { s with mem:=s.mem.set j none++[some ⟨e,sz,ob.n+M,ZH ob.n ob.f g⟩] }∧
    k (.sub s.mem.length sz 0 (m+M)) { s with mem:=s.mem.set j none++[some ⟨e,sz,m+M,ZH m (fun i=>ob.f (lo+i)) g⟩] }
  | _,_,_=>False
 | _=>False
def Zb2 (b:BinOp) (r:Bool) (s:VS) (k:AV→VS→Prop):Prop:=match b with
 | .eql=>k (.lit (.bool r)) s
 | .neq=>k (.lit (.bool !r)) s
 | _=>False
def ZdD (P:Program) (t:TypeId):Bool:=match P.underlying t with
 |some (.pointer e)=>(Yq P e).isSome
 | _=>false
def Zjv (P:Program) (b:BinOp) (T:TypeId) (s:VS) (k:AV→VS→Prop) (k0 sz i j:Nat):AV→Prop
 | .lit (.pointer none)=>ZdD P T=true∧Zb2 b false s k
 | .ptr k1 sz1 i1 j1=>k1=k0∧i1*sz1+j1=i*sz+j∧ZdD P T=true∧Zb2 b true s k
 | _=>False
def Zmm (P:Program) (t:TypeId):Bool:=match P.underlying t with
 |some (.slice _)=>true
 | _=>false
def Zae (P:Program) (b:BinOp) (T:TypeId) (s:VS) (k:AV→VS→Prop) (n:Nat):AV→Prop
 | .lit (.slice none 0 0)=>Zmm P T=true∧∀ r:Bool,(0<n→r=false)→Zb2 b r s k
 | _=>False
def KV (P:Program) (a b:TypeId) (s:VS) (k:AV→VS→Prop) (k0 sz i j:Nat):Prop:=match s.mem[k0]? with
 |some (some ob)=>sz=ob.sz∧ob.ty<Wd∧i<ob.n∧j<sz∧match P.underlying a,P.underlying b with
  |some (.pointer t),some .unsafePointer=>(∃ z q by_,Yq P t=some (z,q,by_)∧q≠0)∧k (.ptr k0 sz i j) s
  |some .unsafePointer,some (.pointer t)=>t=ob.ty∧j=0∧0<P.depth∧P.cellsOf t=sz∧(Yq P t).isSome=true∧k (.ptr k0 sz i j) s
  | _,_=>False
 | _=>False
def Zjz (s:VS) (k:AV→VS→Prop):AV→AV→Prop
 | .lit (.int q i),.lit (.int _ j)=>k (.lit (.int q (if j>i then j else i))) s
 | _,_=>False
def Qx (P:Program) (T:TypeId):Option Bool:=match P.underlying T with
 |none=>none
 |some (.interface _)=>some true
 |some _=>some false
def Zhh (P:Program) (T:TypeId) (s:VS) (k:AV→VS→Prop):Option Value→Prop
 |some v=>Qx P T=some false∧k (.lit (.iface T v)) s
 |none=>False
def Zc3 (P:Program) (T:TypeId) (s:VS) (k:AV→VS→Prop):AV→Prop
 | .lit (.iface t v)=>Qx P T=some false∧(t=T→k (.tup [.lit v,.lit (.bool true)]) s)∧(t≠T→∃ z,W7 P T z∧k (.tup [.lit z,.lit (.bool false)]) s)
 | _=>False
def Zmn (s:VS) (x:Operand) (v:Value):Prop:=ev s x=.lit v∨∃ t N vs as',∃ i kk sz p q,lk s.tmps t=.fam N vs as'∧i<N∧vs i=v∧as' i=.ptr kk sz p q∧ev s x=.ptr kk sz p q
def Zaa (s:VS):List Operand→List Value→Prop
 |[],[]=>True
 |x::r,v::q=>Zmn s x v∧Zaa s r q
 | _,_=>False
def ZcU (s:VS) (k:AV→VS→Prop) (fn:Fn) (first caps:List Operand):Prop:=first=[]∧∃ vs,Zaa s caps vs∧k (.lit (.func fn #[] vs.toArray)) s
def W5 (f:Nat→List AV) (lo n:Nat) (z:Value):Nat→List AV:=fun i=>if lo≤i∧i<lo+n then [.lit z] else f i
def Zaq (P:Program) (t:TypeId) (s:VS) (k:AV→VS→Prop):AV→Prop
 | .sub j sz lo n=>match P.underlying t,s.mem[j]? with
  |some (.slice e),some (some ob)=>sz=1∧ob.sz=1∧lo+n≤ob.n∧∃ z,W7 P e z∧z.cells=#[z]∧z.oneCell'=true∧k (.tup []) { s with mem:=s.mem.set j (some { ob with f:=W5 ob.f lo n z }) }
  | _,_=>False
 | _=>False
def UU (P:Program) (op:Op) (s:VS) (k:AV→VS→Prop):Prop:=match op with
 | .makeMap t none=>Zak P t s k
 | .lookup t m x ok=>Zea P t ok s k (ev s m) (ev s x)
 | .mapUpdate t m x v=>Zb3 P t s k (ev s m) (ev s x) (ev s v)
 | .insert t m x v=>Zb3 P t s k (ev s m) (ev s x) (ev s v)
 | .makeInterface T x=>Zhh P T s k (Yb (ev s x))
 | .typeAssert x _ T true=>Zc3 P T s k (ev s x)
 | .makeFunc fn first caps=>ZcU s k fn first.toList caps.toList
 | .call c=>match c.callee,c.args.toList,c.argTypes.toList with
  | .builtin .len,[x],[t]=>(XO P t=true∧H7 P t s k (ev s x))∨(XO P t=false∧Zec P x t s k)
  | .builtin .clear,[x],[t]=>Zaq P t s k (ev s x)
  | .builtin .min,[x,y],[_,_]=>Zjy s k (ev s x) (ev s y)
  | .builtin .max,[x,y],[_,_]=>Zjz s k (ev s x) (ev s y)
  | .builtin .append,[x,y],[t,t']=>match ev s y with
   | .lit (.string z)=>Zhn P x z t t' s k
   | _=>match ev s x with
    | .sub j sz lo m=>Zef P y t t' s k j sz lo m
    | _=>QL P (.call c) s k
  | _,_,_=>QL P (.call c) s k
 | .binOp b T x y T2=>match ev s x with
  | .ptr k0 sz i j=>Zjv P b T s k k0 sz i j (ev s y)
  | .sl _ m _=>Zae P b T s k m (ev s y)
  | _=>QL P (.binOp b T x y T2) s k
 | .convert a b x=>match ev s x with
  | .ptr k0 sz i j=>KV P a b s k k0 sz i j
  | _=>QL P (.convert a b x) s k
 |op=>QL P op s k
section
variable {P:Program} {n:Nat} {base:Fr} {w0 w:World} {hd:Nat→Value} {s:VS} {a:Act} {k:AV→VS→Prop}
theorem ZaB {w:World} {b:Nat} {es:Array MapEntry} {clock:Nat} {o':Obj} (h:w.heap[b]?=some (.map es clock)):w.grownBy (setBlock w b o') (some b):=
 ⟨rfl,rfl,rfl,by simp [setBlock],fun i _ hi=>heap_setBlock_other h _ (fun e=>hi (by rw [e]))⟩
theorem RelH.mapTurn (h:RelH n base w0 hd s a w) {b:Nat} {es:Array MapEntry} {clock:Nat} (hb:w.heap[b]?=some (.map es clock)) (hmay:base.may b) {o':Obj} {maps':List (Nat×Mp)} (hm:MapRel base.P base.may (setBlock w b o') maps') :
  RelH n base w0 hd { s with maps:=maps' } a (setBlock w b o'):=by
 have hg:w.grownBy (setBlock w b o') (some b):=ZaB hb
 have ne_cell:∀ ad u,w.cell? ad=some u→ad.block≠b:=by
  intro ad u hc e
  unfold World.cell? at hc
  rw [e,hb] at hc
  simp at hc
 have hc:∀ ad u,Zw s.mem hd ad.block→w.cell? ad=some u→(setBlock w b o').cell? ad=some u∧Zw s.mem hd ad.block:=fun ad u ho hcell=>⟨Wz (hg.block _ (World.block_lt_of_cell? w _ hcell) (by simpa using ne_cell ad u hcell)) hcell,ho⟩
 refine ⟨h.defers,h.size,h.below.grown hg (fun q hq=>by simp only [Option.some.injEq] at hq;rw [←hq];exact hmay),h.le,h.fixl,h.fix,hm,fun t=>(h.tm t).mono hc (fun _ _=>rfl) (Nat.le_refl _),⟨h.me.alw,fun k ob hk=>?_,h.me.hds,h.me.apart⟩⟩
 obtain ⟨hs,vals,ho,hr⟩:=h.me.obs k ob hk
 have hne:(hd k).ownBlock≠some b:=by
  intro e
  rcases ho.2 with ⟨e2,_⟩|⟨g,cap,cur,e2,⟨_,_,hh,_⟩,_⟩
  ·rw [e2] at e;simp [Value.ownBlock] at e
  ·rw [e2] at e
   simp only [Value.ownBlock,Option.some.injEq] at e
   rw [e,hb] at hh;simp at hh
 refine ⟨hs,vals,ho.kept hg (by
  cases hq:(hd k).ownBlock with
  |none=>exact .inl rfl
  |some c=>exact .inr (fun e=>hne (by rw [hq];exact e))),fun i hi=>⟨(hr i hi).1,fun j av hj=>?_⟩⟩
 obtain ⟨u,h1,h2,h3⟩:=(hr i hi).2 j av hj
 exact ⟨u,h1,h2,h3.mono hc (fun _ _=>rfl) (Nat.le_refl _)⟩
theorem JT:∀ {es:List (Value×Value)} {x:Value},(∀ p,p∈es→p.1≠x)→mget es x=none
 |[],_,_=>rfl
 | (k,v)::r,x,h=>by
  have h1:k≠x:=h (k,v) (by simp)
  have h2:=JT (es:=r) (x:=x) fun p hp=>h p (by simp [hp])
  unfold mget
  rw [if_neg h1];exact h2
theorem QX:∀ {es:List (Value×Value)} {x u:Value},(∀ p,p∈es→p.1≠x)→mput es x u=es++[(x,u)]
 |[],_,_,_=>rfl
 | (k,v)::r,x,u,h=>by
  have h1:k≠x:=h (k,v) (by simp)
  have h2:=QX (es:=r) (x:=x) (u:=u) fun p hp=>h p (by simp [hp])
  unfold mput
  rw [if_neg h1,h2];rfl
theorem JU:∀ {es:List (Value×Value)} {x v:Value} {j:Nat},es[j]?=some (x,v)→(∀ (i:Nat) p,i<j→es[i]?=some p→p.1≠x)→mget es x=some v
 |[],_,_,j,h,_=>by simp at h
 | (k,u)::r,x,v,j,h,hne=>by
  cases j with
  |zero=>
   simp only [List.getElem?_cons_zero,Option.some.injEq,Prod.mk.injEq] at h
   obtain ⟨rfl,rfl⟩:=h
   simp [mget]
  |succ j=>
   have h1:k≠x:=hne 0 (k,u) (by omega) rfl
   have h2:=JU (es:=r) (x:=x) (v:=v) (j:=j) (by simpa using h) fun i p hi hp=>hne (i+1) p (by omega) (by simpa using hp)
   unfold mget
   rw [if_neg h1];exact h2
theorem ZhG:∀ {es:List (Value×Value)} {x v u:Value} {j:Nat},es[j]?=some (x,v)→(∀ (i:Nat) p,i<j→es[i]?=some p→p.1≠x)→mput es x u=es.set j (x,u)
 |[],_,_,_,j,h,_=>by simp at h
 | (k,q)::r,x,v,u,j,h,hne=>by
  cases j with
  |zero=>
   simp only [List.getElem?_cons_zero,Option.some.injEq,Prod.mk.injEq] at h
   obtain ⟨rfl,rfl⟩:=h
   simp [mput]
  |succ j=>
   have h1:k≠x:=hne 0 (k,q) (by omega) rfl
   have h2:=ZhG (es:=r) (x:=x) (v:=v) (u:=u) (j:=j) (by simpa using h) fun i p hi hp=>hne (i+1) p (by omega) (by simpa using hp)
   unfold mput
   rw [if_neg h1,h2];rfl
theorem Ja {es:List (Value×Value)} (hp:es.Pairwise (fun p q=>p.1≠q.1)) {j:Nat} {x v:Value} (hj:es[j]?=some (x,v)):∀ (i:Nat) p,i<j→es[i]?=some p→p.1≠x:=by
 intro i p hi hpi
 have h1:=(List.getElem?_eq_some_iff.1 hj)
 have h2:=(List.getElem?_eq_some_iff.1 hpi)
 obtain ⟨l1,e1⟩:=h1
 obtain ⟨l2,e2⟩:=h2
 have:=List.pairwise_iff_getElem.1 hp i j l2 l1 hi
 rw [e1,e2] at this
 exact this
theorem ZeX {t kt e:TypeId} {ok:Bool} {b:Nat} {es:Array MapEntry} {clock:Nat} {mp:Mp} {kv z:Value} (ht:P.underlying t=some (.map kt e)) (hk:mp.kt=kt) (K:Keyed P kt) (hkey:∃ l,keyOf P kt kv=some l) (hz:W7 P e z)
  (hb:w.heap[b]?=some (.map es clock)) (hm:MapIs P mp es clock) :
  (Instr.lookup t (.map (some b)) kv ok).run P w=.ok (if ok then .tuple #[(mget mp.es kv).getD z,.bool (mget mp.es kv).isSome] else (mget mp.es kv).getD z) w:=by
 subst hk
 obtain ⟨l,hl⟩:=hkey
 rcases K.find w hl es.toList hm.key with ⟨h1,h2⟩|⟨j,e0,h1,h2,h3⟩
 ·have hg:mget mp.es kv=none:=JT fun p hp=>by
   rw [←hm.eq,List.mem_map] at hp
   obtain ⟨x,hx,rfl⟩:=hp
   exact h2 x hx
  rw [hg]
  simp [Instr.lookup,run_underlying ht,MapKept.run_getObj_map hb,K.check w _ hl,h1,hz w,Result.andThen]
 ·have hj:mp.es[j]?=some (kv,e0.val):=by rw [←hm.eq,List.getElem?_map,h2];simp [h3]
  have hg:mget mp.es kv=some e0.val:=JU hj (Ja hm.apart hj)
  rw [hg]
  simp [Instr.lookup,run_underlying ht,MapKept.run_getObj_map hb,K.check w _ hl,h1,Result.andThen]
theorem ZeR {t kt e:TypeId} {b:Nat} {es:Array MapEntry} {clock:Nat} {mp:Mp} {kv u:Value} (ht:P.underlying t=some (.map kt e)) (hk:mp.kt=kt) (K:Keyed P kt) (hkey:∃ l,keyOf P kt kv=some l)
  (hb:w.heap[b]?=some (.map es clock)) (hm:MapIs P mp es clock) :
  ∃ es' clock',(Instr.mapUpdate t (.map (some b)) kv u).run P w=.ok () (setBlock w b (.map es' clock'))∧MapIs P { mp with es:=mput mp.es kv u } es' clock':=by
 subst hk
 obtain ⟨l,hl⟩:=hkey
 rcases K.find w hl es.toList hm.key with ⟨h1,h2⟩|⟨j,e0,h1,h2,h3⟩
 ·have hne:∀ p,p∈mp.es→p.1≠kv:=fun p hp=>by
   rw [←hm.eq,List.mem_map] at hp
   obtain ⟨x,hx,rfl⟩:=hp
   exact h2 x hx
  refine ⟨es.push ⟨kv,u,clock⟩,clock+1,?_,?_,fun x hx=>?_,?_,?_,fun x hx=>?_⟩
  ·simp [Instr.mapUpdate,run_underlying ht,MapKept.run_getObj_map hb,K.check w false hl,h1,MapKept.run_setObj_map _ hb,Result.andThen,setBlock]
  ·simp only [QX hne,Array.toList_push,List.map_append,hm.eq];rfl
  ·simp only [Array.toList_push,List.mem_append,List.mem_singleton] at hx
   rcases hx with hx|rfl
   ·exact hm.key x hx
   ·exact ⟨l,hl⟩
  ·simp only [QX hne]
   refine List.pairwise_append.2 ⟨hm.apart,by simp,fun p hp q hq=>?_⟩
   simp only [List.mem_singleton] at hq
   subst hq
   exact hne p hp
  ·simp only [Array.toList_push,List.map_append,List.map_cons,List.map_nil]
   refine List.pairwise_append.2 ⟨hm.born,by simp,fun x hx y hy=>?_⟩
   simp only [List.mem_singleton] at hy
   obtain ⟨e,he,rfl⟩:=List.mem_map.1 hx
   have:=hm.young e he
   omega
  ·simp only [Array.toList_push,List.mem_append,List.mem_singleton] at hx
   rcases hx with hx|rfl
   ·have:=hm.young x hx;omega
   ·exact Nat.lt_succ_self _
 ·have hj:mp.es[j]?=some (kv,e0.val):=by rw [←hm.eq,List.getElem?_map,h2];simp [h3]
  have hj':es[j]?=some e0:=by simpa using h2
  have hst:(Instr.keyThatStays e0.key kv).run P w=.ok kv w:=by rw [h3];exact K.stays w hl
  have hput:mput mp.es kv u=mp.es.set j (kv,u):=ZhG hj (Ja hm.apart hj)
  obtain ⟨hjl,hje⟩:=Array.getElem?_eq_some_iff.1 hj'
  have hmod:(es.modify j fun e=>{ e with key:=kv,val:=u }).toList=es.toList.set j { e0 with key:=kv,val:=u }:=by
   apply List.ext_getElem?
   intro i
   rw [Array.getElem?_toList,Array.getElem?_modify,List.getElem?_set,Array.getElem?_toList]
   by_cases h:j=i
   ·subst h;simp [hj',hjl,hje]
   ·simp [h]
  refine ⟨es.modify j fun e=>{ e with key:=kv,val:=u },clock,?_,?_,fun x hx=>?_,?_,?_,fun x hx=>?_⟩
  ·simp [Instr.mapUpdate,run_underlying ht,MapKept.run_getObj_map hb,K.check w false hl,h1,hj',hst,MapKept.run_setObj_map _ hb,Result.andThen,setBlock]
  ·simp only [hput,hmod,List.map_set,hm.eq]
  ·rw [hmod] at hx
   rcases List.mem_or_eq_of_mem_set hx with hx|rfl
   ·exact hm.key x hx
   ·exact ⟨l,hl⟩
  ·simp only [hput]
   refine List.pairwise_iff_getElem.2 fun i i' hi hi' hlt=>?_
   have key:∀ (i:Nat) (hi:i<(mp.es.set j (kv,u)).length),((mp.es.set j (kv,u))[i]'hi).1=(mp.es[i]'(by simpa using hi)).1:=by
    intro i hi
    rw [List.getElem_set]
    split
    ·rename_i e
     subst e
     obtain ⟨_,e2⟩:=List.getElem?_eq_some_iff.1 hj
     rw [e2]
    ·rfl
   rw [key,key]
   exact List.pairwise_iff_getElem.1 hm.apart i i' (by simpa using hi) (by simpa using hi') hlt
  ·rw [hmod,List.map_set]
   have hb1:(es.toList.map (·.born))[j]?=some e0.born:=by rw [List.getElem?_map,h2];rfl
   obtain ⟨hl1,he1⟩:=List.getElem?_eq_some_iff.1 hb1
   rw [show ({ e0 with key:=kv,val:=u }:MapEntry).born=(es.toList.map (·.born))[j] from he1.symm,List.set_getElem_self]
   exact hm.born
  ·rw [hmod] at hx
   rcases List.mem_or_eq_of_mem_set hx with hx|rfl
   ·exact hm.young x hx
   ·exact hm.young e0 (List.mem_of_getElem? h2)
theorem YH (h:RelH n base w0 hd s a w) {x:Operand} {v:Value} (e:ev s x=.lit v):a.eval x=v:=(h.ev_ x).val_ (by rw [e];rfl)
theorem ZaW (h:RelH n base w0 hd s a w) (hP:base.P=P) {t:TypeId} {m x:Operand} {ok:Bool} {o:Oper} (ho:o.op=.lookup t m x ok) (hv:Zea P t ok s k (ev s m) (ev s x)):∃ v av,(∀ w',w.grownBy w' none→(execOp a.eval o).run P w'=.ok (.value v) w')∧Rep w (Zw s.mem hd) hd s.mem.length av v∧k av s:=by
 have hm:=fun v=>YH h (x:=m) (v:=v)
 have hx:=fun v=>(h.ev_ x).val_ (u:=v)
 generalize ev s m=am at *
 unfold Zea at hv
 split at hv
 ·rename_i _ b
  split at hv
  ·rename_i mp kt e kv hmp ht hkv
   obtain ⟨hk,K,hkey,z,hz,hk2⟩:=hv
   obtain ⟨_,es,clock,hb,hmi⟩:=h.mp b mp hmp
   rw [hP] at hmi
   rcases hk2 with hk2|hk2
   case' inr=>
    generalize hu:mget mp.es kv=ou at hk2
    match ou,hk2 with
    |some u,⟨hok,g,N,vs,as',i,hg,hi,hvs,hk3⟩=>
     subst hok
     have hf:=h.tm g
     rw [hg] at hf
     generalize a.tmps.getD g undef=u0 at hf
     cases hf with
     |fam _ _ _ _ hf=>
      have hr:=hf i hi
      rw [hvs] at hr
      refine ⟨.tuple #[u,.bool true],_,fun w' hg=>?_,?_,hk3⟩
      ·have hb':w'.heap[b]?=some (.map es clock):=(hg.block b (Array.getElem?_eq_some_iff.1 hb).1 (by simp)).trans hb
       have hrun:=ZeX (ok:=true) ht hk K hkey hz hb' hmi
       rw [hu] at hrun
       unfold execOp
       simp only [ho,hm _ rfl,hx _ hkv]
       exact ZM hrun
      ·refine .tup _ [u,.bool true] rfl fun j a u2 h1 h2=>?_
       rcases j with _ | _|j
       ·simp at h1 h2;subst h1;subst h2;exact hr
       ·simp at h1 h2;subst h1;subst h2;exact .lit _
       ·simp at h1
   refine ⟨if ok then .tuple #[(mget mp.es kv).getD z,.bool (mget mp.es kv).isSome] else (mget mp.es kv).getD z,_,fun w' hg=>?_,?_,hk2⟩
   ·have hb':w'.heap[b]?=some (.map es clock):=(hg.block b (Array.getElem?_eq_some_iff.1 hb).1 (by simp)).trans hb
    unfold execOp
    simp only [ho,hm _ rfl,hx _ hkv]
    exact ZM (ZeX ht hk K hkey hz hb' hmi)
   ·cases ok with
    |true=>
     refine .tup _ [(mget mp.es kv).getD z,.bool (mget mp.es kv).isSome] rfl fun j a u h1 h2=>?_
     rcases j with _ | _|j
     ·simp at h1 h2;subst h1;subst h2;exact .lit _
     ·simp at h1 h2;subst h1;subst h2;exact .lit _
     ·simp at h1
    |false=>exact .lit _
  ·exact hv.elim
 ·exact hv.elim
theorem ZaN (h:RelH n base w0 hd s a w) (hP:base.P=P) {t:TypeId} {m x v:Operand} {o:Oper} (ho:o.op=.mapUpdate t m x v∨o.op=.insert t m x v) (hv:Zb3 P t s k (ev s m) (ev s x) (ev s v)):Ends P n base w0 a ((execOp a.eval o).run P w) k:=by
 have hm:=fun v=>YH h (x:=m) (v:=v)
 have hx:=fun v=>(h.ev_ x).val_ (u:=v)
 have hvv:=fun u=>(h.ev_ v).val_ (u:=u)
 generalize ev s m=am at *
 unfold Zb3 at hv
 split at hv
 ·rename_i _ _ b
  split at hv
  ·rename_i mp kt e kv u hmp ht hkv hu
   obtain ⟨hk,K,hkey,hk2⟩:=hv
   obtain ⟨hmay,es,clock,hb,hmi⟩:=h.mp b mp hmp
   rw [hP] at hmi
   obtain ⟨es',clock',hrun,hmi'⟩:=ZeR (u:=u) ht hk K hkey hb hmi
   have hnew:MapRel base.P base.may (setBlock w b (.map es' clock')) (Ht s.maps b { mp with es:=mput mp.es kv u }):=by
    intro c mq hc
    rw [ZaZ] at hc
    split at hc
    ·rename_i hcond
     simp only [Option.some.injEq] at hc
     subst hc
     rw [←hcond.1]
     exact ⟨hmay,es',clock',heap_setBlock_same hb _,by rw [hP];exact hmi'⟩
    ·rename_i hcond
     obtain ⟨c1,es2,clock2,c2,c3⟩:=h.mp c mq hc
     have hne:c≠b:=fun e=>hcond ⟨e.symm,by rw [hmp];rfl⟩
     exact ⟨c1,es2,clock2,(heap_setBlock_other hb _ hne).trans c2,c3⟩
   refine ⟨undef,_,.inr ⟨?_,rfl⟩,hd,_,.undef,h.mapTurn hb hmay hnew,.undef _,hk2⟩
   unfold execOp
   rcases ho with ho|ho
   ·simp only [ho,hm _ rfl,hx _ hkv,hvv _ hu]
    exact Zev hrun
   ·simp only [ho,hm _ rfl,hx _ hkv,hvv _ hu]
    exact Zev hrun
  ·rename_i mp kt e kv hmp ht hkv hu
   obtain ⟨hk,K,hkey,g,N,vs,as',hg,hk2⟩:=hv
   have hk2:=hk2 (a.eval v)
   obtain ⟨hmay,es,clock,hb,hmi⟩:=h.mp b mp hmp
   rw [hP] at hmi
   obtain ⟨es',clock',hrun,hmi'⟩:=ZeR (u:=a.eval v) ht hk K hkey hb hmi
   have hnew:MapRel base.P base.may (setBlock w b (.map es' clock')) (Ht s.maps b { mp with es:=mput mp.es kv (a.eval v) }):=by
    intro c mq hc
    rw [ZaZ] at hc
    split at hc
    ·rename_i hcond
     simp only [Option.some.injEq] at hc
     subst hc
     rw [←hcond.1]
     exact ⟨hmay,es',clock',heap_setBlock_same hb _,by rw [hP];exact hmi'⟩
    ·rename_i hcond
     obtain ⟨c1,es2,clock2,c2,c3⟩:=h.mp c mq hc
     have hne:c≠b:=fun e=>hcond ⟨e.symm,by rw [hmp];rfl⟩
     exact ⟨c1,es2,clock2,(heap_setBlock_other hb _ hne).trans c2,c3⟩
   have hmore:RelH n base w0 hd { s with tmps:=(g,.fam (N+1) (fun i=>if i=N then a.eval v else vs i) (fun i=>if i=N then ev s v else as' i))::s.tmps } a w:=by
    refine ⟨h.defers,h.size,h.below,h.le,h.fixl,h.fix,h.mp,fun u=>?_,h.me⟩
    have h1:=h.tm g
    rw [hg] at h1
    generalize a.tmps.getD g undef=u0 at h1
    simp only [lk]
    split
    ·cases h1 with
     |fam _ _ _ _ h1=>
      refine .fam _ _ _ _ fun i hi=>?_
      by_cases e:i=N
      ·rw [if_pos e,if_pos e];exact h.ev_ v
      ·rw [if_neg e,if_neg e];exact h1 i (by omega)
    ·exact h.tm u
   refine ⟨undef,_,.inr ⟨?_,rfl⟩,hd,_,.undef,hmore.mapTurn hb hmay hnew,.undef _,hk2⟩
   unfold execOp
   rcases ho with ho|ho
   ·simp only [ho,hm _ rfl,hx _ hkv]
    exact Zev hrun
   ·simp only [ho,hm _ rfl,hx _ hkv]
    exact Zev hrun
  ·exact hv.elim
 ·exact hv.elim
theorem ZeV (h:RelH n base w0 hd s a w) {t:TypeId} {o:Oper} (ho:o.op=.makeMap t none) (hv:Zak P t s k):Ends P n base w0 a ((execOp a.eval o).run P w) k:=by
 unfold Zak at hv
 split at hv
 ·rename_i kt e ht
  have hno:lkm s.maps w.heap.size=none:=by
   cases hq:lkm s.maps w.heap.size with
   |none=>rfl
   |some mp=>
    obtain ⟨_,es,clock,hb,_⟩:=h.mp _ mp hq
    have:=(Array.getElem?_eq_some_iff.1 hb).1
    omega
  have hg:w.grownBy (w.alloc (.map #[] 0)) none:=World.grownBy_alloc w _ none
  have hR:=h.grown hg
  have hm2:MapRel base.P base.may (w.alloc (.map #[] 0)) ((w.heap.size,⟨kt,[]⟩)::s.maps):=by
   intro c mq hc
   simp only [lkm] at hc
   split at hc
   ·rename_i e
    simp only [Option.some.injEq] at hc
    subst hc;subst e
    exact ⟨h.le _ h.below.size,#[],0,(MapKept.heap_alloc w _).1,rfl,fun e he=>by simp at he,by simp,by simp,fun e he=>by simp at he⟩
   ·exact hR.mp c mq hc
  refine ⟨.map (some w.heap.size),_,.inl ?_,hd,{ s with maps:=(w.heap.size,⟨kt,[]⟩)::s.maps },_,⟨hR.defers,hR.size,hR.below,hR.le,hR.fixl,hR.fix,hm2,hR.tm,hR.me⟩,.lit _,hv _ hno⟩
  unfold execOp;simp only [ho]
  refine ZM ?_
  rfl
 ·exact hv.elim
theorem ZaP (h:RelH n base w0 hd s a w) {x:Operand} {t:TypeId} {c:Call} {o:Oper} (ho:o.op=.call c) (h1:c.callee=.builtin .len) (h2:c.args=#[x]) (h3:c.argTypes=#[t])
  (hv:H7 P t s k (ev s x)):∃ v av,(∀ w',w.grownBy w' none→(execOp a.eval o).run P w'=.ok (.value v) w')∧Rep w (Zw s.mem hd) hd s.mem.length av v∧k av s:=by
 have hm:=fun v=>YH h (x:=x) (v:=v)
 generalize ev s x=am at *
 unfold H7 at hv
 split at hv
 ·rename_i b
  split at hv
  ·rename_i mp kt e hmp ht
   obtain ⟨_,es,clock,hb,hmi⟩:=h.mp b mp hmp
   refine ⟨.int .i64 mp.es.length,_,fun w' hg=>?_,.lit _,hv⟩
   have hb':w'.heap[b]?=some (.map es clock):=(hg.block b (Array.getElem?_eq_some_iff.1 hb).1 (by simp)).trans hb
   have hl:mp.es.length=es.size:=by rw [←hmi.eq];simp
   unfold execOp
   simp only [ho]
   simp [h1,h2,h3,resolve,invoke,builtin,Sem.run_bind,hm _ rfl,Builtin.len_,run_underlying ht,MapKept.run_getObj_map hb',goInt,Result.andThen,hl]
  ·exact hv.elim
 ·exact hv.elim
theorem Ziw (h:RelH n base w0 hd s a w) {x y:Operand} {t t':TypeId} {o:Oper} (ho:o.op=.call { callee:=.builtin .min,args:=#[x,y],argTypes:=#[t,t'] })
  (hv:Zjy s k (ev s x) (ev s y)):∃ v av,(∀ w',w.grownBy w' none→(execOp a.eval o).run P w'=.ok (.value v) w')∧Rep w (Zw s.mem hd) hd s.mem.length av v∧k av s:=by
 have hx:=fun v=>YH h (x:=x) (v:=v)
 have hy:=fun v=>YH h (x:=y) (v:=v)
 generalize ev s x=ax at *
 generalize ev s y=ay at *
 unfold Zjy at hv
 split at hv
 ·rename_i q i q' j
  refine ⟨_,_,fun w' hg=>?_,.lit _,hv⟩
  unfold execOp
  simp only [ho]
  simp [resolve,invoke,builtin,Sem.run_bind,hx _ rfl,hy _ rfl,run_min_int2,Result.andThen]
 ·exact hv.elim
theorem Zkt {mem:List (Option Ob)} {hd:Nat→Value} {j:Nat} {oj oj':Ob} (hj:mem[j]?=some (some oj)) {b:Nat} (h:Zw mem hd b):Zw (mem.set j (some oj')) hd b:=by
 refine ⟨fun q ob hq=>?_,h.2⟩
 by_cases e:j=q
 ·subst e;exact h.1 j oj hj
 ·rw [List.getElem?_set_ne e] at hq;exact h.1 q ob hq
theorem RelH.recell (h:RelH n base w0 hd s a w) {j:Nat} {oj oj':Ob} (hj:s.mem[j]?=some (some oj)) (e1:oj'.ty=oj.ty) (e2:oj'.sz=oj.sz) (e3:oj'.n=oj.n)
  (hc:∀ i,i<oj.n→(oj'.f i).length=(oj.f i).length∧∀ (q:Nat) av av' u,(oj.f i)[q]?=some av→(oj'.f i)[q]?=some av'→Rep w (Zw s.mem hd) hd s.mem.length av u→Rep w (Zw s.mem hd) hd s.mem.length av' u):RelH n base w0 hd { s with mem:=s.mem.set j (some oj') } a w:=by
 have hok:∀ ad u,Zw s.mem hd ad.block→w.cell? ad=some u→w.cell? ad=some u∧Zw (s.mem.set j (some oj')) hd ad.block:=fun ad u ho hcell=>⟨hcell,Zkt hj ho⟩
 have hjl:=(List.getElem?_eq_some_iff.1 hj).1
 have live:∀ q ob,(s.mem.set j (some oj'))[q]?=some (some ob)→(q=j∧ob=oj')∨(q≠j∧s.mem[q]?=some (some ob)):=fun q ob hq=>by
  by_cases e:j=q
  ·subst e
   rw [List.getElem?_set_self hjl] at hq
   simp only [Option.some.injEq] at hq
   exact .inl ⟨rfl,hq.symm⟩
  ·rw [List.getElem?_set_ne e] at hq
   exact .inr ⟨fun e'=>e e'.symm,hq⟩
 have was:∀ q ob,(s.mem.set j (some oj'))[q]?=some (some ob)→∃ ob0,s.mem[q]?=some (some ob0):=fun q ob hq=>by
  rcases live q ob hq with ⟨rfl,_⟩|⟨_,h2⟩
  ·exact ⟨oj,hj⟩
  ·exact ⟨ob,h2⟩
 refine ⟨h.defers,h.size,h.below,h.le,by simpa using h.fixl,h.fix,h.mp,fun t=>(h.tm t).mono hok (fun _ _=>rfl) (by simp),⟨fun q ob hq=>?_,fun q ob hq=>?_,fun q hq=>h.me.hds q (by simpa using hq),fun q q' ob ob' hq hq' hne=>?_⟩⟩
 ·obtain ⟨o0,h0⟩:=was q ob hq
  exact h.me.alw q o0 h0
 ·rcases live q ob hq with ⟨rfl,rfl⟩|⟨_,h2⟩
  ·obtain ⟨hs,vals,ho,hr⟩:=h.me.obs q oj hj
   rw [e1,e2,e3]
   refine ⟨hs,vals,ho,fun i hi=>?_⟩
   obtain ⟨l1,l2⟩:=hc i hi
   obtain ⟨r1,r2⟩:=hr i hi
   refine ⟨l1.trans r1,fun p av hp=>?_⟩
   have hpl:p<(oj.f i).length:=by rw [←l1];exact (List.getElem?_eq_some_iff.1 hp).1
   obtain ⟨u,g1,g2,g3⟩:=r2 p _ (List.getElem?_eq_getElem hpl)
   exact ⟨u,g1,g2,(l2 p _ av u (List.getElem?_eq_getElem hpl) hp g3).mono hok (fun _ _=>rfl) (by simp)⟩
  ·obtain ⟨hs,vals,ho,hr⟩:=h.me.obs q ob h2
   refine ⟨hs,vals,ho,fun i hi=>⟨(hr i hi).1,fun p av hp=>?_⟩⟩
   obtain ⟨u,g1,g2,g3⟩:=(hr i hi).2 p av hp
   exact ⟨u,g1,g2,g3.mono hok (fun _ _=>rfl) (by simp)⟩
 ·obtain ⟨o0,h0⟩:=was q ob hq
  obtain ⟨o1,h1⟩:=was q' ob' hq'
  exact h.me.apart q q' o0 o1 h0 h1 hne
theorem Zes {α:Type} {l:List α} {q:Nat} {x:α} (h:l[q]?=some x):l.set q x=l:=by
 refine List.ext_getElem? fun j=>?_
 rw [List.getElem?_set]
 split
 ·rename_i e;subst e;rw [if_pos (List.getElem?_eq_some_iff.1 h).1,h]
 ·rfl
theorem RelH.fill (h:RelH n base w0 hd s a w) {q:Nat} {ob:Ob} (hq:s.mem[q]?=some (some ob)) {b n' c':Nat} (hb:hd q=.slice (some ⟨b,0,none⟩) n' c') (hs:ob.sz=1) {z:Value} (h1:z.oneCell'=true) {cur:Array Value} {ty:TypeId} {fz:Nat×Nat}
  (hg:w.heap[b]?=some (.cells cur ty fz)) (hfr:∀ j,j<cur.size→(decide (fz.1≤j)&&decide (j<fz.2))=false) (hn:ob.n≤cur.size) (lo:Nat):∀ m,lo+m≤ob.n→
  RelH n base w0 hd { s with mem:=s.mem.set q (some { ob with f:=W5 ob.f lo m z }) } a (w.setRow b (cur.toList.take lo++List.replicate m z++cur.toList.drop (lo+m)).toArray)
 |0,_=>by
  have e:({ ob with f:=W5 ob.f lo 0 z }:Ob)=ob:=by
   have:W5 ob.f lo 0 z=ob.f:=funext fun i=>by unfold W5;rw [if_neg (by omega)]
   rw [this]
  rw [e,List.replicate_zero,List.append_nil,Nat.add_zero,List.take_append_drop,Array.toArray_toList,setRow_self w b cur ty fz hg,Zes hq]
  exact h
 |m+1,hm=>by
  have ih:=RelH.fill h hq hb hs h1 hg hfr hn lo m (by omega)
  have hql:=(List.getElem?_eq_some_iff.1 hq).1
  obtain ⟨_,vals,_,hr⟩:=h.me.obs q ob hq
  obtain ⟨w',e1,e2⟩:=ih.store (P:=base.P) (q:=q) (ob:={ ob with f:=W5 ob.f lo m z }) (by simp [hql]) hb (i:=lo+m) (c:=0) (cells:=[.lit z]) (by simp only;omega) (by simp [hs]) (vs:=[z]) rfl (fun j av hj=>by
   cases j with
   |zero=>simp only [List.getElem?_cons_zero,Option.some.injEq] at hj;subst hj;exact ⟨z,rfl,.lit z⟩
   |succ j=>simp at hj) (fun u hu=>by simp only [List.mem_singleton] at hu;rw [hu];exact h1)
  generalize hcur:(cur.toList.take lo++List.replicate m z++cur.toList.drop (lo+m)).toArray=c1 at e1 e2 ih
  have hsz:c1.size=cur.size:=by rw [←hcur];simp;omega
  have hrun:=Xk (P:=base.P) b (lo+m) ty fz [z] 0 c1 (w.setRow b c1) (setRow_heap w b cur c1 ty fz hg) (by rw [hsz];exact hfr) (by simp [hsz];omega) (by simpa using h1)
  simp only [hs,Nat.mul_one,Nat.add_zero] at e1
  rw [e1] at hrun
  simp only [Result.ok.injEq,true_and] at hrun
  rw [setRow_setRow] at hrun
  have hnew:(c1.toList.take (lo+m+0)++[z]++c1.toList.drop (lo+m+0+[z].length)).toArray=(cur.toList.take lo++List.replicate (m+1) z++cur.toList.drop (lo+(m+1))).toArray:=by
   congr 1
   rw [←hcur]
   simp only [List.toList_toArray,Nat.add_zero,List.length_singleton]
   have hA:(cur.toList.take lo++List.replicate m z).length=lo+m:=by simp;omega
   rw [List.take_left' hA,show lo+m+1=(lo+m)+1 from rfl,←List.drop_drop (i:=1) (j:=lo+m),List.drop_left' hA,List.drop_drop,List.replicate_succ']
   simp only [List.append_assoc,Nat.add_assoc]
  rw [hnew] at hrun
  subst hrun
  have hrec:=e2.recell (j:=q) (oj:=upd { ob with f:=W5 ob.f lo m z } (lo+m) 0 [.lit z]) (oj':={ ob with f:=W5 ob.f lo (m+1) z }) (by simp [hql]) rfl rfl rfl (fun i hi=>?_)
  ·simpa using hrec
  have hi':i<ob.n:=hi
  have hl:=(hr i hi').1
  have e:W5 ob.f lo (m+1) z i=(upd { ob with f:=W5 ob.f lo m z } (lo+m) 0 [.lit z]).f i:=by
   have hsp:∀ cs:List AV,cs.length=1→Y5 cs 0 [AV.lit z]=[AV.lit z]:=fun cs hcs=>by
    simp only [Y5,List.take_zero,List.nil_append,List.length_singleton,Nat.zero_add]
    rw [List.drop_eq_nil_of_le (by omega)];rfl
   have hcl:∀ i,i<ob.n→(W5 ob.f lo m z i).length=1:=fun i hi=>by
    unfold W5
    split
    ·rfl
    ·rw [(hr i hi).1,hs]
   show _=(if ob.n=1 then (fun _=>Y5 (W5 ob.f lo m z 0) 0 [AV.lit z]) else fun j=>if j=lo+m then Y5 (W5 ob.f lo m z (lo+m)) 0 [AV.lit z] else W5 ob.f lo m z j) i
   by_cases hone:ob.n=1
   ·rw [if_pos hone,hsp _ (hcl 0 (by omega))]
    unfold W5
    rw [if_pos (by omega)]
   ·rw [if_neg hone]
    show _=if i=lo+m then Y5 (W5 ob.f lo m z (lo+m)) 0 [AV.lit z] else W5 ob.f lo m z i
    by_cases e1:i=lo+m
    ·rw [if_pos e1,hsp _ (hcl _ (by omega))]
     unfold W5
     rw [if_pos (by omega)]
    ·rw [if_neg e1]
     unfold W5
     by_cases e2:lo≤i∧i<lo+m
     ·rw [if_pos e2,if_pos (by omega)]
     ·rw [if_neg e2,if_neg (by omega)]
  show (W5 ob.f lo (m+1) z i).length=_∧∀ (q:Nat) av av' u,_→(W5 ob.f lo (m+1) z i)[q]?=some av'→_
  rw [e]
  exact ⟨rfl,fun q av av' u g1 g2 g3=>by rw [g1] at g2;cases g2;exact g3⟩
theorem Zfk (h:RelH n base w0 hd s a w) {x:Operand} {t:TypeId} {o:Oper} (ho:o.op=.call { callee:=.builtin .clear,args:=#[x],argTypes:=#[t] }) (hv:Zaq P t s k (ev s x)):Ends P n base w0 a ((execOp a.eval o).run P w) k:=by
 have hx:=h.ev_ x
 generalize ev s x=ax at hv hx
 unfold Zaq at hv
 split at hv
 ·rename_i j sz lo m
  split at hv
  ·rename_i e ob hu hj
   obtain ⟨rfl,hsz,hle,z,hz,hzc,h1,hk⟩:=hv
   generalize hax:a.eval x=xv at hx
   cases hx with
   |sub _ _ _ _ A c hkm hc ha=>
    by_cases h0:m=0
    ·subst h0
     have e1:({ ob with f:=W5 ob.f lo 0 z }:Ob)=ob:=by
      have:W5 ob.f lo 0 z=ob.f:=funext fun i=>by unfold W5;rw [if_neg (by omega)]
      rw [this]
     rw [e1,Zes hj] at hk
     refine ⟨.tuple #[],w,.inl ?_,hd,s,.tup [],h,.tup [] [] rfl (fun j a u h=>by simp at h),hk⟩
     unfold execOp;simp only [ho]
     cases A<;>simp [resolve,invoke,builtin,Sem.run_bind,hax,Builtin.clear_,run_underlying hu,Result.andThen]
    ·obtain ⟨b,n',c',hb,rfl,_⟩:=ha (by omega)
     obtain ⟨hs,vals,hown,hr⟩:=h.me.obs j ob hj
     rcases id hown.2 with ⟨e1,_⟩|⟨g,cap,cur,e1,⟨ty,fz,hgg,hM⟩,hnc,hcm,hcs,htake⟩
     ·rw [hb] at e1;simp at e1
     rw [hb] at e1
     simp only [Value.slice.injEq,Option.some.injEq,Addr.mk.injEq,and_true] at e1
     obtain ⟨rfl,rfl,rfl⟩:=e1
     rw [hsz,Nat.mul_one] at hcs
     have hfill:=h.fill hj hb hsz h1 hgg hM.free (by omega) lo m hle
     have hrun:=Xk (P:=P) b lo ty fz (List.replicate m z) 0 cur w hgg hM.free (by simp;omega) (fun v hv=>by rw [List.eq_of_mem_replicate hv];exact h1)
     simp only [Nat.add_zero,List.length_replicate] at hrun
     have hzl:(Builtin.zeroCells z.cells m).toList=List.replicate m z:=by
      rw [hzc]
      simp [Builtin.zeroCells]
      refine List.ext_getElem (by simp) fun i h1 h2=>by simp [Nat.mod_one]
     refine ⟨.tuple #[],_,.inl ?_,hd,_,.tup [],hfill,.tup [] [] rfl (fun j a u h=>by simp at h),hk⟩
     obtain ⟨m',rfl⟩:∃ m',m=m'+1:=⟨m-1,by omega⟩
     unfold execOp;simp only [ho]
     have hzv:=hz w
     simp [resolve,invoke,builtin,Sem.run_bind,hax,Builtin.clear_,run_underlying hu,Result.andThen,hzv,hzl,hrun]
  ·exact hv.elim
 ·exact hv.elim
theorem Zdc (q q':IntKind) (i j:Int) (ts:Array TypeId) (t:TypeId) (w:World):(Builtin.max_ ts t #[.int q i,.int q' j]).run P w=.ok (.int q (if j>i then j else i)) w:=by
 simp [Builtin.max_,Builtin.max2,List.foldlM,Sem.run_bind,Result.andThen]
theorem Zct (h:RelH n base w0 hd s a w) {x y:Operand} {t t':TypeId} {o:Oper} (ho:o.op=.call { callee:=.builtin .max,args:=#[x,y],argTypes:=#[t,t'] })
  (hv:Zjz s k (ev s x) (ev s y)):∃ v av,(∀ w',w.grownBy w' none→(execOp a.eval o).run P w'=.ok (.value v) w')∧Rep w (Zw s.mem hd) hd s.mem.length av v∧k av s:=by
 have hx:=fun v=>YH h (x:=x) (v:=v)
 have hy:=fun v=>YH h (x:=y) (v:=v)
 generalize ev s x=ax at *
 generalize ev s y=ay at *
 unfold Zjz at hv
 split at hv
 ·rename_i q i q' j
  refine ⟨_,_,fun w' hg=>?_,.lit _,hv⟩
  unfold execOp
  simp only [ho]
  simp [resolve,invoke,builtin,Sem.run_bind,hx _ rfl,hy _ rfl,Zdc,Result.andThen]
 ·exact hv.elim
theorem Jg {T:TypeId} (h:Qx P T=some false):∃ d,P.underlying T=some d∧∀ ms,d≠.interface ms:=by
 unfold Qx at h
 split at h
 ·cases h
 ·cases h
 ·rename_i d hn hd
  exact ⟨d,hd,fun ms e=>hn ms e⟩
theorem ZaQ (h:RelH n base w0 hd s a w) {T:TypeId} {x:Operand} {o:Oper} (ho:o.op=.makeInterface T x) (hv:Zhh P T s k (Yb (ev s x))) :
  ∃ v av,(∀ w',w.grownBy w' none→(execOp a.eval o).run P w'=.ok (.value v) w')∧Rep w (Zw s.mem hd) hd s.mem.length av v∧k av s:=by
 have hx:=fun v=>(h.ev_ x).val_ (u:=v)
 generalize Yb (ev s x)=y at *
 cases y with
 |none=>exact hv.elim
 |some v=>
  obtain ⟨h1,h2⟩:=hv
  obtain ⟨d,h3,h4⟩:=Jg h1
  refine ⟨_,_,fun w' _=>?_,.lit _,h2⟩
  unfold execOp
  simp only [ho,hx _ rfl]
  refine ZM ?_
  unfold Instr.makeInterface
  simp only [Sem.run_bind,Ya h3,Result.andThen_ok]
  cases d<;>first|rfl|exact absurd rfl (h4 _)
theorem Gz (h:RelH n base w0 hd s a w):∀ {xs:List Operand} {vs:List Value},Zaa s xs vs→xs.map a.eval=vs
 |[],[],_=>rfl
 |x::r,v::q,hc=>by
  simp only [List.map_cons]
  rw [Gz h hc.2]
  congr 1
  rcases hc.1 with e|⟨t,N,vs,as',i,kk,sz,p,q',e1,hi,e2,e3,e4⟩
  ·exact YH h e
  ·have h1:=h.tm t
   rw [e1] at h1
   generalize a.tmps.getD t undef=u0 at h1
   have h2:=h.ev_ x
   rw [e4] at h2
   cases h1 with
   |fam _ _ _ _ hf=>
    have h3:=hf i hi
    rw [e2,e3] at h3
    generalize a.eval x=u at h2
    cases h2 with
    |ptr _ _ _ _ b n' c' _ hh=>
     cases h3 with
     |ptr _ _ _ _ b2 n2 c2 _ hh2=>
      rw [hh] at hh2
      simp at hh2
      rw [hh2.1]
 |[],_::_,hc=>hc.elim
 | _::_,[],hc=>hc.elim
theorem QY (h:RelH n base w0 hd s a w) {fn:Fn} {first caps:Array Operand} {o:Oper} (ho:o.op=.makeFunc fn first caps) (hv:ZcU s k fn first.toList caps.toList) :
  ∃ v av,(∀ w',(execOp a.eval o).run P w'=.ok (.value v) w')∧Rep w (Zw s.mem hd) hd s.mem.length av v∧k av s:=by
 obtain ⟨h0,vs,hc,hk⟩:=hv
 refine ⟨.func fn #[] vs.toArray,_,fun w'=>?_,.lit _,hk⟩
 have e1:first.map a.eval=#[]:=by
  have:first=#[]:=Array.toList_inj.1 h0
  rw [this];simp
 have e2:caps.map a.eval=vs.toArray:=by
  apply Array.ext'
  rw [Array.toList_map,Gz h hc]
 unfold execOp
 simp only [ho,e1,e2]
 rfl
theorem Hl (h:RelH n base w0 hd s a w) {T T':TypeId} {x:Operand} {o:Oper} (ho:o.op=.typeAssert x T' T true) (hv:Zc3 P T s k (ev s x)) :
  ∃ v av,(∀ w',w.grownBy w' none→(execOp a.eval o).run P w'=.ok (.value v) w')∧Rep w (Zw s.mem hd) hd s.mem.length av v∧k av s:=by
 have hx:=fun v=>YH h (x:=x) (v:=v)
 generalize ev s x=ax at *
 unfold Zc3 at hv
 split at hv
 ·rename_i t v
  obtain ⟨h1,h2,h3⟩:=hv
  obtain ⟨d,h4,h5⟩:=Jg h1
  have pair:∀ (u z:Value),Rep w (Zw s.mem hd) hd s.mem.length (.tup [.lit u,.lit z]) (.tuple #[u,z]):=fun u z=>.tup _ [u,z] rfl fun j a q g1 g2=>by
   rcases j with _ | _|j
   ·simp at g1 g2;subst g1;subst g2;exact .lit _
   ·simp at g1 g2;subst g1;subst g2;exact .lit _
   ·simp at g1
  by_cases e:t=T
  ·refine ⟨.tuple #[v,.bool true],_,fun w' _=>?_,pair _ _,h2 e⟩
   unfold execOp
   simp only [ho,hx _ rfl]
   refine ZM ?_
   unfold Instr.typeAssert
   simp only [Sem.run_bind,Ya h4,Result.andThen_ok,e]
   cases d<;>first|exact absurd rfl (h5 _)|simp [Sem.run_pure]
  ·obtain ⟨z,hz,hk⟩:=h3 e
   refine ⟨.tuple #[z,.bool false],_,fun w' _=>?_,pair _ _,hk⟩
   unfold execOp
   simp only [ho,hx _ rfl]
   refine ZM ?_
   unfold Instr.typeAssert
   simp only [Sem.run_bind,Ya h4,Result.andThen_ok]
   cases d<;>first|exact absurd rfl (h5 _)|simp [e,Sem.run_bind,hz w',Result.andThen]
 ·exact hv.elim
theorem Zax (z:ByteArray):Lib.strCells z=(List.range (z.size*1)).map fun p=>Value.int .u8 (Ze z (p/1)):=by
 refine List.ext_getElem (by simp [Lib.strCells_length]) fun i h1 h2=>?_
 have hi:i<z.size:=by rw [Lib.strCells_length] at h1;exact h1
 simp only [Lib.strCells,List.getElem_map,List.getElem_range,Nat.div_one,Ze,dif_pos hi]
 rfl
theorem ZdW {t u ty e:TypeId} {i:TypeInfo} (ht:P.underlying t=some (.slice e)) (hu:P.underlying u=some .string) (hi:P.info? e=some i) (hz:i.zero=some (.int .u8 0)) (hsize:i.size=1) (hby:i.bytes=1)
  {v v':Value} {w':World} {n B:Nat} {xs:List Value} (hown:w.ownsRow B e 1 v n xs) {z:ByteArray} (h63:n+z.size≤140737488355328) (hr:(Builtin.append_ #[t,u] ty #[v,.string z]).run P w=.ok v' w') (hnil:v'=.slice none 0 0↔v=.slice none 0 0∧z.size=0) :
  v'.ownBlock=v.ownBlock∨v'.ownBlock=some w.heap.size:=by
 rcases hown.2 with ⟨rfl,rfl⟩|⟨g,cap,cur,rfl,_,hg,hnc,hcm,hcs,htake⟩
 ·by_cases h0:z.size=0
  ·rw [hnil.2 ⟨rfl,h0⟩];exact .inl rfl
  ·have h:=run_append_nil_string (P:=P) w t u ty e i (.int .u8 0) ht hu hi hz z (by omega) (by omega) (by rw [hby];omega)
   rw [hr] at h
   cases h
   exact .inr rfl
 ·by_cases hroom:n+z.size≤cap
  ·have h:=Lib.run_append_room_string (P:=P) w t u ty e i ht hu hi hsize g n cap cur hg z hroom (by omega)
   rw [hr] at h
   cases h
   exact .inl rfl
  ·have hxl:xs.length=n:=by simpa using hown.1
   have holds:∀ j u,xs[j]?=some u→w.cell? ((⟨g,0,none⟩:Addr).add j)=some u:=hown.cells (g:=g) rfl
   have h:=Lib.run_append_grow_string (P:=P) w t u ty e i (.int .u8 0) ht hu hi hz ⟨g,0,none⟩ n cap xs (by rw [hsize];simpa using hxl) holds z (by omega) (by omega) (by rw [hby];exact growslice_fits (by omega) (by omega))
   rw [hr] at h
   cases h
   exact .inr rfl
theorem Zg7 (h:RelH n base w0 hd s a w) {x y:Operand} {t t':TypeId} {z:ByteArray} {o:Oper} (ho:o.op=.call { callee:=.builtin .append,args:=#[x,y],argTypes:=#[t,t'] }) (hy:ev s y=.lit (.string z))
  (hv:Zhn P x z t t' s k):Ends P n base w0 a ((execOp a.eval o).run P w) k:=by
 unfold Zhn at hv
 split at hv
 ·rename_i e ht hu
  obtain ⟨hinfo,htag,mem,N,f,hox,hby,hk⟩:=hv
  obtain ⟨ti,hi1,hi2,hi3,hi4⟩:=Xj hinfo
  obtain ⟨vals,hown,hml,hlive,hokx,halw,hf⟩:=Zcq h (by omega) hox
  have ey:=YH h hy
  obtain ⟨v',w',g1,g2,g3,g4⟩:=Lib.run_append_own_string (P:=P) w 0 t t' o.type e ti ht hu hi1 hi2 hi3 hi4 (a.eval x) N vals (hown.row htag) z (by simp only [maxLen];omega) hby (Nat.zero_le _)
  have g5:=ZdW ht hu hi1 hi2 hi3 hi4 (hown.row htag) hby g1 g4
  have hrun:(execOp a.eval o).run P w=.ok (.value v') w':=by
   unfold execOp;simp only [ho];simp [resolve,invoke,builtin,Sem.run_bind,ey,g1,Result.andThen]
  rw [Zax] at g2
  refine ZfO (u:=fun i _=>.int .u8 (Ze z i)) h (by omega) hown hml hlive hokx halw hf (fun i hi=>⟨rfl,fun j av hj=>?_⟩) hrun (Owns.of_row g2) g3 g5 hk
  unfold Yd at hj
  cases j with
  |zero=>
   simp only [List.getElem?_cons_zero,Option.some.injEq] at hj
   subst hj
   exact ⟨.lit _,rfl⟩
  |succ j=>simp at hj
 ·exact hv.elim
theorem Zg6 (h:RelH n base w0 hd s a w) {x y:Operand} {t t':TypeId} {o:Oper} (ho:o.op=.call { callee:=.builtin .append,args:=#[x,y],argTypes:=#[t,t'] }) {j sz lo m:Nat} (hx:ev s x=.sub j sz lo m)
  (hv:Zef P y t t' s k j sz lo m):Ends P n base w0 a ((execOp a.eval o).run P w) k:=by
 unfold Zef at hv
 obtain ⟨rfl,hv⟩:=hv
 have hrun:(execOp a.eval o).run P w=((do pure (Next.value (←Builtin.append_ #[t,t] o.type #[a.eval x,a.eval y])):Sem Next)).run P w:=by
  unfold execOp;simp only [ho];simp [resolve,invoke,builtin,Sem.run_bind]
 split at hv
 ·rename_i e ht
  split at hv
  ·rename_i z sz' by_ ob M g hinfo hob hcy
   obtain ⟨hz,hsz,rfl,hty,hosz,hlm,hM,hone,hmax,hby,hkA,hkB⟩:=hv
   obtain ⟨ti,hi1,hi2,hi3,hi4⟩:=Xj hinfo
   obtain ⟨hs0,vals,hown,hr⟩:=h.me.obs j ob hob
   obtain ⟨A2,c2,u,hy,hmc,hcell,hg0⟩:=Zay h hcy
   obtain ⟨ad,hA2,hcs⟩:=hcell hM
   subst hA2
   have hg:∀ i,i<M→(g i).length=sz'∧∀ (q:Nat) av,(g i)[q]?=some av→Rep w (Zw s.mem hd) hd s.mem.length av (u i q)∧(u i q).oneCell'=true:=fun i hi=>⟨(hg0 i hi).1,fun q av hq=>⟨((hg0 i hi).2 q av hq).1,((hg0 i hi).2 q av hq).2 (List.all_eq_true.1 (hone i hi) av (List.mem_of_getElem? hq))⟩⟩
   have hxv:=h.ev_ x
   rw [hx] at hxv
   generalize hax:a.eval x=xv at hxv
   obtain ⟨news,hnw⟩:∃ news,news=(List.range (M*sz')).map (fun p=>u (p/sz') (p%sz')):=⟨_,rfl⟩
   have hl:news.length=M*sz':=by rw [hnw];simp
   have hnews:∀ q v,news[q]?=some v→w.cell? (ad.add q)=some v:=fun q v hq=>by
    rw [hnw] at hq
    simp only [List.getElem?_map,Option.map_eq_some_iff] at hq
    obtain ⟨p,hp,rfl⟩:=hq
    have hjl:q<M*sz':=by
     have:=(List.getElem?_eq_some_iff.1 hp).1
     simpa using this
    rw [List.getElem?_range hjl] at hp
    simp only [Option.some.injEq] at hp
    subst hp
    have:=hcs (q/sz') (q%sz') (by rw [Nat.div_lt_iff_lt_mul hsz];exact hjl) (Nat.mod_lt _ hsz)
    rw [show q/sz'*sz'+q%sz'=q by rw [Nat.mul_comm];exact Nat.div_add_mod q sz'] at this
    exact this
   have h1:∀ v∈news,v.oneCell'=true:=fun v hv'=>by
    rw [hnw] at hv'
    simp only [List.mem_map,List.mem_range] at hv'
    obtain ⟨p,hp,rfl⟩:=hv'
    have hi':p/sz'<M:=by rw [Nat.div_lt_iff_lt_mul hsz];exact hp
    have hgl:=(hg _ hi').1
    exact ((hg _ hi').2 (p%sz') _ (List.getElem?_eq_getElem (by rw [hgl];exact Nat.mod_lt _ hsz))).2
   have hjl:j<s.mem.length:=(List.getElem?_eq_some_iff.1 hob).1
   have hml:(s.mem.set j none).length=s.mem.length:=by simp
   have hfree:∀ q ob',(s.mem.set j none)[q]?=some (some ob')→s.mem[q]?=some (some ob')∧j≠q:=fun q ob' hq=>by
    by_cases e:j=q
    ·subst e;rw [List.getElem?_set_self hjl] at hq;simp at hq
    ·rw [List.getElem?_set_ne e] at hq;exact ⟨hq,e⟩
   obtain ⟨ety,esz,en,ef⟩:=ob
   simp only at hty hosz hlm hmax hby hkA hkB hown hr
   subst hty
   subst hosz
   cases hxv with
   |sub _ _ _ _ A c hk hc ha=>
    by_cases hroom:m+M≤c
    ·obtain ⟨b,n',c',hb,rfl,hle⟩:=ha (by omega)
     rcases id hown.2 with ⟨e1,_⟩|⟨gb,cap,cur,e1,⟨t2,fz,hgg,hMk⟩,hnc,hcm,hcs2,htake⟩
     ·rw [hb] at e1;simp at e1
     rw [hb] at e1
     simp only [Value.slice.injEq,Option.some.injEq,Addr.mk.injEq,and_true] at e1
     obtain ⟨rfl,rfl,rfl⟩:=e1
     have hroom2:n'+M≤c':=by omega
     have hfit:n'*esz+news.length≤cur.size:=by rw [hl,hcs2,←Nat.add_mul];exact Nat.mul_le_mul_right _ hroom2
     have hf:=run_firstCells_some (P:=P) w esz M ad M c2 news hl hnews
     have hst:=Xk (P:=P) b (n'*esz) t2 fz news 0 cur w hgg hMk.free (by simpa using hfit) h1
     simp only [Nat.add_zero] at hst
     have hadd:(⟨b,lo*esz,none⟩:Addr).add (m*esz)=⟨b,n'*esz,none⟩:=by
      rw [←hlm,Nat.add_mul]
      unfold Addr.add;split
      ·rename_i h3;rw [h3,Nat.add_zero]
      ·rfl
     have hrr:(Builtin.append_ #[t,t] o.type #[.slice (some ⟨b,lo*esz,none⟩) m c,.slice (some ad) M c2]).run P w=
       .ok (.slice (some ⟨b,lo*esz,none⟩) (m+M) c) (w.setRow b (cur.toList.take (n'*esz)++news++cur.toList.drop (n'*esz+news.length)).toArray):=by
      simp [Builtin.append_,run_underlying ht,sizeOf,typeInfo,hi1,hi3,Builtin.lenOf,hroom,hf,hadd,hst]
     have hns:(cur.toList.take (n'*esz)++news++cur.toList.drop (n'*esz+news.length)).toArray.size=cur.size:=by
      simp only [List.size_toArray,List.length_append,List.length_take,List.length_drop,Array.length_toList]
      omega
     have hlen:(vals++news).length=(n'+M)*esz:=by rw [List.length_append,hown.1,hl,Nat.add_mul]
     have hown2:Owns (w.setRow b (cur.toList.take (n'*esz)++news++cur.toList.drop (n'*esz+news.length)).toArray) ety esz (.slice (some ⟨b,0,none⟩) (n'+M) c') (n'+M) (vals++news):=by
      refine ⟨hlen,.inr ⟨b,c',_,rfl,⟨t2,fz,setRow_heap w b cur _ t2 fz hgg,by rw [hns];exact hMk⟩,hroom2,hcm,?_,?_⟩⟩
      ·rw [hns];exact hcs2
      ·rw [htake,←hlen]
       exact List.take_left
     have hgr:w.grownBy (w.setRow b (cur.toList.take (n'*esz)++news++cur.toList.drop (n'*esz+news.length)).toArray) (some b):=JG w b _
     have hbl:(hd j).ownBlock=some b:=by rw [hb];rfl
     rw [hnw] at hown2 hrr hgr
     refine H1 h hsz hown.1 hml (row:=some b) (fun q ob' hq=>?_) (fun b' hb' e=>?_) (fun b' e=>?_) hr hg (by rw [hrun,hax,hy];exact ZM hrr) (h.mp.grownRow hown (by rw [hbl];exact hgr)) (fun ok hd' mm e hm=>?_) hown2 hgr (.inl rfl) hkA
     ·obtain ⟨g1,g2⟩:=hfree q ob' hq
      refine ⟨g1,?_⟩
      rw [←hbl]
      exact h.me.apart q j ob' _ g1 hob (fun e=>g2 e.symm)
     ·exact hb'.1 j _ hob (by rw [hbl];exact e)
     ·exact h.me.alw j _ hob b' (by rw [hbl];exact e)
     ·refine .sub _ _ _ _ _ _ hm (by omega) fun _=>⟨b,n'+M,c',e,rfl,hle⟩
    ·-- a new row
     have hlive:∀ q ob',(s.mem.set j none)[q]?=some (some ob')→s.mem[q]?=some (some ob')∧((hd q).ownBlock=none∨(hd q).ownBlock≠none):=fun q ob' hq=>⟨(hfree q ob' hq).1,by cases (hd q).ownBlock<;>simp⟩
     have hvl:(vals.drop (lo*esz)).length=m*esz:=by
      rw [List.length_drop,hown.1,←hlm,Nat.add_mul,Nat.add_sub_cancel_left]
     have hf:∀ i,i<m→(ef (lo+i)).length=esz∧∀ (q:Nat) av,(ef (lo+i))[q]?=some av→∃ u,(vals.drop (lo*esz))[i*esz+q]?=some u∧u.oneCell'=true∧Rep w (Zw s.mem hd) hd s.mem.length av u:=fun i hi=>by
      obtain ⟨q1,q2⟩:=hr (lo+i) (by omega)
      refine ⟨q1,fun q av hq=>?_⟩
      obtain ⟨u,g1,g2,g3⟩:=q2 q av hq
      refine ⟨u,?_,g2,g3⟩
      rw [List.getElem?_drop,←g1]
      congr 1
      rw [Nat.add_mul];omega
     have hrow:∃ v' w',(Builtin.append_ #[t,t] o.type #[.slice A m c,.slice (some ad) M c2]).run P w=.ok v' w'∧Owns w' ety esz v' (m+M) (vals.drop (lo*esz)++news)∧w.grownBy w' none∧v'.ownBlock=some w.heap.size:=by
      have grow:∀ ad0:Addr,A=some ad0→(∀ q v,(vals.drop (lo*esz))[q]?=some v→w.cell? (ad0.add q)=some v)→∃ v' w',(Builtin.append_ #[t,t] o.type #[.slice A m c,.slice (some ad) M c2]).run P w=.ok v' w'∧Owns w' ety esz v' (m+M) (vals.drop (lo*esz)++news)∧w.grownBy w' none∧v'.ownBlock=some w.heap.size:=fun ad0 eA holds=>by
       subst eA
       subst hi3
       subst hi4
       have hby2:(m+M)*ti.bytes≤140737488355328:=Nat.le_trans (Nat.mul_le_mul_right _ (by omega)) hby
       have hge:=grownCap_ge w (m+M) c ety
       have hcm2:grownCap w (m+M) c ety≤maxLen:=grownCap_le_maxLen w (m+M) c ety (by simp only [maxLen];omega)
       have hr2:=run_append_grow (P:=P) w t o.type ety ti z ht hi1 hi2 ad0 m c (vals.drop (lo*ti.size)) hvl holds ad M c2 news hl hnews (by omega) (by omega) (growslice_fits (by omega) (by omega))
       have hlen:(vals.drop (lo*ti.size)++news).length=(m+M)*ti.size:=by rw [List.length_append,hvl,hl,Nat.add_mul]
       refine ⟨_,_,hr2,Owns.of_row (B:=0) ⟨hlen,.inr ⟨w.heap.size,_,_,rfl,Nat.zero_le _,heap_alloc_new w.drew _,hge,hcm2,?_,?_⟩⟩,⟨rfl,rfl,rfl,by simp,fun k hk _=>heap_alloc_old w.drew _ hk⟩,rfl⟩
       ·simp only [Array.size_append,List.size_toArray,size_zeroCells,hz,hvl,hl,←Nat.add_mul]
        congr 1
        omega
       ·simp only [Array.toList_append,List.append_assoc]
        rw [←List.append_assoc,←hlen]
        exact List.take_left
      by_cases hc0:0<c
      ·obtain ⟨b,n',c',hb,eA,hle⟩:=ha hc0
       rcases id hown.2 with ⟨e1,_⟩|⟨gb,cap,cur,e1,_⟩
       ·rw [hb] at e1;simp at e1
       refine grow _ eA fun q v hq=>?_
       have hq2:vals[lo*esz+q]?=some v:=by rw [←List.getElem?_drop];exact hq
       have hown':=hown
       rw [hb] at e1
       rw [hb,show n'=en by simp at e1;exact e1.2.1] at hown'
       have hlt:lo*esz+q<en*esz:=by rw [←hown.1];exact (List.getElem?_eq_some_iff.1 hq2).1
       have e3:(⟨b,lo*esz,none⟩:Addr).add q=⟨b,lo*esz+q,none⟩:=by
        unfold Addr.add;split
        ·rename_i h3;rw [h3,Nat.add_zero]
        ·rfl
       rw [e3,hown'.cellAt _ hlt];exact hq2
      ·have hm0:m=0:=by omega
       subst hm0
       have hnil:vals.drop (lo*esz)=[]:=List.eq_nil_of_length_eq_zero (by rw [hvl];omega)
       match A,grow with
       |some ad0,grow=>exact grow ad0 rfl fun q v hq=>by rw [hnil] at hq;simp at hq
       |none,_=>
        have hc0':c=0:=by omega
        subst hc0'
        obtain ⟨v',w',g1,g2,g3,g4,g5⟩:=JJ (P:=P) w t o.type ety ety (.inl rfl) ti z esz by_ ht hi1 hi2 hi3 hi4 hz hsz (.slice none 0 0) 0 [] ⟨by simp,.inl ⟨rfl,rfl⟩⟩ ad M c2 news hl hnews h1 (by simp only [maxLen];omega) (Nat.le_trans (Nat.mul_le_mul_right _ (by omega)) hby)
        rw [hnil]
        refine ⟨v',w',g1,g2,by simpa [Value.ownBlock] using g3,?_⟩
        rcases g5 with g5|g5
        ·have:v'.ownBlock=none:=g5
         rcases g2.2 with ⟨_,h0⟩|⟨gq,cap,cur,e1,_⟩
         ·omega
         ·rw [e1] at this;cases this
        ·exact g5
     obtain ⟨v',w',g1,g2,g3,g5⟩:=hrow
     rw [hnw] at g2
     have hform:∃ cap,v'=.slice (some ⟨w.heap.size,0,none⟩) (m+M) cap∧m+M≤cap:=by
      rcases g2.2 with ⟨_,h0⟩|⟨gq,cap,cur,e1,_,e2,_⟩
      ·omega
      ·rw [e1] at g5
       simp only [Value.ownBlock,Option.some.injEq] at g5
       subst g5
       exact ⟨cap,e1,e2⟩
     obtain ⟨cap,hform,hcap⟩:=hform
     refine H1 h hsz hvl hml (row:=none) hlive (fun b' _ e=>by cases e) (fun b' e=>by cases e) hf hg (by rw [hrun,hax,hy];exact ZM g1) (h.mp.grown g3 (fun b' mp e _=>by cases e)) (fun ok hd' mm e hm=>?_) g2 g3 (.inr g5) hkB
     rw [hform]
     exact .sub _ _ _ _ _ _ hm hcap fun _=>⟨w.heap.size,m+M,cap,by rw [e,hform],by simp,by omega⟩
  ·exact hv.elim
 ·exact hv.elim
theorem QG {b:BinOp} {T:TypeId} {x y:Operand} {p q:Option Addr}:(eqGuard b T x y (.pointer p) (.pointer q)).run P w=.ok () w:=by
 unfold eqGuard
 split<;>rfl
theorem ZeH {t:TypeId} (h:ZdD P t=true):∃ e ti,P.underlying t=some (.pointer e)∧P.info? e=some ti:=by
 unfold ZdD at h
 split at h
 ·rename_i e he
  obtain ⟨⟨z,q,by_⟩,hz⟩:=Option.isSome_iff_exists.1 h
  obtain ⟨ti,h1,_⟩:=Xj hz
  exact ⟨e,ti,he,h1⟩
 ·cases h
theorem Zez {T e:TypeId} (hp:P.underlying T=some (.pointer e)) (ad:Addr):(binOp .eql T (.pointer (some ad)) (.pointer none)).run P w=.ok (.bool false) w:=by
 have h:∀ d:Nat,(Op.equalIn (d+1) T (.pointer (some ad)) (.pointer none)).run P w=.ok false w:=fun d=>by
  simp [Op.equalIn,run_underlying hp]
 simp only [binOp]
 simp [Op.equal,Op.maxDepth,h 9999]
theorem Zex {T e:TypeId} (hp:P.underlying T=some (.pointer e)) (ad:Addr):(binOp .neq T (.pointer (some ad)) (.pointer none)).run P w=.ok (.bool true) w:=by
 have h:∀ d:Nat,(Op.equalIn (d+1) T (.pointer (some ad)) (.pointer none)).run P w=.ok false w:=fun d=>by
  simp [Op.equalIn,run_underlying hp]
 simp only [binOp]
 simp [Op.equal,Op.maxDepth,h 9999]
theorem Hy (h:RelH n base w0 hd s a w) {x:Operand} {k0 sz i j:Nat} (e:ev s x=.ptr k0 sz i j):∃ b n' c',hd k0=.slice (some ⟨b,0,none⟩) n' c'∧a.eval x=.pointer (some ⟨b,i*sz+j,none⟩):=by
 have hx:=h.ev_ x
 rw [e] at hx
 generalize a.eval x=v at hx
 cases hx with
 |ptr _ _ _ _ b n' c' hk hh=>exact ⟨b,n',c',hh,rfl⟩
theorem Gc (h:RelH n base w0 hd s a w) {b:BinOp} {T T2:TypeId} {x y:Operand} {o:Oper} (ho:o.op=.binOp b T x y T2) {sz m:Nat} {f:Nat→List AV} (ex:ev s x=.sl sz m f) (hv:Zae P b T s k m (ev s y)) :
  ∃ v av,(∀ w',w.grownBy w' none→(execOp a.eval o).run P w'=.ok (.value v) w')∧Rep w (Zw s.mem hd) hd s.mem.length av v∧k av s:=by
 have hx:=h.ev_ x
 rw [ex] at hx
 have hy:=fun v=>YH h (x:=y) (v:=v)
 generalize ev s y=ay at hv hy
 unfold Zae at hv
 split at hv
 ·obtain ⟨hT,hv⟩:=hv
  have hy:=hy _ rfl
  unfold Zmm at hT
  split at hT
  ·rename_i e hu
   generalize hax:a.eval x=xv at hx
   cases hx with
   |sl _ _ _ A c u hc hm hsz hl ha hr=>
    have hr:=hv A.isNone (fun hp=>by obtain ⟨ad,rfl,_⟩:=ha hp;rfl)
    have heq:∀ w',(binOp .eql T (.slice A m c) (.slice none 0 0)).run P w'=.ok (.bool A.isNone) w':=fun w'=>by
     have h:∀ d:Nat,(Op.equalIn (d+1) T (.slice A m c) (.slice none 0 0)).run P w'=.ok A.isNone w':=fun d=>by
      cases A<;>simp [Op.equalIn,run_underlying hu]
     simp only [binOp]
     simp [Op.equal,Op.maxDepth,h 9999]
    have hne:∀ w',(binOp .neq T (.slice A m c) (.slice none 0 0)).run P w'=.ok (.bool !A.isNone) w':=fun w'=>by
     have h:∀ d:Nat,(Op.equalIn (d+1) T (.slice A m c) (.slice none 0 0)).run P w'=.ok A.isNone w':=fun d=>by
      cases A<;>simp [Op.equalIn,run_underlying hu]
     simp only [binOp]
     simp [Op.equal,Op.maxDepth,h 9999]
    have hgd:∀ (b:BinOp) w',(eqGuard b T x y (.slice A m c) (.slice none 0 0)).run P w'=.ok () w':=fun b w'=>by
     unfold eqGuard
     split<;>rfl
    unfold Zb2 at hr
    split at hr
    ·refine ⟨.bool A.isNone,_,fun w' hg=>?_,.lit _,hr⟩
     unfold execOp
     simp only [ho,hax,hy]
     refine ZM ?_
     simp only [Sem.run_bind,hgd,Result.andThen_ok,heq]
    ·refine ⟨.bool !A.isNone,_,fun w' hg=>?_,.lit _,hr⟩
     unfold execOp
     simp only [ho,hax,hy]
     refine ZM ?_
     simp only [Sem.run_bind,hgd,Result.andThen_ok,hne]
    ·exact hr.elim
  ·cases hT
 ·exact hv.elim
theorem Zcn (h:RelH n base w0 hd s a w) {b:BinOp} {T T2:TypeId} {x y:Operand} {o:Oper} (ho:o.op=.binOp b T x y T2) {k0 sz i j:Nat} (ex:ev s x=.ptr k0 sz i j) (hv:Zjv P b T s k k0 sz i j (ev s y)) :
  ∃ v av,(∀ w',w.grownBy w' none→(execOp a.eval o).run P w'=.ok (.value v) w')∧Rep w (Zw s.mem hd) hd s.mem.length av v∧k av s:=by
 obtain ⟨bl,n',c',hh,hx⟩:=Hy h ex
 have hpres:∀ r:Bool,(∀ w',(binOp .eql T (a.eval x) (a.eval y)).run P w'=.ok (.bool r) w')→(∀ w',(binOp .neq T (a.eval x) (a.eval y)).run P w'=.ok (.bool !r) w')→(∃ p,a.eval y=.pointer p)→Zb2 b r s k→
   ∃ v av,(∀ w',w.grownBy w' none→(execOp a.eval o).run P w'=.ok (.value v) w')∧Rep w (Zw s.mem hd) hd s.mem.length av v∧k av s:=by
  intro r h1 h2 ⟨p,hy⟩ hp
  unfold Zb2 at hp
  split at hp
  ·refine ⟨.bool r,_,fun w' hg=>?_,.lit _,hp⟩
   unfold execOp;simp only [ho]
   have:=h1 w'
   rw [hx,hy] at this ⊢
   simp [Sem.run_bind,QG,this,Result.andThen]
  ·refine ⟨.bool !r,_,fun w' hg=>?_,.lit _,hp⟩
   unfold execOp;simp only [ho]
   have:=h2 w'
   rw [hx,hy] at this ⊢
   simp [Sem.run_bind,QG,this,Result.andThen]
  ·exact hp.elim
 unfold Zjv at hv
 split at hv
 ·rename_i ey
  have hy:=YH h ey
  obtain ⟨e,ti,hp,hti⟩:=ZeH hv.1
  refine hpres false (fun w'=>?_) (fun w'=>?_) ⟨_,hy⟩ hv.2
  ·rw [hx,hy];exact Zez hp _
  ·rw [hx,hy];exact Zex hp _
 ·rename_i k1 sz1 i1 j1 ey
  obtain ⟨rfl,hij,hpt,hres⟩:=hv
  obtain ⟨bl2,n2,c2,hh2,hy⟩:=Hy h ey
  rw [hh] at hh2
  cases hh2
  obtain ⟨e,ti,hp,hti⟩:=ZeH hpt
  rw [hij] at hy
  refine hpres true (fun w'=>?_) (fun w'=>?_) ⟨_,hy⟩ hres
  ·rw [hx,hy];exact run_eql_ptr_same w' _ hp hti
  ·rw [hx,hy];exact Lib.run_neq_ptr_same w' _ hp hti
 ·exact hv.elim
theorem ZiG {T:TypeId} {count i:Nat} (hd:0<P.depth) (hc:0<P.cellsOf T) (hi:i<count):liesAt P P.depth T count (i*P.cellsOf T) T 1=true:=by
 obtain ⟨d,hd⟩:∃ d,P.depth=d+1:=⟨P.depth-1,by omega⟩
 unfold liesAt
 rw [hd]
 simp only [Bool.or_eq_true]
 left
 unfold rowAt
 have h1:P.cellsOf T≠0:=by omega
 have h2:i*P.cellsOf T/P.cellsOf T=i:=Nat.mul_div_cancel _ hc
 have h3:i*P.cellsOf T%P.cellsOf T=0:=Nat.mul_mod_left _ _
 have h4:sameLayout P (d+1) T T=true:=by unfold sameLayout;simp
 simp only [if_neg h1,h2,h3]
 simp [h4,show i+1≤count by omega]
theorem ZeJ (h:RelH n base w0 hd s a w) {t1 t2:TypeId} {x:Operand} {o:Oper} (ho:o.op=.convert t1 t2 x) {k0 sz i j:Nat} (ex:ev s x=.ptr k0 sz i j) (hv:KV P t1 t2 s k k0 sz i j) :
  Ends P n base w0 a ((execOp a.eval o).run P w) k:=by
 obtain ⟨bl,n',c',hh,hx⟩:=Hy h ex
 have hrep:=h.ev_ x
 unfold KV at hv
 split at hv
 ·rename_i ob hob
  obtain ⟨rfl,htag,hi,hj,hv⟩:=hv
  obtain ⟨hsz,vals,hown,_⟩:=h.me.obs k0 ob hob
  rw [hh] at hown
  rcases (hown.row htag).2 with ⟨e,_⟩|⟨g,cap,cur,e,_,hg,hnc,hcm,hcs,_⟩
  ·cases e
  cases e
  have hsh:w.shape? bl=some (ob.ty,c'*ob.sz):=by simp [World.shape?,hg,hcs]
  have hlt:i*ob.sz+j<c'*ob.sz:=by
   have:(i+1)*ob.sz≤c'*ob.sz:=Nat.mul_le_mul_right _ (by omega)
   rw [Nat.add_mul] at this;omega
  split at hv
  ·rename_i t hu1 hu2
   obtain ⟨⟨z,q,by_,hz,hq⟩,hk⟩:=hv
   obtain ⟨ti,hi1,hi2,hi3,hi4⟩:=Xj hz
   refine Ends.same h (v:=a.eval x) (by rw [ex] at hrep;exact hrep) hk ?_
   unfold execOp;simp only [ho]
   refine ZM ?_
   rw [hx]
   exact Lib.run_to_unsafe w ⟨bl,i*ob.sz+j,none⟩ hu1 hu2 hi1 (by omega) hsh hlt
  ·rename_i t hu1 hu2
   obtain ⟨rfl,rfl,hdep,hcell,hinf,hk⟩:=hv
   obtain ⟨⟨z,q,by_⟩,hz⟩:=Option.isSome_iff_exists.1 hinf
   obtain ⟨ti,hi1,hi2,hi3,hi4⟩:=Xj hz
   refine Ends.same h (v:=a.eval x) (by rw [ex] at hrep;exact hrep) hk ?_
   unfold execOp;simp only [ho]
   refine ZM ?_
   rw [hx]
   refine Lib.run_from_unsafe w ⟨bl,i*ob.sz+0,none⟩ hu1 hu2 hi1 hsh ?_
   have:=ZiG (P:=P) (T:=ob.ty) (count:=c') (i:=i) hdep (by omega) (by omega)
   rw [hcell] at this ⊢
   rw [Nat.mul_div_cancel _ hsz]
   exact this
  ·exact hv.elim
 ·exact hv.elim
end
end Go.Proofs.YtadghlfkddkelaaGreatDoor.V
namespace Go.Proofs.YtadghlfkddkelaaGreatDoor.V
open Go.RowKit
open Go.Maps (Keyed)
theorem HJ {P:Program} {w:World} {G:World→Prop} {ok:Nat→Prop} {hd:Nat→Value} {m:Nat} {T:TypeId} {cs:List AV} {c:Nat} {k:AV→Prop} (h:rd P T cs c k) (ad:Addr)
  (hc:∀ (j:Nat) a,cs[j]?=some a→∃ u,(∀ w',G w'→w'.cell? (ad.add j)=some u)∧Rep w ok hd m a u):∃ v av,(∀ w',G w'→(loadVar T (ad.add c)).run P w'=.ok v w')∧Rep w ok hd m av v∧k av:=by
 unfold rd at h
 have add2:∀ j,(ad.add c).add j=ad.add (c+j):=by
  intro j
  unfold Addr.add
  by_cases h1:c=0<;>by_cases h2:j=0<;>simp [h1,h2];omega
 split at h
 ·rename_i h1
  obtain ⟨hl,hk⟩:=h
  obtain ⟨u,hu,hr⟩:=hc c cs[c] (by simp [hl])
  refine ⟨u,_,?_,?_,hk⟩
  ·intro w' hw
   unfold loadVar
   simp only [Sem.run_bind,VK h1,Result.andThen_ok,Bool.false_eq_true,if_false]
   simp [load,Sem.run,hu w' hw]
  ·rw [List.getD_eq_getElem?_getD,List.getElem?_eq_getElem hl];exact hr
 ·rename_i n h1 h2
  obtain ⟨hl,hk⟩:=h
  have hf:∀ j:Nat,∃ u,j<n→(∀ w',G w'→w'.cell? ((ad.add c).add j)=some u)∧∀ a,cs[c+j]?=some a→Rep w ok hd m a u:=by
   intro j
   by_cases hj:j<n
   ·obtain ⟨u,hu,hr⟩:=hc (c+j) (cs[c+j]'(by omega)) (by simp [show c+j<cs.length by omega])
    refine ⟨u,fun _=>⟨fun w' hw=>by rw [add2];exact hu w' hw,fun a ha=>?_⟩⟩
    rw [List.getElem?_eq_getElem (by omega)] at ha
    simp only [Option.some.injEq] at ha
    subst ha;exact hr
   ·exact ⟨undef,fun h=>absurd h hj⟩
  obtain ⟨g,hg⟩:∃ g:Nat→Value,∀ j,j<n→(∀ w',G w'→w'.cell? ((ad.add c).add j)=some (g j))∧∀ a,cs[c+j]?=some a→Rep w ok hd m a (g j):=⟨fun j=>(hf j).choose,fun j=>(hf j).choose_spec⟩
  refine ⟨.agg ((List.range n).map g).toArray,_,?_,?_,hk⟩
  ·intro w' hw
   unfold loadVar
   simp only [Sem.run_bind,VK h1,Result.andThen_ok,if_true,XB h2]
   rw [run_loadCells (P:=P) w' (ad.add c) n g (fun j hj=>(hg j hj).1 w' hw)]
   simp [Sem.run,pure]
  ·refine .agg _ _ (by simp;omega) fun j a u h3 h4=>?_
   simp only [List.getElem?_map,Option.map_eq_some_iff] at h4
   obtain ⟨j',h5,rfl⟩:=h4
   have:j'=j∧j<n:=by
    by_cases hj:j<n
    ·rw [List.getElem?_range hj] at h5
     simp only [Option.some.injEq] at h5
     omega
    ·rw [List.getElem?_eq_none (by simpa using hj)] at h5;simp at h5
   obtain ⟨rfl,hj⟩:=this
   refine (hg j' hj).2 a ?_
   rw [List.getElem?_take] at h3
   rw [if_pos hj,List.getElem?_drop] at h3
   exact h3
 ·exact h.elim
section
variable {P:Program} {n:Nat} {base:Fr} {w0 w:World} {hd:Nat→Value} {s:VS} {a:Act} {k:AV→VS→Prop}
def QEnds (P:Program) (w:World) (hd:Nat→Value) (s:VS) (a:Act) (o:Oper) (k:AV→VS→Prop):Prop:=
 ∃ v av,(∀ w',w.grownBy w' none→(execOp a.eval o).run P w'=.ok (.value v) w')∧Rep w (Zw s.mem hd) hd s.mem.length av v∧k av s
theorem QEnds.same {o:Oper} {v:Value} {av:AV} (hv:Rep w (Zw s.mem hd) hd s.mem.length av v) (hk:k av s) (hr:∀ w',w.grownBy w' none→(execOp a.eval o).run P w'=.ok (.value v) w'):QEnds P w hd s a o k:=⟨v,av,hr,hv,hk⟩
def ZlE:Op→Bool
 | .box .. | .store ..=>false
 | _=>true
theorem Zdb {w':World} (hg:w.grownBy w' none) {ad:Addr} {u:Value} (hc:w.cell? ad=some u):w'.cell? ad=some u:=
 Wz (hg.block _ (World.block_lt_of_cell? w _ hc) (by simp)) hc
theorem Zl1 (h:RelH n base w0 hd s a w) {j b n' c':Nat} {ob:Ob} (hob:s.mem[j]?=some (some ob)) (hb:hd j=.slice (some ⟨b,0,none⟩) n' c') {i:Nat} (hi:i<ob.n) :
  ∀ (c:Nat) av,(ob.f i)[c]?=some av→∃ u,(∀ w',w.grownBy w' none→w'.cell? ((⟨b,i*ob.sz,none⟩:Addr).add c)=some u)∧Rep w (Zw s.mem hd) hd s.mem.length av u:=fun c av hc=>by
 obtain ⟨u,h1,h2⟩:=h.cells_ hob hb hi c av hc
 exact ⟨u,fun w' hg=>Zdb hg h1,h2⟩
theorem Zdr (h:RelH n base w0 hd s a w) {T:TypeId} {x:Operand} (hv:vop P (.load T x) s k):∃ v av,(∀ w',w.grownBy w' none→(Instr.loadAt T (a.eval x)).run P w'=.ok v w')∧Rep w (Zw s.mem hd) hd s.mem.length av v∧k av s:=by
 simp only [vop] at hv
 have hx:=h.ev_ x
 generalize ev s x=ax at *
 cases ax with
 |ptr j sz i c=>
  simp only at hv
  cases hx':a.eval x with
  |pointer ad=>
   rw [hx'] at hx
   cases hx with
   |ptr _ _ _ _ b n' c' hk hb=>
    split at hv
    ·rename_i ob hob
     obtain ⟨rfl,hi,hrd⟩:=hv
     obtain ⟨v,av,h1,h2,h3⟩:=HJ (w:=w) (G:=fun w'=>w.grownBy w' none) hrd ⟨b,i*ob.sz,none⟩ (Zl1 h hob hb hi)
     refine ⟨v,av,?_,h2,h3⟩
     intro w' hg
     unfold Instr.loadAt Instr.sureAddr
     simp only [Sem.run_bind,Sem.run_pure,Result.andThen_ok]
     have e:(⟨b,i*ob.sz,none⟩:Addr).add c=⟨b,i*ob.sz+c,none⟩:=by
      unfold Addr.add;split
      ·rename_i h0;simp [h0]
      ·rfl
     rw [←e];exact h1 w' hg
    ·exact hv.elim
  | _=>rw [hx'] at hx;cases hx
 |bptr cs=>
  simp only at hv
  cases hx':a.eval x with
  |pointer ad=>
   rw [hx'] at hx
   cases hx with
   |bptr _ ad u hne hok hc hr=>
    obtain ⟨v,av,h1,h2,h3⟩:=HJ (w:=w) (G:=fun w'=>w.grownBy w' none) hv ad (fun j av hj=>⟨u j,fun w' hg=>Zdb hg (hc j (List.getElem?_eq_some_iff.1 hj).1),hr j av hj⟩)
    refine ⟨v,av,?_,h2,h3⟩
    intro w' hg
    unfold Instr.loadAt Instr.sureAddr
    simp only [Sem.run_bind,Sem.run_pure,Result.andThen_ok]
    have e:ad.add 0=ad:=by simp [Addr.add]
    rw [e] at h1;exact h1 w' hg
  | _=>rw [hx'] at hx;cases hx
 |lit lv=>
  cases lv with
  |pointer p=>
   cases p with
   |none=>exact hv.elim
   |some ad=>
    obtain ⟨t,N,vs,as,i,cs,ht,hi,hvs,has,hrd⟩:=hv
    have hx':a.eval x=.pointer (some ad):=by
     generalize a.eval x=y at hx
     cases hx;rfl
    have hf:=h.tm t
    rw [ht] at hf
    generalize a.tmps.getD t undef=u0 at hf
    cases hf with
    |fam _ _ _ _ hf=>
    have hb:=hf i hi
    rw [hvs,has] at hb
    cases hb with
    |bptr _ ad u hne hok hc hr=>
    obtain ⟨v,av,h1,h2,h3⟩:=HJ (w:=w) (G:=fun w'=>w.grownBy w' none) hrd ad (fun j av hj=>⟨u j,fun w' hg=>Zdb hg (hc j (List.getElem?_eq_some_iff.1 hj).1),hr j av hj⟩)
    refine ⟨v,av,?_,h2,h3⟩
    intro w' hg
    unfold Instr.loadAt Instr.sureAddr
    simp only [hx',Sem.run_bind,Sem.run_pure,Result.andThen_ok]
    have e:ad.add 0=ad:=by simp [Addr.add]
    rw [e] at h1;exact h1 w' hg
  | _=>exact hv.elim
 | _=>exact hv.elim
theorem J5 (h:RelH n base w0 hd s a w) {T:TypeId} {x:Operand} {f:Nat} {o:Oper} (ho:o.op=.fieldAddr T x f) (hv:vop P (.fieldAddr T x f) s k):QEnds P w hd s a o k:=by
 simp only [vop] at hv
 split at hv
 ·rename_i ft off hf
  obtain ⟨⟨m,hm,hm0⟩,hv⟩:=hv
  have hx:=h.ev_ x
  split at hv
  ·rename_i j sz i c e
   rw [e] at hx
   cases hx':a.eval x with
   |pointer ad=>
    rw [hx'] at hx
    cases hx with
    |ptr _ _ _ _ b n' c' hk hb=>
     refine QEnds.same (.ptr j sz i (c+off) b n' c' hk hb) hv ?_
     intro w' hg;unfold execOp;simp only [ho,hx']
     refine ZM ((W4 hf hm hm0 _ _).trans ?_)
     congr 3
     unfold Addr.add;split
     ·rename_i h0;subst h0;simp
     ·simp [Nat.add_assoc]
   | _=>rw [hx'] at hx;cases hx
  ·rename_i cs e
   rw [e] at hx
   cases hx':a.eval x with
   |pointer ad=>
    rw [hx'] at hx
    cases hx with
    |bptr _ ad u hne hok hc hr=>
     have add2:∀ j,(ad.add off).add j=ad.add (off+j):=by
      intro j
      unfold Addr.add
      by_cases h1:off=0<;>by_cases h2:j=0<;>simp [h1,h2];omega
     have hblk:(ad.add off).block=ad.block:=by unfold Addr.add;split<;>rfl
     refine QEnds.same (.bptr (cs.drop off) (ad.add off) (fun j=>u (off+j)) (by intro e2;rw [List.drop_eq_nil_iff] at e2;omega) (by rw [hblk];exact hok) (fun j hj=>by rw [add2];exact hc _ (by simp at hj;omega)) (fun j av hj=>hr _ av (by rw [List.getElem?_drop] at hj;exact hj))) hv.2 ?_
     intro w' hg;unfold execOp;simp only [ho,hx']
     exact ZM (W4 hf hm hm0 _ _)
   | _=>rw [hx'] at hx;cases hx
  ·exact hv.elim
 ·exact hv.elim
theorem ZbS (h:RelH n base w0 hd s a w) {T:TypeId} {x:Operand} {f:Nat} {o:Oper} (ho:o.op=.field T x f) (hv:vop P (.field T x f) s k):QEnds P w hd s a o k:=by
 simp only [vop] at hv
 split at hv
 ·rename_i ft off cs hf e
  have hx:=h.ev_ x
  rw [e] at hx
  cases hx':a.eval x with
  |agg arr=>
   rw [hx'] at hx
   cases hx with
   |agg _ vs hl hr=>
    obtain ⟨fs,fl,h1,h2,rfl,rfl⟩:=Qz hf
    unfold rd at hv
    split at hv
    ·rename_i ht
     obtain ⟨hlt,hk⟩:=hv
     refine QEnds.same (v:=vs[fl.offset]'(by omega)) (av:=cs.getD fl.offset .undef) ?_ hk ?_
     ·rw [List.getD_eq_getElem?_getD,List.getElem?_eq_getElem hlt]
      exact hr fl.offset _ _ (List.getElem?_eq_getElem hlt) (List.getElem?_eq_getElem (by omega))
     ·intro w' hg;unfold execOp;simp only [ho,hx']
      refine ZM ?_
      unfold Instr.field part
      simp only [Sem.run_bind,Ya h1,Result.andThen_ok,h2,asAgg,Sem.run_pure,VK ht,Bool.false_eq_true,if_false]
      simp [show fl.offset<vs.length by omega]
    ·rename_i m ht hm
     obtain ⟨hlt,hk⟩:=hv
     refine QEnds.same (v:=.agg ((vs.drop fl.offset).take m).toArray) ?_ hk ?_
     ·refine .agg _ _ (by simp;omega) fun j av u h3 h4=>?_
      rw [List.getElem?_take] at h3 h4
      split at h3
      ·rename_i hj
       rw [if_pos hj] at h4
       rw [List.getElem?_drop] at h3 h4
       exact hr _ av u h3 h4
      ·simp at h3
     ·intro w' hg;unfold execOp;simp only [ho,hx']
      refine ZM ?_
      unfold Instr.field part
      simp only [Sem.run_bind,Ya h1,Result.andThen_ok,h2,asAgg,Sem.run_pure,VK ht,if_true,XB hm]
      congr 2
      apply Array.ext'
      simp [List.extract_eq_take_drop]
    ·exact hv.elim
  | _=>rw [hx'] at hx;cases hx
 ·exact hv.elim
theorem JZ (h:RelH n base w0 hd s a w) {T:TypeId} {x ix:Operand} {o:Oper} (ho:o.op=.indexAddr T x ix) (hv:vop P (.indexAddr T x ix) s k):QEnds P w hd s a o k:=by
 simp only [vop] at hv
 split at hv
 ·rename_i e q i hT hi
  split at hv
  ·rename_i sz hsz
   have hx:=h.ev_ x
   have hix:=(h.ev_ ix).val_ hi
   have key:∀ (A:Option Addr) (len cap:Nat) (ad:Addr),a.eval x=.slice A len cap→A=some ad→0≤i→i<len→∀ w',w.grownBy w' none→(execOp a.eval o).run P w'=.ok (.value (.pointer (some (ad.add (i.toNat*sz))))) w':=by
    intro A len cap ad hx' hA h0 h1
    intro w' hg;unfold execOp;simp only [ho,hx',hix]
    refine ZM ?_
    unfold Instr.indexAt asIntOf
    simp only [Sem.run_bind,Sem.run_pure,Result.andThen_ok,Ya hT,hA]
    rw [if_pos ⟨h0,h1⟩]
    simp [Sem.run_bind,XB hsz]
   split at hv
   ·rename_i sz' m f e1
    obtain ⟨rfl,h0,h1,hk⟩:=hv
    rw [e1] at hx
    cases hx':a.eval x with
    |slice A len cap=>
     rw [hx'] at hx
     cases hx with
     |sl _ _ _ _ _ u hc hm hsz' hl ha hr=>
      have hlt:i.toNat<m:=by omega
      obtain ⟨ad,hA,hok,hcell⟩:=ha (by omega)
      refine QEnds.same (.bptr (f i.toNat) (ad.add (i.toNat*sz')) (fun j=>u i.toNat j) (by intro e2;have:=hl _ hlt;rw [e2] at this;simp at this;omega) (by unfold Addr.add;split<;>exact hok) (fun j hj=>?_) (fun j av hj=>hr _ _ av hlt hj)) hk (key A m cap ad hx' hA h0 h1)
      have:(ad.add (i.toNat*sz')).add j=ad.add (i.toNat*sz'+j):=by
       unfold Addr.add
       by_cases h1:i.toNat*sz'=0<;>by_cases h2:j=0<;>simp [h1,h2];omega
      rw [this]
      exact hcell _ _ hlt (by rw [←hl _ hlt];exact hj)
    | _=>rw [hx'] at hx;cases hx
   ·rename_i j e1
    split at hv
    ·rename_i ob hob
     obtain ⟨rfl,h0,h1,hk⟩:=hv
     rw [e1] at hx
     obtain ⟨hs0,vals,hown,_⟩:=h.me.obs j ob hob
     rcases hown.2 with ⟨_,h00⟩|⟨g,cap,cur,hh,_⟩
     ·omega
     ·have hx':a.eval x=hd j:=by
       generalize a.eval x=vx at hx
       cases hx;rfl
      have hkm:j<s.mem.length:=(List.getElem?_eq_some_iff.1 hob).1
      have e2:=key (some ⟨g,0,none⟩) ob.n cap ⟨g,0,none⟩ (by rw [hx',hh]) rfl h0 h1
      refine QEnds.same (.ptr j ob.sz i.toNat 0 g ob.n cap hkm hh) hk ?_
      intro w' hg
      rw [e2 w' hg]
      congr 4
      unfold Addr.add;split
      ·rename_i h3;simp [h3]
      ·simp
    ·exact hv.elim
   ·rename_i j sz' lo m e1
    obtain ⟨rfl,h0,h1,hk⟩:=hv
    rw [e1] at hx
    generalize hxv:a.eval x=xv at hx
    cases hx with
    |sub _ _ _ _ A c hkm hc ha=>
     obtain ⟨b,n',c',hb,rfl,_⟩:=ha (by omega)
     refine QEnds.same (.ptr j sz' (lo+i.toNat) 0 b n' c' hkm hb) hk ?_
     intro w' hg
     rw [key _ m c ⟨b,lo*sz',none⟩ hxv rfl h0 h1 w' hg]
     congr 4
     rw [Nat.add_mul]
     unfold Addr.add;split
     ·rename_i h3;simp [h3]
     ·simp
   ·exact hv.elim
  ·exact hv.elim
 ·exact hv.elim
theorem ZbR (h:RelH n base w0 hd s a w) {T:TypeId} {x ix:Operand} {o:Oper} (ho:o.op=.index T x ix) (hv:vop P (.index T x ix) s k):QEnds P w hd s a o k:=by
 simp only [vop] at hv
 split at hv
 ·rename_i z q i hT hx hi
  obtain ⟨h0,h1,hk⟩:=hv
  refine QEnds.same (.lit _) hk ?_
  intro w' hg;unfold execOp;simp only [ho,(h.ev_ x).val_ hx,(h.ev_ ix).val_ hi]
  refine ZM ?_
  unfold Instr.index asIntOf
  have hlt:i.toNat<z.size:=by omega
  simp only [Sem.run_bind,Sem.run_pure,Result.andThen_ok,Ya hT]
  rw [if_pos h0]
  have:z[i.toNat]?=some (z[i.toNat]'hlt):=getElem?_pos z i.toNat hlt
  rw [this]
  simp [Ze,hlt]
 ·exact hv.elim
theorem ZbO (h:RelH n base w0 hd s a w) {T:TypeId} {x:Operand} {lo hi mx:Option Operand} {o:Oper} (ho:o.op=.slice T x lo hi mx) (hv:vop P (.slice T x lo hi mx) s k):QEnds P w hd s a o k:=by
 cases mx with
 |some _=>exact hv.elim
 |none=>
  simp only [vop] at hv
  have hx:=h.ev_ x
  have at_:(∀ n e,P.underlying T≠some (.array n e))→∀ (d:TypeDesc),P.underlying T=some d→∀ w',w.grownBy w' none→(execOp a.eval o).run P w'=((do pure (Next.value (←Instr.slice T (a.eval x) (lo.map a.eval) (hi.map a.eval) none)):Sem Next)).run P w':=by
   intro hna d hd'
   intro w' hg;unfold execOp;simp only [ho]
   simp only [Sem.run_bind,Option.map_none]
   congr 1
   unfold Instr.sliceAt
   simp only [Sem.run_bind,Ya hd',Result.andThen_ok]
   cases d<;>first|rfl|exact absurd hd' (hna _ _)
  split at hv
  ·rename_i z l hT e1 hl
   split at hv
   ·rename_i e he
    obtain ⟨h0,h1,h2,hk⟩:=hv
    refine QEnds.same (.lit _) hk ?_
    intro w' hg;rw [at_ (by rw [hT];simp) _ hT w' hg]
    refine ZM ?_
    have hz:=(h.ev_ x).val_ (X9 e1)
    unfold Instr.slice
    simp only [Sem.run_bind,Ya hT,Result.andThen_ok,hz,XK (P:=P) h (isS:=false) hl he h0 h1 h2 (Nat.le_refl _),Sem.run_pure]
    simp [Sem.run_bind,XK (P:=P) h (isS:=false) hl he h0 h1 h2 (Nat.le_refl _)]
   ·exact hv.elim
  ·rename_i el sz m f l hT e1 hl
   split at hv
   ·rename_i e he
    obtain ⟨hsz,h0,h1,h2,hk⟩:=hv
    rw [e1] at hx
    cases hx':a.eval x with
    |slice A len cap=>
     rw [hx'] at hx
     cases hx with
     |sl _ _ _ _ _ u hc hm hsz' hll ha hr=>
      refine QEnds.same (v:=.slice (if cap=l.toNat then A else A.map (·.add (l.toNat*sz))) (e.toNat-l.toNat) (cap-l.toNat)) (.sl sz (e.toNat-l.toNat) (fun i=>f (l.toNat+i)) _ _ (fun i j=>u (l.toNat+i) j) (by omega) (by omega) hsz' (fun i hi=>hll _ (by omega)) (fun hp=>?_) (fun i j av hi hj=>hr _ _ av (by omega) hj)) hk ?_
      ·obtain ⟨ad,hA,hok,hcell⟩:=ha (by omega)
       refine ⟨ad.add (l.toNat*sz),by rw [hA,if_neg (by omega)];rfl,by unfold Addr.add;split<;>exact hok,fun i j hi hj=>?_⟩
       have:(ad.add (l.toNat*sz)).add (i*sz+j)=ad.add ((l.toNat+i)*sz+j):=by
        rw [add_add,Nat.add_mul,Nat.add_assoc]
       rw [this];exact hcell _ _ (by omega) hj
      ·intro w' hg;rw [at_ (by rw [hT];simp) _ hT w' hg]
       refine ZM ?_
       unfold Instr.slice
       simp only [Sem.run_bind,Ya hT,Result.andThen_ok,hx',XK (P:=P) h (isS:=true) hl he h0 h1 h2 hc,XB hsz,Sem.run_pure]
    | _=>rw [hx'] at hx;cases hx
   ·exact hv.elim
  ·rename_i el j l hT e1 hl
   split at hv
   ·rename_i ob hob
    split at hv
    ·rename_i e he
     obtain ⟨hsz,h0,h1,h2,hk⟩:=hv
     rw [e1] at hx
     have hx':a.eval x=hd j:=by
      generalize a.eval x=vx at hx
      cases hx;rfl
     have hkm:j<s.mem.length:=(List.getElem?_eq_some_iff.1 hob).1
     obtain ⟨hs0,vals,hown,_⟩:=h.me.obs j ob hob
     obtain ⟨A,cap,hform,hcap,hA⟩:∃ A cap,hd j=.slice A ob.n cap∧ob.n≤cap∧(0<cap→∃ g,A=some ⟨g,0,none⟩):=by
      rcases hown.2 with ⟨e2,h00⟩|⟨g,cap,cur,hh,_,hc,_⟩
      ·exact ⟨none,0,by rw [e2,h00],by omega,fun h=>by omega⟩
      ·exact ⟨some ⟨g,0,none⟩,cap,hh,hc,fun _=>⟨g,rfl⟩⟩
     refine QEnds.same (v:=.slice (if cap=l.toNat then A else A.map (·.add (l.toNat*ob.sz))) (e.toNat-l.toNat) (cap-l.toNat)) (.sub j ob.sz l.toNat (e.toNat-l.toNat) _ _ hkm (by omega) (fun hp=>?_)) hk ?_
     ·obtain ⟨g,hg⟩:=hA (by omega)
      refine ⟨g,ob.n,cap,by rw [hform,hg],?_,by omega⟩
      rw [if_neg (by omega),hg]
      simp only [Option.map_some]
      congr 1
      unfold Addr.add;split
      ·rename_i h3;simp [h3]
      ·simp
     ·intro w' hg;rw [at_ (by rw [hT];simp) _ hT w' hg]
      refine ZM ?_
      unfold Instr.slice
      simp only [Sem.run_bind,Ya hT,Result.andThen_ok,hx',hform,XK (P:=P) h (isS:=true) hl he h0 h1 h2 hcap,XB hsz,Sem.run_pure]
    ·exact hv.elim
   ·exact hv.elim
  ·rename_i el j sz lo0 m l hT e1 hl
   split at hv
   ·rename_i e he
    obtain ⟨hsz,h0,h1,h2,hk⟩:=hv
    rw [e1] at hx
    generalize hx':a.eval x=xv at hx
    cases hx with
    |sub _ _ _ _ A cap hkm hcap ha=>
     refine QEnds.same (v:=.slice (if cap=l.toNat then A else A.map (·.add (l.toNat*sz))) (e.toNat-l.toNat) (cap-l.toNat)) (.sub j sz (lo0+l.toNat) (e.toNat-l.toNat) _ _ hkm (by omega) (fun hp=>?_)) hk ?_
     ·have hp0:0<cap-l.toNat:=hp
      have hc0:0<cap:=Nat.lt_of_lt_of_le hp0 (Nat.sub_le _ _)
      obtain ⟨b,n',c',hb,hA0,hle⟩:=ha hc0
      subst hA0
      have hle2:lo0+l.toNat+(cap-l.toNat)≤c':=by
       clear hb ha
       omega
      refine ⟨b,n',c',hb,?_,hle2⟩
      rw [if_neg (fun e=>by rw [e,Nat.sub_self] at hp0;exact absurd hp0 (Nat.lt_irrefl 0))]
      simp only [Option.map_some]
      congr 1
      rw [Nat.add_mul]
      unfold Addr.add;split
      ·rename_i h3;simp [h3]
      ·simp
     ·intro w' hg;rw [at_ (by rw [hT];simp) _ hT w' hg]
      refine ZM ?_
      unfold Instr.slice
      simp only [Sem.run_bind,Ya hT,Result.andThen_ok,hx',XK (P:=P) h (isS:=true) hl he h0 h1 h2 hcap,XB hsz,Sem.run_pure]
   ·exact hv.elim
  ·exact hv.elim
theorem Ze1 (h:RelH n base w0 hd s a w) {x:Operand} {t:TypeId} {o:Oper} (ho:o.op=.call { callee:=.builtin .len,args:=#[x],argTypes:=#[t] })
  (hv:Zec P x t s k):QEnds P w hd s a o k:=by
 unfold Zec at hv
 have hrun:∀ w',w.grownBy w' none→(execOp a.eval o).run P w'=((do pure (Next.value (←Builtin.len_ #[t] o.type #[a.eval x])):Sem Next)).run P w':=by
  intro w' hg;unfold execOp;simp only [ho];simp [resolve,invoke,builtin,Sem.run_bind]
 split at hv
 ·rename_i m hl ht
  obtain ⟨⟨z,hz⟩,hk⟩:=hv
  rw [hz] at hl
  simp only [WM,Option.some.injEq] at hl
  subst hl
  refine QEnds.same (.lit _) hk ?_
  intro w' hg;rw [hrun w' hg]
  refine ZM ?_
  have:=(h.ev_ x).val_ (X9 hz)
  simp only [Builtin.len_,List.getElem?_toArray,List.getElem?_cons_zero,Sem.run_bind,Ya ht,Result.andThen_ok,this]
  rfl
 ·rename_i m e hl ht
  obtain ⟨hns,hm,hk⟩:=hv
  have key:∃ A c,a.eval x=.slice A m c:=by
   have hx:=h.ev_ x
   generalize hev:ev s x=ax at *
   cases ax with
   |sl sz m' f=>
    simp only [WM,Option.some.injEq] at hl;subst hl
    generalize a.eval x=v at hx
    cases hx;exact ⟨_,_,rfl⟩
   |own q=>
    simp only [WM] at hl
    split at hl
    ·rename_i ob hob
     simp only [Option.some.injEq] at hl;subst hl
     obtain ⟨hs,vals,ho2,_⟩:=h.me.obs q ob hob
     rw [G0 h hev]
     rcases ho2.2 with ⟨e,h0⟩|⟨g,cap,cur,e,_⟩
     ·exact ⟨none,0,by rw [e,h0]⟩
     ·exact ⟨_,_,e⟩
    ·simp at hl
   |sub q sz lo m'=>
    simp only [WM,Option.some.injEq] at hl;subst hl
    generalize a.eval x=v at hx
    cases hx;exact ⟨_,_,rfl⟩
   |lit v=>
    have e:=(h.ev_ x).val_ (u:=v) (by rw [hev];rfl)
    cases v with
    |slice A m' c=>simp only [WM,Option.some.injEq] at hl;subst hl;exact ⟨_,_,e⟩
    |string z=>exact absurd rfl (hns z)
    | _=>simp [WM] at hl
   | _=>simp [WM] at hl
  obtain ⟨A,c,hx'⟩:=key
  refine QEnds.same (.lit _) hk ?_
  intro w' hg;rw [hrun w' hg]
  refine ZM ?_
  simp only [Builtin.len_,List.getElem?_toArray,List.getElem?_cons_zero,Sem.run_bind,Ya ht,Result.andThen_ok,hx']
  rfl
 ·exact hv.elim
theorem ZbY (h:RelH n base w0 hd s a w) {t:TypeId} {parts:Array (Nat×Operand)} {o:Oper} (ho:o.op=.build t parts) (hv:KZ P t parts.toList s k):QEnds P w hd s a o k:=by
 unfold KZ at hv
 split at hv
 ·rename_i fs ht
  split at hv
  ·rename_i z sz by_ hinfo
   obtain ⟨hok,hv⟩:=hv
   obtain ⟨ti,hi1,hi2,hi3,hi4⟩:=Xj hinfo
   split at hv
   ·rename_i cells hb
    obtain ⟨out,g1,g2⟩:=Jn h (places:=fun i=>(fs.toList.map fun f=>(f.offset,(tsz P f.type).getD 0)).toArray[i]?) (fun i fl m hfl hm=>by
     have:fs.toList[i]?=some fl:=by simpa using hfl
     simp [hfl,hm]) parts.toList _ cells z.cells hb ⟨by simp,fun j c u h1 h2=>by
      simp only [List.getElem?_map,Option.map_eq_some_iff] at h1
      obtain ⟨u',h3,rfl⟩:=h1
      rw [h2] at h3
      simp only [Option.some.injEq] at h3
      subst h3;exact .lit _⟩
    have hagg:Rep w (Zw s.mem hd) hd s.mem.length (.agg cells) (.agg out):=by
     have:=Rep.agg (w:=w) (ok:=Zw s.mem hd) (hd:=hd) (m:=s.mem.length) cells out.toList g2.1 g2.2
     simpa using this
    refine QEnds.same hagg hv ?_
    intro w' hg;unfold execOp;simp only [ho]
    refine ZM ?_
    have hzv:(zeroValue t).run P w'=.ok z w':=by simp [zeroValue,typeInfo,Sem.run_bind,hi1,hi2]
    have hpl:(fs.mapM (m:=Sem) fun f=>do pure (f.offset,←sizeOf f.type)).run P w'=.ok (fs.toList.map fun f=>(f.offset,(tsz P f.type).getD 0)).toArray w':=by
     rw [Array.mapM_eq_mapM_toList,Sem.run_map,Gp hok];rfl
    unfold Instr.build
    simp only [Sem.run_bind,hzv,Ya ht,Result.andThen_ok]
    rw [hpl]
    simp only [Result.andThen_ok]
    have hp:(parts.map fun x=>(x.1,a.eval x.2)).toList=parts.toList.map (fun x=>(x.1,a.eval x.2)):=Array.toList_map
    rw [hp,g1]
    rfl
   ·exact hv.elim
  ·exact hv.elim
 ·exact hv.elim
theorem YM (h:RelH n base w0 hd s a w) (o:Oper) (hq:ZlE o.op=true) (hv:vop P o.op s k):QEnds P w hd s a o k:=by
 obtain ⟨d,op,ty,pos,af,g⟩:=o
 cases op with
 |move x=>exact QEnds.same (h.ev_ x) hv (fun _ _=>rfl)
 |assign x=>exact QEnds.same (h.ev_ x) hv (fun _ _=>rfl)
 |pick c x y=>
  simp only [vop] at hv
  split at hv
  ·rename_i t e
   have hc:=(h.ev_ c).val_ (X9 e)
   cases t with
   |true=>exact QEnds.same (h.ev_ x) (hv.1 rfl) (fun w' hg=>by simp [execOp,hc,asBool,Sem.run_bind])
   |false=>exact QEnds.same (h.ev_ y) (hv.2 rfl) (fun w' hg=>by simp [execOp,hc,asBool,Sem.run_bind])
  ·exact hv.elim
 |box T x=>cases hq
 |load T x=>
  obtain ⟨v,av,h1,h2,h3⟩:=Zdr h hv
  exact QEnds.same h2 h3 (fun w' hg=>by unfold execOp;exact ZM (h1 w' hg))
 |store T p x=>cases hq
 |fieldAddr T x f=>exact J5 h rfl hv
 |field T x f=>exact ZbS h rfl hv
 |indexAddr T x ix=>exact JZ h rfl hv
 |index T x ix=>exact ZbR h rfl hv
 |slice T x lo hi mx=>exact ZbO h rfl hv
 |binOp b T x y T2=>
  simp only [vop] at hv
  split at hv
  ·rename_i vx vy hx hy
   obtain ⟨v,hrun,hk⟩:=hv
   refine QEnds.same (.lit v) hk ?_
   intro w' hg
   unfold execOp
   simp only [(h.ev_ x).val_ hx,(h.ev_ y).val_ hy]
   exact ZM (hrun w')
  ·exact hv.elim
 |unOp b T x=>
  simp only [vop] at hv
  split at hv
  ·rename_i vx hx
   obtain ⟨v,hrun,hk⟩:=hv
   refine QEnds.same (.lit v) hk ?_
   intro w' hg
   unfold execOp
   simp only [(h.ev_ x).val_ hx]
   exact ZM (hrun w')
  ·exact hv.elim
 |convert c d x=>
  simp only [vop] at hv
  split at hv
  ·rename_i vx hx
   obtain ⟨v,hrun,hk⟩:=hv
   refine QEnds.same (.lit v) hk ?_
   intro w' hg
   unfold execOp
   simp only [(h.ev_ x).val_ hx]
   exact ZM (hrun w')
  ·exact hv.elim
 |extract x i=>
  simp only [vop] at hv
  split at hv
  ·rename_i vs e
   obtain ⟨hlt,hk⟩:=hv
   have hx:=h.ev_ x
   rw [e] at hx
   cases hx':a.eval x with
   |tuple arr=>
    rw [hx'] at hx
    cases hx with
    |tup _ us hl hr=>
     refine QEnds.same (v:=us[i]'(by omega)) (av:=vs.getD i .undef) ?_ hk ?_
     ·rw [List.getD_eq_getElem?_getD,List.getElem?_eq_getElem hlt]
      exact hr i _ _ (List.getElem?_eq_getElem hlt) (List.getElem?_eq_getElem (by omega))
     ·intro w' hg;unfold execOp;simp only [hx']
      refine ZM ?_
      unfold Instr.extract
      simp [show i<us.length by omega]
   | _=>rw [hx'] at hx;cases hx
  ·exact hv.elim
 |nilCheck x=>
  simp only [vop] at hv
  have hx:=h.ev_ x
  split at hv
  ·rename_i e
   have hx0:=hx
   rw [e] at hx
   cases hx':a.eval x with
   |pointer ad=>
    rw [hx'] at hx
    cases hx with
    |ptr=>exact QEnds.same hx0 (by rw [e] at hv ⊢;exact hv) (fun w' hg=>by unfold execOp;simp only [hx'];rfl)
   | _=>rw [hx'] at hx;cases hx
  ·rename_i e
   have hx0:=hx
   rw [e] at hx
   cases hx':a.eval x with
   |pointer ad=>
    rw [hx'] at hx
    cases hx with
    |bptr=>exact QEnds.same hx0 (by rw [e] at hv ⊢;exact hv) (fun w' hg=>by unfold execOp;simp only [hx'];rfl)
   | _=>rw [hx'] at hx;cases hx
  ·exact hv.elim
 | _=>exact hv.elim
theorem ZbU (h:RelH n base w0 hd s a w) {t1 t2 e:TypeId} {x:Operand} {o:Oper} (ho:o.op=.convert t1 t2 x) (h1:P.underlying t1=some (.slice e)) (h2:P.underlying t2=some .string) (hv:UV P e s k (ev s x)) :
  QEnds P w hd s a o k:=by
 unfold UV at hv
 split at hv
 ·rename_i m f hc
  obtain ⟨he,z,rfl,hf,hk⟩:=hv
  obtain ⟨A,c,u,ex,hmc,hcell,hr⟩:=Zay h hc
  have hu:∀ i,i<z.size→u i 0=.int .u8 (Ze z i):=by
   intro i hi
   have:=(hr i hi).2 0 (.lit (.int .u8 (Ze z i))) (by rw [hf i hi];rfl)
   have h3:=this.1
   generalize u i 0=q at h3
   cases h3;rfl
  refine QEnds.same (.lit (.string z)) hk ?_
  intro w' hg
  unfold execOp;simp only [ho]
  refine ZM ?_
  rw [ex]
  cases A with
  |none=>
   have hz:z.size=0:=by
    rcases Nat.eq_zero_or_pos z.size with h0|h0
    ·exact h0
    ·obtain ⟨_,e1,_⟩:=hcell h0;cases e1
   have ez:z=⟨#[]⟩:=by
    obtain ⟨d⟩:=z
    have hz':d.size=0:=hz
    have:d=#[]:=Array.eq_empty_of_size_eq_zero hz'
    rw [this]
   rw [hz,run_convert_bytes_string w' t1 t2 e none 0 c h1 he h2,ez]
   simp [Conv.bytesToString]
   rfl
  |some ad=>
   have hl:z.size=z.data.toList.length:=by simp
   have hb:=run_convert_bytes_back w' t1 t2 e ad c z.data.toList h1 he h2 (fun j hj=>by
    have hj':j<z.size:=by rw [hl];exact hj
    obtain ⟨ad',e1,hcell⟩:=hcell (by omega)
    cases e1
    have:=Zdb hg (hcell j 0 hj' (by omega))
    rw [hu j hj',Nat.mul_one,Nat.add_zero] at this
    rw [this]
    unfold Ze
    rw [dif_pos hj']
    simp
    rfl)
   rw [←hl] at hb
   simpa using hb
 ·exact hv.elim
def X2 (P:Program):Op→Bool
 | .move _ | .assign _ | .pick _ _ _ | .load _ _ | .fieldAddr _ _ _ | .field _ _ _ | .indexAddr _ _ _ | .index _ _ _ | .slice _ _ _ _ _ | .binOp _ _ _ _ _ | .unOp _ _ _ | .extract _ _ | .nilCheck _ | .lookup _ _ _ _ | .build _ _ | .makeInterface _ _ | .typeAssert _ _ _ true | .makeFunc _ _ _=>true
 | .call c=>match c.callee,c.args.toList,c.argTypes.toList with
  | .builtin .len,[_],[_]=>true
  | .builtin .max,[_,_],[_,_]=>true
  | _,_,_=>false
 | .convert t1 t2 _=>match P.underlying t1,P.underlying t2 with
  |some (.int _),some (.int _)=>true
  |some (.slice _),some .string=>true
  | _,_=>false
 | _=>false
theorem H5 (h:RelH n base w0 hd s a w) (hP:base.P=P) (o:Oper) (hq:X2 P o.op=true) (hv:UU P o.op s k):QEnds P w hd s a o k:=by
 obtain ⟨d,op,ty,pos,af,g⟩:=o
 cases op with
 |lookup t m x ok=>
  obtain ⟨v,av,h1,h2,h3⟩:=ZaW (o:=⟨d,.lookup t m x ok,ty,pos,af,g⟩) h hP rfl hv
  exact ⟨v,av,h1,h2,h3⟩
 |build t parts=>exact ZbY h rfl hv
 |call c=>
  obtain ⟨cal,args,tys⟩:=c
  simp only [X2] at hq
  simp only [UU] at hv
  split at hq
  ·rename_i x t h1 h2
   simp only [h1,h2] at hv
   have e1:args=#[x]:=Array.toList_inj.1 h1
   have e2:tys=#[t]:=Array.toList_inj.1 h2
   subst e1;subst e2
   rcases hv with ⟨_,hv⟩|⟨_,hv⟩
   ·obtain ⟨v,av,h1,h2,h3⟩:=ZaP (o:=⟨d,.call ⟨.builtin .len,#[x],#[t]⟩,ty,pos,af,g⟩) h rfl rfl rfl rfl hv
    exact ⟨v,av,h1,h2,h3⟩
   ·exact Ze1 h rfl hv
  ·rename_i x y t t' h1 h2
   simp only [h1,h2] at hv
   have e1:args=#[x,y]:=Array.toList_inj.1 h1
   have e2:tys=#[t,t']:=Array.toList_inj.1 h2
   subst e1;subst e2
   obtain ⟨v,av,h1,h2,h3⟩:=Zct (o:=⟨d,.call ⟨.builtin .max,#[x,y],#[t,t']⟩,ty,pos,af,g⟩) h rfl hv
   exact ⟨v,av,h1,h2,h3⟩
  ·cases hq
 |makeInterface T x=>
  obtain ⟨v,av,h1,h2,h3⟩:=ZaQ (o:=⟨d,.makeInterface T x,ty,pos,af,g⟩) h rfl hv
  exact ⟨v,av,h1,h2,h3⟩
 |makeFunc fn first caps=>
  obtain ⟨v,av,h1,h2,h3⟩:=QY (o:=⟨d,.makeFunc fn first caps,ty,pos,af,g⟩) h rfl hv
  exact ⟨v,av,fun w' _=>h1 w',h2,h3⟩
 |typeAssert x T' T ok=>
  cases ok with
  |false=>simp [X2] at hq
  |true=>
   obtain ⟨v,av,h1,h2,h3⟩:=Hl (o:=⟨d,.typeAssert x T' T true,ty,pos,af,g⟩) h rfl hv
   exact ⟨v,av,h1,h2,h3⟩
 |move x=>exact YM h _ rfl hv
 |assign x=>exact YM h _ rfl hv
 |pick c x y=>exact YM h _ rfl hv
 |load T x=>exact YM h _ rfl hv
 |fieldAddr T x f=>exact YM h _ rfl hv
 |field T x f=>exact YM h _ rfl hv
 |indexAddr T x ix=>exact YM h _ rfl hv
 |index T x ix=>exact YM h _ rfl hv
 |slice T x lo hi mx=>exact YM h _ rfl hv
 |binOp b T x y T2=>
  simp only [UU] at hv
  split at hv
  ·rename_i k0 sz i j ex
   obtain ⟨v,av,h1,h2,h3⟩:=Zcn (o:=⟨d,.binOp b T x y T2,ty,pos,af,g⟩) h rfl ex hv
   exact ⟨v,av,h1,h2,h3⟩
  ·rename_i sz m f ex
   obtain ⟨v,av,h1,h2,h3⟩:=Gc (o:=⟨d,.binOp b T x y T2,ty,pos,af,g⟩) h rfl ex hv
   exact ⟨v,av,h1,h2,h3⟩
  ·exact YM h _ rfl hv
 |unOp b T x=>exact YM h _ rfl hv
 |extract x i=>exact YM h _ rfl hv
 |nilCheck x=>exact YM h _ rfl hv
 |convert t1 t2 x=>
  simp only [X2] at hq
  split at hq
  ·rename_i k1 k2 h1 h2
   simp only [UU] at hv
   split at hv
   ·simp only [KV,h1,h2] at hv
    split at hv
    ·exact hv.2.2.2.2.elim
    ·exact hv.elim
   ·have e:QL P (.convert t1 t2 x) s k=vop P (.convert t1 t2 x) s k:=by
     simp only [QL,h1,h2]
     rfl
    rw [e] at hv
    exact YM h _ rfl hv
  ·rename_i e h1 h2
   simp only [UU] at hv
   split at hv
   ·simp only [KV,h1,h2] at hv
    split at hv
    ·exact hv.2.2.2.2.elim
    ·exact hv.elim
   ·have e2:QL P (.convert t1 t2 x) s k=UV P e s k (ev s x):=by
     simp only [QL,h1,h2]
    rw [e2] at hv
    exact ZbU h rfl h1 h2 hv
  ·cases hq
 | _=>simp [X2] at hq
theorem Ends.ofQ {o:Oper} (h:RelH n base w0 hd s a w) (hq:QEnds P w hd s a o k):Ends P n base w0 a ((execOp a.eval o).run P w) k:=by
 obtain ⟨v,av,h1,h2,h3⟩:=hq
 exact ⟨v,w,.inl (h1 w ⟨rfl,rfl,rfl,Nat.le_refl _,fun _ _ _=>rfl⟩),hd,s,av,h,h2,h3⟩
theorem ZfX (h:RelH n base w0 hd s a w) (hP:base.P=P) (o:Oper) (hv:UU P o.op s k):Ends P n base w0 a ((execOp a.eval o).run P w) k:=by
 unfold UU at hv
 split at hv
 ·rename_i t hc;exact ZeV h hc hv
 ·rename_i t m x ok hc
  obtain ⟨v,av,h1,h2,h3⟩:=ZaW h hP hc hv
  exact Ends.ofQ h ⟨v,av,h1,h2,h3⟩
 ·rename_i t m x v hc;exact ZaN h hP (.inl hc) hv
 ·rename_i t m x v hc;exact ZaN h hP (.inr hc) hv
 ·rename_i T x hc
  obtain ⟨v,av,h1,h2,h3⟩:=ZaQ h hc hv
  exact Ends.ofQ h ⟨v,av,h1,h2,h3⟩
 ·rename_i x T' T hc
  obtain ⟨v,av,h1,h2,h3⟩:=Hl h hc hv
  exact Ends.ofQ h ⟨v,av,h1,h2,h3⟩
 ·rename_i fn first caps hc
  obtain ⟨v,av,h1,h2,h3⟩:=QY h hc hv
  exact Ends.ofQ h ⟨v,av,fun w' _=>h1 w',h2,h3⟩
 ·rename_i c hc
  obtain ⟨cal,args,tys⟩:=c
  simp only at hv
  split at hv
  ·rename_i x t h1 h2
   have e1:args=#[x]:=Array.toList_inj.1 h1
   have e2:tys=#[t]:=Array.toList_inj.1 h2
   subst e1;subst e2
   rcases hv with ⟨_,hv⟩|⟨_,hv⟩
   ·obtain ⟨v,av,h1,h2,h3⟩:=ZaP h hc rfl rfl rfl hv
    exact Ends.ofQ h ⟨v,av,h1,h2,h3⟩
   ·exact Zcy h hc hv
  ·rename_i x t h1 h2
   have e1:args=#[x]:=Array.toList_inj.1 h1
   have e2:tys=#[t]:=Array.toList_inj.1 h2
   subst e1;subst e2
   exact Zfk h hc hv
  ·rename_i x y t t' h1 h2
   have e1:args=#[x,y]:=Array.toList_inj.1 h1
   have e2:tys=#[t,t']:=Array.toList_inj.1 h2
   subst e1;subst e2
   obtain ⟨v,av,h1,h2,h3⟩:=Ziw h hc hv
   exact Ends.ofQ h ⟨v,av,h1,h2,h3⟩
  ·rename_i x y t t' h1 h2
   have e1:args=#[x,y]:=Array.toList_inj.1 h1
   have e2:tys=#[t,t']:=Array.toList_inj.1 h2
   subst e1;subst e2
   obtain ⟨v,av,h1,h2,h3⟩:=Zct h hc hv
   exact Ends.ofQ h ⟨v,av,h1,h2,h3⟩
  ·rename_i x y t t' h1 h2
   have e1:args=#[x,y]:=Array.toList_inj.1 h1
   have e2:tys=#[t,t']:=Array.toList_inj.1 h2
   subst e1;subst e2
   split at hv
   ·rename_i z ey
    exact Zg7 h hc ey hv
   ·split at hv
    ·rename_i ex
     exact Zg6 h hc ex hv
    ·exact Uj h o (by rw [hc];exact hv)
  ·exact Uj h o (by rw [hc];exact hv)
 ·rename_i b T x y T2 hc
  split at hv
  ·rename_i k0 sz i j ex
   obtain ⟨v,av,h1,h2,h3⟩:=Zcn h hc ex hv
   exact Ends.ofQ h ⟨v,av,h1,h2,h3⟩
  ·rename_i sz m f ex
   obtain ⟨v,av,h1,h2,h3⟩:=Gc h hc ex hv
   exact Ends.ofQ h ⟨v,av,h1,h2,h3⟩
  ·exact Uj h o (by rw [hc];exact hv)
 ·rename_i t1 t2 x hc
  split at hv
  ·rename_i k0 sz i j ex
   exact ZeJ h hc ex hv
  ·exact Uj h o (by rw [hc];exact hv)
 ·exact Uj h o hv
end
end Go.Proofs.YtadghlfkddkelaaGreatDoor.V
namespace Go.Proofs.YtadghlfkddkelaaGreatDoor.V
open Go.RowKit
inductive Closed:AV→Prop
 |lit (v:Value):Closed (.lit v)
 |agg (cs:List AV) (h:∀ c,c∈cs→Closed c):Closed (.agg cs)
 |sl (sz n:Nat) (f:Nat→List AV) (h:∀ (i:Nat) c,i<n→c∈f i→Closed c):Closed (.sl sz n f)
 |bptr (cs:List AV) (h:∀ c,c∈cs→Closed c):Closed (.bptr cs)
theorem Rep.closed {w w':World} {ok ok':Nat→Prop} {hd hd':Nat→Value} {m m':Nat} {av:AV} (hcl:Closed av):(∀ a u,ok a.block→w.cell? a=some u→w'.cell? a=some u∧ok' a.block)→
  ∀ {v:Value},Rep w ok hd m av v→Rep w' ok' hd' m' av v:=by
 intro hc
 induction hcl with
 |lit v=>intro v h;cases h;exact .lit _
 |agg cs _ ih=>
  intro v h
  cases h with
  |agg _ vs hl h=>exact .agg cs vs hl fun j a u h1 h2=>ih a (List.mem_of_getElem? h1) (h j a u h1 h2)
 |sl sz n f _ ih=>
  intro v h
  cases h with
  |sl _ _ _ A c u hcn hmn hsz hl ha hr=>
   refine .sl sz n f A c u hcn hmn hsz hl (fun hn=>?_) fun i j a hi hj=>ih i a hi (List.mem_of_getElem? hj) (hr i j a hi hj)
   obtain ⟨ad,e,hok,hcell⟩:=ha hn
   have h0:=hc (ad.add (0*sz+0)) _ (by rw [show 0*sz+0=0 by omega];simpa [Addr.add] using hok) (hcell 0 0 hn hsz)
   refine ⟨ad,e,by rw [show 0*sz+0=0 by omega] at h0;simpa [Addr.add] using h0.2,fun i j hi hj=>(hc _ _ ?_ (hcell i j hi hj)).1⟩
   unfold Addr.add;split<;>exact hok
 |bptr cs _ ih=>
  intro v h
  cases h with
  |bptr _ ad u hne hok hcell hr=>
   have hp:0<cs.length:=by cases cs with
    |nil=>exact absurd rfl hne
    |cons _ _=>simp
   have h0:=hc (ad.add 0) _ (by simpa [Addr.add] using hok) (hcell 0 hp)
   refine .bptr cs ad u hne (by simpa [Addr.add] using h0.2) (fun j hj=>(hc _ _ ?_ (hcell j hj)).1) fun j a hj=>ih a (List.mem_of_getElem? hj) (hr j a hj)
   unfold Addr.add;split<;>exact hok
def YL:AV→Bool
 | .lit _=>true
 | _=>false
theorem Closed.of_lit {av:AV} (h:YL av=true):Closed av:=by cases av<;>simp [YL] at h;exact .lit _
def X8:AV→Bool
 | .lit _=>true
 | .own _=>true
 | .ptr _ _ _ _=>true
 | .sub _ _ _ _=>true
 | _=>false
def VP:AV→Bool
 | .agg cs=>cs.all X8
 |x=>X8 x
def Vb:AV→Bool
 | .tup vs=>vs.all VP
 |x=>VP x
def Ww (g:Nat→Nat):AV→AV
 | .own k=>.own (g k)
 | .ptr k sz i j=>.ptr (g k) sz i j
 | .sub k sz i j=>.sub (g k) sz i j
 |x=>x
def QU (g:Nat→Nat):AV→AV
 | .agg cs=>.agg (cs.map (Ww g))
 |x=>Ww g x
def ren (g:Nat→Nat):AV→AV
 | .tup vs=>.tup (vs.map (QU g))
 |x=>QU g x
def WI:AV→List Nat
 | .own k=>[k]
 | .ptr k _ _ _=>[k]
 | .sub k _ _ _=>[k]
 | _=>[]
def Zcp:AV→List Nat
 | .agg cs=>cs.flatMap WI
 |x=>WI x
def Wi:AV→List Nat
 | .tup vs=>vs.flatMap Zcp
 |x=>Zcp x
section
variable {w w':World} {ok ok':Nat→Prop} {hd hd':Nat→Value} {m m':Nat} {g:Nat→Nat}
theorem Rep.ren1_ {av:AV} {v:Value} (hf:X8 av=true) (hg:∀ k,k∈WI av→k<m→g k<m'∧hd' (g k)=hd k) (h:Rep w ok hd m av v):Rep w' ok' hd' m' (Ww g av) v:=by
 cases h with
 |lit v=>exact .lit v
 |own k hk=>
  obtain ⟨h1,h2⟩:=hg k (by simp [WI]) hk
  rw [←h2];exact .own _ h1
 |ptr k sz i j b n' c' hk h=>
  obtain ⟨h1,h2⟩:=hg k (by simp [WI]) hk
  exact .ptr _ sz i j b n' c' h1 (by rw [h2];exact h)
 |sub k sz lo n A c hk hc ha=>
  obtain ⟨h1,h2⟩:=hg k (by simp [WI]) hk
  exact .sub _ sz lo n A c h1 hc (fun hn=>by rw [h2];exact ha hn)
 | _=>simp [X8] at hf
def Gu (c:AV):Prop:=X8 c=true∨(∃ sz n f,c=.sl sz n f)∧Closed c
theorem ZiN {l:List AV} (h:l.all X8=true):∀ c,c∈l→Gu c:=fun c hc=>.inl (List.all_eq_true.1 h c hc)
theorem flatC_ren {g:Nat→Nat} {x:AV}:Gu (Ww g x)↔Gu x:=by cases x<;>simp [Gu,Ww,X8]
theorem Rep.renC_ {av:AV} {v:Value} (hf:Gu av) (hc:∀ a u,ok a.block→w.cell? a=some u→w'.cell? a=some u∧ok' a.block) (hg:∀ k,k∈WI av→k<m→g k<m'∧hd' (g k)=hd k) (h:Rep w ok hd m av v):Rep w' ok' hd' m' (Ww g av) v:=by
 rcases hf with hf|⟨⟨sz,n,f,rfl⟩,hcl⟩
 ·exact h.ren1_ hf hg
 ·exact Rep.closed hcl hc h
theorem Rep.ren2_ {av:AV} {v:Value} (hf:VP av=true) (hg:∀ k,k∈Zcp av→k<m→g k<m'∧hd' (g k)=hd k) (h:Rep w ok hd m av v):Rep w' ok' hd' m' (QU g av) v:=by
 cases h with
 |agg cs vs hl h=>
  simp only [VP,List.all_eq_true] at hf
  refine .agg _ vs (by simpa using hl) fun j a u h1 h2=>?_
  rw [List.getElem?_map,Option.map_eq_some_iff] at h1
  obtain ⟨a0,h3,h4⟩:=h1
  subst h4
  exact (h j a0 u h3 h2).ren1_ (hf _ (List.mem_of_getElem? h3)) fun k hk=>hg k (List.mem_flatMap.2 ⟨a0,List.mem_of_getElem? h3,hk⟩)
 |lit v=>exact .lit v
 |own k hk=>exact Rep.ren1_ (av:=.own k) (w:=w) (ok:=ok) rfl hg (.own k hk)
 |ptr k sz i j b n' c' hk h=>exact Rep.ren1_ (av:=.ptr k sz i j) (w:=w) (ok:=ok) rfl hg (.ptr k sz i j b n' c' hk h)
 |sub k sz lo n A c hk hc ha=>exact Rep.ren1_ (av:=.sub k sz lo n) (w:=w) (ok:=ok) rfl hg (.sub k sz lo n A c hk hc ha)
 | _=>simp [VP,X8] at hf
theorem Rep.ren_ {av:AV} {v:Value} (hf:Vb av=true) (hg:∀ k,k∈Wi av→k<m→g k<m'∧hd' (g k)=hd k) (h:Rep w ok hd m av v):Rep w' ok' hd' m' (ren g av) v:=by
 cases h with
 |tup cs vs hl h=>
  simp only [Vb,List.all_eq_true] at hf
  refine .tup _ vs (by simpa using hl) fun j a u h1 h2=>?_
  rw [List.getElem?_map,Option.map_eq_some_iff] at h1
  obtain ⟨a0,h3,h4⟩:=h1
  subst h4
  exact (h j a0 u h3 h2).ren2_ (hf _ (List.mem_of_getElem? h3)) fun k hk=>hg k (List.mem_flatMap.2 ⟨a0,List.mem_of_getElem? h3,hk⟩)
 |agg cs vs hl h=>exact Rep.ren2_ (av:=.agg cs) hf hg (.agg cs vs hl h)
 |lit v=>exact .lit v
 |own k hk=>exact Rep.ren2_ (av:=.own k) (w:=w) (ok:=ok) rfl hg (.own k hk)
 |ptr k sz i j b n' c' hk h=>exact Rep.ren2_ (av:=.ptr k sz i j) (w:=w) (ok:=ok) rfl hg (.ptr k sz i j b n' c' hk h)
 |sub k sz lo n A c hk hc ha=>exact Rep.ren2_ (av:=.sub k sz lo n) (w:=w) (ok:=ok) rfl hg (.sub k sz lo n A c hk hc ha)
 | _=>simp [Vb,VP,X8] at hf
end
def GO (v:AV):Prop:=VP v=true∨Closed v
def clW:AV→Prop
 | .tup vs=>∀ v,v∈vs→GO v
 |x=>GO x
theorem ZeE {g:Nat→Nat} {v:AV} (h:Closed v):Ww g v=v:=by cases h<;>rfl
theorem Gf {g:Nat→Nat} {v:AV} (h:Closed v):QU g v=v:=by
 cases h with
 |agg cs h=>
  simp only [QU]
  congr 1
  exact (List.map_congr_left fun c hc=>ZeE (h c hc)).trans (List.map_id _)
 | _=>rfl
theorem ZiO {g:Nat→Nat} (x:AV):VP (QU g x)=VP x:=by
 have f1:∀ x,X8 (Ww g x)=X8 x:=by intro x;cases x<;>rfl
 cases x with
 |agg cs=>simp [VP,QU,Function.comp_def,f1]
 | _=>rfl
theorem WL {g:Nat→Nat} {v:AV} (h:GO v):GO (QU g v):=h.elim (fun h=>.inl ((ZiO v).trans h)) fun h=>.inr (by rw [Gf h];exact h)
theorem Zl0 {g:Nat→Nat} {v:AV} (h:clW v):clW (ren g v):=by
 cases v with
 |tup vs=>
  intro x hx
  obtain ⟨y,hy,rfl⟩:=List.mem_map.1 hx
  exact WL (h y hy)
 |agg cs=>exact WL (g:=g) (v:=.agg cs) h
 |lit v=>exact WL (g:=g) (v:=.lit v) h
 |own k=>exact WL (g:=g) (v:=.own k) h
 |ptr k a b c=>exact WL (g:=g) (v:=.ptr k a b c) h
 |sub k a b c=>exact WL (g:=g) (v:=.sub k a b c) h
 |sl a b c=>exact WL (g:=g) (v:=.sl a b c) h
 |bptr cs=>exact WL (g:=g) (v:=.bptr cs) h
 |undef=>exact WL (g:=g) (v:=.undef) h
 |fam a b c=>exact WL (g:=g) (v:=.fam a b c) h
theorem Rep.renW2_ {w w':World} {ok ok':Nat→Prop} {hd hd':Nat→Value} {m m':Nat} {g:Nat→Nat} {av:AV} {v:Value} (hf:GO av) (hc:∀ a u,ok a.block→w.cell? a=some u→w'.cell? a=some u∧ok' a.block) (hg:∀ k,k∈Zcp av→k<m→g k<m'∧hd' (g k)=hd k) (h:Rep w ok hd m av v):Rep w' ok' hd' m' (QU g av) v:=by
 rcases hf with hf|hf
 ·exact h.ren2_ hf hg
 ·rw [Gf hf];exact Rep.closed hf hc h
theorem Rep.renW_ {w w':World} {ok ok':Nat→Prop} {hd hd':Nat→Value} {m m':Nat} {g:Nat→Nat} {av:AV} {v:Value} (hf:clW av) (hc:∀ a u,ok a.block→w.cell? a=some u→w'.cell? a=some u∧ok' a.block) (hg:∀ k,k∈Wi av→k<m→g k<m'∧hd' (g k)=hd k) (h:Rep w ok hd m av v):Rep w' ok' hd' m' (ren g av) v:=by
 cases h with
 |tup cs vs hl h=>
  refine .tup _ vs (by simpa using hl) fun j a u ha hu=>?_
  rw [List.getElem?_map,Option.map_eq_some_iff] at ha
  obtain ⟨c,hcj,rfl⟩:=ha
  have hm:=List.mem_of_getElem? hcj
  exact (h j c u hcj hu).renW2_ (hf c hm) hc fun k hk=>hg k (List.mem_flatMap.2 ⟨c,hm,hk⟩)
 |undef v=>exact Rep.renW2_ (av:=.undef) hf hc hg (.undef v)
 |lit v=>exact .lit v
 |agg cs vs hl h=>exact Rep.renW2_ (av:=.agg cs) hf hc hg (.agg cs vs hl h)
 |sl sz n f A c u h1 h2 h3 h4 h5 h6=>exact Rep.renW2_ (av:=.sl sz n f) hf hc hg (.sl sz n f A c u h1 h2 h3 h4 h5 h6)
 |own k hk=>exact Rep.renW2_ (av:=.own k) hf hc hg (.own k hk)
 |sub k sz lo n A c hk h1 h2=>exact Rep.renW2_ (av:=.sub k sz lo n) hf hc hg (.sub k sz lo n A c hk h1 h2)
 |ptr k sz i j b n' c' hk h=>exact Rep.renW2_ (av:=.ptr k sz i j) hf hc hg (.ptr k sz i j b n' c' hk h)
 |bptr cs ad u h1 h2 h3 h4=>exact Rep.renW2_ (av:=.bptr cs) hf hc hg (.bptr cs ad u h1 h2 h3 h4)
 |fam n vs as v h=>exact Rep.renW2_ (av:=.fam n vs as) hf hc hg (.fam n vs as v h)
def QI (mem:List (Option Ob)) (av:AV) (sz n:Nat) (f':Nat→List AV):Prop:=
 0<sz∧∃ f,ZY mem sz av=some (n,f)∧∀ i,i<n→f i=f' i∧∀ c,c∈f' i→Closed c
def Kg (mem:List (Option Ob)) (c:AV):AV→Prop
 | .lit v=>c=.lit v
 | .sl sz n f'=>QI mem c sz n f'
 | _=>False
def ZfT (mem:List (Option Ob)) (av:AV):AV→Prop
 | .agg cs'=>∃ cs,av=.agg cs∧cs.length=cs'.length∧∀ (j:Nat) c c',cs[j]?=some c→cs'[j]?=some c'→Kg mem c c'
 |x=>Kg mem av x
def V2 (mem:List (Option Ob)):List AV→List AV→Prop
 |[],[]=>True
 |a::r,b::r'=>ZfT mem a b∧V2 mem r r'
 | _,_=>False
def ZbM (P:Program) (f:FuncId):Prop:=∃ fn,P.funcs[f]?=some fn∧(fn.name== "runtime.NumGoroutine")=false∧fn.body.isNone=false
def VFun (P:Program) (f:FuncId) (args:List AV) (R:AV→List Ob→Prop):Prop:=
 ZbM P f∧∀ (w:World) (vs:List Value),GS P w (fun b=>w.heap.size≤b) args vs→(∀ (j:Nat) a u,args[j]?=some a→vs[j]?=some u→Rep w (fun _=>True) (fun _=>undef) 0 a u)→
  Calls P f vs.toArray w (fun e w'=>∃ v,e=.returned v∧w.grownBy w' none∧∃ hd av obs,R av obs∧Vb av=true∧(∀ ob,ob∈obs→∀ i,i<ob.n→(ob.f i).all YL=true)∧
   MemRel (fun b=>w.heap.size≤b) w' hd (obs.map some)∧Rep w' (fun _=>True) hd obs.length av v)
theorem VFun.mono {P:Program} {f:FuncId} {args:List AV} {R R':AV→List Ob→Prop} (h:VFun P f args R) (hr:∀ av obs,R av obs→R' av obs):VFun P f args R':=
 ⟨h.1,fun w vs hl hv=>(h.2 w vs hl hv).mono fun e w' ⟨v,e1,g,hd,av,obs,r,rest⟩=>⟨v,e1,g,hd,av,obs,hr _ _ r,rest⟩⟩
section
variable {P:Program} {n:Nat} {base:Fr} {w0 w:World} {hd:Nat→Value} {s:VS} {a:Act} {k:AV→VS→Prop}
theorem H0 (h:RelH n base w0 hd s a w) {x:Operand} {sz m:Nat} {f':Nat→List AV} (ha:QI s.mem (ev s x) sz m f'):Rep w (fun _=>True) (fun _=>undef) 0 (.sl sz m f') (a.eval x):=by
 obtain ⟨hsz,f,hc,hf⟩:=ha
 obtain ⟨A,c,u,hv,hmc,hcell,hr⟩:=Zay h hc
 rw [hv]
 have hmax:m≤9223372036854775807:=by
  have hx:=h.ev_ x
  generalize ev s x=ax at *
  cases ax with
  |sl sz' m' f0=>
   simp only [ZY] at hc
   split at hc
   ·simp only [Option.some.injEq,Prod.mk.injEq] at hc
    obtain ⟨rfl,rfl⟩:=hc
    rw [hv] at hx
    cases hx;assumption
   ·simp at hc
  |own q=>
   simp only [ZY] at hc
   split at hc
   ·rename_i ob hob
    split at hc
    ·simp only [Option.some.injEq,Prod.mk.injEq] at hc
     obtain ⟨rfl,rfl⟩:=hc
     obtain ⟨_,vals,ho,_⟩:=h.me.obs q ob hob
     rcases ho.2 with ⟨_,h0⟩|⟨g,cap,cur,_,_,h1,h2,_⟩
     ·omega
     ·simp only [maxLen] at h2;omega
    ·simp at hc
   ·simp at hc
  |sub q sz' lo m'=>
   simp only [ZY] at hc
   split at hc
   ·rename_i ob hob
    split at hc
    ·rename_i hh
     simp only [Option.some.injEq,Prod.mk.injEq] at hc
     obtain ⟨rfl,rfl⟩:=hc
     obtain ⟨_,vals,ho,_⟩:=h.me.obs q ob hob
     rcases ho.2 with ⟨_,h0⟩|⟨g,cap,cur,_,_,h1,h2,_⟩
     ·omega
     ·simp only [maxLen] at h2;omega
    ·simp at hc
   ·simp at hc
  |lit v=>
   unfold ZY at hc
   split at hc
   ·rename_i e;cases e
   ·rename_i e;cases e
   ·rename_i e;cases e
   ·simp only [Option.some.injEq,Prod.mk.injEq] at hc
    obtain ⟨rfl,rfl⟩:=hc
    omega
   ·simp at hc
  | _=>simp [ZY] at hc
 refine .sl sz m f' A c u hmc hmax hsz (fun i hi=>by rw [←(hf i hi).1];exact (hr i hi).1) (fun hp=>?_) fun i j av hi hj=>?_
 ·obtain ⟨ad,e1,e2⟩:=hcell hp
  exact ⟨ad,e1,trivial,e2⟩
 ·have hcl:=(hf i hi).2 av (List.mem_of_getElem? hj)
  rw [←(hf i hi).1] at hj
  exact Rep.closed hcl (fun _ _ _ hc=>⟨hc,trivial⟩) ((hr i hi).2 j av hj).1
theorem ZcL (h:RelH n base w0 hd s a w) {x:Operand} {av':AV} (ha:ZfT s.mem (ev s x) av'):Rep w (fun _=>True) (fun _=>undef) 0 av' (a.eval x):=by
 have one:∀ (y:Operand) c',Kg s.mem (ev s y) c'→Rep w (fun _=>True) (fun _=>undef) 0 c' (a.eval y):=by
  intro y c' h1
  cases c' with
  |lit v=>
   have hy:=h.ev_ y
   simp only [Kg] at h1
   rw [h1] at hy
   generalize a.eval y=u at hy
   cases hy;exact .lit _
  |sl sz m f'=>exact H0 h h1
  | _=>exact h1.elim
 cases av' with
 |agg cs'=>
  obtain ⟨cs,e,hl,hc⟩:=ha
  have hx:=h.ev_ x
  rw [e] at hx
  generalize a.eval x=u at hx
  cases hx with
  |agg _ vs hl' hr=>
   refine .agg cs' vs (by omega) fun j c' u h1 h2=>?_
   have hjl:j<cs.length:=by rw [hl];exact (List.getElem?_eq_some_iff.1 h1).1
   -- the part as an operand of a frame that holds it
   have hp:=hr j cs[j] u (List.getElem?_eq_getElem hjl) h2
   have h3:=hc j _ c' (List.getElem?_eq_getElem hjl) h1
   have h':RelH (n+1) base w0 hd { s with tmps:=(n,cs[j])::s.tmps } ⟨a.tmps.push u,a.defers⟩ w:=by
    refine ⟨h.defers,by simp [h.size],h.below,h.le,h.fixl,h.fix,h.mp,fun t=>?_,h.me⟩
    simp only [lk,Array.getD_eq_getD_getElem?,Array.getElem?_push,h.size]
    by_cases e2:n=t
    ·subst e2;simp;exact hp
    ·rw [if_neg e2,if_neg (fun e3=>e2 e3.symm)]
     have:=h.tm t
     rwa [Array.getD_eq_getD_getElem?] at this
   have e4:ev { s with tmps:=(n,cs[j])::s.tmps } (.tmp n)=cs[j]:=by simp [ev,lk]
   have e5:(⟨a.tmps.push u,a.defers⟩:Act).eval (.tmp n)=u:=by simp [Act.eval,←h.size]
   cases c' with
   |lit v=>
    simp only [Kg] at h3
    rw [h3] at hp
    cases hp;exact .lit _
   |sl sz m f'=>
    have:=H0 h' (x:=.tmp n) (sz:=sz) (m:=m) (f':=f') (by rw [e4];exact h3)
    rw [e5] at this;exact this
   | _=>exact h3.elim
 |lit v=>exact one x _ ha
 |sl sz m f'=>exact one x _ ha
 | _=>exact (ha:False).elim
theorem Jo (h:RelH n base w0 hd s a w):∀ (xs:List Operand) (args':List AV),V2 s.mem (xs.map (ev s)) args'→
  args'.length=(xs.map a.eval).length∧∀ (j:Nat) b u,args'[j]?=some b→(xs.map a.eval)[j]?=some u→Rep w (fun _=>True) (fun _=>undef) 0 b u
 |[],[],_=>⟨rfl,fun j b u hb=>by simp at hb⟩
 |x::xs,b::bs,ha=>by
  obtain ⟨h1,h2⟩:=ha
  obtain ⟨g1,g2⟩:=Jo h xs bs h2
  refine ⟨by simpa using g1,fun j c u hc hu=>?_⟩
  cases j with
  |zero=>
   simp only [List.getElem?_cons_zero,Option.some.injEq,List.map_cons] at hc hu
   subst hc;subst hu
   exact ZcL h h1
  |succ j=>exact g2 j c u (by simpa using hc) (by simpa using hu)
 |[],_::_,ha=>ha.elim
 | _::_,[],ha=>ha.elim
theorem MemRel.retail {B:Nat→Prop} {w:World} {hdc hd2:Nat→Value} {obs:List Ob} (hm:MemRel B w hdc (obs.map some)) (hlit:∀ ob,ob∈obs→∀ i,i<ob.n→(ob.f i).all YL=true) (e:∀ k,k<obs.length→hd2 k=hdc k):MemRel B w hd2 (obs.map some):=by
 have lt:∀ k o,(obs.map some)[k]?=some (some o)→k<obs.length:=fun k o hk=>by have:=(List.getElem?_eq_some_iff.1 hk).1;simpa using this
 refine ⟨fun k ob hk b hb=>hm.alw k ob hk b (by rw [←e k (lt k ob hk)];exact hb),fun k ob hk=>?_,fun k hk=>by rw [e k (by simpa using hk)];exact hm.hds k hk,fun k k' o o' hk hk' hne=>by rw [e k (lt k o hk),e k' (lt k' o' hk')];exact hm.apart k k' o o' hk hk' hne⟩
 obtain ⟨hs,vals,ho,hr⟩:=hm.obs k ob hk
 refine ⟨hs,vals,by rw [e k (lt k ob hk)];exact ho,fun i hi=>⟨(hr i hi).1,fun j av hj=>?_⟩⟩
 obtain ⟨v,q1,q2,q3⟩:=(hr i hi).2 j av hj
 have hmem:ob∈obs:=by
  have:=List.mem_of_getElem? hk
  simpa using this
 have hl:=List.all_eq_true.1 (hlit ob hmem i hi) av (List.mem_of_getElem? hj)
 refine ⟨v,q1,q2,?_⟩
 cases av<;>simp [YL] at hl
 cases q3;exact .lit _
theorem RelH.import (h:RelH n base w0 hd s a w) {w':World} (hg:w.grownBy w' none) {hdc:Nat→Value} {obs:List Ob} (hm:MemRel (fun b=>w.heap.size≤b) w' hdc (obs.map some)) (hlit:∀ ob,ob∈obs→∀ i,i<ob.n→(ob.f i).all YL=true) (htl:TailEq (fun k=>hd (k+s.mem.length)) hdc) :
  RelH n base w0 (fun j=>if j<s.mem.length then hd j else hdc (j-s.mem.length)) { s with mem:=s.mem++obs.map some } a w':=by
 have hlen:s.mem.length≤(s.mem++obs.map some).length:=by simp
 have hhd:∀ q,q<s.mem.length→(fun j=>if j<s.mem.length then hd j else hdc (j-s.mem.length)) q=hd q:=by
  intro q hq;simp only;rw [if_pos hq]
 have heq:TailEq hd (fun j=>if j<s.mem.length then hd j else hdc (j-s.mem.length)):=by
  obtain ⟨K,hK⟩:=htl
  refine ⟨K+s.mem.length,fun k hk=>?_⟩
  show (if k<s.mem.length then hd k else hdc (k-s.mem.length))=hd k
  have hnk:¬k<s.mem.length:=by omega
  rw [if_neg hnk,hK (k-s.mem.length) (by omega)]
  show hd (k-s.mem.length+s.mem.length)=hd k
  rw [Nat.sub_add_cancel (by omega)]
 have newB:∀ q ob,(obs.map some)[q]?=some (some ob)→∀ b,(hdc q).ownBlock=some b→w.heap.size≤b:=by
  intro q ob hq b hb
  exact hm.alw q ob hq b hb
 have hok:∀ ad v,Zw s.mem hd ad.block→w.cell? ad=some v→w'.cell? ad=some v∧Zw (s.mem++obs.map some) (fun j=>if j<s.mem.length then hd j else hdc (j-s.mem.length)) ad.block:=by
  intro ad v hoA hcA
  have hlt:=World.block_lt_of_cell? w _ hcA
  refine ⟨Wz (hg.block _ hlt (by simp)) hcA,fun q oq hq=>?_,hoA.2.eq heq⟩
  simp only
  rw [List.getElem?_append] at hq
  split at hq
  ·rename_i hql;rw [if_pos hql];exact hoA.1 q oq hq
  ·rename_i hql
   rw [if_neg hql]
   intro e
   have:=newB _ oq hq _ e
   omega
 refine ⟨h.defers,h.size,h.below.grown hg (by simp),h.le,by have:=h.fixl;simp;omega,⟨fun q hq=>(if_pos (by have:=h.fixl;have hq':q<s.fix:=hq;omega)).trans (h.fix.1 q hq),h.fix.2.1.trans heq,h.fix.2.2⟩,h.mp.grown hg (by simp),fun q=>(h.tm q).mono hok hhd hlen,⟨fun q oq hq b hb=>?_,fun q oq hq=>?_,fun q hq=>?_,fun q q' oq oq' hq hq' hqq=>?_⟩⟩
 ·rw [List.getElem?_append] at hq
  split at hq
  ·rename_i hql
   rw [if_pos hql] at hb
   exact h.me.alw q oq hq b hb
  ·rename_i hql
   rw [if_neg hql] at hb
   exact h.le _ (Nat.le_trans h.below.size (newB _ oq hq b hb))
 ·simp only
  rw [List.getElem?_append] at hq
  split at hq
  ·rename_i hql
   rw [if_pos hql]
   obtain ⟨hs',vs',ho',hr'⟩:=h.me.obs q oq hq
   refine ⟨hs',vs',ho'.kept hg (by cases (hd q).ownBlock<;>simp),fun i hi=>⟨(hr' i hi).1,fun j av hj=>?_⟩⟩
   obtain ⟨v,q1,q2,q3⟩:=(hr' i hi).2 j av hj
   exact ⟨v,q1,q2,q3.mono hok hhd hlen⟩
  ·rename_i hql
   rw [if_neg hql]
   obtain ⟨hs',vs',ho',hr'⟩:=hm.obs _ oq hq
   refine ⟨hs',vs',ho',fun i hi=>⟨(hr' i hi).1,fun j av hj=>?_⟩⟩
   obtain ⟨v,q1,q2,q3⟩:=(hr' i hi).2 j av hj
   have hmem:oq∈obs:=by
    have:=List.mem_of_getElem? hq
    simpa using this
   have hl:=List.all_eq_true.1 (hlit oq hmem i hi) av (List.mem_of_getElem? hj)
   refine ⟨v,q1,q2,?_⟩
   cases av<;>simp [YL] at hl
   cases q3;exact .lit _
 ·split
  ·rename_i hql;exact h.me.hds q hql
  ·rename_i hql;exact hm.hds _ (by simp at hq ⊢;omega)
 ·have cross:∀ p p' op op',s.mem[p]?=some (some op)→(obs.map some)[p']?=some (some op')→(hd p).ownBlock=none∨(hd p).ownBlock≠(hdc p').ownBlock:=by
   intro p p' op op' hp hp'
   cases hb:(hd p).ownBlock with
   |none=>exact .inl rfl
   |some b=>
    refine .inr fun e=>?_
    obtain ⟨_,vals,ho,_⟩:=h.me.obs p op hp
    have h1:=(HA ho hb).1
    have h2:=newB p' op' hp' b e.symm
    omega
  rw [List.getElem?_append] at hq hq'
  split at hq
  ·rename_i hql
   rw [if_pos hql]
   split at hq'
   ·rename_i hql';rw [if_pos hql'];exact h.me.apart q q' oq oq' hq hq' hqq
   ·rename_i hql';rw [if_neg hql'];exact cross q _ oq oq' hq hq'
  ·rename_i hql
   rw [if_neg hql]
   split at hq'
   ·rename_i hql'
    rw [if_pos hql']
    rcases cross q' _ oq' oq hq' hq with e|e
    ·cases hb:(hdc (q-s.mem.length)).ownBlock with
     |none=>exact .inl rfl
     |some b=>rw [e];exact .inr (by simp)
    ·exact .inr (fun e'=>e e'.symm)
   ·rename_i hql'
    rw [if_neg hql']
    exact hm.apart _ _ oq oq' hq hq' (by omega)
end
end Go.Proofs.YtadghlfkddkelaaGreatDoor.V
