import Derived.Test.YtadghlfkddkelaaGreatDoorTA
import Derived.Laws.Externs
import Derived.Lib.Builder
import Derived.Scope
import Derived.SizedLaws
import Derived.ProofKit
import Derived.Deep.Slices
set_option linter.unusedVariables false
set_option linter.unusedSimpArgs false
set_option linter.constructorNameAsVariable false
namespace Go.Proofs.YtadghlfkddkelaaGreatDoor.V
open Go.RowKit
section
variable {hd:Nat→Value}
inductive Rn (f:Nat→Nat) (m:Nat):AV→AV→Prop
 |undef (x:AV):Rn f m x .undef
 |closed (av:AV) (h:Closed av):Rn f m av av
 |own (k:Nat) (h:k<m):Rn f m (.own (f k)) (.own k)
 |sub (k sz lo n:Nat) (h:k<m):Rn f m (.sub (f k) sz lo n) (.sub k sz lo n)
 |ptr (k sz i j:Nat) (h:k<m):Rn f m (.ptr (f k) sz i j) (.ptr k sz i j)
 |agg (cs ds:List AV) (hl:cs.length=ds.length) (h:∀ (j:Nat) a b,cs[j]?=some a→ds[j]?=some b→Rn f m a b):Rn f m (.agg cs) (.agg ds)
 |tup (cs ds:List AV) (hl:cs.length=ds.length) (h:∀ (j:Nat) a b,cs[j]?=some a→ds[j]?=some b→Rn f m a b):Rn f m (.tup cs) (.tup ds)
 |bptr (cs ds:List AV) (hl:cs.length=ds.length) (h:∀ (j:Nat) a b,cs[j]?=some a→ds[j]?=some b→Rn f m a b):Rn f m (.bptr cs) (.bptr ds)
 |fam (n:Nat) (vs:Nat→Value) (as as':Nat→AV) (h:∀ i,i<n→Rn f m (as i) (as' i)):Rn f m (.fam n vs as) (.fam n vs as')
theorem Rep.rn {w:World} {ok ok':Nat→Prop} {m m':Nat} {f:Nat→Nat} {x y:AV} (hb:Rn f m' x y) (hok:∀ b,ok b→ok' b):∀ {v:Value},Rep w ok hd m x v→Rep w ok' (fun k=>hd (f k)) m' y v:=by
 induction hb with
 |undef x=>intro v _;exact .undef v
 |closed av hc=>intro v h;exact Rep.closed hc (fun a u h1 h2=>⟨h2,hok _ h1⟩) h
 |own k hk=>intro v h;cases h;exact .own k hk
 |sub k sz lo n hk=>intro v h;cases h with|sub _ _ _ _ A c _ hc ha=>exact .sub k sz lo n A c hk hc ha
 |ptr k sz i j hk=>intro v h;cases h with|ptr _ _ _ _ b n' c' _ hh=>exact .ptr k sz i j b n' c' hk hh
 |agg cs ds hl _ ih=>intro v h;cases h with|agg _ vs hl' hr=>exact .agg ds vs (by omega) fun j b u h1 h2=>(by
   have hj:j<cs.length:=by have:=(List.getElem?_eq_some_iff.1 h1).1;omega
   exact ih j _ b (List.getElem?_eq_getElem hj) h1 (hr j _ u (List.getElem?_eq_getElem hj) h2))
 |tup cs ds hl _ ih=>intro v h;cases h with|tup _ vs hl' hr=>exact .tup ds vs (by omega) fun j b u h1 h2=>(by
   have hj:j<cs.length:=by have:=(List.getElem?_eq_some_iff.1 h1).1;omega
   exact ih j _ b (List.getElem?_eq_getElem hj) h1 (hr j _ u (List.getElem?_eq_getElem hj) h2))
 |bptr cs ds hl _ ih=>intro v h;cases h with|bptr _ ad u hne hok' hc hr=>exact .bptr ds ad u (fun e=>hne (List.eq_nil_of_length_eq_zero (by rw [hl,e];rfl))) (hok _ hok') (fun j hj=>hc j (by omega)) fun j b h1=>(by
   have hj:j<cs.length:=by have:=(List.getElem?_eq_some_iff.1 h1).1;omega
   exact ih j _ b (List.getElem?_eq_getElem hj) h1 (hr j _ (List.getElem?_eq_getElem hj)))
 |fam n vs as as' _ ih=>intro v h;cases h with|fam _ _ _ _ hr=>exact .fam n vs as' v fun i hi=>ih i hi (hr i hi)
end
def ZhM (hd:Nat→Value) (ks:List Nat) (mem:List (Option Ob)) (k:Nat):Value:=match mem[k]? with
 |some (some _)=>if k∈ks then undef else hd k
 | _=>undef
def hdF (hd:Nat→Value) (ks:List Nat) (mem:List (Option Ob)) (L:Bool) (j:Nat):Value:=if j<ks.length then hd (ks.getD j 0) else if j%2=0 then (if L=true then undef else ZhM hd ks mem (j/2%mem.length)) else hd (j/2)
theorem Xy {hd:Nat→Value} {ks:List Nat} {mem:List (Option Ob)} {L:Bool} {j:Nat} (h:j<ks.length):hdF hd ks mem L j=hd (ks.getD j 0):=if_pos h
theorem Ze5 {hd:Nat→Value} {ks:List Nat} {mem:List (Option Ob)} {b:Nat} (h:tailOk (hdF hd ks mem false) b):tailOk hd b∧∀ k ob,mem[k]?=some (some ob)→k∉ks→(hd k).ownBlock≠some b:=by
 obtain ⟨K,hK⟩:=h
 refine ⟨⟨K+ks.length,fun k hk=>?_⟩,fun k ob hk hks=>?_⟩
 ·have:=hK (2*k+1) (by omega)
  unfold hdF at this
  rw [if_neg (by omega),if_neg (by omega),show (2*k+1)/2=k by omega] at this
  exact this
 ·have hlt:=(List.getElem?_eq_some_iff.1 hk).1
  have h2:K+ks.length≤mem.length*(K+ks.length):=Nat.le_mul_of_pos_left _ (by omega)
  have:=hK (2*(k+mem.length*(K+ks.length))) (by omega)
  unfold hdF at this
  rw [if_neg (by omega),if_pos (by omega),show 2*(k+mem.length*(K+ks.length))/2=k+mem.length*(K+ks.length) by omega,Nat.add_mul_mod_self_left,Nat.mod_eq_of_lt hlt] at this
  simp only [ZhM,hk,if_neg hks] at this
  simpa using this
theorem ZiJ {hd:Nat→Value} {ks:List Nat} {mem:List (Option Ob)} {k b:Nat} (h:(ZhM hd ks mem k).ownBlock=some b):∃ ob,mem[k]?=some (some ob)∧k∉ks∧(hd k).ownBlock=some b:=by
 unfold ZhM at h
 split at h
 ·rename_i ob hk
  split at h
  ·simp [undef,Value.ownBlock] at h
  ·rename_i hks
   exact ⟨ob,hk,hks,h⟩
 ·simp [undef,Value.ownBlock] at h
theorem Za6 {hd:Nat→Value} {ks:List Nat} {mem:List (Option Ob)} {L:Bool} {Q:Nat→Prop} (h:∃ K,∀ k,K≤k→∀ b,(hd k).ownBlock=some b→Q b) (h2:L=false→∀ k ob b,mem[k]?=some (some ob)→k∉ks→(hd k).ownBlock=some b→Q b) :
  ∃ K,∀ k,K≤k→∀ b,(hdF hd ks mem L k).ownBlock=some b→Q b:=by
 obtain ⟨K,hK⟩:=h
 refine ⟨ks.length+2*K,fun k hk b hb=>?_⟩
 unfold hdF at hb
 rw [if_neg (by omega)] at hb
 split at hb
 ·split at hb
  ·simp [undef,Value.ownBlock] at hb
  ·rename_i hL
   obtain ⟨ob,h3,h4,h5⟩:=ZiJ hb
   exact h2 (by simpa using hL) _ ob b h3 h4 h5
 ·exact hK _ (by omega) b hb
def Sh (w:World) (hd0:Nat→Value) (mem0:List (Option Ob)) (maps0:List (Nat×Mp)) (b:Nat):Prop:=
 w.heap.size≤b∨(∃ k ob,mem0[k]?=some (some ob)∧(hd0 k).ownBlock=some b)∨(lkm maps0 b).isSome=true
structure PostOk (mem0:List (Option Ob)) (maps0:List (Nat×Mp)) (av:AV) (mem:List (Option Ob)) (maps:List (Nat×Mp)):Prop where
 len:mem0.length≤mem.length
 flat:clW av
 cells:∀ (k:Nat) (ob:Ob),mem[k]?=some (some ob)→∀ i,i<ob.n→∀ c,c∈ob.f i→Gu c
 maps:∀ b,(lkm maps0 b).isSome=true→(lkm maps b).isSome=true
def VProc (P:Program) (f:FuncId) (args:List AV) (mem0:List (Option Ob)) (maps0:List (Nat×Mp)) (R:AV→List (Option Ob)→List (Nat×Mp)→Prop):Prop:=
 ZbM P f∧∀ (w:World) (vs:List Value) (hd0:Nat→Value),GS P w (Sh w hd0 mem0 maps0) args vs→
  (∀ (j:Nat) a u,args[j]?=some a→vs[j]?=some u→Rep w (Zw mem0 hd0) hd0 mem0.length a u)→MemRel (fun _=>True) w hd0 mem0→MapRel P (fun _=>True) w maps0→WP hd0 (Sh w hd0 mem0 maps0)→
  Calls P f vs.toArray w (fun e w'=>∃ v,e=.returned v∧Bel (Sh w hd0 mem0 maps0) w w'∧∃ hd av mem maps,R av mem maps∧PostOk mem0 maps0 av mem maps∧
   ((∀ k,k<mem0.length→hd k=hd0 k)∧TailEq hd0 hd)∧MemRel (Sh w hd0 mem0 maps0) w' hd mem∧MapRel P (Sh w hd0 mem0 maps0) w' maps∧Rep w' (Zw mem hd) hd mem.length av v)
theorem VProc.mono {P:Program} {f:FuncId} {args:List AV} {mem0:List (Option Ob)} {maps0:List (Nat×Mp)} {R R':AV→List (Option Ob)→List (Nat×Mp)→Prop} (h:VProc P f args mem0 maps0 R) (hr:∀ av mem maps,R av mem maps→R' av mem maps):VProc P f args mem0 maps0 R':=
 ⟨h.1,fun w vs hd0 hl hv hm hmp ht=>(h.2 w vs hd0 hl hv hm hmp ht).mono fun e w' ⟨v,e1,g,hd,av,mem,maps,r,rest⟩=>⟨v,e1,g,hd,av,mem,maps,hr _ _ _ r,rest⟩⟩
def VProcG (P:Program) (f:FuncId) (args:List AV) (N:Nat) (vs0:Nat→Value) (as0:Nat→AV) (mem0:List (Option Ob)) (maps0:List (Nat×Mp)) (R:AV→List (Option Ob)→List (Nat×Mp)→Prop):Prop:=
 ZbM P f∧∀ (w:World) (vs:List Value) (hd0:Nat→Value),GS P w (Sh w hd0 mem0 maps0) args vs→
  (∀ (j:Nat) a u,args[j]?=some a→vs[j]?=some u→Rep w (Zw mem0 hd0) hd0 mem0.length a u)→(∀ i,i<N→Rep w (Zw mem0 hd0) hd0 mem0.length (as0 i) (vs0 i))→MemRel (fun _=>True) w hd0 mem0→MapRel P (fun _=>True) w maps0→WP hd0 (Sh w hd0 mem0 maps0)→
  Calls P f vs.toArray w (fun e w'=>∃ v,e=.returned v∧Bel (Sh w hd0 mem0 maps0) w w'∧∃ hd av mem maps,R av mem maps∧PostOk mem0 maps0 av mem maps∧
   ((∀ k,k<mem0.length→hd k=hd0 k)∧TailEq hd0 hd)∧MemRel (Sh w hd0 mem0 maps0) w' hd mem∧MapRel P (Sh w hd0 mem0 maps0) w' maps∧Rep w' (Zw mem hd) hd mem.length av v)
theorem VProcG.mono {P:Program} {f:FuncId} {args:List AV} {N:Nat} {vs0:Nat→Value} {as0:Nat→AV} {mem0:List (Option Ob)} {maps0:List (Nat×Mp)} {R R':AV→List (Option Ob)→List (Nat×Mp)→Prop} (h:VProcG P f args N vs0 as0 mem0 maps0 R) (hr:∀ av mem maps,R av mem maps→R' av mem maps):VProcG P f args N vs0 as0 mem0 maps0 R':=
 ⟨h.1,fun w vs hd0 hl hv hg hm hmp ht=>(h.2 w vs hd0 hl hv hg hm hmp ht).mono fun e w' ⟨v,e1,g,hd,av,mem,maps,r,rest⟩=>⟨v,e1,g,hd,av,mem,maps,hr _ _ _ r,rest⟩⟩
def Zh2 (a:AV):Prop:=∃ cs,a=.bptr cs∧cs.all X8=true
def Zil (g:Nat→Nat):AV→AV
 | .bptr cs=>.bptr (cs.map (Ww g))
 |x=>x
def VProcT (P:Program) (f:FuncId) (args:List AV) (mem0:List (Option Ob)) (maps0:List (Nat×Mp)) (R:AV→List (Option Ob)→List (Nat×Mp)→Nat→(Nat→Value)→(Nat→AV)→Prop):Prop:=
 ZbM P f∧∀ (w:World) (vs:List Value) (hd0:Nat→Value),GS P w (Sh w hd0 mem0 maps0) args vs→
  (∀ (j:Nat) a u,args[j]?=some a→vs[j]?=some u→Rep w (Zw mem0 hd0) hd0 mem0.length a u)→MemRel (fun _=>True) w hd0 mem0→MapRel P (fun _=>True) w maps0→WP hd0 (Sh w hd0 mem0 maps0)→
  Calls P f vs.toArray w (fun e w'=>∃ v,e=.returned v∧Bel (Sh w hd0 mem0 maps0) w w'∧∃ hd av mem maps N vs1 as1,(R av mem maps N vs1 as1∧∀ i,i<N→Zh2 (as1 i)∧Rep w' (Zw mem hd) hd mem.length (as1 i) (vs1 i))∧PostOk mem0 maps0 av mem maps∧
   ((∀ k,k<mem0.length→hd k=hd0 k)∧TailEq hd0 hd)∧MemRel (Sh w hd0 mem0 maps0) w' hd mem∧MapRel P (Sh w hd0 mem0 maps0) w' maps∧Rep w' (Zw mem hd) hd mem.length av v)
theorem VProcT.mono {P:Program} {f:FuncId} {args:List AV} {mem0:List (Option Ob)} {maps0:List (Nat×Mp)} {R R':AV→List (Option Ob)→List (Nat×Mp)→Nat→(Nat→Value)→(Nat→AV)→Prop} (h:VProcT P f args mem0 maps0 R) (hr:∀ av mem maps N vs as,R av mem maps N vs as→R' av mem maps N vs as):VProcT P f args mem0 maps0 R':=
 ⟨h.1,fun w vs hd0 hl hv hm hmp ht=>(h.2 w vs hd0 hl hv hm hmp ht).mono fun e w' ⟨v,e1,g,hd,av,mem,maps,N,vs1,as1,⟨r,r2⟩,rest⟩=>⟨v,e1,g,hd,av,mem,maps,N,vs1,as1,⟨hr _ _ _ _ _ _ r,r2⟩,rest⟩⟩
def VProcGT (P:Program) (f:FuncId) (args:List AV) (N0:Nat) (vs0:Nat→Value) (as0:Nat→AV) (mem0:List (Option Ob)) (maps0:List (Nat×Mp)) (R:AV→List (Option Ob)→List (Nat×Mp)→Nat→(Nat→Value)→(Nat→AV)→Prop):Prop:=
 ZbM P f∧∀ (w:World) (vs:List Value) (hd0:Nat→Value),GS P w (Sh w hd0 mem0 maps0) args vs→
  (∀ (j:Nat) a u,args[j]?=some a→vs[j]?=some u→Rep w (Zw mem0 hd0) hd0 mem0.length a u)→(∀ i,i<N0→Rep w (Zw mem0 hd0) hd0 mem0.length (as0 i) (vs0 i))→MemRel (fun _=>True) w hd0 mem0→MapRel P (fun _=>True) w maps0→WP hd0 (Sh w hd0 mem0 maps0)→
  Calls P f vs.toArray w (fun e w'=>∃ v,e=.returned v∧Bel (Sh w hd0 mem0 maps0) w w'∧∃ hd av mem maps N vs1 as1,(R av mem maps N vs1 as1∧∀ i,i<N→Closed (as1 i)∧Rep w' (Zw mem hd) hd mem.length (as1 i) (vs1 i))∧PostOk mem0 maps0 av mem maps∧
   ((∀ k,k<mem0.length→hd k=hd0 k)∧TailEq hd0 hd)∧MemRel (Sh w hd0 mem0 maps0) w' hd mem∧MapRel P (Sh w hd0 mem0 maps0) w' maps∧Rep w' (Zw mem hd) hd mem.length av v)
theorem VProcGT.mono {P:Program} {f:FuncId} {args:List AV} {N0:Nat} {vs0:Nat→Value} {as0:Nat→AV} {mem0:List (Option Ob)} {maps0:List (Nat×Mp)} {R R':AV→List (Option Ob)→List (Nat×Mp)→Nat→(Nat→Value)→(Nat→AV)→Prop} (h:VProcGT P f args N0 vs0 as0 mem0 maps0 R) (hr:∀ av mem maps N vs as,R av mem maps N vs as→R' av mem maps N vs as):VProcGT P f args N0 vs0 as0 mem0 maps0 R':=
 ⟨h.1,fun w vs hd0 hl hv hg hm hmp ht=>(h.2 w vs hd0 hl hv hg hm hmp ht).mono fun e w' ⟨v,e1,g,hd,av,mem,maps,N,vs1,as1,⟨r,r2⟩,rest⟩=>⟨v,e1,g,hd,av,mem,maps,N,vs1,as1,⟨hr _ _ _ _ _ _ r,r2⟩,rest⟩⟩
theorem Rep.renB_ {w w':World} {ok ok':Nat→Prop} {hd hd':Nat→Value} {m m':Nat} {g:Nat→Nat} {av:AV} {v:Value} (hf:Zh2 av) (hc:∀ a u,ok a.block→w.cell? a=some u→w'.cell? a=some u∧ok' a.block) (hg:∀ k,k<m→g k<m'∧hd' (g k)=hd k) (h:Rep w ok hd m av v):Rep w' ok' hd' m' (Zil g av) v:=by
 obtain ⟨cs,rfl,hf⟩:=hf
 cases h with
 |bptr _ ad u hne hok hcell hr=>
  have hp:0<cs.length:=by cases cs with
   |nil=>exact absurd rfl hne
   |cons _ _=>simp
  have h0:=hc (ad.add 0) _ (by simpa [Addr.add] using hok) (hcell 0 hp)
  refine .bptr _ ad u (by simpa using hne) (by simpa [Addr.add] using h0.2) (fun j hj=>(hc _ _ ?_ (hcell j (by simpa using hj))).1) fun j x hx=>?_
  ·unfold Addr.add;split<;>exact hok
  ·rw [List.getElem?_map,Option.map_eq_some_iff] at hx
   obtain ⟨c,hx,rfl⟩:=hx
   exact (hr j c hx).ren1_ (List.all_eq_true.1 hf c (List.mem_of_getElem? hx)) fun k _ hk=>hg k hk
def ZcN (P:Program) (f:FuncId) (pv:Value) (args:List AV) (N:Nat) (vs0:Nat→Value) (as0:Nat→AV) (mem0:List (Option Ob)) (maps0:List (Nat×Mp)):Prop:=
 ZbM P f∧∀ (w:World) (vs:List Value) (hd0:Nat→Value),GS P w (Sh w hd0 mem0 maps0) args vs→
  (∀ (j:Nat) a u,args[j]?=some a→vs[j]?=some u→Rep w (Zw mem0 hd0) hd0 mem0.length a u)→(∀ i,i<N→Rep w (Zw mem0 hd0) hd0 mem0.length (as0 i) (vs0 i))→MemRel (fun _=>True) w hd0 mem0→MapRel P (fun _=>True) w maps0→WP hd0 (Sh w hd0 mem0 maps0)→
  Calls P f vs.toArray w (fun e w'=>e=.panicked [{ v:=pv,recovered:=false }]∧Bel (Sh w hd0 mem0 maps0) w w'∧MapRel P (Sh w hd0 mem0 maps0) w' maps0)
def ZO (f:Nat→Nat) (m:Nat):List AV→List AV→Prop
 |[],[]=>True
 |a::r,b::r'=>Rn f m a b∧ZO f m r r'
 | _,_=>False
theorem X0 {f:Nat→Nat} {m:Nat}:∀ {l l':List AV},ZO f m l l'→l.length=l'.length∧∀ (j:Nat) a b,l[j]?=some a→l'[j]?=some b→Rn f m a b
 |[],[],_=>⟨rfl,fun j a b h=>by simp at h⟩
 |a::r,b::r',h=>by
  obtain ⟨h1,h2⟩:=X0 h.2
  refine ⟨by simp [h1],fun j x y hx hy=>?_⟩
  cases j with
  |zero=>
   simp only [List.getElem?_cons_zero,Option.some.injEq] at hx hy
   subst hx;subst hy;exact h.1
  |succ j=>exact h2 j x y (by simpa using hx) (by simpa using hy)
 |[],_::_,h=>h.elim
 | _::_,[],h=>h.elim
def ZbH (f:Nat→Nat) (m:Nat) (ob ob':Ob):Prop:=ob.ty=ob'.ty∧ob.sz=ob'.sz∧ob.n=ob'.n∧∀ i,i<ob'.n→ZO f m (ob.f i) (ob'.f i)
def Zle (f:Nat→Nat) (m:Nat) (ob':Ob):Option (Option Ob)→Prop
 |some (some ob)=>ZbH f m ob ob'
 | _=>False
def XS (f:Nat→Nat) (m:Nat) (mem:List (Option Ob)):List Nat→List (Option Ob)→Prop
 |[],[]=>True
 |k::ks,some ob'::r=>Zle f m ob' (mem[k]?)∧XS f m mem ks r
 | _,_=>False
theorem Y9 {f:Nat→Nat} {m:Nat} {mem:List (Option Ob)}:∀ {ks:List Nat} {mem0:List (Option Ob)},XS f m mem ks mem0→mem0.length=ks.length∧∀ (j k:Nat),ks[j]?=some k→∃ ob ob',mem0[j]?=some (some ob')∧mem[k]?=some (some ob)∧ZbH f m ob ob'
 |[],[],_=>⟨rfl,fun j k h=>by simp at h⟩
 |k::ks,some ob'::r,h=>by
  obtain ⟨h1,h2⟩:=Y9 h.2
  refine ⟨by simp [h1],fun j q hq=>?_⟩
  cases j with
  |zero=>
   simp only [List.getElem?_cons_zero,Option.some.injEq] at hq
   subst hq
   have h3:=h.1
   generalize mem[k]?=y at h3
   match y,h3 with
   |some (some o),h3=>exact ⟨o,ob',rfl,rfl,h3⟩
  |succ j=>exact h2 j q (by simpa using hq)
 |[],_::_,h=>h.elim
 | _::_,[],h=>h.elim
 | _::_,none::_,h=>h.elim
def YV (ks:List Nat) (m j:Nat):Nat:=if j<ks.length then ks.getD j 0 else m+(j-ks.length)
def VM (g:Nat→Nat) (ob:Ob):Ob:={ ob with f:=fun i=>(ob.f i).map (Ww g) }
def Vn (m:List (Option Ob)):List Nat→List (Option Ob)→List (Option Ob)
 |k::ks,o::os=>Vn (m.set k o) ks os
 | _,_=>m
def YQ (mem:List (Option Ob)) (ks:List Nat) (mem':List (Option Ob)):List (Option Ob):=
 Vn mem ks ((mem'.take ks.length).map (Option.map (VM (YV ks mem.length))))++(mem'.drop ks.length).map (Option.map (VM (YV ks mem.length)))
theorem Qm:∀ (ks:List Nat) (m os:List (Option Ob)),(Vn m ks os).length=m.length
 |[],m,os=>by simp [Vn]
 | _::_,m,[]=>by simp [Vn]
 |k::ks,m,o::os=>by simp [Vn,Qm ks]
theorem Ql:∀ (ks:List Nat) (m os:List (Option Ob)) (k:Nat),k∉ks→(Vn m ks os)[k]?=m[k]?
 |[],m,os,k,_=>by simp [Vn]
 | _::_,m,[],k,_=>by simp [Vn]
 |q::ks,m,o::os,k,h=>by
  simp only [List.mem_cons,not_or] at h
  simp only [Vn]
  rw [Ql ks _ os k h.2,List.getElem?_set_ne (fun e=>h.1 e.symm)]
theorem Hu:∀ (ks:List Nat) (m os:List (Option Ob)),ks.Nodup→ks.length=os.length→(∀ k,k∈ks→k<m.length)→∀ (j k:Nat),ks[j]?=some k→(Vn m ks os)[k]?=os[j]?
 |[],m,os,_,_,_,j,k,h=>by simp at h
 | _::_,m,[],_,hl,_,j,k,h=>by simp at hl
 |q::ks,m,o::os,hnd,hl,hlt,j,k,h=>by
  simp only [List.nodup_cons] at hnd
  simp only [Vn]
  cases j with
  |zero=>
   simp only [List.getElem?_cons_zero,Option.some.injEq] at h
   subst h
   rw [Ql ks _ os q hnd.1,List.getElem?_set_self (hlt q (by simp))]
   rfl
  |succ j=>
   rw [Hu ks _ os hnd.2 (by simpa using hl) (fun k hk=>by simpa using hlt k (by simp [hk])) j k (by simpa using h)]
   simp
theorem HI (mem:List (Option Ob)) (ks:List Nat) (mem':List (Option Ob)):(YQ mem ks mem').length=mem.length+(mem'.length-ks.length):=by
 simp [YQ,Qm]
theorem Zix {mem:List (Option Ob)} {ks:List Nat} {mem':List (Option Ob)} (hnd:ks.Nodup) (hl:ks.length≤mem'.length) (hlt:∀ k,k∈ks→k<mem.length) {k:Nat} {ob:Ob} (h:(YQ mem ks mem')[k]?=some (some ob)) :
  (k<mem.length∧k∉ks∧mem[k]?=some (some ob))∨∃ j ob0,j<mem'.length∧k=YV ks mem.length j∧mem'[j]?=some (some ob0)∧ob=VM (YV ks mem.length) ob0:=by
 have mapd:∀ (x:Option (Option Ob)),x.map (Option.map (VM (YV ks mem.length)))=some (some ob)→∃ ob0,x=some (some ob0)∧ob=VM (YV ks mem.length) ob0:=by
  intro x hx
  cases x with
  |none=>simp at hx
  |some y=>cases y with
   |none=>simp at hx
   |some y=>simp at hx;exact ⟨y,rfl,hx.symm⟩
 unfold YQ at h
 rw [List.getElem?_append,Qm] at h
 split at h
 ·rename_i hk
  by_cases hm:k∈ks
  ·obtain ⟨j,hj⟩:=List.getElem?_of_mem hm
   have hjl:j<ks.length:=(List.getElem?_eq_some_iff.1 hj).1
   rw [Hu ks mem _ hnd (by simp;omega) hlt j k hj,List.getElem?_map,List.getElem?_take,if_pos hjl] at h
   obtain ⟨ob0,h1,h2⟩:=mapd _ h
   refine .inr ⟨j,ob0,by omega,?_,h1,h2⟩
   unfold YV
   rw [if_pos hjl,List.getD_eq_getElem?_getD,hj];rfl
  ·rw [Ql ks mem _ k hm] at h
   exact .inl ⟨hk,hm,h⟩
 ·rename_i hk
  rw [List.getElem?_map,List.getElem?_drop] at h
  obtain ⟨ob0,h1,h2⟩:=mapd _ h
  have hjl:=(List.getElem?_eq_some_iff.1 h1).1
  refine .inr ⟨ks.length+(k-mem.length),ob0,hjl,?_,h1,h2⟩
  unfold YV
  rw [if_neg (by omega)];omega
theorem ZhK:∀ (l l':List (Nat×Mp)) (b:Nat),lkm (l++l') b=match lkm l b with|some mp=>some mp|none=>lkm l' b
 |[],l',b=>rfl
 | (u,v)::r,l',b=>by
  simp only [List.cons_append,lkm]
  split
  ·rfl
  ·exact ZhK r l' b
theorem Zkj {w w':World} {e size m:Nat} {v:Value} {xs:List Value} (h:Owns w e size v m xs) (hs:∀ b,v.ownBlock=some b→w'.heap[b]?=w.heap[b]?):Owns w' e size v m xs:=by
 refine ⟨h.1,?_⟩
 rcases h.2 with h0|⟨g,cap,cur,e,⟨t,fz,h2,h3⟩,r⟩
 ·exact .inl h0
 ·exact .inr ⟨g,cap,cur,e,⟨t,fz,(hs g (by rw [e];rfl)).trans h2,h3⟩,r⟩
theorem Xt:∀ {l:List (Nat×Mp)} {b:Nat} {mp:Mp},lkm l b=some mp→(b,mp)∈l
 |[],_,_,h=>by simp [lkm] at h
 | (u,v)::r,b,mp,h=>by
  simp only [lkm] at h
  split at h
  ·rename_i e
   simp only [Option.some.injEq] at h
   subst e;subst h;simp
  ·simp [Xt h]
def WT:Op→Option (FuncId×List Operand)
 | .call c=>match c.callee with
  | .value (.func f)=>some (f,c.args.toList)
  | _=>none
 | _=>none
def XI (P:Program) (t:TypeId) (name:String):Option FuncId:=match P.info? t with
 |some i=>match i.methods.find? (·.name==name) with
  |some m=>if m.path.isEmpty then (match m.func,P.underlying t with
   |some (_,true),_=>none
   |some (_,false),some (.pointer _)=>none
   |some (f,false),some _=>some f
   | _,_=>none) else none
  |none=>none
 |none=>none
def UN (P:Program) (s:VS):Op→Option (FuncId×List Operand)
 | .call c=>match c.callee with
  | .invoke r name=>match ev s r with
   | .lit (.iface t v)=>(XI P t name).map fun f=>(f,.const v::c.args.toList)
   | _=>none
  | .value x=>match ev s x with
   | .lit (.func (.func f) first caps)=>some (f,first.toList.map .const++c.args.toList++caps.toList.map .const)
   | _=>none
  | _=>none
 | _=>none
def WB (P:Program) (s:VS) (op:Op):Option (FuncId×List Operand):=match WT op with
 |some x=>some x
 |none=>UN P s op
def VY (n:Nat) (dst:Option Tmp) (av:AV) (s:VS) (k:VS→Prop):Prop:=
 match dst with
 |none=>k s
 |some t=>t<n∧k { s with tmps:=(t,av)::s.tmps }
def SlX (mem:List (Option Ob)) (ks:List Nat):AV→AV→Prop
 | .own j,.sl sz n f'=>j∉ks∧QI mem (.own j) sz n f'∧∀ i,i<n→(f' i).all YL=true
 | _,_=>False
def Zme (mem:List (Option Ob)) (ks:List Nat) (a b:AV):Prop:=Rn (fun j=>ks.getD j 0) ks.length a b∨SlX mem ks a b∨∃ c c',a=.agg [c]∧b=.agg [c']∧SlX mem ks c c'
def ArgsX (mem:List (Option Ob)) (ks:List Nat):List AV→List AV→Prop
 |[],[]=>True
 |a::r,b::r'=>Zme mem ks a b∧ArgsX mem ks r r'
 | _,_=>False
theorem ArgsX.of_cells {mem:List (Option Ob)} {ks:List Nat}:∀ {l l':List AV},ZO (fun j=>ks.getD j 0) ks.length l l'→ArgsX mem ks l l'
 |[],[],_=>trivial
 |a::r,b::r',h=>⟨.inl h.1,ArgsX.of_cells h.2⟩
 |[],_::_,h=>h.elim
 | _::_,[],h=>h.elim
theorem ZcK {mem:List (Option Ob)} {ks:List Nat}:∀ {l l':List AV},ArgsX mem ks l l'→l.length=l'.length∧∀ (j:Nat) a b,l[j]?=some a→l'[j]?=some b→Zme mem ks a b
 |[],[],_=>⟨rfl,fun j a b h=>by simp at h⟩
 |a::r,b::r',h=>by
  obtain ⟨h1,h2⟩:=ZcK h.2
  refine ⟨by simp [h1],fun j x y hx hy=>?_⟩
  cases j with
  |zero=>
   simp only [List.getElem?_cons_zero,Option.some.injEq] at hx hy
   subst hx;subst hy;exact h.1
  |succ j=>exact h2 j x y (by simpa using hx) (by simpa using hy)
 |[],_::_,h=>h.elim
 | _::_,[],h=>h.elim
def Zlg (mem:List (Option Ob)):Prop:=∀ (k:Nat) (ob:Ob),mem[k]?=some (some ob)→∀ i,i<ob.n→(ob.f i).all X8=true
def Zd1 (M maps0 maps':List (Nat×Mp)):Prop:=∀ b,(lkm maps' b).isSome=true→(lkm maps0 b).isSome=true∨lkm M b=none
def Zln (P:Program) (f:FuncId) (avs:List AV) (s:VS) (k:AV→VS→Prop):Prop:=
 ∃ ks args' mem0 maps0,∃ L:Bool,ks.Nodup∧(ArgsX s.mem ks avs args'∧(L=true∨ZO (fun j=>ks.getD j 0) ks.length avs args'))∧XS (fun j=>ks.getD j 0) ks.length s.mem ks mem0∧(∀ p,p∈maps0→lkm s.maps p.1=some p.2)∧
  VProc P f args' mem0 maps0 (fun av mem' maps'=>(L=false∨Zlg mem'∧Vb av=true)∧(Zd1 s.maps maps0 maps'→k (ren (YV ks s.mem.length) av) { s with mem:=YQ s.mem ks mem',maps:=maps'++s.maps }))
def ZnP (P:Program) (f:FuncId):Prop:=∃ fn,P.funcs[f]?=some fn∧(fn.name== "runtime.NumGoroutine")=false∧fn.body.isNone=true∧Extern.findNext fn=none∧Extern.find fn=some Extern.AbiNoEscape.same
def Zmu (P:Program) (f:FuncId) (avs:List AV) (s:VS) (k:AV→VS→Prop):Prop:=ZnP P f∧∃ av,avs=[av]∧k av s
def Zmw (P:Program) (f:FuncId) (avs:List AV) (s:VS) (k:AV→VS→Prop):Prop:=
 ∃ ks args' mem0 maps0 t N vs0 as0 as1,ks.Nodup∧ZO (fun j=>ks.getD j 0) ks.length avs args'∧(lk s.tmps t=.fam N vs0 as0∧∀ i,i<N→Rn (fun j=>ks.getD j 0) ks.length (as0 i) (as1 i))∧XS (fun j=>ks.getD j 0) ks.length s.mem ks mem0∧(∀ p,p∈maps0→lkm s.maps p.1=some p.2)∧
  VProcG P f args' N vs0 as1 mem0 maps0 (fun av mem' maps'=>k (ren (YV ks s.mem.length) av) { s with mem:=YQ s.mem ks mem',maps:=maps'++s.maps })
def Zmv (P:Program) (f:FuncId) (avs:List AV) (s:VS) (k:AV→VS→Prop):Prop:=
 ∃ ks args' mem0 maps0 t,ks.Nodup∧ZO (fun j=>ks.getD j 0) ks.length avs args'∧XS (fun j=>ks.getD j 0) ks.length s.mem ks mem0∧(∀ p,p∈maps0→lkm s.maps p.1=some p.2)∧
  VProcT P f args' mem0 maps0 (fun av mem' maps' N vs as=>k (ren (YV ks s.mem.length) av) { s with tmps:=(t,.fam N vs (fun i=>Zil (YV ks s.mem.length) (as i)))::s.tmps,mem:=YQ s.mem ks mem',maps:=maps'++s.maps })
def Zlo (P:Program) (f:FuncId) (avs:List AV) (s:VS) (k:AV→VS→Prop):Prop:=
 ∃ ks args' mem0 maps0 t N vs0 as0 as1,∃ t':Nat,ks.Nodup∧ZO (fun j=>ks.getD j 0) ks.length avs args'∧(lk s.tmps t=.fam N vs0 as0∧∀ i,i<N→Rn (fun j=>ks.getD j 0) ks.length (as0 i) (as1 i))∧XS (fun j=>ks.getD j 0) ks.length s.mem ks mem0∧(∀ p,p∈maps0→lkm s.maps p.1=some p.2)∧
  VProcGT P f args' N vs0 as1 mem0 maps0 (fun av mem' maps' N' vs' as'=>k (ren (YV ks s.mem.length) av) { s with tmps:=(t',.fam N' vs' as')::s.tmps,mem:=YQ s.mem ks mem',maps:=maps'++s.maps })
def ZjL (P:Program) (f:FuncId) (avs:List AV) (s:VS) (k:AV→VS→Prop):Prop:=Zln P f avs s k∨Zmu P f avs s k∨Zmw P f avs s k∨Zmv P f avs s k∨Zlo P f avs s k
def Zhk (P:Program) (f:FuncId) (xs:List Operand) (s:VS) (k:AV→VS→Prop):Prop:=
 (∃ args',V2 s.mem (xs.map (ev s)) args'∧VFun P f args' (fun av obs=>k (ren (·+s.mem.length) av) { s with mem:=s.mem++obs.map some }))∨ZjL P f (xs.map (ev s)) s k
def ZR (P:Program) (n:Nat) (o:Oper) (s:VS) (k:VS→Prop):Prop:=
 match WB P s o.op with
 |some (f,xs)=>Zhk P f xs s (fun av s'=>VY n o.dst av s' k)
 |none=>UU P o.op s (fun av s'=>VY n o.dst av s' k)
def Um (all:List Oper) (g:Nat):Option Tmp:=(all[g]?).bind (·.dst)
def V6 (P:Program) (n:Nat) (all:List Oper):List Oper→VS→(VS→Prop)→Prop
 |[],s,k=>k s
 |o::r,s,k=>
  match o.guard with
  |none=>ZR P n o s (fun s'=>V6 P n all r s' k)
  |some (g,b)=>match Um all g with
   |some t=>match lk s.tmps t with
    | .lit (.bool c)=>(c=b→ZR P n o { s with tmps:=(t,.lit (.bool b))::s.tmps } (fun s'=>V6 P n all r s' k))∧
      (c=!b→VY n o.dst (.lit undef) { s with tmps:=(t,.lit (.bool (!b)))::s.tmps } (fun s'=>V6 P n all r s' k))
    | .lit (.tuple _)=>VY n o.dst (.lit undef) s (fun s'=>V6 P n all r s' k)
    | _=>False
   |none=>False
section
variable {P:Program} {n:Nat} {base:Fr} {w0 w:World} {hd:Nat→Value} {s:VS} {a:Act} {k:AV→VS→Prop}
theorem Wb (h:RelH n base w0 hd s a w) {b:Nat} {mp:Mp} (hm:lkm s.maps b=some mp):(∀ (ad:Addr) u,ad.block=b→w.cell? ad≠some u)∧∀ (q:Nat) (ob:Ob),s.mem[q]?=some (some ob)→(hd q).ownBlock≠some b:=by
 obtain ⟨_,es,clock,hb,_⟩:=h.mp b mp hm
 refine ⟨fun ad u e hc=>?_,fun q ob hq e=>?_⟩
 ·unfold World.cell? at hc
  rw [e,hb] at hc;simp at hc
 ·obtain ⟨_,vals,ho,_⟩:=h.me.obs q ob hq
  rcases ho.2 with ⟨e2,_⟩|⟨g,cap,cur,e2,⟨_,_,hh,_⟩,_⟩
  ·rw [e2] at e;simp [Value.ownBlock] at e
  ·rw [e2] at e
   simp only [Value.ownBlock,Option.some.injEq] at e
   rw [e,hb] at hh;simp at hh
theorem RelH.shMay {L:Bool} (h:RelH n base w0 hd s a w) {ks:List Nat} {mem0:List (Option Ob)} {maps0:List (Nat×Mp)} (hsh:XS (fun j=>ks.getD j 0) ks.length s.mem ks mem0) (hmaps:∀ p,p∈maps0→lkm s.maps p.1=some p.2):∀ b,Sh w (hdF hd ks s.mem L) mem0 maps0 b→base.may b:=by
 obtain ⟨f0,f1⟩:=Y9 hsh
 rintro b (h1|⟨j,ob',h1,h2⟩|h1)
 ·exact h.le _ (Nat.le_trans h.below.size h1)
 ·have hj:j<ks.length:=by have:=(List.getElem?_eq_some_iff.1 h1).1;omega
  obtain ⟨ob,_,_,h4,_⟩:=f1 j (ks.getD j 0) (by rw [List.getD_eq_getElem?_getD,List.getElem?_eq_getElem hj];rfl)
  rw [Xy hj] at h2
  exact h.me.alw _ ob h4 b h2
 ·cases hq:lkm maps0 b with
  |none=>rw [hq] at h1;simp at h1
  |some mp=>exact (h.mp b mp (hmaps _ (Xt hq))).1
theorem RelH.lenP {L:Bool} (h:RelH n base w0 hd s a w) (hP:base.P=P) {ks:List Nat} {mem0:List (Option Ob)} {maps0:List (Nat×Mp)} (hsh:XS (fun j=>ks.getD j 0) ks.length s.mem ks mem0) (hmaps:∀ p,p∈maps0→lkm s.maps p.1=some p.2) {args:List AV} {vs:List Value} (hl:args.length=vs.length):GS P w (Sh w (hdF hd ks s.mem L) mem0 maps0) args vs:=by
 subst hP
 exact ⟨hl,h.gw,fun b hb=>h.le.low b (h.shMay hsh hmaps b hb)⟩
theorem RelH.tailSh {L:Bool} (h:RelH n base w0 hd s a w) {ks:List Nat} {mem0:List (Option Ob)} {maps0:List (Nat×Mp)} (hsh:XS (fun j=>ks.getD j 0) ks.length s.mem ks mem0) (hmaps:∀ p,p∈maps0→lkm s.maps p.1=some p.2) :
  WP (hdF hd ks s.mem L) (Sh w (hdF hd ks s.mem L) mem0 maps0):=by
 obtain ⟨f0,f1⟩:=Y9 hsh
 have fk:∀ j,j<ks.length→ks.getD j 0∈ks∧ks[j]?=some (ks.getD j 0):=by
  intro j hj
  rw [List.getD_eq_getElem?_getD,List.getElem?_eq_getElem hj]
  exact ⟨List.getElem_mem hj,rfl⟩
 have shMay:=h.shMay (L:=L) hsh hmaps
 obtain ⟨K,hK⟩:=h.fix.2.2
 obtain ⟨M,hM⟩:=h.fix.2.1
 refine Za6 ⟨K+M,fun k hk b hb hs=>?_⟩ fun _ k ob b hk hks hb=>?_
 ·rw [hM k (by omega)] at hb
  exact hK k (by omega) b hb (shMay b hs)
 ·obtain ⟨_,vals,ho,_⟩:=h.me.obs k ob hk
  rintro (h1|⟨j,ob',h1,h2⟩|h1)
  ·have:=(HA ho hb).1;omega
  ·have hj:j<ks.length:=by have:=(List.getElem?_eq_some_iff.1 h1).1;omega
   obtain ⟨ob2,_,_,h4,_⟩:=f1 j _ (fk j hj).2
   rw [Xy hj] at h2
   rcases h.me.apart _ _ ob2 ob h4 hk (fun e=>hks (e▸(fk j hj).1)) with e|e
   ·rw [h2] at e;cases e
   ·exact e (by rw [h2,hb])
  ·cases hq:lkm maps0 b with
   |none=>rw [hq] at h1;simp at h1
   |some mp=>exact (Wb h (hmaps _ (Xt hq))).2 k ob hk hb
theorem RelH.importS {L:Bool} (h:RelH n base w0 hd s a w) (hP:base.P=P) {ks:List Nat} {mem0:List (Option Ob)} {maps0:List (Nat×Mp)} (hnd:ks.Nodup) (hsh:XS (fun j=>ks.getD j 0) ks.length s.mem ks mem0) (hmaps:∀ p,p∈maps0→lkm s.maps p.1=some p.2)
  {w':World} {hdc:Nat→Value} {av:AV} {mem':List (Option Ob)} {maps':List (Nat×Mp)} (hb:Bel (Sh w (hdF hd ks s.mem L) mem0 maps0) w w') (hpo:PostOk mem0 maps0 av mem' maps') (hhd:∀ k,k<mem0.length→hdc k=hd (ks.getD k 0)) (htl:TailEq (hdF hd ks s.mem L) hdc) (hL:L=false∨Zlg mem')
  (hm:MemRel (Sh w (hdF hd ks s.mem L) mem0 maps0) w' hdc mem') (hmp:MapRel P (Sh w (hdF hd ks s.mem L) mem0 maps0) w' maps') :
  RelH n base w0 (fun k=>if k<s.mem.length then hd k else if k-s.mem.length+ks.length<mem'.length then hdc (k-s.mem.length+ks.length) else hd k) { s with mem:=YQ s.mem ks mem',maps:=maps'++s.maps } a w'∧
   (∀ j,j<mem'.length→YV ks s.mem.length j<(YQ s.mem ks mem').length∧(fun k=>if k<s.mem.length then hd k else if k-s.mem.length+ks.length<mem'.length then hdc (k-s.mem.length+ks.length) else hd k) (YV ks s.mem.length j)=hdc j)∧(L=false→∀ b,Zw mem' hdc b→Zw (YQ s.mem ks mem') (fun k=>if k<s.mem.length then hd k else if k-s.mem.length+ks.length<mem'.length then hdc (k-s.mem.length+ks.length) else hd k) b):=by
 obtain ⟨f0,f1⟩:=Y9 hsh
 have hl:ks.length≤mem'.length:=by have:=hpo.len;omega
 have f2:∀ k,k∈ks→k<s.mem.length:=by
  intro k hk
  obtain ⟨j,hj⟩:=List.getElem?_of_mem hk
  obtain ⟨ob,ob',_,h2,_⟩:=f1 j k hj
  exact (List.getElem?_eq_some_iff.1 h2).1
 have fk:∀ j,j<ks.length→ks.getD j 0∈ks∧ks[j]?=some (ks.getD j 0):=by
  intro j hj
  rw [List.getD_eq_getElem?_getD,List.getElem?_eq_getElem hj]
  exact ⟨List.getElem_mem hj,rfl⟩
 obtain ⟨HD,hHD⟩:∃ HD:Nat→Value,HD=fun k=>if k<s.mem.length then hd k else if k-s.mem.length+ks.length<mem'.length then hdc (k-s.mem.length+ks.length) else hd k:=⟨_,rfl⟩
 rw [←hHD]
 have hlow:∀ k,k<s.mem.length→HD k=hd k:=fun k hk=>by rw [hHD];exact if_pos hk
 have heq:TailEq hd HD:=⟨s.mem.length+mem'.length,fun k hk=>by
  rw [hHD]
  show (if k<s.mem.length then _ else _)=_
  rw [if_neg (by omega),if_neg (by omega)]⟩
 have f3:∀ j,j<mem'.length→YV ks s.mem.length j<(YQ s.mem ks mem').length∧HD (YV ks s.mem.length j)=hdc j:=by
  intro j hj
  rw [HI]
  unfold YV
  by_cases h1:j<ks.length
  ·rw [if_pos h1]
   have h2:=f2 _ (fk j h1).1
   exact ⟨by omega,by rw [hlow _ h2,hhd j (by omega)]⟩
  ·rw [if_neg h1]
   refine ⟨by omega,?_⟩
   rw [hHD]
   show (if s.mem.length+(j-ks.length)<s.mem.length then _ else _)=_
   have e1:s.mem.length+(j-ks.length)-s.mem.length+ks.length=j:=by omega
   rw [if_neg (by omega),e1,if_pos hj]
 suffices hsuf:RelH n base w0 HD { s with mem:=YQ s.mem ks mem',maps:=maps'++s.maps } a w'∧(L=false→∀ b,Zw mem' hdc b→Zw (YQ s.mem ks mem') HD b) from ⟨hsuf.1,f3,hsuf.2⟩
 have shMay:∀ b,Sh w (hdF hd ks s.mem L) mem0 maps0 b→base.may b:=by
  rintro b (h1|⟨j,ob',h1,h2⟩|h1)
  ·exact h.le _ (Nat.le_trans h.below.size h1)
  ·have hj:j<ks.length:=by have:=(List.getElem?_eq_some_iff.1 h1).1;omega
   obtain ⟨ob,_,_,h4,_⟩:=f1 j _ (fk j hj).2
   rw [Xy hj] at h2
   exact h.me.alw _ ob h4 b h2
  ·cases hq:lkm maps0 b with
   |none=>rw [hq] at h1;simp at h1
   |some mp=>exact (h.mp b mp (hmaps _ (Xt hq))).1
 have notSh:∀ b,b<w.heap.size→(∀ k ob,k∈ks→s.mem[k]?=some (some ob)→(hd k).ownBlock≠some b)→(∀ mp,lkm s.maps b=some mp→lkm maps0 b=none)→¬Sh w (hdF hd ks s.mem L) mem0 maps0 b:=by
  rintro b hlt hrow hmap (h1|⟨j,ob',h1,h2⟩|h1)
  ·omega
  ·have hj:j<ks.length:=by have:=(List.getElem?_eq_some_iff.1 h1).1;omega
   obtain ⟨ob,_,_,h4,_⟩:=f1 j _ (fk j hj).2
   rw [Xy hj] at h2
   exact hrow _ ob (fk j hj).1 h4 h2
  ·cases hq:lkm maps0 b with
   |none=>rw [hq] at h1;simp at h1
   |some mp=>rw [hmap mp (hmaps _ (Xt hq))] at hq;cases hq
 have okSh:∀ ad u,Zw s.mem hd ad.block→w.cell? ad=some u→¬Sh w (hdF hd ks s.mem L) mem0 maps0 ad.block:=by
  intro ad u ho hc
  refine notSh _ (World.block_lt_of_cell? w _ hc) (fun k ob _ hk=>ho.1 k ob hk) fun mp hq=>?_
  exact absurd hc ((Wb h hq).1 ad u rfl)
 have ownSh:∀ k ob b,k∉ks→s.mem[k]?=some (some ob)→(hd k).ownBlock=some b→¬Sh w (hdF hd ks s.mem L) mem0 maps0 b:=by
  intro k ob b hk hob hbk
  obtain ⟨_,vals,ho,_⟩:=h.me.obs k ob hob
  refine notSh b (HA ho hbk).1 (fun q oq hq hoq e=>?_) fun mp hq=>?_
  ·rcases h.me.apart k q ob oq hob hoq (fun e'=>hk (e'▸hq)) with h1|h1
   ·rw [hbk] at h1;cases h1
   ·exact h1 (by rw [hbk,e])
  ·exact absurd hbk ((Wb h hq).2 k ob hob)
 have live:∀ k ob,(YQ s.mem ks mem')[k]?=some (some ob)→(k<s.mem.length∧k∉ks∧s.mem[k]?=some (some ob))∨∃ j ob0,j<mem'.length∧k=YV ks s.mem.length j∧mem'[j]?=some (some ob0)∧ob=VM (YV ks s.mem.length) ob0:=
  fun k ob hk=>Zix hnd hl f2 hk
 have hok:∀ ad u,Zw s.mem hd ad.block→w.cell? ad=some u→w'.cell? ad=some u∧Zw (YQ s.mem ks mem') HD ad.block:=by
  intro ad u ho hc
  have hns:=okSh ad u ho hc
  refine ⟨Wz (hb.block _ (World.block_lt_of_cell? w _ hc) hns) hc,fun k ob hk e=>?_,ho.2.eq heq⟩
  rcases live k ob hk with ⟨h1,_,h2⟩|⟨j,ob0,h1,rfl,h2,_⟩
  ·rw [hlow k h1] at e;exact ho.1 k ob h2 e
  ·rw [(f3 j h1).2] at e;exact hns (hm.alw j ob0 h2 _ e)
 have hlen:s.mem.length≤(YQ s.mem ks mem').length:=by rw [HI];omega
 refine ⟨?_,fun hLf b hb1=>by
  subst hLf
  obtain ⟨t1,t2⟩:=Ze5 (hb1.2.eq (TailEq.symm htl))
  refine ⟨fun k ob hk=>?_,t1.eq heq⟩
  rcases live k ob hk with ⟨l1,l1',l2⟩|⟨j',ob1,l1,rfl,l2,_⟩
  ·rw [hlow k l1];exact t2 k ob l2 l1'
  ·rw [(f3 j' l1).2];exact hb1.1 j' ob1 l2⟩
 refine ⟨h.defers,h.size,⟨hb.os.trans h.below.os,hb.tape.trans h.below.tape,hb.output.trans h.below.output,Nat.le_trans h.below.size hb.size,fun k hk hk2=>?_⟩,h.le,Nat.le_trans h.fixl hlen,⟨fun k hk=>?_,h.fix.2.1.trans heq,h.fix.2.2⟩,fun b mp hq=>?_,fun t=>(h.tm t).mono hok hlow hlen,⟨fun k ob hk b hbk=>?_,fun k ob hk=>?_,fun k hk=>?_,fun k k' ob ob' hk hk' hne=>?_⟩⟩
 ·exact (hb.block k (Nat.lt_of_lt_of_le hk h.below.size) (fun e=>hk2 (shMay k e))).trans (h.below.block k hk hk2)
 ·have:=h.fixl
  have hk':k<s.fix:=hk
  rw [hlow k (by omega)];exact h.fix.1 k hk'
 ·have hq':lkm (maps'++s.maps) b=some mp:=hq
  rw [ZhK] at hq'
  cases hq2:lkm maps' b with
  |some mq=>
   rw [hq2] at hq'
   simp only [Option.some.injEq] at hq'
   subst hq'
   obtain ⟨h1,es,clock,h2,h3⟩:=hmp b mq hq2
   exact ⟨shMay b h1,es,clock,h2,by rw [hP];exact h3⟩
  |none=>
   rw [hq2] at hq'
   simp only at hq'
   obtain ⟨h1,es,clock,h2,h3⟩:=h.mp b mp hq'
   refine ⟨h1,es,clock,(hb.block b (Array.getElem?_eq_some_iff.1 h2).1 (notSh b (Array.getElem?_eq_some_iff.1 h2).1 (fun k ob _ hk=>(Wb h hq').2 k ob hk) fun _ _=>?_)).trans h2,h3⟩
   cases hq3:lkm maps0 b with
   |none=>rfl
   |some mr=>
    have:=hpo.maps b (by rw [hq3];rfl)
    rw [hq2] at this;simp at this
 ·rcases live k ob hk with ⟨h1,_,h2⟩|⟨j,ob0,h1,rfl,h2,_⟩
  ·rw [hlow k h1] at hbk;exact h.me.alw k ob h2 b hbk
  ·rw [(f3 j h1).2] at hbk;exact shMay b (hm.alw j ob0 h2 b hbk)
 ·rcases live k ob hk with ⟨h1,h1',h2⟩|⟨j,ob0,h1,rfl,h2,rfl⟩
  ·obtain ⟨hs,vals,ho,hr⟩:=h.me.obs k ob h2
   rw [hlow k h1]
   refine ⟨hs,vals,Zkj ho fun b hbk=>hb.block b (HA ho hbk).1 (ownSh k ob b h1' h2 hbk),fun i hi=>⟨(hr i hi).1,fun j av hj=>?_⟩⟩
   obtain ⟨u,g1,g2,g3⟩:=(hr i hi).2 j av hj
   exact ⟨u,g1,g2,g3.mono hok hlow hlen⟩
  ·obtain ⟨hs,vals,ho,hr⟩:=hm.obs j ob0 h2
   rw [(f3 j h1).2]
   refine ⟨hs,vals,ho,fun i hi=>⟨by simpa [VM] using (hr i hi).1,fun c av hc=>?_⟩⟩
   simp only [VM] at hc
   rw [List.getElem?_map,Option.map_eq_some_iff] at hc
   obtain ⟨a0,hc,rfl⟩:=hc
   obtain ⟨u,g1,g2,g3⟩:=(hr i hi).2 c a0 hc
   have hf:=hpo.cells j ob0 h2 i hi a0 (List.mem_of_getElem? hc)
   rcases hL with rfl|hL
   ·refine ⟨u,g1,g2,g3.renC_ hf (fun ad u h1 h2=>⟨h2,?_⟩) fun q _ hq=>f3 q hq⟩
    obtain ⟨t1,t2⟩:=Ze5 (h1.2.eq (TailEq.symm htl))
    refine ⟨fun k ob hk=>?_,t1.eq heq⟩
    rcases live k ob hk with ⟨l1,l1',l2⟩|⟨j',ob1,l1,rfl,l2,_⟩
    ·rw [hlow k l1];exact t2 k ob l2 l1'
    ·rw [(f3 j' l1).2];exact h1.1 j' ob1 l2
   ·rcases hf with hf|⟨⟨sz,n,f,rfl⟩,_⟩
    ·exact ⟨u,g1,g2,g3.ren1_ hf fun q _ hq=>f3 q hq⟩
    ·have:=List.all_eq_true.1 (hL j ob0 h2 i hi) _ (List.mem_of_getElem? hc)
     simp [X8] at this
 ·have hk':k<(YQ s.mem ks mem').length:=hk
  rw [HI] at hk'
  by_cases h1:k<s.mem.length
  ·rw [hlow k h1];exact h.me.hds k h1
  ·have:HD k=hdc (k-s.mem.length+ks.length):=by
    rw [hHD]
    show (if k<s.mem.length then _ else _)=_
    rw [if_neg h1,if_pos (by omega)]
   rw [this]
   exact hm.hds _ (by omega)
 ·have cross:∀ k ob j ob0,k∉ks→s.mem[k]?=some (some ob)→mem'[j]?=some (some ob0)→(hd k).ownBlock=none∨(hd k).ownBlock≠(hdc j).ownBlock:=by
   intro k ob j ob0 hk hob hj
   cases hbk:(hd k).ownBlock with
   |none=>exact .inl rfl
   |some b=>exact .inr fun e=>ownSh k ob b hk hob hbk (hm.alw j ob0 hj b e.symm)
  rcases live k ob hk with ⟨h1,h1',h2⟩|⟨j,ob0,h1,rfl,h2,_⟩
  ·rw [hlow k h1]
   rcases live k' ob' hk' with ⟨g1,g1',g2⟩|⟨j',ob1,g1,rfl,g2,_⟩
   ·rw [hlow k' g1];exact h.me.apart k k' ob ob' h2 g2 hne
   ·rw [(f3 j' g1).2];exact cross k ob j' ob1 h1' h2 g2
  ·rw [(f3 j h1).2]
   rcases live k' ob' hk' with ⟨g1,g1',g2⟩|⟨j',ob1,g1,rfl,g2,_⟩
   ·rw [hlow k' g1]
    rcases cross k' ob' j ob0 g1' g2 h2 with e|e
    ·cases hbj:(hdc j).ownBlock with
     |none=>exact .inl rfl
     |some b=>rw [e];exact .inr (by simp)
    ·exact .inr fun e'=>e e'.symm
   ·rw [(f3 j' g1).2]
    exact hm.apart j j' ob0 ob1 h2 g2 (fun e=>hne (by rw [e]))
end
end Go.Proofs.YtadghlfkddkelaaGreatDoor.V
namespace Go.Proofs.YtadghlfkddkelaaGreatDoor.V
open Go.RowKit
section
variable {P:Program} {n:Nat} {base:Fr} {w0 w:World} {hd:Nat→Value} {s:VS} {a:Act} {k:AV→VS→Prop}
theorem UJ {f:FuncId} (hf:ZbM P f) (args:Array Value) (w:World):(callFunc f args).run P w=.ok (.enter f args) w:=by
 obtain ⟨fn,h1,h2,h3⟩:=hf
 unfold callFunc program
 have a1:fn.name≠ "runtime.NumGoroutine":=by simpa using h2
 have a2:fn.body≠none:=by intro e;rw [e] at h3;simp at h3
 simp only [bind,Sem.bind,Sem.run,h1]
 simp [a1,a2,Sem.run,pure]
theorem YP (h:RelH n base w0 hd s a w) {dst:Option Tmp} {av:AV} {v:Value} {k:VS→Prop} (hv:Rep w (Zw s.mem hd) hd s.mem.length av v) (hk:VY n dst av s k) :
  ∃ s',RelH n base w0 hd s' (a.put dst v) w∧k s':=by
 cases dst with
 |none=>exact ⟨s,h,hk⟩
 |some t=>exact ⟨_,h.put hk.1 hv,hk.2⟩
theorem K3 (h:RelH n base w0 hd s a w) {ks:List Nat} {mem0:List (Option Ob)} (hnd:ks.Nodup) (hsh:XS (fun j=>ks.getD j 0) ks.length s.mem ks mem0) (L:Bool) :
  MemRel (fun _=>True) w (hdF hd ks s.mem L) mem0∧∀ b,Zw s.mem hd b→Zw mem0 (hdF hd ks s.mem L) b:=by
 obtain ⟨f0,f1⟩:=Y9 hsh
 have at_:∀ j ob',mem0[j]?=some (some ob')→j<ks.length∧∃ ob,s.mem[ks.getD j 0]?=some (some ob)∧ZbH (fun j=>ks.getD j 0) ks.length ob ob':=by
  intro j ob' hj
  have hl:j<ks.length:=by have:=(List.getElem?_eq_some_iff.1 hj).1;omega
  obtain ⟨ob,ob2,h1,h2,h3⟩:=f1 j (ks.getD j 0) (by rw [List.getD_eq_getElem?_getD,List.getElem?_eq_getElem hl];rfl)
  rw [hj] at h1
  simp only [Option.some.injEq] at h1
  subst h1
  exact ⟨hl,ob,h2,h3⟩
 have hok:∀ b,Zw s.mem hd b→Zw mem0 (hdF hd ks s.mem L) b:=by
  intro b hb
  refine ⟨fun j ob' hj=>?_,?_⟩
  ·obtain ⟨hl,ob,h1,_⟩:=at_ j ob' hj
   rw [Xy hl]
   exact hb.1 _ ob h1
  ·obtain ⟨K,hK⟩:=hb.2
   obtain ⟨M,hM⟩:=Za6 (hd:=hd) (ks:=ks) (mem:=s.mem) (L:=L) (Q:=fun c=>c≠b) ⟨K,fun k hk c hc e=>hK k hk (by rw [hc,e])⟩ (fun _ k ob c hk _ hc e=>hb.1 k ob hk (by rw [hc,e]))
   exact ⟨M,fun k hk e=>hM k hk b e rfl⟩
 refine ⟨⟨fun _ _ _ _ _=>trivial,fun j ob' hj=>?_,fun j hj=>?_,fun j j' o o' hj hj' hne=>?_⟩,hok⟩
 ·obtain ⟨hl,ob,h1,e1,e2,e3,h2⟩:=at_ j ob' hj
  obtain ⟨hs,vals,ho,hr⟩:=h.me.obs _ ob h1
  rw [e2] at hs
  refine ⟨hs,vals,by rw [Xy hl,←e1,←e2,←e3];exact ho,fun i hi=>?_⟩
  obtain ⟨g1,g2⟩:=X0 (h2 i hi)
  obtain ⟨q1,q2⟩:=hr i (by omega)
  refine ⟨by omega,fun c av hc=>?_⟩
  have hcl:c<(ob.f i).length:=by have:=(List.getElem?_eq_some_iff.1 hc).1;omega
  obtain ⟨u,r1,r2,r3⟩:=q2 c _ (List.getElem?_eq_getElem hcl)
  refine ⟨u,by rw [←e2];exact r1,r2,?_⟩
  rw [f0]
  exact (r3.rn (g2 c _ av (List.getElem?_eq_getElem hcl) hc) hok).mono (fun a u h1 h2=>⟨h2,h1⟩) (fun k hk=>Xy hk) (Nat.le_refl _)
 ·obtain ⟨ob,ob',_,h2,_⟩:=f1 j (ks.getD j 0) (by rw [List.getD_eq_getElem?_getD,List.getElem?_eq_getElem (by omega)];rfl)
  rw [Xy (by omega)]
  exact h.me.hds _ (List.getElem?_eq_some_iff.1 h2).1
 ·obtain ⟨hl,ob,h1,_⟩:=at_ j o hj
  obtain ⟨hl',ob',h1',_⟩:=at_ j' o' hj'
  rw [Xy hl,Xy hl']
  refine h.me.apart _ _ ob ob' h1 h1' fun e=>hne ?_
  rw [List.getD_eq_getElem?_getD,List.getD_eq_getElem?_getD,List.getElem?_eq_getElem hl,List.getElem?_eq_getElem hl'] at e
  exact (List.getElem_inj hnd).1 e
theorem Zlb (h:RelH n base w0 hd s a w) {ks:List Nat} {mem0:List (Option Ob)} (hsh:XS (fun j=>ks.getD j 0) ks.length s.mem ks mem0) {L:Bool} (hok:∀ b,Zw s.mem hd b→Zw mem0 (hdF hd ks s.mem L) b) {x:Operand} {b:AV} (ha:Zme s.mem ks (ev s x) b) (hL:L=true∨Rn (fun j=>ks.getD j 0) ks.length (ev s x) b) :
  Rep w (Zw mem0 (hdF hd ks s.mem L)) (hdF hd ks s.mem L) mem0.length b (a.eval x):=by
 obtain ⟨f0,f1⟩:=Y9 hsh
 have rn:∀ {c c':AV} {v:Value},Rn (fun j=>ks.getD j 0) ks.length c c'→Rep w (Zw s.mem hd) hd s.mem.length c v→Rep w (Zw mem0 (hdF hd ks s.mem L)) (hdF hd ks s.mem L) mem0.length c' v:=fun hb hr=>by
  rw [f0]
  exact (hr.rn hb hok).mono (fun a u h1 h2=>⟨h2,h1⟩) (fun k hk=>Xy hk) (Nat.le_refl _)
 rcases hL with rfl|hL
 rotate_left
 ·exact rn hL (h.ev_ x)
 have sl:∀ {c c':AV} {v:Value},SlX s.mem ks c c'→Rep w (Zw s.mem hd) hd s.mem.length c v→Rep w (fun _=>True) (fun _=>undef) 0 c' v→Rep w (Zw mem0 (hdF hd ks s.mem true)) (hdF hd ks s.mem true) mem0.length c' v:=by
  intro c c' v hx h1 h2
  unfold SlX at hx
  split at hx
  ·rename_i j sz m f'
   obtain ⟨hj,⟨_,f,hcon,_⟩,hlit⟩:=hx
   cases h2 with
   |sl _ _ _ A c u hc hm hsz hl hcell hr=>
    refine .sl sz m f' A c u hc hm hsz hl (fun hp=>?_) fun i q av hi hav=>?_
    ·obtain ⟨ad,e1,_,e2⟩:=hcell hp
     simp only [ZY] at hcon
     split at hcon
     ·rename_i ob3 hob3
      have hv:hd j=.slice A m c:=by
       have:=h1
       generalize hgv:(Value.slice A m c)=vv at this
       cases this;rfl
      have hbl:(hd j).ownBlock=some ad.block:=by rw [hv,e1];rfl
      refine ⟨ad,e1,⟨fun k ob hk=>?_,?_⟩,e2⟩
      ·have hkl:k<ks.length:=by have:=(List.getElem?_eq_some_iff.1 hk).1;omega
       obtain ⟨ob1,ob2,g1,g2,_⟩:=f1 k (ks.getD k 0) (by rw [List.getD_eq_getElem?_getD,List.getElem?_eq_getElem hkl];rfl)
       have hne:ks.getD k 0≠j:=fun e=>hj (by rw [←e,List.getD_eq_getElem?_getD,List.getElem?_eq_getElem hkl];exact List.getElem_mem hkl)
       rw [Xy hkl]
       rcases h.me.apart _ j ob1 ob3 g2 hob3 hne with this|this
       ·rw [this];exact fun e=>by cases e
       ·rw [hbl] at this;exact this
      ·obtain ⟨K,hK⟩:=h.ownTail (h.me.alw j ob3 hob3 _ hbl)
       obtain ⟨M,hM⟩:=Za6 (hd:=hd) (ks:=ks) (mem:=s.mem) (L:=true) (Q:=fun c=>c≠ad.block) ⟨K,fun k hk c hc e=>hK k hk (by rw [hc,e])⟩ (fun e=>by cases e)
       exact ⟨M,fun k hk e=>hM k hk _ e rfl⟩
     ·cases hcon
    ·have hl:=List.all_eq_true.1 (hlit i hi) av (List.mem_of_getElem? hav)
     have:=hr i q av hi hav
     cases av<;>simp [YL] at hl
     cases this;exact .lit _
  ·exact hx.elim
 rcases ha with ha|ha|⟨c,c',e1,rfl,ha⟩
 ·exact rn ha (h.ev_ x)
 ·refine sl ha (h.ev_ x) ?_
  unfold SlX at ha
  split at ha
  ·rename_i j sz m f' hev
   exact H0 h (by rw [hev];exact ha.2.1)
  ·exact ha.elim
 ·have hx:=h.ev_ x
  have h2:Rep w (fun _=>True) (fun _=>undef) 0 (.agg [c']) (a.eval x):=by
   refine ZcL h (x:=x) (av':=.agg [c']) ⟨[c],e1,rfl,fun j c0 c0' h3 h4=>?_⟩
   cases j with
   |zero=>
    simp only [List.getElem?_cons_zero,Option.some.injEq] at h3 h4
    subst h3;subst h4
    unfold SlX at ha
    split at ha
    ·exact ha.2.1
    ·exact ha.elim
   |succ j=>simp at h3
  rw [e1] at hx
  generalize a.eval x=v at hx h2
  cases hx with
  |agg _ vs hl hr=>
   match vs,hl with
   |[u],_=>
    have q1:=hr 0 c u rfl rfl
    generalize hgv:(Value.agg [u].toArray)=vv at h2
    cases h2 with
    |agg _ us hl2 hr2=>
     simp only [Value.agg.injEq] at hgv
     have:us=[u]:=by
      have:=congrArg Array.toList hgv
      simpa using this.symm
     subst this
     have q2:=hr2 0 c' u rfl rfl
     refine .agg _ [u] rfl fun j c0 u0 h3 h4=>?_
     cases j with
     |zero=>
      simp only [List.getElem?_cons_zero,Option.some.injEq] at h3 h4
      subst h3;subst h4
      exact sl ha q1 q2
     |succ j=>simp at h3
theorem Zgp {t:TypeId} {v:Value} {name:String} {f:FuncId} (h:XI P t name=some f) (fuel:Nat) (w:World):(method (fuel+1) t v name).run P w=.ok (f,v) w:=by
 unfold XI at h
 split at h
 ·rename_i i hi
  split at h
  ·rename_i m hm
   split at h
   ·rename_i hpath
    have hp:m.path=#[]:=by simpa using hpath
    split at h
    ·cases h
    ·cases h
    ·rename_i f' d hn hf hd
     simp only [Option.some.injEq] at h
     subst h
     unfold method typeInfo
     simp only [Sem.run_bind]
     have e1:(program).run P w=.ok P w:=rfl
     simp only [e1,Result.andThen_ok,hi,Sem.run_pure,hm,hp]
     unfold follow
     simp only [Sem.run_bind,Sem.run_pure,Result.andThen_ok,hf]
     unfold receiverAt
     simp only [Sem.run_bind,Ya hd,Result.andThen_ok]
     cases d<;>first|exact absurd rfl (hn _ _)|rfl|simp_all [Place.get,Sem.run_bind,Result.andThen]
    ·cases h
   ·cases h
  ·cases h
 ·cases h
theorem He (h:RelH n base w0 hd s a w) {o:Oper} {f:FuncId} {xs:List Operand} (hcall:WB P s o.op=some (f,xs)):(execOp a.eval o).run P w=(callFunc f (xs.map a.eval).toArray).run P w:=by
 unfold WB at hcall
 split at hcall
 ·rename_i y hy
  simp only [Option.some.injEq] at hcall
  subst hcall
  unfold WT at hy
  split at hy
  ·rename_i c hop
   split at hy
   ·rename_i f' hcal
    simp only [Option.some.injEq,Prod.mk.injEq] at hy
    obtain ⟨rfl,rfl⟩:=hy
    unfold execOp
    simp only [hop]
    have e:c.args.map a.eval=(c.args.toList.map a.eval).toArray:=by
     apply Array.ext';simp
    simp only [resolve,hcal,Act.eval,Deferred.ofValue,Sem.run_bind,Sem.run_pure,Result.andThen_ok,invoke]
    simp only [List.append_toArray,Array.append_empty,Array.empty_append,e,List.nil_append,List.append_nil]
   ·simp at hy
  ·simp at hy
 ·unfold UN at hcall
  split at hcall
  ·rename_i c hop
   have e:c.args.map a.eval=(c.args.toList.map a.eval).toArray:=by
    apply Array.ext';simp
   split at hcall
   ·rename_i r name hcal
    have hr:=fun v=>YH h (x:=r) (v:=v)
    generalize ev s r=ar at *
    split at hcall
    ·rename_i t v
     rw [Option.map_eq_some_iff] at hcall
     obtain ⟨f',hm,h2⟩:=hcall
     simp only [Prod.mk.injEq] at h2
     obtain ⟨rfl,rfl⟩:=h2
     unfold execOp
     simp only [hop]
     have e1:(program).run P w=.ok P w:=rfl
     have e2:P.types.size+Made.depth=(P.types.size+99)+1:=rfl
     simp only [resolve,hcal,Sem.run_bind,Sem.run_pure,Result.andThen_ok,invoke,hr _ rfl]
     have e3:((#[Value.iface t v]++c.args.map a.eval)[0]?:Option Value)=some (.iface t v):=by rw [Array.getElem?_append];rfl
     have e4:(#[Value.iface t v]++c.args.map a.eval).extract 1 (#[Value.iface t v]++c.args.map a.eval).size=c.args.map a.eval:=by
      apply Array.ext'
      simp [Array.toList_extract]
      exact List.take_of_length_le (by simp)
     simp only [e3,e4,callMethod,Sem.run_bind,e1,Result.andThen_ok,e2,Zgp hm]
     simp only [List.map_cons,Act.eval,e]
     congr 2
     apply Array.ext'
     simp
    ·simp at hcall
   ·rename_i x hcal
    have hx:=fun v=>YH h (x:=x) (v:=v)
    generalize ev s x=ax at *
    split at hcall
    ·rename_i f' first caps
     simp only [Option.some.injEq,Prod.mk.injEq] at hcall
     obtain ⟨rfl,rfl⟩:=hcall
     unfold execOp
     simp only [hop]
     simp only [resolve,hcal,hx _ rfl,Deferred.ofValue,Sem.run_bind,Sem.run_pure,Result.andThen_ok,invoke,e]
     congr 2
     apply Array.ext'
     simp [Function.comp_def,Act.eval]
    ·simp at hcall
   ·simp at hcall
  ·simp at hcall
theorem Ku (h:RelH n base w0 hd s a w) (hP:base.P=P) {xs:List Operand} {ks:List Nat} {args':List AV} {mem0:List (Option Ob)} {maps0:List (Nat×Mp)} {t N:Nat} {vs0:Nat→Value} {as0 as1:Nat→AV} (hnd:ks.Nodup) (hargs:ZO (fun j=>ks.getD j 0) ks.length (xs.map (ev s)) args') (hgt:lk s.tmps t=.fam N vs0 as0) (hg:∀ i,i<N→Rn (fun j=>ks.getD j 0) ks.length (as0 i) (as1 i)) (hsh:XS (fun j=>ks.getD j 0) ks.length s.mem ks mem0) (hmaps:∀ p,p∈maps0→lkm s.maps p.1=some p.2) :
  GS P w (Sh w (hdF hd ks s.mem false) mem0 maps0) args' (xs.map a.eval)∧True∧(∀ (j:Nat) b u,args'[j]?=some b→(xs.map a.eval)[j]?=some u→Rep w (Zw mem0 (hdF hd ks s.mem false)) (hdF hd ks s.mem false) mem0.length b u)∧(∀ i,i<N→Rep w (Zw mem0 (hdF hd ks s.mem false)) (hdF hd ks s.mem false) mem0.length (as1 i) (vs0 i))∧
   MemRel (fun _=>True) w (hdF hd ks s.mem false) mem0∧MapRel P (fun _=>True) w maps0∧WP (hdF hd ks s.mem false) (Sh w (hdF hd ks s.mem false) mem0 maps0):=by
 obtain ⟨hm0,hok⟩:=K3 h hnd hsh false
 obtain ⟨g1,g2⟩:=X0 hargs
 obtain ⟨f0,f1⟩:=Y9 hsh
 have rn:∀ {c c':AV} {v:Value},Rn (fun j=>ks.getD j 0) ks.length c c'→Rep w (Zw s.mem hd) hd s.mem.length c v→Rep w (Zw mem0 (hdF hd ks s.mem false)) (hdF hd ks s.mem false) mem0.length c' v:=fun hb hr=>by
  rw [f0]
  exact (hr.rn hb hok).mono (fun a u h1 h2=>⟨h2,h1⟩) (fun k hk=>Xy hk) (Nat.le_refl _)
 refine ⟨h.lenP hP hsh hmaps (by simpa using g1.symm),trivial,fun j b u hb hu=>?_,fun i hi=>?_,hm0,fun b mp hb=>?_,h.tailSh hsh hmaps⟩
 ·rw [List.getElem?_map,Option.map_eq_some_iff] at hu
  obtain ⟨x,hx,rfl⟩:=hu
  exact rn (g2 j (ev s x) b (by rw [List.getElem?_map,hx];rfl) hb) (h.ev_ x)
 ·have hf:=h.tm t
  rw [hgt] at hf
  generalize a.tmps.getD t undef=u0 at hf
  cases hf with
  |fam _ _ _ _ hf=>exact rn (hg i hi) (hf i hi)
 ·obtain ⟨_,es,clock,q1,q2⟩:=h.mp b mp (hmaps _ (Xt hb))
  exact ⟨trivial,es,clock,q1,by rw [←hP];exact q2⟩
theorem ZiU (h:RelH n base w0 hd s a w) (hP:base.P=P) {xs:List Operand} {ks:List Nat} {args':List AV} {mem0:List (Option Ob)} {maps0:List (Nat×Mp)} (hnd:ks.Nodup) (hargs:ZO (fun j=>ks.getD j 0) ks.length (xs.map (ev s)) args') (hsh:XS (fun j=>ks.getD j 0) ks.length s.mem ks mem0) (hmaps:∀ p,p∈maps0→lkm s.maps p.1=some p.2) :
  GS P w (Sh w (hdF hd ks s.mem false) mem0 maps0) args' (xs.map a.eval)∧(∀ (j:Nat) b u,args'[j]?=some b→(xs.map a.eval)[j]?=some u→Rep w (Zw mem0 (hdF hd ks s.mem false)) (hdF hd ks s.mem false) mem0.length b u)∧
   MemRel (fun _=>True) w (hdF hd ks s.mem false) mem0∧MapRel P (fun _=>True) w maps0∧WP (hdF hd ks s.mem false) (Sh w (hdF hd ks s.mem false) mem0 maps0):=by
 obtain ⟨hm0,hok⟩:=K3 h hnd hsh false
 obtain ⟨g1,g2⟩:=X0 hargs
 obtain ⟨f0,f1⟩:=Y9 hsh
 have rn:∀ {c c':AV} {v:Value},Rn (fun j=>ks.getD j 0) ks.length c c'→Rep w (Zw s.mem hd) hd s.mem.length c v→Rep w (Zw mem0 (hdF hd ks s.mem false)) (hdF hd ks s.mem false) mem0.length c' v:=fun hb hr=>by
  rw [f0]
  exact (hr.rn hb hok).mono (fun a u h1 h2=>⟨h2,h1⟩) (fun k hk=>Xy hk) (Nat.le_refl _)
 refine ⟨h.lenP hP hsh hmaps (by simpa using g1.symm),fun j b u hb hu=>?_,hm0,fun b mp hb=>?_,h.tailSh hsh hmaps⟩
 ·rw [List.getElem?_map,Option.map_eq_some_iff] at hu
  obtain ⟨x,hx,rfl⟩:=hu
  exact rn (g2 j (ev s x) b (by rw [List.getElem?_map,hx];rfl) hb) (h.ev_ x)
 ·obtain ⟨_,es,clock,q1,q2⟩:=h.mp b mp (hmaps _ (Xt hb))
  exact ⟨trivial,es,clock,q1,by rw [←hP];exact q2⟩
theorem RelH.tell (h:RelH n base w0 hd s a w) (m:Nat) {N:Nat} {vs:Nat→Value} {as:Nat→AV} (hf:∀ i,i<N→Rep w (Zw s.mem hd) hd s.mem.length (as i) (vs i)):RelH n base w0 hd { s with tmps:=(m,.fam N vs as)::s.tmps } a w:=by
 refine ⟨h.defers,h.size,h.below,h.le,h.fixl,h.fix,h.mp,fun t=>?_,h.me⟩
 simp only [lk]
 split
 ·exact .fam N vs as _ hf
 ·exact h.tm t
theorem Zee (h:RelH n base w0 hd s a w) (hP:base.P=P) {o:Oper} {f:FuncId} {xs:List Operand} (hcall:WB P s o.op=some (f,xs)) (hv:Zhk P f xs s k) {K:Act→World→Prop} {Q:Exit→Act→World→Prop}
  (hK:∀ hd' s' w' av v,RelH n base w0 hd' s' a w'→Rep w' (Zw s'.mem hd') hd' s'.mem.length av v→k av s'→K (a.put o.dst v) w'):o.wp P a w K Q:=by
 have hrun0:(execOp a.eval o).run P w=(callFunc f (xs.map a.eval).toArray).run P w:=He h hcall
 have hrun:ZbM P f→(execOp a.eval o).run P w=.ok (.enter f (xs.map a.eval).toArray) w:=fun hfn=>hrun0.trans (UJ hfn _ w)
 rcases hv with ⟨args',hargs,hfn,hc⟩|⟨ks,args',mem0,maps0,L,hnd,⟨hargs,hL0⟩,hsh,hmaps,hfn,hc⟩|⟨⟨fn,hf1,hf2,hf3,hf4,hf5⟩,av,hav,hk⟩|⟨ks,args',mem0,maps0,t,N,vs0,as0,as1,hnd,hargs,⟨hgt,hg⟩,hsh,hmaps,hfn,hc⟩|⟨ks,args',mem0,maps0,t,hnd,hargs,hsh,hmaps,hfn,hc⟩|⟨ks,args',mem0,maps0,t,N,vs0,as0,as1,t',hnd,hargs,⟨hgt,hg⟩,hsh,hmaps,hfn,hc⟩
 ·obtain ⟨hl,hrep⟩:=Jo h xs args' hargs
  have hcalls:=hc w _ ⟨hl,hP▸h.gw,fun b hb=>by subst hP;exact Nat.le_trans h.gw.1 hb⟩ hrep
  unfold Oper.wp
  rw [hrun hfn]
  simp only [Oper.upon]
  refine hcalls.mono ?_
  rintro e w' ⟨v,rfl,hg,hdc,av,obs,hk,hfl,hlit,hm,hv⟩
  have hlow:∀ k,k<obs.length→(fun k=>if k<obs.length then hdc k else hd (k+s.mem.length)) k=hdc k:=fun k hk=>if_pos hk
  have hR:=h.import hg (hm.retail hlit hlow) hlit ⟨obs.length,fun k hk=>if_neg (by omega)⟩
  refine hK _ _ _ _ _ hR (hv.ren_ hfl fun q _ hq=>⟨by simp;omega,?_⟩) hk
  rw [if_neg (by omega),Nat.add_sub_cancel]
  exact hlow q hq
 ·have hL:L=true∨∀ (j:Nat) a b,(xs.map (ev s))[j]?=some a→args'[j]?=some b→Rn (fun j=>ks.getD j 0) ks.length a b:=hL0.imp id fun h=>(X0 h).2
  obtain ⟨hm0,hok⟩:=K3 h hnd hsh L
  obtain ⟨g1,g2⟩:=ZcK hargs
  have hlen:=(Y9 hsh).1
  have hcalls:=hc w (xs.map a.eval) (hdF hd ks s.mem L) (h.lenP hP hsh hmaps (by simpa using g1.symm)) (fun j b u hb hu=>by
   rw [List.getElem?_map,Option.map_eq_some_iff] at hu
   obtain ⟨x,hx,rfl⟩:=hu
   exact Zlb h hsh hok (g2 j (ev s x) b (by rw [List.getElem?_map,hx];rfl) hb) (hL.imp id fun hL=>hL j (ev s x) b (by rw [List.getElem?_map,hx];rfl) hb)) hm0 (fun b mp hb=>by
   obtain ⟨_,es,clock,q1,q2⟩:=h.mp b mp (hmaps _ (Xt hb))
   exact ⟨trivial,es,clock,q1,by rw [←hP];exact q2⟩) (h.tailSh hsh hmaps)
  unfold Oper.wp
  rw [hrun hfn]
  simp only [Oper.upon]
  refine hcalls.mono ?_
  rintro e w' ⟨v,rfl,hb,hdc,av,mem',maps',⟨hns,hk⟩,hpo,⟨hhd,htl⟩,hm,hmp,hv⟩
  obtain ⟨hR,f3,f4⟩:=h.importS hP hnd hsh hmaps hb hpo (fun k hk=>(hhd k hk).trans (Xy (by omega))) htl (hns.imp id And.left) hm hmp
  have hfr:Zd1 s.maps maps0 maps':=fun b hb=>by
   obtain ⟨mp,hmp2⟩:=Option.isSome_iff_exists.1 hb
   obtain ⟨hsh2,es2,clock2,h2,_⟩:=hmp b mp hmp2
   cases hc:lkm s.maps b with
   |none=>exact .inr rfl
   |some mq=>
    obtain ⟨_,es3,clock3,h3,_⟩:=h.mp b mq hc
    rcases hsh2 with h4|⟨k4,ob4,h4,h5⟩|h4
    ·have:=(Array.getElem?_eq_some_iff.1 h3).1
     omega
    ·obtain ⟨f0,f1⟩:=Y9 hsh
     have hk4:k4<ks.length:=by have:=(List.getElem?_eq_some_iff.1 h4).1;omega
     obtain ⟨ob5,ob6,h6,h7,_⟩:=f1 k4 _ (List.getElem?_eq_getElem hk4)
     rw [Xy hk4,List.getD_eq_getElem?_getD,List.getElem?_eq_getElem hk4] at h5
     exact absurd h5 ((Wb h hc).2 _ ob5 h7)
    ·exact .inl h4
  refine hK _ _ _ _ _ hR ?_ (hk hfr)
  rcases hns with hns|hns
  ·exact hv.renW_ hpo.flat (fun ad u h1 h2=>⟨h2,f4 hns _ h1⟩) fun q _ hq=>f3 q hq
  ·exact hv.ren_ hns.2 fun q _ hq=>f3 q hq
 ·match xs,hav with
  |[x],hav=>
   simp only [List.map_cons,List.map_nil,List.cons.injEq,and_true] at hav
   have hx:=h.ev_ x
   rw [hav] at hx
   have hr:(execOp a.eval o).run P w=.ok (.value (a.eval x)) w:=by
    rw [hrun0,run_callFunc_extern hf1 hf2 hf3 hf4 hf5]
    show ((Extern.AbiNoEscape.same #[a.eval x]).run P w).andThen _=_
    rw [Lib.run_noEscape]
    rfl
   unfold Oper.wp
   rw [hr]
   exact hK _ _ _ _ _ h hx hk
 ·obtain ⟨hlen,hb,hrep,hfam,hm0,hmp0,htl0⟩:=Ku h hP hnd hargs hgt hg hsh hmaps
  have hcalls:=hc w (xs.map a.eval) (hdF hd ks s.mem false) hlen hrep hfam hm0 hmp0 htl0
  unfold Oper.wp
  rw [hrun hfn]
  simp only [Oper.upon]
  refine hcalls.mono ?_
  rintro e w' ⟨v,rfl,hb,hdc,av,mem',maps',hk,hpo,⟨hhd,htl⟩,hm,hmp,hv⟩
  have hlen2:=(Y9 hsh).1
  obtain ⟨hR,f3,f4⟩:=h.importS hP hnd hsh hmaps hb hpo (fun k hk=>(hhd k hk).trans (Xy (by omega))) htl (.inl rfl) hm hmp
  exact hK _ _ _ _ _ hR (hv.renW_ hpo.flat (fun ad u h1 h2=>⟨h2,f4 rfl _ h1⟩) fun q _ hq=>f3 q hq) hk
 ·obtain ⟨hlen,hrep,hm0,hmp0,htl0⟩:=ZiU h hP hnd hargs hsh hmaps
  have hcalls:=hc w (xs.map a.eval) (hdF hd ks s.mem false) hlen hrep hm0 hmp0 htl0
  unfold Oper.wp
  rw [hrun hfn]
  simp only [Oper.upon]
  refine hcalls.mono ?_
  rintro e w' ⟨v,rfl,hb,hdc,av,mem',maps',N,vs1,as1,⟨hk,hfam⟩,hpo,⟨hhd,htl⟩,hm,hmp,hv⟩
  have hlen2:=(Y9 hsh).1
  obtain ⟨hR,f3,f4⟩:=h.importS hP hnd hsh hmaps hb hpo (fun k hk=>(hhd k hk).trans (Xy (by omega))) htl (.inl rfl) hm hmp
  refine hK _ _ _ _ _ (hR.tell t fun i hi=>?_) (hv.renW_ hpo.flat (fun ad u h1 h2=>⟨h2,f4 rfl _ h1⟩) fun q _ hq=>f3 q hq) hk
  obtain ⟨g1,g2⟩:=hfam i hi
  exact g2.renB_ g1 (fun ad u h1 h2=>⟨h2,f4 rfl _ h1⟩) fun q hq=>f3 q hq
 ·obtain ⟨hlen,hb,hrep,hfam,hm0,hmp0,htl0⟩:=Ku h hP hnd hargs hgt hg hsh hmaps
  have hcalls:=hc w (xs.map a.eval) (hdF hd ks s.mem false) hlen hrep hfam hm0 hmp0 htl0
  unfold Oper.wp
  rw [hrun hfn]
  simp only [Oper.upon]
  refine hcalls.mono ?_
  rintro e w' ⟨v,rfl,hb,hdc,av,mem',maps',N',vs1,as2,⟨hk,hfam2⟩,hpo,⟨hhd,htl⟩,hm,hmp,hv⟩
  have hlen2:=(Y9 hsh).1
  obtain ⟨hR,f3,f4⟩:=h.importS hP hnd hsh hmaps hb hpo (fun k hk=>(hhd k hk).trans (Xy (by omega))) htl (.inl rfl) hm hmp
  refine hK _ _ _ _ _ (hR.tell t' fun i hi=>?_) (hv.renW_ hpo.flat (fun ad u h1 h2=>⟨h2,f4 rfl _ h1⟩) fun q _ hq=>f3 q hq) hk
  obtain ⟨g1,g2⟩:=hfam2 i hi
  exact g2.closed g1 fun ad u h1 h2=>⟨h2,f4 rfl _ h1⟩
theorem VH (h:RelH n base w0 hd s a w) (hP:base.P=P) {o:Oper} {k:VS→Prop} (hv:ZR P n o s k) {K:Act→World→Prop} {Q:Exit→Act→World→Prop} (hK:∀ hd' s' a' w',RelH n base w0 hd' s' a' w'→k s'→K a' w'):o.wp P a w K Q:=by
 unfold ZR at hv
 split at hv
 ·rename_i f xs hcall
  refine Zee h hP hcall hv fun hd' s' w' av v h1 h2 h3=>?_
  obtain ⟨s'',h4,h5⟩:=YP h1 h2 h3
  exact hK _ s'' _ _ h4 h5
 ·obtain ⟨v,w',hr,hd',s',av,h1,h2,h3⟩:=ZfX h hP o hv
  obtain ⟨s'',h4,h5⟩:=YP h1 h2 h3
  unfold Oper.wp
  rcases hr with hr|⟨hr,rfl⟩
  ·rw [hr];exact hK _ s'' _ _ h4 h5
  ·rw [hr];exact hK _ s'' _ _ h4 h5
theorem Jr (h:RelH n base w0 hd s a w) {all:List Oper} {g:Nat} {t:Tmp} {c:Bool} (hs:Um all g=some t) (hl:lk s.tmps t=.lit (.bool c)):yielded all.toArray a.tmps g=some c:=by
 have ht:=h.tm t
 rw [hl] at ht
 have e:a.tmps.getD t undef=.bool c:=by
  generalize a.tmps.getD t undef=v at ht
  cases ht;rfl
 unfold yielded
 have:((all.toArray[g]?).bind (·.dst))=some t:=by simpa [Um] using hs
 rw [this]
 simp only [Option.bind_some]
 rw [Array.getD_eq_getD_getElem?] at e
 cases h2:a.tmps[t]? with
 |none=>rw [h2] at e;simp [undef] at e
 |some v=>rw [h2] at e;simp only [Option.getD_some] at e;rw [e]
theorem Js (h:RelH n base w0 hd s a w) {all:List Oper} {g:Nat} {t:Tmp} {q:Array Value} (hs:Um all g=some t) (hl:lk s.tmps t=.lit (.tuple q)) (b:Bool):yielded all.toArray a.tmps g≠some b:=by
 have ht:=h.tm t
 rw [hl] at ht
 have e:a.tmps.getD t undef=.tuple q:=by
  generalize a.tmps.getD t undef=v at ht
  cases ht;rfl
 unfold yielded
 have:((all.toArray[g]?).bind (·.dst))=some t:=by simpa [Um] using hs
 rw [this]
 simp only [Option.bind_some]
 rw [Array.getD_eq_getD_getElem?] at e
 cases h2:a.tmps[t]? with
 |none=>simp
 |some v=>rw [h2] at e;simp only [Option.getD_some] at e;rw [e];simp
theorem RelH.again (h:RelH n base w0 hd s a w) {t:Tmp} {av:AV} (hav:av=lk s.tmps t):RelH n base w0 hd { s with tmps:=(t,av)::s.tmps } a w:=by
 refine ⟨h.defers,h.size,h.below,h.le,h.fixl,h.fix,h.mp,fun u=>?_,h.me⟩
 simp only [lk]
 split
 ·rename_i e;subst e;rw [hav];exact h.tm t
 ·exact h.tm u
theorem Vj (hP:base.P=P) {all:List Oper} {Q:Exit→Act→World→Prop}:∀ (ops:List Oper) {hd:Nat→Value} {s:VS} {a:Act} {w:World} {k:VS→Prop},RelH n base w0 hd s a w→V6 P n all ops s k→
  (∀ hd' s' a' w',RelH n base w0 hd' s' a' w'→k s'→Q .normal a' w')→wpList P all.toArray Q ops a w
 |[],hd,s,a,w,k,h,hv,hQ=>hQ hd s a w h hv
 |o::r,hd,s,a,w,k,h,hv,hQ=>by
  simp only [V6] at hv
  unfold wpList
  split at hv
  ·rename_i hg
   rw [if_pos (by simp [Region.wanted,hg])]
   exact .inl (VH h hP hv fun hd' s' a' w' h' hk=>Vj hP r h' hk hQ)
  ·rename_i g b hg
   split at hv
   ·rename_i t hs
    split at hv
    ·rename_i c hl
     have hy:=Jr h hs hl
     by_cases hcb:c=b
     ·have hR:=h.again (t:=t) (av:=.lit (.bool b)) (by rw [hl,hcb])
      rw [if_pos (by simp [Region.wanted,hg,hy,hcb])]
      exact .inl (VH hR hP (hv.1 hcb) fun hd' s' a' w' h' hk=>Vj hP r h' hk hQ)
     ·have hcb':c=!b:=by cases c<;>cases b<;>simp_all
      have hR:=h.again (t:=t) (av:=.lit (.bool (!b))) (by rw [hl,hcb'])
      rw [if_neg (by simp [Region.wanted,hg,hy,hcb])]
      obtain ⟨s',h1,h2⟩:=YP hR (.lit undef) (hv.2 hcb')
      exact Vj hP r h1 h2 hQ
    ·rename_i q hl
     have hy:=Js h hs hl b
     rw [if_neg (by simp [Region.wanted,hg,hy])]
     obtain ⟨s',h1,h2⟩:=YP h (.lit undef) hv
     exact Vj hP r h1 h2 hQ
    ·exact hv.elim
   ·exact hv.elim
inductive VX where
 |normal
 |exit (id:Nat)
 |ret
def VX.out:VX→Exit
 | .normal=>.normal
 | .exit id=>.exit id
 | .ret=>.ret
inductive Bd (m:Nat):AV→Prop
 |undef:Bd m .undef
 |closed (av:AV) (h:Closed av):Bd m av
 |own (k:Nat) (h:k<m):Bd m (.own k)
 |sub (k sz lo n:Nat) (h:k<m):Bd m (.sub k sz lo n)
 |ptr (k sz i j:Nat) (h:k<m):Bd m (.ptr k sz i j)
 |agg (cs:List AV) (h:∀ c,c∈cs→Bd m c):Bd m (.agg cs)
 |tup (cs:List AV) (h:∀ c,c∈cs→Bd m c):Bd m (.tup cs)
theorem Rep.bd {w:World} {ok ok':Nat→Prop} {m m':Nat} {av:AV} (hb:Bd m' av) (hok:∀ b,ok b→ok' b):∀ {v:Value},Rep w ok hd m av v→Rep w ok' hd m' av v:=by
 induction hb with
 |undef=>intro v _;exact .undef v
 |closed av hc=>intro v h;exact Rep.closed hc (fun a u h1 h2=>⟨h2,hok _ h1⟩) h
 |own k hk=>intro v h;cases h;exact .own k hk
 |sub k sz lo n hk=>intro v h;cases h with|sub _ _ _ _ A c _ hc ha=>exact .sub k sz lo n A c hk hc ha
 |ptr k sz i j hk=>intro v h;cases h with|ptr _ _ _ _ b n' c' _ hh=>exact .ptr k sz i j b n' c' hk hh
 |agg cs _ ih=>intro v h;cases h with|agg _ vs hl hr=>exact .agg cs vs hl fun j a u h1 h2=>ih a (List.mem_of_getElem? h1) (hr j a u h1 h2)
 |tup cs _ ih=>intro v h;cases h with|tup _ vs hl hr=>exact .tup cs vs hl fun j a u h1 h2=>ih a (List.mem_of_getElem? h1) (hr j a u h1 h2)
def Zlf (m:Nat) (ob ob':Ob):Prop:=ob.ty=ob'.ty∧ob.sz=ob'.sz∧ob.n=ob'.n∧∀ i,i<ob'.n→ob.f i=ob'.f i∧∀ c,c∈ob'.f i→Bd m c
structure Le (s s':VS):Prop where
 fix:s'.fix=s.fix∧s'.fix≤s'.mem.length
 maps:∀ p,p∈s'.maps→lkm s.maps p.1=some p.2
 tmps:∀ p,p∈s'.tmps→lk s.tmps p.1=p.2∧Bd s'.mem.length p.2
 len:s'.mem.length≤s.mem.length
 mem:∀ (k:Nat) (ob':Ob),s'.mem[k]?=some (some ob')→∃ ob,s.mem[k]?=some (some ob)∧Zlf s'.mem.length ob ob'
theorem Zdt:∀ (l:List (Nat×AV)) (t:Nat),lk l t=.undef∨(t,lk l t)∈l
 |[],t=>.inl rfl
 | (u,v)::r,t=>by
  simp only [lk]
  split
  ·rename_i e;subst e;exact .inr (by simp)
  ·rcases Zdt r t with h|h
   ·exact .inl h
   ·exact .inr (by simp [h])
theorem RelH.le_ {s':VS} (h:RelH n base w0 hd s a w) (hle:Le s s'):RelH n base w0 hd s' a w:=by
 have hok:∀ b,Zw s.mem hd b→Zw s'.mem hd b:=fun b hb=>⟨fun k ob' hk=>by
  obtain ⟨ob,h1,_⟩:=hle.mem k ob' hk
  exact hb.1 k ob h1,hb.2⟩
 refine ⟨h.defers,h.size,h.below,h.le,hle.fix.2,by rw [hle.fix.1];exact h.fix,fun b mp hb=>h.mp b mp (hle.maps (b,mp) (Xt hb)),fun t=>?_,⟨fun k ob' hk=>(by obtain ⟨ob,h1,_⟩:=hle.mem k ob' hk;exact h.me.alw k ob h1),fun k ob' hk=>?_,fun k hk=>h.me.hds k (by have:=hle.len;omega),fun k k' ob ob' hk hk' hne=>?_⟩⟩
 ·rcases Zdt s'.tmps t with e|e
  ·rw [e];exact .undef _
  ·obtain ⟨h1,h2⟩:=hle.tmps _ e
   simp only at h1
   have:=h.tm t
   rw [h1] at this
   exact this.bd h2 hok
 ·obtain ⟨ob,h1,e1,e2,e3,h2⟩:=hle.mem k ob' hk
  obtain ⟨hs,vals,ho,hr⟩:=h.me.obs k ob h1
  rw [e2] at hs
  refine ⟨hs,vals,by rw [←e1,←e2,←e3];exact ho,fun i hi=>?_⟩
  obtain ⟨g1,g2⟩:=hr i (by omega)
  obtain ⟨f1,f2⟩:=h2 i hi
  rw [f1] at g1 g2
  rw [e2] at g1 g2
  refine ⟨g1,fun j av hj=>?_⟩
  obtain ⟨u,q1,q2,q3⟩:=g2 j av hj
  exact ⟨u,q1,q2,q3.bd (f2 av (List.mem_of_getElem? hj)) hok⟩
 ·obtain ⟨o1,g1,_⟩:=hle.mem k ob hk
  obtain ⟨o2,g2,_⟩:=hle.mem k' ob' hk'
  exact h.me.apart k k' o1 o2 g1 g2 hne
def GR (f:Nat→Nat) (m:Nat) (ob ob':Ob):Prop:=ob.ty=ob'.ty∧ob.sz=ob'.sz∧ob.n=ob'.n∧∀ i,i<ob'.n→ob.f i=ob'.f i∧∀ c,c∈ob'.f i→Closed c
structure LeR (f:Nat→Nat) (s s':VS):Prop where
 fix:s'.fix=s.fix∧s'.fix≤s'.mem.length∧∀ k,k<s.fix→f k=k
 maps:∀ p,p∈s'.maps→lkm s.maps p.1=some p.2
 tmps:∀ p,p∈s'.tmps→Rn f s'.mem.length (lk s.tmps p.1) p.2
 lt:∀ k,k<s'.mem.length→f k<s.mem.length
 inj:∀ k k',k<s'.mem.length→k'<s'.mem.length→f k=f k'→k=k'
 mem:∀ (k:Nat) (ob':Ob),s'.mem[k]?=some (some ob')→∃ ob,s.mem[f k]?=some (some ob)∧GR f s'.mem.length ob ob'
theorem RelH.leR {f:Nat→Nat} {s':VS} (h:RelH n base w0 hd s a w) (hle:LeR f s s'):RelH n base w0 (fun k=>if k<s'.mem.length then hd (f k) else hd k) s' a w:=by
 obtain ⟨HD,hHD⟩:∃ HD:Nat→Value,HD=fun k=>if k<s'.mem.length then hd (f k) else hd k:=⟨_,rfl⟩
 rw [←hHD]
 have hlow:∀ k,k<s'.mem.length→HD k=hd (f k):=fun k hk=>by rw [hHD];exact if_pos hk
 have heq:TailEq hd HD:=⟨s'.mem.length,fun k hk=>by rw [hHD];exact if_neg (by omega)⟩
 have hkl:∀ (k:Nat) (ob:Ob),s'.mem[k]?=some (some ob)→k<s'.mem.length:=fun k ob hk=>(List.getElem?_eq_some_iff.1 hk).1
 have hok:∀ b,Zw s.mem hd b→Zw s'.mem HD b:=fun b hb=>⟨fun k ob' hk=>by
  obtain ⟨ob,h1,_⟩:=hle.mem k ob' hk
  rw [hlow k (hkl k ob' hk)]
  exact hb.1 (f k) ob h1,hb.2.eq heq⟩
 have rn:∀ {x y:AV} {v:Value},Rn f s'.mem.length x y→Rep w (Zw s.mem hd) hd s.mem.length x v→Rep w (Zw s'.mem HD) HD s'.mem.length y v:=fun hb hr=>(hr.rn hb hok).mono (fun a u h1 h2=>⟨h2,h1⟩) hlow (Nat.le_refl _)
 refine ⟨h.defers,h.size,h.below,h.le,hle.fix.2.1,⟨fun k hk=>by have:=hle.fix.2.1;rw [hlow k (by omega)];rw [hle.fix.1] at hk;rw [hle.fix.2.2 k hk];exact h.fix.1 k hk,h.fix.2.1.trans heq,h.fix.2.2⟩,fun b mp hb=>h.mp b mp (hle.maps (b,mp) (Xt hb)),fun t=>?_,⟨fun k ob' hk=>(by obtain ⟨ob,h1,_⟩:=hle.mem k ob' hk;rw [hlow k (hkl k ob' hk)];exact h.me.alw (f k) ob h1),fun k ob' hk=>?_,fun k hk=>by rw [hlow k hk];exact h.me.hds (f k) (hle.lt k hk),fun k k' ob ob' hk hk' hne=>?_⟩⟩
 ·rcases Zdt s'.tmps t with e|e
  ·rw [e];exact .undef _
  ·exact rn (hle.tmps _ e) (h.tm t)
 ·obtain ⟨ob,h1,e1,e2,e3,h2⟩:=hle.mem k ob' hk
  obtain ⟨hs,vals,ho,hr⟩:=h.me.obs (f k) ob h1
  rw [e2] at hs
  refine ⟨hs,vals,by rw [hlow k (hkl _ _ hk),←e1,←e2,←e3];exact ho,fun i hi=>?_⟩
  obtain ⟨g1,g2⟩:=hr i (by omega)
  obtain ⟨f1,f2⟩:=h2 i hi
  rw [f1] at g1 g2
  rw [e2] at g1 g2
  refine ⟨g1,fun j av hj=>?_⟩
  obtain ⟨u,q1,q2,q3⟩:=g2 j av hj
  exact ⟨u,q1,q2,rn (.closed _ (f2 av (List.mem_of_getElem? hj))) q3⟩
 ·obtain ⟨o1,g1,_⟩:=hle.mem k ob hk
  obtain ⟨o2,g2,_⟩:=hle.mem k' ob' hk'
  rw [hlow k (hkl _ _ hk),hlow k' (hkl _ _ hk')]
  exact h.me.apart (f k) (f k') o1 o2 g1 g2 (fun e=>hne (hle.inj k k' (hkl _ _ hk) (hkl _ _ hk') e))
def Ent (s s':VS):Prop:=∀ (n:Nat) (base:Fr) (w0:World) (hd:Nat→Value) (a:Act) (w:World),RelH n base w0 hd s a w→∃ hd',RelH n base w0 hd' s' a w
theorem Ent.refl (s:VS):Ent s s:=fun _ _ _ hd _ _ h=>⟨hd,h⟩
theorem Ent.trans {s s' s'':VS} (h:Ent s s') (h':Ent s' s''):Ent s s'':=fun n base w0 hd a w hr=>by
 obtain ⟨hd1,h1⟩:=h n base w0 hd a w hr
 exact h' n base w0 hd1 a w h1
theorem Ent.of_le {s s':VS} (h:Le s s'):Ent s s':=fun n base w0 hd a w hr=>⟨hd,hr.le_ h⟩
inductive LeK where
 |le
 |ren (f:Nat→Nat)
 |ent
def LeX:LeK→VS→VS→Prop
 | .le,s,s'=>Le s s'
 | .ren f,s,s'=>LeR f s s'
 | .ent,s,s'=>Ent s s'
theorem RelH.leX {o:LeK} {s':VS} (h:RelH n base w0 hd s a w) (hle:LeX o s s'):∃ hd',RelH n base w0 hd' s' a w:=by
 cases o with
 |le=>exact ⟨_,h.le_ hle⟩
 |ren f=>exact ⟨_,h.leR hle⟩
 |ent=>exact hle _ _ _ _ _ _ h
structure LeS (f:Nat→Nat) (s s':VS):Prop where
 fix:s'.fix=s.fix∧s'.fix≤s'.mem.length∧∀ k,k<s.fix→f k=k
 maps:∀ p,p∈s'.maps→lkm s.maps p.1=some p.2
 tmps:∀ p,p∈s'.tmps→Rn f s'.mem.length (lk s.tmps p.1) p.2
 lt:∀ k,k<s'.mem.length→f k<s.mem.length
 inj:∀ k k',k<s'.mem.length→k'<s'.mem.length→f k=f k'→k=k'
 mem:∀ (k:Nat) (ob':Ob),s'.mem[k]?=some (some ob')→∃ ob,s.mem[f k]?=some (some ob)∧(GR f s'.mem.length ob ob'∨ZbH f s'.mem.length ob ob')
theorem RelH.leS {f:Nat→Nat} {s':VS} (h:RelH n base w0 hd s a w) (hle:LeS f s s'):RelH n base w0 (fun k=>if k<s'.mem.length then hd (f k) else hd k) s' a w:=by
 obtain ⟨HD,hHD⟩:∃ HD:Nat→Value,HD=fun k=>if k<s'.mem.length then hd (f k) else hd k:=⟨_,rfl⟩
 rw [←hHD]
 have hlow:∀ k,k<s'.mem.length→HD k=hd (f k):=fun k hk=>by rw [hHD];exact if_pos hk
 have heq:TailEq hd HD:=⟨s'.mem.length,fun k hk=>by rw [hHD];exact if_neg (by omega)⟩
 have hkl:∀ (k:Nat) (ob:Ob),s'.mem[k]?=some (some ob)→k<s'.mem.length:=fun k ob hk=>(List.getElem?_eq_some_iff.1 hk).1
 have hok:∀ b,Zw s.mem hd b→Zw s'.mem HD b:=fun b hb=>⟨fun k ob' hk=>by
  obtain ⟨ob,h1,_⟩:=hle.mem k ob' hk
  rw [hlow k (hkl k ob' hk)]
  exact hb.1 (f k) ob h1,hb.2.eq heq⟩
 have rn:∀ {x y:AV} {v:Value},Rn f s'.mem.length x y→Rep w (Zw s.mem hd) hd s.mem.length x v→Rep w (Zw s'.mem HD) HD s'.mem.length y v:=fun hb hr=>(hr.rn hb hok).mono (fun a u h1 h2=>⟨h2,h1⟩) hlow (Nat.le_refl _)
 refine ⟨h.defers,h.size,h.below,h.le,hle.fix.2.1,⟨fun k hk=>by have:=hle.fix.2.1;rw [hlow k (by omega)];rw [hle.fix.1] at hk;rw [hle.fix.2.2 k hk];exact h.fix.1 k hk,h.fix.2.1.trans heq,h.fix.2.2⟩,fun b mp hb=>h.mp b mp (hle.maps (b,mp) (Xt hb)),fun t=>?_,⟨fun k ob' hk=>(by obtain ⟨ob,h1,_⟩:=hle.mem k ob' hk;rw [hlow k (hkl k ob' hk)];exact h.me.alw (f k) ob h1),fun k ob' hk=>?_,fun k hk=>by rw [hlow k hk];exact h.me.hds (f k) (hle.lt k hk),fun k k' ob ob' hk hk' hne=>?_⟩⟩
 ·rcases Zdt s'.tmps t with e|e
  ·rw [e];exact .undef _
  ·exact rn (hle.tmps _ e) (h.tm t)
 ·obtain ⟨ob,h1,h2⟩:=hle.mem k ob' hk
  obtain ⟨hs,vals,ho,hr⟩:=h.me.obs (f k) ob h1
  rcases h2 with ⟨e1,e2,e3,h2⟩|⟨e1,e2,e3,h2⟩
  ·rw [e2] at hs
   refine ⟨hs,vals,by rw [hlow k (hkl _ _ hk),←e1,←e2,←e3];exact ho,fun i hi=>?_⟩
   obtain ⟨g1,g2⟩:=hr i (by omega)
   obtain ⟨f1,f2⟩:=h2 i hi
   rw [f1] at g1 g2
   rw [e2] at g1 g2
   refine ⟨g1,fun j av hj=>?_⟩
   obtain ⟨u,q1,q2,q3⟩:=g2 j av hj
   exact ⟨u,q1,q2,rn (.closed _ (f2 av (List.mem_of_getElem? hj))) q3⟩
  ·rw [e2] at hs
   refine ⟨hs,vals,by rw [hlow k (hkl _ _ hk),←e1,←e2,←e3];exact ho,fun i hi=>?_⟩
   obtain ⟨g1,g2⟩:=hr i (by omega)
   obtain ⟨f1,f2⟩:=X0 (h2 i hi)
   refine ⟨by omega,fun j av hj=>?_⟩
   have hjl:j<(ob.f i).length:=by have:=(List.getElem?_eq_some_iff.1 hj).1;omega
   obtain ⟨u,q1,q2,q3⟩:=g2 j _ (List.getElem?_eq_getElem hjl)
   exact ⟨u,by rw [←e2];exact q1,q2,rn (f2 j _ av (List.getElem?_eq_getElem hjl) hj) q3⟩
 ·obtain ⟨o1,g1,_⟩:=hle.mem k ob hk
  obtain ⟨o2,g2,_⟩:=hle.mem k' ob' hk'
  rw [hlow k (hkl _ _ hk),hlow k' (hkl _ _ hk')]
  exact h.me.apart (f k) (f k') o1 o2 g1 g2 (fun e=>hne (hle.inj k k' (hkl _ _ hk) (hkl _ _ hk') e))
theorem Ent.of_leS {f:Nat→Nat} {s s':VS} (h:LeS f s s'):Ent s s':=fun n base w0 hd a w hr=>⟨_,hr.leS h⟩
theorem Ent.adopt {s:VS} {j:Nat} {ob:Ob} (hj:s.mem[j]?=some (some ob)) (hn:ob.n=1) {c:Nat} (hc:(ob.f 0)[c]?=some (.lit (.slice none 0 0))) (ty sz:Nat) (hsz:0<sz) (g:Nat→List AV) :
  Ent s { s with mem:=s.mem.set j (some { ob with f:=fun _=>(ob.f 0).set c (.own s.mem.length) })++[some ⟨ty,sz,0,g⟩] }:=by
 intro n base w0 hd a w h
 obtain ⟨HD,hHD⟩:∃ HD:Nat→Value,HD=fun k=>if k=s.mem.length then .slice none 0 0 else hd k:=⟨_,rfl⟩
 have hlow:∀ k,k<s.mem.length→HD k=hd k:=fun k hk=>by rw [hHD];exact if_neg (by omega)
 have hnew:HD s.mem.length=.slice none 0 0:=by rw [hHD];exact if_pos rfl
 have heqT:TailEq hd HD:=⟨s.mem.length+1,fun k hk=>by rw [hHD];exact if_neg (by omega)⟩
 have hjl:j<s.mem.length:=(List.getElem?_eq_some_iff.1 hj).1
 obtain ⟨mem',hmem'⟩:∃ mem',mem'=s.mem.set j (some { ob with f:=fun _=>(ob.f 0).set c (.own s.mem.length) })++[some (⟨ty,sz,0,g⟩:Ob)]:=⟨_,rfl⟩
 rw [←hmem']
 have hlen':mem'.length=s.mem.length+1:=by rw [hmem'];simp
 have live:∀ k o',mem'[k]?=some (some o')→(k=s.mem.length∧o'=⟨ty,sz,0,g⟩)∨(k<s.mem.length∧k≠j∧s.mem[k]?=some (some o'))∨(k=j∧o'={ ob with f:=fun _=>(ob.f 0).set c (.own s.mem.length) }):=by
  intro k o' hk
  rw [hmem',List.getElem?_append] at hk
  simp only [List.length_set] at hk
  split at hk
  ·rename_i hkl
   by_cases e:j=k
   ·subst e
    rw [List.getElem?_set_self hjl] at hk
    simp only [Option.some.injEq] at hk
    exact .inr (.inr ⟨rfl,hk.symm⟩)
   ·rw [List.getElem?_set_ne e] at hk
    exact .inr (.inl ⟨hkl,fun e2=>e e2.symm,hk⟩)
  ·rename_i hkl
   have:k=s.mem.length:=by
    have:=(List.getElem?_eq_some_iff.1 hk).1
    simp at this;omega
   subst this
   simp at hk
   exact .inl ⟨rfl,hk.symm⟩
 have old:∀ k o',mem'[k]?=some (some o')→k<s.mem.length→∃ o,s.mem[k]?=some (some o):=by
  intro k o' hk hkl
  rcases live k o' hk with ⟨e,_⟩|⟨_,_,h2⟩|⟨rfl,_⟩
  ·omega
  ·exact ⟨o',h2⟩
  ·exact ⟨ob,hj⟩
 have hok:∀ ad u,Zw s.mem hd ad.block→w.cell? ad=some u→w.cell? ad=some u∧Zw mem' HD ad.block:=by
  intro ad u ho hcl
  refine ⟨hcl,fun k o' hk e=>?_,ho.2.eq heqT⟩
  by_cases hkl:k<s.mem.length
  ·obtain ⟨o,h1⟩:=old k o' hk hkl
   rw [hlow k hkl] at e
   exact ho.1 k o h1 e
  ·have:k=s.mem.length:=by have:=(List.getElem?_eq_some_iff.1 hk).1;omega
   subst this
   rw [hnew] at e;simp [Value.ownBlock] at e
 have hle:s.mem.length≤mem'.length:=by omega
 have ltOf:∀ k o',mem'[k]?=some (some o')→k<s.mem.length+1:=fun k o' hk=>by rw [←hlen'];exact (List.getElem?_eq_some_iff.1 hk).1
 refine ⟨HD,h.defers,h.size,h.below,h.le,Nat.le_trans h.fixl hle,⟨fun k hk=>?_,h.fix.2.1.trans heqT,h.fix.2.2⟩,h.mp,fun t=>(h.tm t).mono hok hlow hle,⟨fun k o' hk b hb=>?_,fun k o' hk=>?_,fun k hk=>?_,fun k k' o o' hk hk' hne=>?_⟩⟩
 ·have hk':k<s.fix:=hk
  have:=h.fixl
  rw [hlow k (by omega)];exact h.fix.1 k hk'
 ·by_cases hkl:k<s.mem.length
  ·obtain ⟨o,h1⟩:=old k o' hk hkl
   rw [hlow k hkl] at hb
   exact h.me.alw k o h1 b hb
  ·have:k=s.mem.length:=by have:=ltOf k o' hk;omega
   subst this
   rw [hnew] at hb;simp [Value.ownBlock] at hb
 ·rcases live k o' hk with ⟨rfl,rfl⟩|⟨hkl,_,h2⟩|⟨rfl,rfl⟩
  ·rw [hnew]
   exact ⟨hsz,[],⟨by simp,.inl ⟨rfl,rfl⟩⟩,fun i hi=>by simp at hi⟩
  ·obtain ⟨hs,vals,ho,hr⟩:=h.me.obs k o' h2
   rw [hlow k hkl]
   refine ⟨hs,vals,ho,fun i hi=>⟨(hr i hi).1,fun q av hq=>?_⟩⟩
   obtain ⟨u,g1,g2,g3⟩:=(hr i hi).2 q av hq
   exact ⟨u,g1,g2,g3.mono hok hlow hle⟩
  ·obtain ⟨hs,vals,ho,hr⟩:=h.me.obs k ob hj
   rw [hlow k hjl]
   refine ⟨hs,vals,ho,fun i hi=>?_⟩
   have hi0:i=0:=by have hi':i<ob.n:=hi;omega
   subst hi0
   obtain ⟨q1,q2⟩:=hr 0 hi
   refine ⟨by simpa using q1,fun q av hq=>?_⟩
   simp only at hq
   by_cases e:c=q
   ·subst e
    have hcl:c<(ob.f 0).length:=(List.getElem?_eq_some_iff.1 hc).1
    rw [List.getElem?_set_self hcl] at hq
    simp only [Option.some.injEq] at hq
    subst hq
    obtain ⟨u,g1,g2,g3⟩:=q2 c _ hc
    cases g3
    refine ⟨_,g1,g2,?_⟩
    rw [←hnew]
    exact .own _ (by show s.mem.length<mem'.length;omega)
   ·rw [List.getElem?_set_ne e] at hq
    obtain ⟨u,g1,g2,g3⟩:=q2 q av hq
    exact ⟨u,g1,g2,g3.mono hok hlow hle⟩
 ·by_cases hkl:k<s.mem.length
  ·rw [hlow k hkl];exact h.me.hds k hkl
  ·have:k=s.mem.length:=by have hk':k<mem'.length:=hk;omega
   subst this
   exact ⟨none,0,0,hnew⟩
 ·by_cases e1:k=s.mem.length
  ·subst e1;rw [hnew];exact .inl rfl
  ·by_cases e2:k'=s.mem.length
   ·subst e2
    rw [hnew]
    cases hq:(HD k).ownBlock with
    |none=>exact .inl rfl
    |some b=>exact .inr (by simp [Value.ownBlock])
   ·have l1:k<s.mem.length:=by have:=ltOf k o hk;omega
    have l2:k'<s.mem.length:=by have:=ltOf k' o' hk';omega
    obtain ⟨o1,h1⟩:=old k o hk l1
    obtain ⟨o2,h2⟩:=old k' o' hk' l2
    rw [hlow k l1,hlow k' l2]
    exact h.me.apart k k' o1 o2 h1 h2 hne
end
end Go.Proofs.YtadghlfkddkelaaGreatDoor.V
namespace Go.Proofs.YtadghlfkddkelaaGreatDoor.V
open Go.RowKit
section
variable {P:Program} {ops:Array Oper} {md:Region.Mode}
def QNo:Exit→Act→World→Prop:=fun _ _ _=>False
def ZbI (Q0:Exit→Act→World→Prop):Prop:=∀ e (a:Act) d v w,Q0 e (a.put d v) w→Q0 e a w
theorem QNo.free:ZbI QNo:=fun _ _ _ _ _ h=>h
def VT (P:Program) (md:Region.Mode) (ops:Array Oper) (Q0:Exit→Act→World→Prop) (fin:List Nat) (Q:Act→World→Prop):Nat→Array Bool→Act→World→Prop
 |0,listed,a,w=>Region.ready md ops listed=[]∧Q a w
 |fuel+1,listed,a,w=>(Region.ready md ops listed=[]→Q a w)∧
  ∀ i∈Region.ready md ops listed,wpOp P ops Q0 i (fun a' w'=>(i∉fin→w.grownBy w' none)∧VT P md ops Q0 fin Q fuel (listed.setIfInBounds i true) a' w') a w
theorem HP {a b c:World} (h:a.grownBy b none) (k:b.grownBy c none):a.grownBy c none:=
 ⟨k.os.trans h.os,k.tape.trans h.tape,k.output.trans h.output,Nat.le_trans h.size k.size,fun i hi hr=>(k.block i (Nat.lt_of_lt_of_le hi h.size) hr).trans (h.block i hi hr)⟩
theorem YB (a:World):a.grownBy a none:=⟨rfl,rfl,rfl,Nat.le_refl _,fun _ _ _=>rfl⟩
def YG (P:Program) (ops:Array Oper) (o:Oper) (v:Value) (a:Act) (w:World):Prop:=
 (Region.wanted o (yielded ops a.tmps)=true∧∀ w',w.grownBy w' none→(execOp a.eval o).run P w'=.ok (.value v) w')∨(Region.wanted o (yielded ops a.tmps)=false∧v=undef)
theorem YG.grown {o:Oper} {v:Value} {a:Act} {w w':World} (h:YG P ops o v a w) (hg:w.grownBy w' none):YG P ops o v a w':=
 h.imp (fun ⟨h1,h2⟩=>⟨h1,fun w'' hg'=>h2 w'' (HP hg hg')⟩) id
theorem YG.of_same {o:Oper} {v:Value} {a a':Act} {w:World} (hy:YG P ops o v a w) (he:execOp a'.eval o=execOp a.eval o) (hw:Region.wanted o (yielded ops a'.tmps)=Region.wanted o (yielded ops a.tmps)):YG P ops o v a' w:=by
 unfold YG at *
 rw [he,hw];exact hy
theorem YG.wpOp {i:Nat} {o:Oper} {v:Value} {a:Act} {w:World} {Q:Exit→Act→World→Prop} (hi:ops[i]?=some o) (hy:YG P ops o v a w) {K:Act→World→Prop} (h:K (a.put o.dst v) w):wpOp P ops Q i K a w:=by
 unfold Go.wpOp
 simp only [hi]
 rcases hy with ⟨hw,hv⟩|⟨hw,rfl⟩
 ·simp only [hw,if_true,Oper.wp,hv w (YB w),Oper.upon];exact .inl h
 ·simp only [hw,Bool.false_eq_true,if_false];exact h
theorem Zh4 {j:Nat} {oi oj:Oper} {v:Value} (hj:ops[j]?=some oj) (hap:oi.apart ops oj=true) (hsi:∀ cs b,oi.op≠.select cs b) (hsj:∀ cs b,oj.op≠.select cs b) {K:Act→World→Prop} {a:Act} {w:World}
  {Q0:Exit→Act→World→Prop} (hA:ZbI Q0) (hy:YG P ops oi v a w) (h:wpOp P ops Q0 j K (a.put oi.dst v) w):wpOp P ops Q0 j (fun a' w'=>(w.grownBy w' none→YG P ops oi v a' w')∧K (a'.put oi.dst v) w') a w:=by
 obtain ⟨h1,h2,h3⟩:=Oper.apart_spec hap
 have keep:∀ (a:Act),YG P ops oi v a w→∀ u w',w.grownBy w' none→YG P ops oi v (a.put oj.dst u) w':=fun a hy u w' hg=>
  (hy.grown hg).of_same (execOp_put oi hsi a oj.dst u h3) (wanted_put oi a oj.dst u h3)
 have keepD:∀ d,YG P ops oi v { a with defers:=d::a.defers } w:=fun d=>hy.of_same rfl rfl
 unfold wpOp at *
 simp only [hj] at *
 rw [wanted_put oj a oi.dst v h1] at h
 split
 ·rename_i hw
  simp only [hw,if_true] at h
  rcases h with h|⟨hasks,hlets⟩
  case inr=>exact .inr ⟨by unfold Oper.asks at *;rw [execOp_put oj hsj a oi.dst v h1] at hasks;exact hasks,hlets⟩
  refine .inl ?_
  unfold Oper.wp at *
  rw [execOp_put oj hsj a oi.dst v h1] at h
  generalize (execOp a.eval oj).run P w=r at *
  cases r with
  |ok n w'=>
   cases n<;>simp only [Oper.upon] at h ⊢
   case value u=>exact ⟨keep a hy u w',by rw [←Act.put_comm a v u h2];exact h⟩
   case skip=>exact ⟨keep a hy _ w',by rw [←Act.put_comm a v undef h2];exact h⟩
   case defer d=>
    refine ⟨keep _ (keepD d) _ w',?_⟩
    rw [←Act.put_comm _ v undef h2,←Act.put_defers]
    exact h
   case enter f args=>
    refine Calls.mono h fun e w'' he=>?_
    cases e with
    |returned u=>exact ⟨keep a hy u w'',by rw [←Act.put_comm a v u h2];exact he⟩
    |panicked c=>exact hA _ _ _ _ _ he
    |outgrown=>exact he
   case row row args=>exact Rows.mono h fun u w'' he=>⟨keep a hy u w'',by rw [←Act.put_comm a v u h2];exact he⟩
  |halt x w'=>
   cases x<;>simp only [Oper.upon] at h ⊢
   case panic u=>exact hA _ _ _ _ _ h
 ·rename_i hw
  simp only [hw] at h
  exact ⟨keep a hy _ w,by rw [←Act.put_comm a v undef h2];exact h⟩
def Down (md:Region.Mode) (ops:Array Oper) (listed:Array Bool):Prop:=∀ j oj,ops[j]?=some oj→listed.getD j false=true→∀ e∈oj.after,Region.binds md e=true→listed.getD e.on false=true
theorem Down.set {listed:Array Bool} {i:Nat} (h:Down md ops listed) (hi:i∈Region.ready md ops listed):Down md ops (listed.setIfInBounds i true):=by
 obtain ⟨_,oi,hoi,hall⟩:=mem_ready.1 hi
 intro j oj hj hl e he hb
 by_cases hij:i=j
 ·subst hij
  have:oj=oi:=Option.some.inj (hj.symm.trans hoi)
  subst this
  exact getD_set_true (hall e he hb)
 ·rw [getD_set_ne false hij] at hl
  exact getD_set_true (h j oj hj hl e he hb)
def Zhf (md:Region.Mode) (ops:Array Oper) (j i:Nat):Bool:=match ops[j]? with
 |some oj=>oj.after.any fun e=>Region.binds md e&&e.on==i
 |none=>false
def Zhw (md:Region.Mode) (ops:Array Oper) (fin:Nat):Nat→Nat→Bool
 |0,_=>false
 |fuel+1,i=>Zhf md ops fin i||(List.range ops.size).any fun k=>Zhf md ops k i&&Zhw md ops fin fuel k
theorem Zad {j i:Nat} (h:Zhf md ops j i=true):∃ oj,ops[j]?=some oj∧∃ e∈oj.after,Region.binds md e=true∧e.on=i:=by
 unfold Zhf at h
 split at h
 ·rename_i oj hj
  obtain ⟨e,he,hb⟩:=Array.any_eq_true'.1 h
  simp only [Bool.and_eq_true,beq_iff_eq] at hb
  exact ⟨oj,hj,e,he,hb.1,hb.2⟩
 ·cases h
theorem ZaF {fin:Nat} {listed:Array Bool} (hd:Down md ops listed) (hf:fin∈Region.ready md ops listed):∀ (fuel i:Nat),Zhw md ops fin fuel i=true→listed.getD i false=true
 |0,i,h=>by cases h
 |fuel+1,i,h=>by
  simp only [Zhw,Bool.or_eq_true,List.any_eq_true,Bool.and_eq_true] at h
  rcases h with h|⟨k,_,h1,h2⟩
  ·obtain ⟨oj,hj,e,he,hb,rfl⟩:=Zad h
   obtain ⟨_,o,ho,hall⟩:=mem_ready.1 hf
   have:o=oj:=Option.some.inj (ho.symm.trans hj)
   subst this
   exact hall e he hb
  ·have:=ZaF hd hf fuel k h2
   obtain ⟨oj,hj,e,he,hb,rfl⟩:=Zad h1
   exact hd k oj hj this e he hb
def Ze8 (md:Region.Mode) (ops:Array Oper) (fin:List Nat) (listed:Array Bool) (i:Nat):Bool:=fin.all fun f=>decide (ops.size≤f)||listed.getD f false||Zhw md ops f ops.size i
theorem ZlS {fin:List Nat} {f:Nat} {listed:Array Bool} (hd:Down md ops listed) {i:Nat} (hL:Ze8 md ops fin listed i=true) (hff:f∈fin) (hf:f∈Region.ready md ops listed) (hi:i∈Region.ready md ops listed):False:=by
 obtain ⟨hunf,of,hof,_⟩:=mem_ready.1 hf
 obtain ⟨hun,oi,hoi,_⟩:=mem_ready.1 hi
 have hfl:=(Array.getElem?_eq_some_iff.1 hof).1
 have no:∀ j,listed.getD j true=false→listed.getD j false=true→False:=by
  intro j h1 h2
  rcases Nat.lt_or_ge j listed.size with h'|h'
  ·simp [h'] at h1 h2;rw [h1] at h2;cases h2
  ·simp [Array.getElem?_eq_none h'] at h1
 have hL1:=List.all_eq_true.1 hL f hff
 simp only [Bool.or_eq_true,decide_eq_true_eq] at hL1
 rcases hL1 with (h|h)|h
 ·omega
 ·exact no f hunf h
 ·exact no i hun (ZaF hd hf _ i h)
theorem ZiQ {fin:List Nat} {listed:Array Bool} {i j:Nat} (hL:Ze8 md ops fin listed i=true):Ze8 md ops fin (listed.setIfInBounds j true) i=true:=by
 refine List.all_eq_true.2 fun f hf=>?_
 have hL1:=List.all_eq_true.1 hL f hf
 simp only [Bool.or_eq_true,decide_eq_true_eq] at hL1 ⊢
 rcases hL1 with (h|h)|h
 ·exact .inl (.inl h)
 ·exact .inl (.inr (getD_set_true h))
 ·exact .inr h
theorem Jt {Q:Act→World→Prop} {Q0:Exit→Act→World→Prop} (hA:ZbI Q0) {fin:List Nat} {i:Nat} {oi:Oper} {v:Value} (hi:ops[i]?=some oi) (hsel:∀ (j:Nat) (o:Oper) cs b,ops[j]?=some o→o.op≠.select cs b) (hif:i∉fin) :
  ∀ (fuel:Nat) (listed:Array Bool) (a:Act) (w:World),Down md ops listed→Ze8 md ops fin listed i=true→
   (∀ j oj,ops[j]?=some oj→j≠i→listed.getD j true=false→(∀ e∈oj.after,Region.binds md e=true→e.on≠i)→oi.apart ops oj=true)→
   i∈Region.ready md ops listed→YG P ops oi v a w→
   VT P md ops Q0 fin Q fuel (listed.setIfInBounds i true) (a.put oi.dst v) w→VT P md ops Q0 fin Q (fuel+1) listed a w:=by
 intro fuel
 induction fuel with
 |zero=>
  intro listed a w _ _ _ hr hy H
  refine ⟨fun h=>(by rw [h] at hr;cases hr),fun j hj=>?_⟩
  by_cases hji:j=i
  ·subst hji;exact hy.wpOp hi ⟨fun _=>YB w,H⟩
  ·have:=ready_mono hj hji
   rw [H.1] at this
   cases this
 |succ fuel ih=>
  intro listed a w hdn hL hfree hr hy H
  refine ⟨fun h=>(by rw [h] at hr;cases hr),fun j hj=>?_⟩
  by_cases hji:j=i
  ·subst hji;exact hy.wpOp hi ⟨fun _=>YB w,H⟩
  ·have hjf:j∉fin:=fun e=>ZlS hdn hL e hj hr
   have h1:=H.2 j (ready_mono hj hji)
   obtain ⟨hjun,oj,hoj,hall⟩:=mem_ready.1 hj
   have hnot:∀ e∈oj.after,Region.binds md e=true→e.on≠i:=fun e he hb heq=>by
    have h1:=hall e he hb
    have h0:=(mem_ready.1 hr).1
    rw [heq] at h1
    rcases Nat.lt_or_ge i listed.size with h'|h'
    ·simp [h'] at h0 h1;rw [h0] at h1;cases h1
    ·simp [Array.getElem?_eq_none h'] at h1
   have h2:=Zh4 (Q0:=Q0) hoj (hfree j oj hoj hji hjun hnot) (fun cs b=>hsel i oi cs b hi) (fun cs b=>hsel j oj cs b hoj) hA hy h1
   have hfree':∀ k ok,ops[k]?=some ok→k≠i→(listed.setIfInBounds j true).getD k true=false→
     (∀ e∈ok.after,Region.binds md e=true→e.on≠i)→oi.apart ops ok=true:=fun k ok hk hki hun hno=>by
    refine hfree k ok hk hki ?_ hno
    by_cases hjk:j=k
    ·subst hjk;exact hjun
    ·rw [getD_set_ne true hjk] at hun;exact hun
   refine wpOp_mono (fun a' w' h3=>?_) h2
   obtain ⟨hy',hg,h4⟩:=h3
   refine ⟨hg,ih (listed.setIfInBounds j true) a' w' (hdn.set hj) (ZiQ hL) hfree' (ready_mono hr (Ne.symm hji)) (hy' (hg hjf)) ?_⟩
   rw [Array.setIfInBounds_comm _ _ hji]
   exact h4
def YS (P:Program) (ops:Array Oper) (o:Oper) (v:Value) (a:Act):Prop:=
 (Region.wanted o (yielded ops a.tmps)=true∧∀ w',(execOp a.eval o).run P w'=.ok (.value v) w')∨(Region.wanted o (yielded ops a.tmps)=false∧v=undef)
theorem YS.of_same {o:Oper} {v:Value} {a a':Act} (hy:YS P ops o v a) (he:execOp a'.eval o=execOp a.eval o) (hw:Region.wanted o (yielded ops a'.tmps)=Region.wanted o (yielded ops a.tmps)):YS P ops o v a':=by
 unfold YS at *
 rw [he,hw];exact hy
theorem YS.wpOp {i:Nat} {o:Oper} {v:Value} {a:Act} {w:World} {Q:Exit→Act→World→Prop} (hi:ops[i]?=some o) (hy:YS P ops o v a) {K:Act→World→Prop} (h:K (a.put o.dst v) w):wpOp P ops Q i K a w:=by
 unfold Go.wpOp
 simp only [hi]
 rcases hy with ⟨hw,hv⟩|⟨hw,rfl⟩
 ·simp only [hw,if_true,Oper.wp,hv w,Oper.upon];exact .inl h
 ·simp only [hw,Bool.false_eq_true,if_false];exact h
theorem Zh3 {j:Nat} {oi oj:Oper} {v:Value} (hj:ops[j]?=some oj) (hap:oi.apart ops oj=true) (hsi:∀ cs b,oi.op≠.select cs b) (hsj:∀ cs b,oj.op≠.select cs b) {K:Act→World→Prop} {a:Act} {w:World}
  {Q0:Exit→Act→World→Prop} (hA:ZbI Q0) (hy:YS P ops oi v a) (h:wpOp P ops Q0 j K (a.put oi.dst v) w):wpOp P ops Q0 j (fun a' w'=>YS P ops oi v a'∧K (a'.put oi.dst v) w') a w:=by
 obtain ⟨h1,h2,h3⟩:=Oper.apart_spec hap
 have keep:∀ (a:Act),YS P ops oi v a→∀ u,YS P ops oi v (a.put oj.dst u):=fun a hy u=>hy.of_same (execOp_put oi hsi a oj.dst u h3) (wanted_put oi a oj.dst u h3)
 have keepD:∀ d,YS P ops oi v { a with defers:=d::a.defers }:=fun d=>hy.of_same rfl rfl
 unfold wpOp at *
 simp only [hj] at *
 rw [wanted_put oj a oi.dst v h1] at h
 split
 ·rename_i hw
  simp only [hw,if_true] at h
  rcases h with h|⟨hasks,hlets⟩
  case inr=>exact .inr ⟨by unfold Oper.asks at *;rw [execOp_put oj hsj a oi.dst v h1] at hasks;exact hasks,hlets⟩
  refine .inl ?_
  unfold Oper.wp at *
  rw [execOp_put oj hsj a oi.dst v h1] at h
  generalize (execOp a.eval oj).run P w=r at *
  cases r with
  |ok n w'=>
   cases n<;>simp only [Oper.upon] at h ⊢
   case value u=>exact ⟨keep a hy u,by rw [←Act.put_comm a v u h2];exact h⟩
   case skip=>exact ⟨keep a hy _,by rw [←Act.put_comm a v undef h2];exact h⟩
   case defer d=>
    refine ⟨keep _ (keepD d) _,?_⟩
    rw [←Act.put_comm _ v undef h2,←Act.put_defers]
    exact h
   case enter f args=>
    refine Calls.mono h fun e w'' he=>?_
    cases e with
    |returned u=>exact ⟨keep a hy u,by rw [←Act.put_comm a v u h2];exact he⟩
    |panicked c=>exact hA _ _ _ _ _ he
    |outgrown=>exact he
   case row row args=>exact Rows.mono h fun u w'' he=>⟨keep a hy u,by rw [←Act.put_comm a v u h2];exact he⟩
  |halt x w'=>
   cases x<;>simp only [Oper.upon] at h ⊢
   case panic u=>exact hA _ _ _ _ _ h
 ·rename_i hw
  simp only [hw] at h
  exact ⟨keep a hy _,by rw [←Act.put_comm a v undef h2];exact h⟩
theorem KC {Q:Act→World→Prop} {Q0:Exit→Act→World→Prop} (hA:ZbI Q0) {fin:List Nat} {i:Nat} {oi:Oper} {v:Value} (hi:ops[i]?=some oi) (hsel:∀ (j:Nat) (o:Oper) cs b,ops[j]?=some o→o.op≠.select cs b) (hif:i∉fin) :
  ∀ (fuel:Nat) (listed:Array Bool) (a:Act) (w:World),Down md ops listed→
   (∀ j oj,ops[j]?=some oj→j≠i→listed.getD j true=false→(∀ e∈oj.after,Region.binds md e=true→e.on≠i)→oi.apart ops oj=true)→
   i∈Region.ready md ops listed→YS P ops oi v a→
   VT P md ops Q0 fin Q fuel (listed.setIfInBounds i true) (a.put oi.dst v) w→VT P md ops Q0 fin Q (fuel+1) listed a w:=by
 intro fuel
 induction fuel with
 |zero=>
  intro listed a w _ _ hr hy H
  refine ⟨fun h=>(by rw [h] at hr;cases hr),fun j hj=>?_⟩
  by_cases hji:j=i
  ·subst hji;exact hy.wpOp hi ⟨fun _=>YB w,H⟩
  ·have:=ready_mono hj hji
   rw [H.1] at this
   cases this
 |succ fuel ih=>
  intro listed a w hdn hfree hr hy H
  refine ⟨fun h=>(by rw [h] at hr;cases hr),fun j hj=>?_⟩
  by_cases hji:j=i
  ·subst hji;exact hy.wpOp hi ⟨fun _=>YB w,H⟩
  ·have h1:=H.2 j (ready_mono hj hji)
   obtain ⟨hjun,oj,hoj,hall⟩:=mem_ready.1 hj
   have hnot:∀ e∈oj.after,Region.binds md e=true→e.on≠i:=fun e he hb heq=>by
    have h1:=hall e he hb
    have h0:=(mem_ready.1 hr).1
    rw [heq] at h1
    rcases Nat.lt_or_ge i listed.size with h'|h'
    ·simp [h'] at h0 h1;rw [h0] at h1;cases h1
    ·simp [Array.getElem?_eq_none h'] at h1
   have h2:=Zh3 (Q0:=Q0) hoj (hfree j oj hoj hji hjun hnot) (fun cs b=>hsel i oi cs b hi) (fun cs b=>hsel j oj cs b hoj) hA hy h1
   have hfree':∀ k ok,ops[k]?=some ok→k≠i→(listed.setIfInBounds j true).getD k true=false→
     (∀ e∈ok.after,Region.binds md e=true→e.on≠i)→oi.apart ops ok=true:=fun k ok hk hki hun hno=>by
    refine hfree k ok hk hki ?_ hno
    by_cases hjk:j=k
    ·subst hjk;exact hjun
    ·rw [getD_set_ne true hjk] at hun;exact hun
   refine wpOp_mono (fun a' w' h3=>?_) h2
   obtain ⟨hy',hg,h4⟩:=h3
   refine ⟨hg,ih (listed.setIfInBounds j true) a' w' (hdn.set hj) hfree' (ready_mono hr (Ne.symm hji)) hy' ?_⟩
   rw [Array.setIfInBounds_comm _ _ hji]
   exact h4
theorem KR {Q:Act→World→Prop} {Q' Q0:Exit→Act→World→Prop} {fin:List Nat} (hQ:∀ a w,Q a w→Q' .normal a w) (hQ0:∀ e a w,Q0 e a w→Q' e a w):∀ (fuel:Nat) (listed:Array Bool) (a:Act) (w:World),VT P md ops Q0 fin Q fuel listed a w→wpAny P md ops Q' fuel listed a w
 |0,_,a,w,h=>⟨h.1,hQ _ _ h.2⟩
 |fuel+1,listed,a,w,h=>⟨fun h0=>hQ _ _ (h.1 h0),fun i hi=>by
  have h1:=h.2 i hi
  have toQ:∀ {K K':Act→World→Prop},(∀ a w,K a w→K' a w)→wpOp P ops Q0 i K a w→wpOp P ops Q' i K' a w:=by
   intro K K' hK hh
   unfold wpOp at *
   split
   ·exact hK _ _ (by simpa [*] using hh)
   ·rename_i o ho
    simp only [ho] at hh
    split
    ·rename_i hw
     simp only [hw,if_true] at hh
     rcases hh with hh|⟨_,a1,w1,hh⟩
     ·refine .inl ?_
      unfold Oper.wp at *
      generalize (execOp a.eval o).run P w=r at *
      cases r with
      |ok nx w'=>
       cases nx<;>simp only [Oper.upon] at hh ⊢<;>first
        |exact hK _ _ hh
        |exact Calls.mono hh (fun e w'' he=>by cases e<;>first|exact hK _ _ he|exact hQ0 _ _ _ he|exact he.elim fun a0 he=>he.elim fun w0 he=>⟨a0,w0,hQ0 _ _ _ he⟩)
        |exact Rows.mono hh (fun _ _ he=>hK _ _ he)
      |halt x w'=>cases x<;>simp only [Oper.upon] at hh ⊢<;>first|exact hQ0 _ _ _ hh|exact False.elim hh
     ·rename_i h0;exact .inr ⟨h0,a1,w1,hQ0 _ _ _ hh⟩
    ·rename_i hw;simp only [hw] at hh;exact hK _ _ hh
  exact toQ (fun a' w' h2=>KR hQ hQ0 fuel _ a' w' h2.2) h1⟩
end
def JD (P:Program):Op→Bool
 | .move _ | .assign _ | .pick _ _ _ | .extract _ _ | .nilCheck _ | .fieldAddr _ _ _ | .makeFunc _ _ _=>true
 | .binOp b _ _ _ _=>match b with
  | .eql | .neq=>false
  | _=>true
 | .unOp _ _ _=>true
 | .convert t1 t2 _=>match P.underlying t1,P.underlying t2 with
  |some (.int _),some (.int _)=>true
  | _,_=>false
 | _=>false
inductive Plan where
 |done
 |q (i:Nat) (p:Plan)
 |or (i:Nat) (p r:Plan)
 |nil
def Yy (P:Program) (md:Region.Mode) (ops:Array Oper) (fin:List Nat):Plan→Nat→Array Bool→Option (List Nat)→Bool
 | .done,_,listed,none=>(Region.ready md ops listed).isEmpty
 | .q i p,fuel+1,listed,none=>(Region.ready md ops listed).contains i&&Region.free md ops listed i&&(match ops[i]? with|some o=>X2 P o.op|none=>false)&&!fin.contains i&&(Ze8 md ops fin listed i||(match ops[i]? with|some o=>JD P o.op|none=>false))&&Yy P md ops fin p fuel (listed.setIfInBounds i true) none
 | .or i p r,fuel+1,listed,none=>match Region.ready md ops listed with
  |j::js=>i==j&&Yy P md ops fin p fuel (listed.setIfInBounds i true) none&&Yy P md ops fin r (fuel+1) listed (some js)
  |[]=>false
 | .or i p r,fuel+1,listed,some (j::js)=>i==j&&Yy P md ops fin p fuel (listed.setIfInBounds i true) none&&Yy P md ops fin r (fuel+1) listed (some js)
 | .nil,_,_,some []=>true
 | _,_,_,_=>false
def Zlk (P:Program) (n:Nat) (base:Fr) (w0 w:World) (a:Act) (res:Result Next) (k:AV→VS→Prop):Prop:=
 ∃ v w',(res=.ok (.value v) w'∨(res=.ok .skip w'∧v=undef))∧w.grownBy w' none∧∃ hd' s' av,RelH n base w0 hd' s' a w'∧Rep w' (Zw s'.mem hd') hd' s'.mem.length av v∧k av s'
section
variable {P:Program} {n:Nat} {base:Fr} {w0 w:World} {hd:Nat→Value} {s:VS} {a:Act} {k:AV→VS→Prop}
theorem Zb0 (h:RelH n base w0 hd s a w) {t:TypeId} {o:Oper} (ho:o.op=.alloc t) (hv:QO P t s k):Zlk P n base w0 w a ((execOp a.eval o).run P w) k:=by
 unfold QO at hv
 split at hv
 ·rename_i z sz by_ hinfo
  obtain ⟨h0,hz,h1,hk⟩:=hv
  obtain ⟨ti,hi1,hi2,hi3,hi4⟩:=Xj hinfo
  have hnew:=h.new (T:=t) (sz:=sz) (cnt:=1) (vals:=z.cells.toList) (f:=fun _=>z.cells.toList.map .lit) h0 (by simp [hz]) (by omega) (fun i hi=>⟨by simp [hz],fun j av hj=>by
   have hi0:i=0:=by omega
   subst hi0
   simp only [List.getElem?_map,Option.map_eq_some_iff] at hj
   obtain ⟨u,q1,rfl⟩:=hj
   exact ⟨u,by simpa using q1,List.all_eq_true.1 h1 u (List.mem_of_getElem? q1),.lit u⟩⟩)
  refine ⟨.pointer (some ⟨w.heap.size,0,none⟩),_,.inl ?_,World.grownBy_alloc w _ none,_,_,_,hnew,?_,hk⟩
  ·unfold execOp;simp only [ho]
   refine ZM ?_
   have hzv:(zeroValue t).run P w=.ok z w:=by simp [zeroValue,typeInfo,Sem.run_bind,hi1,hi2]
   unfold Instr.alloc
   rw [Sem.run_bind,hzv]
   rw [show z.cells.toList.toArray=z.cells by simp]
   rfl
  ·have:=Rep.ptr (w:=w.alloc (.cells z.cells.toList.toArray t)) (ok:=Zw (s.mem++[some ⟨t,sz,1,fun _=>z.cells.toList.map .lit⟩]) (fun j=>if j=s.mem.length then .slice (some ⟨w.heap.size,0,none⟩) 1 1 else hd j)) (hd:=fun j=>if j=s.mem.length then .slice (some ⟨w.heap.size,0,none⟩) 1 1 else hd j) (m:=(s.mem++[some (⟨t,sz,1,fun _=>z.cells.toList.map .lit⟩:Ob)]).length) s.mem.length sz 0 0 w.heap.size 1 1 (by simp) (by simp)
   simpa using this
 ·exact hv.elim
theorem Zdu (h:RelH n base w0 hd s a w) {t:TypeId} {len:Nat} {parts:Array (Nat×Operand)} {o:Oper} (ho:o.op=.buildSlice t len parts)
  (hv:H8 P t len parts.toList s k):Zlk P n base w0 w a ((execOp a.eval o).run P w) k:=by
 unfold H8 at hv
 split at hv
 ·rename_i e ht
  split at hv
  ·rename_i z sz by_ css hinfo hps
   obtain ⟨hz,hsz,hlen,hbig,hall,hk⟩:=hv
   obtain ⟨ti,hi1,hi2,hi3,hi4⟩:=Xj hinfo
   obtain ⟨vs,g1,g2,g3,g4⟩:=Un h hsz parts.toList 0 css hps hall
   have hvl:vs.length=len:=by rw [g2,hlen]
   have hmk:∀ zero:Array Value,((Array.range (len*sz)).map (zero[·%zero.size]!)).size=len*sz:=by intro zero;simp
   obtain ⟨zero,hzero⟩:∃ zero:Array Value,zero=if len*sz=0 then #[] else z.cells:=⟨_,rfl⟩
   obtain ⟨cells,f1,f2⟩:=Jk sz vs 0 ((Array.range (len*sz)).map (zero[·%zero.size]!)) g3 (by rw [hmk,hvl,Nat.zero_add];exact Nat.le_refl _)
   have hcells:cells.toList=vs.flatMap (fun v=>v.cells.toList):=by
    rw [f2,hvl,Nat.zero_add]
    have:(((Array.range (len*sz)).map (zero[·%zero.size]!)).toList.drop (len*sz))=[]:=by
     rw [List.drop_eq_nil_iff];simp
    rw [this];simp
   have hclen:cells.toList.length=len*sz:=by
    rw [f2,hvl,Nat.zero_add]
    simp
    have:=congrArg List.length f2
    rw [hvl,Nat.zero_add] at this
    simp at this
    clear this
    have key:∀ (l:List Value),(∀ v∈l,v.cells.size=sz)→(l.map (fun v=>v.cells.size)).sum=l.length*sz:=by
     intro l
     induction l with
     |nil=>intro _;simp
     |cons x l ih=>
      intro hh
      simp only [List.map_cons,List.sum_cons,List.length_cons]
      rw [ih (fun v hv=>hh v (by simp [hv])),hh x (by simp),Nat.add_mul];omega
    rw [←hvl]
    have:=key vs g3
    simpa [Function.comp_def] using this
   have hnew:=h.new (T:=e) (sz:=sz) (cnt:=len) (vals:=cells.toList) (f:=fun i=>css.getD i []) hsz hclen (by
    have:len≤len*sz:=Nat.le_mul_of_pos_right _ hsz
    omega) (fun i hi=>by
    have hic:i<css.length:=by omega
    have hiv:i<vs.length:=by omega
    simp only [List.getD_eq_getElem?_getD,List.getElem?_eq_getElem hic,Option.getD_some]
    have hc:=hall _ (List.getElem_mem hic)
    refine ⟨hc.1,fun j av hj=>?_⟩
    have hjl:j<sz:=by
     have:=(List.getElem?_eq_some_iff.1 hj).1
     rw [hc.1] at this;exact this
    obtain ⟨u,r1,r2,r3⟩:=g4 i _ _ (List.getElem?_eq_getElem hic) (List.getElem?_eq_getElem hiv) j av hj
    exact ⟨u,by rw [hcells,Zba vs g3 i j hjl _ (List.getElem?_eq_getElem hiv)];exact r1,r2,r3⟩)
   refine ⟨.slice (some ⟨w.heap.size,0,none⟩) len len,_,.inl ?_,World.grownBy_alloc w _ none,_,_,_,hnew,?_,hk⟩
   ·unfold execOp;simp only [ho]
    refine ZM ?_
    have hp:(parts.map fun x=>(x.1,a.eval x.2)).toList=(vs.zipIdx 0).map (fun x=>(x.2,x.1)):=by rw [Array.toList_map];exact g1
    unfold Instr.buildSlice
    simp only [Sem.run_bind,Ya ht,Result.andThen_ok,XB (show tsz P e=some sz by unfold tsz;rw [Hr,hi1];simp [hi3])]
    rw [if_neg (by omega)]
    rw [show cells.toList.toArray=cells by simp]
    by_cases h0:len*sz=0
    ·rw [if_pos h0] at hzero ⊢
     subst hzero
     simp only [Sem.run_bind,Sem.run_pure,Result.andThen_ok]
     rw [hp,f1]
     rfl
    ·rw [if_neg h0] at hzero ⊢
     subst hzero
     have hzv:(zeroValue e).run P w=.ok z w:=by simp [zeroValue,typeInfo,Sem.run_bind,hi1,hi2]
     simp only [Sem.run_bind,hzv,Sem.run_pure,Result.andThen_ok]
     rw [hp,f1]
     rfl
   ·have:=Rep.own (w:=w.alloc (.cells cells.toList.toArray e)) (ok:=Zw (s.mem++[some ⟨e,sz,len,fun i=>css.getD i []⟩]) (fun j=>if j=s.mem.length then .slice (some ⟨w.heap.size,0,none⟩) len len else hd j)) (hd:=fun j=>if j=s.mem.length then .slice (some ⟨w.heap.size,0,none⟩) len len else hd j) (m:=(s.mem++[some (⟨e,sz,len,fun i=>css.getD i []⟩:Ob)]).length) s.mem.length (by simp)
    simpa using this
  ·exact hv.elim
 ·exact hv.elim
end
def YZ (P:Program) (n:Nat) (o:Oper) (s:VS) (k:VS→Prop):Prop:=
 match WB P s o.op with
 |some (f,xs)=>∃ args',V2 s.mem (xs.map (ev s)) args'∧VFun P f args' (fun av obs=>VY n o.dst (ren (·+s.mem.length) av) { s with mem:=s.mem++obs.map some } k)
 |none=>match o.op with
  | .alloc t=>QO P t s (fun av s'=>VY n o.dst av s' k)
  | .buildSlice t len parts=>H8 P t len parts.toList s (fun av s'=>VY n o.dst av s' k)
  |op=>X2 P op=true∧UU P op s (fun av s'=>VY n o.dst av s' k)
def Jw (P:Program) (n:Nat) (all:List Oper) (o:Oper) (s:VS) (k:VS→Prop):Prop:=
 match o.guard with
 |none=>YZ P n o s k
 |some (g,b)=>match Um all g with
  |some t=>match lk s.tmps t with
   | .lit (.bool c)=>(c=b→YZ P n o { s with tmps:=(t,.lit (.bool b))::s.tmps } k)∧(c=!b→VY n o.dst (.lit undef) { s with tmps:=(t,.lit (.bool (!b)))::s.tmps } k)
   | .lit (.tuple _)=>VY n o.dst (.lit undef) s k
   | _=>False
  |none=>False
def WX (P:Program) (n:Nat) (all:List Oper) (fin:List Nat):Plan→VS→(VS→Prop)→Prop
 | .done,s,k=>k s
 | .nil,_,_=>True
 | .q i p,s,k=>match all[i]? with
  |some o=>V6 P n all [o] s (fun s'=>WX P n all fin p s' k)
  |none=>False
 | .or i p r,s,k=>(match all[i]? with
  |some o=>if i∈fin then V6 P n all [o] s (fun s'=>WX P n all fin p s' k) else Jw P n all o s (fun s'=>WX P n all fin p s' k)
  |none=>False)∧WX P n all fin r s k
section
variable {P:Program} {n:Nat} {base:Fr} {w0 w:World} {hd:Nat→Value} {s:VS} {a:Act}
theorem ZbP {op:Op} (h:X2 P op=true):WB P s op=none:=by
 cases op<;>try rfl
 rename_i c
 simp only [X2] at h
 unfold WB WT UN
 split at h
 ·rename_i h1 _ _
  simp [h1]
 ·rename_i h1 _ _
  simp [h1]
 ·cases h
theorem Ju (h:RelH n base w0 hd s a w) (hP:base.P=P) {o:Oper} {k:VS→Prop} (hv:YZ P n o s k) {K:Act→World→Prop} {Q:Exit→Act→World→Prop} (hK:∀ hd' s' a' w',w.grownBy w' none→RelH n base w0 hd' s' a' w'→k s'→K a' w'):o.wp P a w K Q:=by
 unfold YZ at hv
 split at hv
 ·rename_i f xs hcall
  obtain ⟨args',hargs,hfn,hc⟩:=hv
  have hrun:(execOp a.eval o).run P w=.ok (.enter f (xs.map a.eval).toArray) w:=(He h hcall).trans (UJ hfn _ w)
  obtain ⟨hl,hrep⟩:=Jo h xs args' hargs
  have hcalls:=hc w _ ⟨hl,hP▸h.gw,fun b hb=>by subst hP;exact Nat.le_trans h.gw.1 hb⟩ hrep
  unfold Oper.wp
  rw [hrun]
  simp only [Oper.upon]
  refine hcalls.mono ?_
  rintro e w' ⟨v,rfl,hg,hdc,av,obs,hk,hfl,hlit,hm,hv⟩
  have hlow:∀ k,k<obs.length→(fun k=>if k<obs.length then hdc k else hd (k+s.mem.length)) k=hdc k:=fun k hk=>if_pos hk
  have hR:=h.import hg (hm.retail hlit hlow) hlit ⟨obs.length,fun k hk=>if_neg (by omega)⟩
  obtain ⟨s'',h4,h5⟩:=YP hR (hv.ren_ hfl fun q _ hq=>⟨by simp;omega,by rw [if_neg (by omega),Nat.add_sub_cancel];exact hlow q hq⟩) hk
  exact hK _ s'' _ _ hg h4 h5
 ·have fin:∀ {k':AV→VS→Prop},(k'=fun av s'=>VY n o.dst av s' k)→Zlk P n base w0 w a ((execOp a.eval o).run P w) k'→o.wp P a w K Q:=by
   rintro _ rfl ⟨v,w',hr,hg,hd',s',av,h1,h2,h3⟩
   obtain ⟨s'',h4,h5⟩:=YP h1 h2 h3
   unfold Oper.wp
   rcases hr with hr|⟨hr,rfl⟩
   ·rw [hr];exact hK _ s'' _ _ hg h4 h5
   ·rw [hr];exact hK _ s'' _ _ hg h4 h5
  split at hv
  ·rename_i t hop;exact fin rfl (Zb0 h hop hv)
  ·rename_i t len parts hop;exact fin rfl (Zdu h hop hv)
  ·obtain ⟨v,av,h1,h2,h3⟩:=H5 h hP o hv.1 hv.2
   exact fin rfl ⟨v,w,.inl (h1 w (YB w)),YB w,hd,s,av,h,h2,h3⟩
theorem H6 {Q0:Exit→Act→World→Prop} (h:RelH n base w0 hd s a w) (hP:base.P=P) {all:List Oper} {i:Nat} {o:Oper} (hi:all.toArray[i]?=some o) {k:VS→Prop} (hv:Jw P n all o s k) {K:Act→World→Prop} (hK:∀ hd' s' a' w',w.grownBy w' none→RelH n base w0 hd' s' a' w'→k s'→K a' w') :
  wpOp P all.toArray Q0 i K a w:=by
 unfold wpOp
 simp only [hi]
 unfold Jw at hv
 split at hv
 ·rename_i hg
  rw [if_pos (by simp [Region.wanted,hg])]
  exact .inl (Ju h hP hv hK)
 ·rename_i g b hg
  split at hv
  ·rename_i t hs
   split at hv
   ·rename_i c hl
    have hy:=Jr h hs hl
    by_cases hcb:c=b
    ·have hR:=h.again (t:=t) (av:=.lit (.bool b)) (by rw [hl,hcb])
     rw [if_pos (by simp [Region.wanted,hg,hy,hcb])]
     exact .inl (Ju hR hP (hv.1 hcb) hK)
    ·have hcb':c=!b:=by cases c<;>cases b<;>simp_all
     have hR:=h.again (t:=t) (av:=.lit (.bool (!b))) (by rw [hl,hcb'])
     rw [if_neg (by simp [Region.wanted,hg,hy,hcb])]
     obtain ⟨s',h1,h2⟩:=YP hR (.lit undef) (hv.2 hcb')
     exact hK _ _ _ _ (YB w) h1 h2
   ·rename_i q hl
    have hy:=Js h hs hl b
    rw [if_neg (by simp [Region.wanted,hg,hy])]
    obtain ⟨s',h1,h2⟩:=YP h (.lit undef) hv
    exact hK _ _ _ _ (YB w) h1 h2
   ·exact hv.elim
  ·exact hv.elim
theorem ZfY {Q0:Exit→Act→World→Prop} (h:RelH n base w0 hd s a w) (hP:base.P=P) {all:List Oper} {i:Nat} {o:Oper} (hi:all.toArray[i]?=some o) {k:VS→Prop} (hv:V6 P n all [o] s k) {K:Act→World→Prop} (hK:∀ hd' s' a' w',RelH n base w0 hd' s' a' w'→k s'→K a' w') :
  wpOp P all.toArray Q0 i K a w:=by
 have:=Vj (Q:=fun e a w=>match e with | .normal=>K a w|e=>Q0 e a w) hP (all:=all) [o] h hv (fun hd' s' a' w' h1 h2=>hK hd' s' a' w' h1 h2)
 unfold wpList at this
 unfold wpOp
 simp only [hi]
 split at this
 ·rename_i hw
  rw [if_pos hw]
  rcases this with this|⟨h0,a1,w1,this⟩
  ·refine .inl ?_
   unfold Oper.wp at *
   generalize (execOp a.eval o).run P w=r at *
   cases r with
   |ok nx w'=>
    cases nx<;>simp only [Oper.upon] at this ⊢<;>first
     |exact this
     |exact Calls.mono this (fun e w'' he=>by cases e<;>first|exact he|exact False.elim he|(obtain ⟨_,_,he⟩:=he;exact False.elim he))
     |exact Rows.mono this (fun _ _ he=>he)
   |halt x w'=>cases x<;>simp only [Oper.upon] at this ⊢<;>exact this
  ·exact .inr ⟨h0,a1,w1,this⟩
 ·rename_i hw
  rw [if_neg hw];exact this
theorem Zd4 (h:RelH n base w0 hd s a w) (hP:base.P=P) {all:List Oper} {o:Oper} (hq:X2 P o.op=true) {k:VS→Prop} (hv:V6 P n all [o] s k):∃ v,YG P all.toArray o v a w∧∃ s',RelH n base w0 hd s' (a.put o.dst v) w∧k s':=by
 have step:∀ {s:VS},RelH n base w0 hd s a w→ZR P n o s k→∃ v,(∀ w',w.grownBy w' none→(execOp a.eval o).run P w'=.ok (.value v) w')∧∃ s',RelH n base w0 hd s' (a.put o.dst v) w∧k s':=by
  intro s h hv
  unfold ZR at hv
  rw [ZbP hq] at hv
  obtain ⟨v,av,h1,h2,h3⟩:=H5 h hP o hq hv
  obtain ⟨s',h4,h5⟩:=YP h h2 h3
  exact ⟨v,h1,s',h4,h5⟩
 simp only [V6] at hv
 split at hv
 ·rename_i hg
  obtain ⟨v,h1,h2⟩:=step h hv
  exact ⟨v,.inl ⟨by simp [Region.wanted,hg],h1⟩,h2⟩
 ·rename_i g b hg
  split at hv
  ·rename_i t hs
   split at hv
   ·rename_i c hl
    have hy:=Jr h hs hl
    by_cases hcb:c=b
    ·have hR:=h.again (t:=t) (av:=.lit (.bool b)) (by rw [hl,hcb])
     obtain ⟨v,h1,h2⟩:=step hR (hv.1 hcb)
     exact ⟨v,.inl ⟨by simp [Region.wanted,hg,hy,hcb],h1⟩,h2⟩
    ·have hcb':c=!b:=by cases c<;>cases b<;>simp_all
     have hR:=h.again (t:=t) (av:=.lit (.bool (!b))) (by rw [hl,hcb'])
     obtain ⟨s',h1,h2⟩:=YP hR (.lit undef) (hv.2 hcb')
     exact ⟨undef,.inr ⟨by simp [Region.wanted,hg,hy,hcb],rfl⟩,s',h1,h2⟩
   ·rename_i q hl
    have hy:=Js h hs hl b
    obtain ⟨s',h1,h2⟩:=YP h (.lit undef) hv
    exact ⟨undef,.inr ⟨by simp [Region.wanted,hg,hy],rfl⟩,s',h1,h2⟩
   ·exact hv.elim
  ·exact hv.elim
theorem Zep {op:Op} (h:JD P op=true):WB P s op=none:=by cases op<;>first|rfl|(simp [JD] at h;done)
def SEnds (P:Program) (w:World) (hd:Nat→Value) (s:VS) (a:Act) (o:Oper) (k:AV→VS→Prop):Prop:=
 ∃ v av,(∀ w',(execOp a.eval o).run P w'=.ok (.value v) w')∧Rep w (Zw s.mem hd) hd s.mem.length av v∧k av s
theorem SEnds.same {k:AV→VS→Prop} {o:Oper} {v:Value} {av:AV} (hv:Rep w (Zw s.mem hd) hd s.mem.length av v) (hk:k av s) (hr:∀ w',(execOp a.eval o).run P w'=.ok (.value v) w'):SEnds P w hd s a o k:=⟨v,av,hr,hv,hk⟩
theorem J4 {k:AV→VS→Prop} (h:RelH n base w0 hd s a w) {T:TypeId} {x:Operand} {f:Nat} {o:Oper} (ho:o.op=.fieldAddr T x f) (hv:vop P (.fieldAddr T x f) s k):SEnds P w hd s a o k:=by
 simp only [vop] at hv
 split at hv
 ·rename_i ft off hf
  obtain ⟨⟨m,hm,hm0⟩,hv⟩:=hv
  have hx:=h.ev_ x
  split at hv
  ·rename_i j sz i c e
   rw [e] at hx
   cases hx':a.eval x with
   |pointer ad=>
    rw [hx'] at hx
    cases hx with
    |ptr _ _ _ _ b n' c' hk hb=>
     refine SEnds.same (.ptr j sz i (c+off) b n' c' hk hb) hv ?_
     intro w';unfold execOp;simp only [ho,hx']
     refine ZM ((W4 hf hm hm0 _ _).trans ?_)
     congr 3
     unfold Addr.add;split
     ·rename_i h0;subst h0;simp
     ·simp [Nat.add_assoc]
   | _=>rw [hx'] at hx;cases hx
  ·rename_i cs e
   rw [e] at hx
   cases hx':a.eval x with
   |pointer ad=>
    rw [hx'] at hx
    cases hx with
    |bptr _ ad u hne hok hc hr=>
     have add2:∀ j,(ad.add off).add j=ad.add (off+j):=by
      intro j
      unfold Addr.add
      by_cases h1:off=0<;>by_cases h2:j=0<;>simp [h1,h2];omega
     have hblk:(ad.add off).block=ad.block:=by unfold Addr.add;split<;>rfl
     refine SEnds.same (.bptr (cs.drop off) (ad.add off) (fun j=>u (off+j)) (by intro e2;rw [List.drop_eq_nil_iff] at e2;omega) (by rw [hblk];exact hok) (fun j hj=>by rw [add2];exact hc _ (by simp at hj;omega)) (fun j av hj=>hr _ av (by rw [List.getElem?_drop] at hj;exact hj))) hv.2 ?_
     intro w';unfold execOp;simp only [ho,hx']
     exact ZM (W4 hf hm hm0 _ _)
   | _=>rw [hx'] at hx;cases hx
  ·exact hv.elim
 ·exact hv.elim
theorem Zeo {k:AV→VS→Prop} (h:RelH n base w0 hd s a w) (o:Oper) (hq:JD P o.op=true) (hv:UU P o.op s k):∃ v av,(∀ w',(execOp a.eval o).run P w'=.ok (.value v) w')∧Rep w (Zw s.mem hd) hd s.mem.length av v∧k av s:=by
 obtain ⟨d,op,ty,pos,af,g⟩:=o
 cases op with
 |move x=>exact ⟨a.eval x,ev s x,fun _=>rfl,h.ev_ x,hv⟩
 |assign x=>exact ⟨a.eval x,ev s x,fun _=>rfl,h.ev_ x,hv⟩
 |pick c x y=>
  change vop P (.pick c x y) s k at hv
  simp only [vop] at hv
  split at hv
  ·rename_i t e
   have hc:=(h.ev_ c).val_ (X9 e)
   cases t with
   |true=>exact ⟨a.eval x,ev s x,fun _=>by simp [execOp,hc,asBool,Sem.run_bind],h.ev_ x,hv.1 rfl⟩
   |false=>exact ⟨a.eval y,ev s y,fun _=>by simp [execOp,hc,asBool,Sem.run_bind],h.ev_ y,hv.2 rfl⟩
  ·exact hv.elim
 |extract x i=>
  change vop P (.extract x i) s k at hv
  simp only [vop] at hv
  split at hv
  ·rename_i vs e
   obtain ⟨hlt,hk⟩:=hv
   have hx:=h.ev_ x
   rw [e] at hx
   cases hx':a.eval x with
   |tuple arr=>
    rw [hx'] at hx
    cases hx with
    |tup _ us hl hr=>
     refine ⟨us[i]'(by omega),vs.getD i .undef,fun w'=>?_,?_,hk⟩
     ·unfold execOp;simp only [hx']
      refine ZM ?_
      unfold Instr.extract
      simp [show i<us.length by omega]
     ·rw [List.getD_eq_getElem?_getD,List.getElem?_eq_getElem hlt]
      exact hr i _ _ (List.getElem?_eq_getElem hlt) (List.getElem?_eq_getElem (by omega))
   | _=>rw [hx'] at hx;cases hx
  ·exact hv.elim
 |binOp b T x y T2=>
  simp only [UU] at hv
  split at hv
  ·rename_i k0 sz i j ex
   exfalso
   cases b<;>first|(simp [JD] at hq;done)|(unfold Zjv at hv;split at hv<;>first|exact hv.2.elim|exact hv.2.2.2.elim|exact hv.elim)
  ·rename_i sz m f ex
   exfalso
   cases b<;>first|(simp [JD] at hq;done)|(unfold Zae at hv;split at hv<;>first|exact (hv.2 false (fun _=>rfl)).elim|exact hv.elim)
  ·change vop P (.binOp b T x y T2) s k at hv
   simp only [vop] at hv
   split at hv
   ·rename_i vx vy hx hy
    obtain ⟨v,hrun,hk⟩:=hv
    refine ⟨v,.lit v,fun w'=>?_,.lit v,hk⟩
    unfold execOp
    simp only [(h.ev_ x).val_ hx,(h.ev_ y).val_ hy]
    exact ZM (hrun w')
   ·exact hv.elim
 |makeFunc fn first caps=>exact QY (o:=⟨d,.makeFunc fn first caps,ty,pos,af,g⟩) h rfl hv
 |fieldAddr T x f=>exact J4 (o:=⟨d,.fieldAddr T x f,ty,pos,af,g⟩) h rfl hv
 |nilCheck x=>
  change vop P (.nilCheck x) s k at hv
  simp only [vop] at hv
  have hx:=h.ev_ x
  split at hv
  ·rename_i e
   have hx0:=hx
   rw [e] at hx
   cases hx':a.eval x with
   |pointer ad=>
    rw [hx'] at hx
    cases hx with
    |ptr=>exact SEnds.same hx0 (by rw [e] at hv ⊢;exact hv) (fun w'=>by unfold execOp;simp only [hx'];rfl)
   | _=>rw [hx'] at hx;cases hx
  ·rename_i e
   have hx0:=hx
   rw [e] at hx
   cases hx':a.eval x with
   |pointer ad=>
    rw [hx'] at hx
    cases hx with
    |bptr=>exact SEnds.same hx0 (by rw [e] at hv ⊢;exact hv) (fun w'=>by unfold execOp;simp only [hx'];rfl)
   | _=>rw [hx'] at hx;cases hx
  ·exact hv.elim
 |unOp b T x=>
  change vop P (.unOp b T x) s k at hv
  simp only [vop] at hv
  split at hv
  ·rename_i vx hx
   obtain ⟨v,hrun,hk⟩:=hv
   refine ⟨v,.lit v,fun w'=>?_,.lit v,hk⟩
   unfold execOp
   simp only [(h.ev_ x).val_ hx]
   exact ZM (hrun w')
  ·exact hv.elim
 |convert t1 t2 x=>
  simp only [JD] at hq
  split at hq
  ·rename_i k1 k2 h1 h2
   simp only [UU] at hv
   split at hv
   ·simp only [KV,h1,h2] at hv
    split at hv
    ·exact hv.2.2.2.2.elim
    ·exact hv.elim
   ·have e:QL P (.convert t1 t2 x) s k=vop P (.convert t1 t2 x) s k:=by
     simp only [QL,h1,h2]
     rfl
    rw [e] at hv
    simp only [vop] at hv
    split at hv
    ·rename_i vx hx
     obtain ⟨v,hrun,hk⟩:=hv
     refine ⟨v,.lit v,fun w'=>?_,.lit v,hk⟩
     unfold execOp
     simp only [(h.ev_ x).val_ hx]
     exact ZM (hrun w')
    ·exact hv.elim
  ·cases hq
 | _=>simp [JD] at hq
theorem Zd3 (h:RelH n base w0 hd s a w) {all:List Oper} {o:Oper} (hq:JD P o.op=true) {k:VS→Prop} (hv:V6 P n all [o] s k):∃ v,YS P all.toArray o v a∧∃ s',RelH n base w0 hd s' (a.put o.dst v) w∧k s':=by
 have step:∀ {s:VS},RelH n base w0 hd s a w→ZR P n o s k→∃ v,(∀ w',(execOp a.eval o).run P w'=.ok (.value v) w')∧∃ s',RelH n base w0 hd s' (a.put o.dst v) w∧k s':=by
  intro s h hv
  unfold ZR at hv
  rw [Zep hq] at hv
  obtain ⟨v,av,h1,h2,h3⟩:=Zeo h o hq hv
  obtain ⟨s',h4,h5⟩:=YP h h2 h3
  exact ⟨v,h1,s',h4,h5⟩
 simp only [V6] at hv
 split at hv
 ·rename_i hg
  obtain ⟨v,h1,h2⟩:=step h hv
  exact ⟨v,.inl ⟨by simp [Region.wanted,hg],h1⟩,h2⟩
 ·rename_i g b hg
  split at hv
  ·rename_i t hs
   split at hv
   ·rename_i c hl
    have hy:=Jr h hs hl
    by_cases hcb:c=b
    ·have hR:=h.again (t:=t) (av:=.lit (.bool b)) (by rw [hl,hcb])
     obtain ⟨v,h1,h2⟩:=step hR (hv.1 hcb)
     exact ⟨v,.inl ⟨by simp [Region.wanted,hg,hy,hcb],h1⟩,h2⟩
    ·have hcb':c=!b:=by cases c<;>cases b<;>simp_all
     have hR:=h.again (t:=t) (av:=.lit (.bool (!b))) (by rw [hl,hcb'])
     obtain ⟨s',h1,h2⟩:=YP hR (.lit undef) (hv.2 hcb')
     exact ⟨undef,.inr ⟨by simp [Region.wanted,hg,hy,hcb],rfl⟩,s',h1,h2⟩
   ·rename_i q hl
    have hy:=Js h hs hl b
    obtain ⟨s',h1,h2⟩:=YP h (.lit undef) hv
    exact ⟨undef,.inr ⟨by simp [Region.wanted,hg,hy],rfl⟩,s',h1,h2⟩
   ·exact hv.elim
  ·exact hv.elim
theorem Zd5 {Q0:Exit→Act→World→Prop} (hA:ZbI Q0) (hP:base.P=P) {all:List Oper} {fin:List Nat} {md:Region.Mode} (hsel:Region.noSelect all.toArray=true) {k:VS→Prop} {Q:Act→World→Prop} (hQ:∀ hd' s' a' w',RelH n base w0 hd' s' a' w'→k s'→Q a' w') :
  ∀ (p:Plan) (fuel:Nat) (listed:Array Bool) (m:Option (List Nat)) {hd:Nat→Value} {s:VS} {a:Act} {w:World},RelH n base w0 hd s a w→Down md all.toArray listed→Yy P md all.toArray fin p fuel listed m=true→WX P n all fin p s k→
   match m with
   |none=>VT P md all.toArray Q0 fin Q fuel listed a w
   |some js=>(∀ j,j∈js→j∈Region.ready md all.toArray listed)→∀ fuel',fuel=fuel'+1→∀ j,j∈js→wpOp P all.toArray Q0 j (fun a' w'=>(j∉fin→w.grownBy w' none)∧VT P md all.toArray Q0 fin Q fuel' (listed.setIfInBounds j true) a' w') a w:=by
 intro p
 induction p with
 |done=>
  intro fuel listed m hd s a w h hdn hok hv
  cases m with
  |some js=>cases js<;>simp [Yy] at hok
  |none=>
   have hr:Region.ready md all.toArray listed=[]:=by simpa [Yy] using hok
   cases fuel with
   |zero=>exact ⟨hr,hQ _ _ _ _ h hv⟩
   |succ fuel=>exact ⟨fun _=>hQ _ _ _ _ h hv,fun i hi=>by rw [hr] at hi;cases hi⟩
 |nil=>
  intro fuel listed m hd s a w h hdn hok hv
  cases m with
  |none=>simp [Yy] at hok
  |some js=>cases js with
   |nil=>exact fun _ _ _ j hj=>by cases hj
   |cons j js=>simp [Yy] at hok
 |q i p ih=>
  intro fuel listed m hd s a w h hdn hok hv
  cases m with
  |some js=>cases js<;>cases fuel<;>simp [Yy] at hok
  |none=>
   cases fuel with
   |zero=>simp [Yy] at hok
   |succ fuel=>
    simp only [Yy,Bool.and_eq_true,Bool.not_eq_true',List.contains_eq_mem,decide_eq_false_iff_not] at hok
    obtain ⟨⟨⟨⟨⟨hr,hf⟩,hq⟩,hif⟩,hL⟩,hok⟩:=hok
    have hr':i∈Region.ready md all.toArray listed:=by simpa using hr
    obtain ⟨_,o,ho,_⟩:=mem_ready.1 hr'
    rw [ho] at hq
    have ho':all[i]?=some o:=by simpa using ho
    simp only [WX,ho'] at hv
    obtain ⟨v,hy,s',h1,h2⟩:=Zd4 h hP hq hv
    rcases Bool.or_eq_true _ _▸hL with hL|hL
    ·exact Jt hA ho (Region.noSelect_spec hsel) hif fuel listed a w hdn hL (Region.free_spec ho hf) hr' hy (ih fuel _ none h1 (hdn.set hr') hok h2)
    ·rw [ho] at hL
     obtain ⟨v,hy,s',h1,h2⟩:=Zd3 h hL hv
     exact KC hA ho (Region.noSelect_spec hsel) hif fuel listed a w hdn (Region.free_spec ho hf) hr' hy (ih fuel _ none h1 (hdn.set hr') hok h2)
 |or i p r ihp ihr=>
  intro fuel listed m hd s a w h hdn hok hv
  have one:∀ fuel' (hr:i∈Region.ready md all.toArray listed) (hok:Yy P md all.toArray fin p fuel' (listed.setIfInBounds i true) none=true),wpOp P all.toArray Q0 i (fun a' w'=>(i∉fin→w.grownBy w' none)∧VT P md all.toArray Q0 fin Q fuel' (listed.setIfInBounds i true) a' w') a w:=by
   intro fuel' hr hok
   obtain ⟨_,o,ho,_⟩:=mem_ready.1 hr
   have ho':all[i]?=some o:=by simpa using ho
   have hv1:=hv.1
   simp only [ho'] at hv1
   split at hv1
   ·rename_i e
    exact ZfY h hP ho hv1 fun hd' s' a' w' h1 h2=>⟨fun hn=>absurd e hn,ihp fuel' _ none h1 (hdn.set hr) hok h2⟩
   ·exact H6 h hP ho hv1 fun hd' s' a' w' hg h1 h2=>⟨fun _=>hg,ihp fuel' _ none h1 (hdn.set hr) hok h2⟩
  cases fuel with
  |zero=>cases m with
   |none=>simp [Yy] at hok
   |some js=>cases js<;>simp [Yy] at hok
  |succ fuel=>
   cases m with
   |none=>
    simp only [Yy] at hok
    split at hok
    ·rename_i j js hrd
     simp only [Bool.and_eq_true,beq_iff_eq] at hok
     obtain ⟨⟨rfl,hok1⟩,hok2⟩:=hok
     refine ⟨fun e=>(by rw [hrd] at e;cases e),fun j hj=>?_⟩
     have hrest:=ihr (fuel+1) listed (some js) h hdn hok2 hv.2 (fun j hj=>by rw [hrd];simp [hj]) fuel rfl
     rw [hrd] at hj
     rcases List.mem_cons.1 hj with rfl|hj
     ·exact one fuel (by rw [hrd];simp) hok1
     ·exact hrest j hj
    ·cases hok
   |some js=>
    cases js with
    |nil=>simp [Yy] at hok
    |cons j js=>
     simp only [Yy,Bool.and_eq_true,beq_iff_eq] at hok
     obtain ⟨⟨rfl,hok1⟩,hok2⟩:=hok
     intro hall fuel' hfu j hj
     cases hfu
     rcases List.mem_cons.1 hj with rfl|hj
     ·exact one fuel (hall _ (by simp)) hok1
     ·exact ihr (fuel+1) listed (some js) h hdn hok2 hv.2 (fun j hj=>hall j (by simp [hj])) fuel rfl j hj
def W9 (P:Program) (ops:Array Oper) (fin:List Nat) (p:Plan):Bool:=P.follows .mixedOrders&&Region.noSelect ops&&Yy P .any ops fin p ops.size (Array.replicate ops.size false) none
theorem KE (h:RelH n base w0 hd s a w) (hP:base.P=P) {id:Nat} {all:List Oper} {fin:List Nat} {p:Plan} (hok:W9 P all.toArray fin p=true) {k:VS→Prop} (hv:WX P n all fin p s k) {Q:Exit→Act→World→Prop} (hQ:∀ hd' s' a' w',RelH n base w0 hd' s' a' w'→k s'→Q .normal a' w') :
  (Code.region id all.toArray true).wp P Q a w:=by
 simp only [W9,Bool.and_eq_true] at hok
 obtain ⟨⟨h1,h3⟩,h4⟩:=hok
 refine wp_region_any h1 (KR (Q:=fun a w=>Q .normal a w) (Q0:=QNo) (fun _ _ h=>h) (fun _ _ _ h=>h.elim) _ _ _ _ (Zd5 (w0:=w0) QNo.free hP h3 hQ p _ _ none (h.grown ⟨rfl,rfl,rfl,Nat.le_refl _,fun _ _ _=>rfl⟩) (fun j oj hj hl=>?_) h4 hv))
 exfalso
 rcases Nat.lt_or_ge j all.toArray.size with h'|h'
 ·simp at hl h';simp [h'] at hl
 ·simp at hl h';simp [Array.getElem?_eq_none,h'] at hl
end
end Go.Proofs.YtadghlfkddkelaaGreatDoor.V
namespace Go.Proofs.YtadghlfkddkelaaGreatDoor.V
open Go.RowKit
section
variable {P:Program} {n:Nat} {base:Fr} {w0 w:World} {hd:Nat→Value} {s:VS} {a:Act} {k:AV→VS→Prop}
def vc (P:Program) (n:Nat):Code→VS→(VX→VS→Prop)→Prop
 | .skip,s,K=>K .normal s
 | .region _ ops false,s,K=>V6 P n ops.toList ops.toList s (K .normal)
 | .region _ ops true,s,K=>∃ fin p,W9 P ops fin p=true∧(WX P n ops.toList fin p s (K .normal)∨∃ S1,WX P n ops.toList fin p s (fun s'=>Ent s' S1)∧K .normal S1)
 | .seq x y,s,K=>vc P n x s (fun e s'=>match e with
  | .normal=>vc P n y s' K
  |e=>K e s')
 | .cond c x y,s,K=>match ev s c with
  | .lit (.bool t)=>(t=true→vc P n x s K)∧(t=false→vc P n y s K)
  | _=>False
 | .block id x,s,K=>vc P n x s (fun e s'=>match e with
  | .exit i=>if i=id then K .normal s' else K (.exit i) s'
  |e=>K e s')
 | .loop x,s,K=>∃ (ι:Type) (I:ι→Prop) (μ:ι→Nat) (S:ι→VS) (F:ι→LeK),(∃ i,I i∧Ent s (S i))∧∀ i,I i→vc P n x (S i) (fun e s'=>match e with
  | .normal=>∃ j,I j∧μ j<μ i∧LeX (F i) s' (S j)
  |e=>K e s')
 | .exit id,s,K=>K (.exit id) s
 | .ret,s,K=>K .ret s
 | .scope x,s,K=>vc P n x s K
 | .label _,s,K=>K .normal s
 | _,_,_=>False
theorem KQ {ι:Type} {c:Code} {Q:Exit→Act→World→Prop} (I:ι→Act→World→Prop) (μ:ι→Nat) (round:∀ i a w,I i a w→c.wp P (Exit.then (fun a' w'=>∃ j,I j a' w'∧μ j<μ i) Q) a w) :
  ∀ {i:ι} {a:Act} {w:World},I i a w→(Code.loop c).wp P Q a w:=by
 intro i a w h₀ b k cs
 have key:∀ m i a w,μ i=m→I i a w→∃ e a' w',Q e a' w'∧Arrives P (lone (b.at a (.code c::.inLoop c::k)) cs w) b k cs e a' w':=by
  intro m
  induction m using Nat.strongRecOn with
  | _ m ih=>
   intro i a w hm hI
   obtain ⟨e,a₁,w₁,hq,harr⟩:=round i a w hI b (.inLoop c::k) cs
   cases e with
   |normal=>
    obtain ⟨j,hI₁,hlt⟩:=hq
    obtain ⟨e₂,a₂,w₂,hq₂,harr₂⟩:=ih (μ j) (hm▸hlt) j a₁ w₁ rfl hI₁
    exact ⟨e₂,a₂,w₂,hq₂,.of_steps (Steps.trans harr (.one step_inLoop)) harr₂⟩
   |exit id=>exact ⟨_,a₁,w₁,hq,.pass (x:=.inLoop c) rfl (fun _ _=>.inl (by simp)) harr⟩
   |goto l=>exact ⟨_,a₁,w₁,hq,.pass (x:=.inLoop c) rfl (fun _ _=>.inl (by simp)) harr⟩
   |ret=>exact ⟨_,a₁,w₁,hq,.pass (x:=.inLoop c) rfl (fun _ _=>.inl (by simp)) harr⟩
   |panic ch=>exact ⟨_,a₁,w₁,hq,.pass (x:=.inLoop c) rfl (fun _ _=>.inl (by simp)) harr⟩
   |outgrown=>exact ⟨_,a₁,w₁,hq,.pass (x:=.inLoop c) rfl (fun _ _=>.inl (by simp)) harr⟩
 obtain ⟨e,a',w',hq,harr⟩:=key _ i a w rfl h₀
 exact ⟨e,a',w',hq,.of_steps (.one step_loop) harr⟩
theorem X6 (hP:base.P=P):∀ (c:Code) {hd:Nat→Value} {s:VS} {a:Act} {w:World} {K:VX→VS→Prop} {Q:Exit→Act→World→Prop},RelH n base w0 hd s a w→vc P n c s K→
  (∀ x hd' s' a' w',RelH n base w0 hd' s' a' w'→K x s'→Q x.out a' w')→c.wp P Q a w:=by
 intro c
 induction c with
 |skip=>intro hd s a w K Q h hv hQ;exact wp_skip (hQ .normal _ _ _ _ h hv)
 |region id ops draw=>
  intro hd s a w K Q h hv hQ
  cases draw with
  |true=>
   obtain ⟨fin,p,h1,h2|⟨S1,h2,h3⟩⟩:=hv
   ·exact KE h hP (all:=ops.toList) h1 h2 fun hd' s' a' w' h' hk=>hQ .normal _ _ _ _ h' hk
   ·refine KE h hP (all:=ops.toList) h1 h2 fun hd' s' a' w' h' hk=>?_
    obtain ⟨hd2,h4⟩:=hk _ _ _ _ _ _ h'
    exact hQ .normal _ _ _ _ h4 h3
  |false=>exact wp_region_list (Vj hP ops.toList h hv fun hd' s' a' w' h' hk=>hQ .normal _ _ _ _ h' hk)
 |seq x y ihx ihy=>
  intro hd s a w K Q h hv hQ
  refine wp_seq (ihx h hv fun e hd' s' a' w' h' hk=>?_)
  cases e with
  |normal=>exact ihy h' hk hQ
  |exit id=>exact hQ _ _ _ _ _ h' hk
  |ret=>exact hQ _ _ _ _ _ h' hk
 |cond c x y ihx ihy=>
  intro hd s a w K Q h hv hQ
  simp only [vc] at hv
  split at hv
  ·rename_i t e
   have hc:=(h.ev_ c).val_ (X9 e)
   cases t with
   |true=>exact wp_cond_true hc (ihx h (hv.1 rfl) hQ)
   |false=>exact wp_cond_false hc (ihy h (hv.2 rfl) hQ)
  ·exact hv.elim
 |block id x ih=>
  intro hd s a w K Q h hv hQ
  refine wp_block (ih h hv fun e hd' s' a' w' h' hk=>?_)
  cases e with
  |normal=>exact hQ .normal _ _ _ _ h' hk
  |exit i=>
   simp only at hk
   simp only [VX.out,Exit.inBlock]
   split at hk
   ·rename_i e;rw [if_pos e];exact hQ .normal _ _ _ _ h' hk
   ·rename_i e;rw [if_neg e];exact hQ (.exit i) _ _ _ _ h' hk
  |ret=>exact hQ .ret _ _ _ _ h' hk
 |loop x ih=>
  intro hd s a w K Q h hv hQ
  obtain ⟨ι,I,μ,S,F,⟨i0,hI0,hle0⟩,hround⟩:=hv
  refine KQ (ι:=ι) (fun i a w=>I i∧∃ hd,RelH n base w0 hd (S i) a w) μ (fun i a w hI=>?_) (i:=i0) ⟨hI0,hle0 _ _ _ _ _ _ h⟩
  obtain ⟨hIi,hd1,h1⟩:=hI
  refine ih h1 (hround i hIi) fun e hd' s' a' w' h' hk=>?_
  cases e with
  |normal=>
   obtain ⟨j,hj,hlt,hle⟩:=hk
   exact ⟨j,⟨hj,h'.leX hle⟩,hlt⟩
  |exit id=>exact hQ (.exit id) _ _ _ _ h' hk
  |ret=>exact hQ .ret _ _ _ _ h' hk
 |exit id=>intro hd s a w K Q h hv hQ;exact wp_exit (hQ (.exit id) _ _ _ _ h hv)
 |ret=>intro hd s a w K Q h hv hQ;exact wp_ret (hQ .ret _ _ _ _ h hv)
 |scope x ih=>
  intro hd s a w K Q h hv hQ
  refine wp_scope_straight (ih h hv fun x hd' s' a' w' h' hk=>?_)
  cases x with
  |normal=>exact hQ .normal _ _ _ _ h' hk
  |exit i=>exact hQ (.exit i) _ _ _ _ h' hk
  |ret=>exact hQ .ret _ _ _ _ h' hk
 |label l=>intro hd s a w K Q h hv hQ;exact wp_label (hQ .normal _ _ _ _ h hv)
 | _=>intro hd s a w K Q h hv hQ;exact hv.elim
end
end Go.Proofs.YtadghlfkddkelaaGreatDoor.V
namespace Go.Proofs.YtadghlfkddkelaaGreatDoor.V
open Go.RowKit
def VI (P:Program) (s:VS):List ResultVar→(List AV→Prop)→Prop
 |[],k=>k []
 | .tmp t::r,k=>VI P s r (fun l=>k (lk s.tmps t::l))
 | .cell t T::r,k=>vop P (.load T (.tmp t)) s (fun av _=>VI P s r (fun l=>k (av::l)))
def XJ:List AV→AV
 |[x]=>x
 |l=>.tup l
def Vc (mem:List (Option Ob)):List Nat→Option (List Ob)
 |[]=>some []
 |k::r=>match mem[k]? with
  |some (some ob)=>(Vc mem r).map (ob::·)
  | _=>none
def ZbJ (ob ob':Ob):Prop:=ob.ty=ob'.ty∧ob.sz=ob'.sz∧ob.n=ob'.n∧∀ i,i<ob'.n→ob.f i=ob'.f i∧(ob'.f i).all YL=true
def X5:List Ob→List Ob→Prop
 |[],[]=>True
 |a::r,b::r'=>ZbJ a b∧X5 r r'
 | _,_=>False
def Zju (P:Program) (rs:List ResultVar) (R:AV→List Ob→Prop) (s:VS):Prop:=
 VI P s rs fun l=>Vb (XJ l)=true∧(Wi (XJ l)).Nodup∧∃ obs obs',Vc s.mem (Wi (XJ l))=some obs∧X5 obs obs'∧R (ren (fun k=>(Wi (XJ l)).idxOf k) (XJ l)) obs'
def Zke (tmps:Array Value):ResultVar→Sem Value
 | .tmp t=>pure (tmps.getD t undef)
 | .cell b t=>do loadVar t (←asAddr (tmps.getD b undef))
theorem Zgr (fn:Func) (tmps:Array Value):results fn tmps=(do let vs ←fn.results.mapM (Zke tmps);pure (if h:vs.size=1 then vs[0] else .tuple vs)):=rfl
section
variable {P:Program} {n:Nat} {base:Fr} {w0 w:World} {hd:Nat→Value} {s:VS} {a:Act}
theorem QK (h:RelH n base w0 hd s a w):∀ (rs:List ResultVar) {k:List AV→Prop},VI P s rs k→∃ vs l,(rs.mapM (Zke a.tmps)).run P w=.ok vs w∧vs.length=l.length∧(∀ (j:Nat) av v,l[j]?=some av→vs[j]?=some v→Rep w (Zw s.mem hd) hd s.mem.length av v)∧k l
 |[],k,hv=>⟨[],[],rfl,rfl,fun j av v hj=>by simp at hj,hv⟩
 | .tmp t::r,k,hv=>by
  obtain ⟨vs,l,h1,h2,h3,h4⟩:=QK h r hv
  refine ⟨a.tmps.getD t undef::vs,_,?_,by simp [h2],fun j av v hj hv'=>?_,h4⟩
  ·simp only [List.mapM_cons,Sem.run_bind,Zke,Sem.run_pure,Result.andThen_ok,h1]
  ·cases j with
   |zero=>
    simp only [List.getElem?_cons_zero,Option.some.injEq] at hj hv'
    subst hj;subst hv'
    exact h.tm t
   |succ j=>exact h3 j av v (by simpa using hj) (by simpa using hv')
 | .cell t T::r,k,hv=>by
  simp only [VI] at hv
  obtain ⟨v,av,g1,g2,g3⟩:=ZaY h hv
  obtain ⟨vs,l,h1,h2,h3,h4⟩:=QK h r g3
  refine ⟨v::vs,av::l,?_,by simp [h2],fun j av' v' hj hv'=>?_,h4⟩
  ·have key:∃ ad,a.tmps.getD t undef=.pointer (some ad):=by
    change (Instr.loadAt T (a.tmps.getD t undef)).run P w=.ok v w at g1
    generalize a.tmps.getD t undef=x at g1
    unfold Instr.loadAt Instr.sureAddr at g1
    split at g1
    ·exact ⟨_,rfl⟩
    ·simp [Sem.run_bind,stuck,Sem.run,Result.andThen] at g1
   obtain ⟨ad,had⟩:=key
   change (Instr.loadAt T (a.tmps.getD t undef)).run P w=.ok v w at g1
   rw [had] at g1
   simp only [Instr.loadAt,Instr.sureAddr,Sem.run_bind,Sem.run_pure,Result.andThen_ok] at g1
   have e:(Zke a.tmps (.cell t T)).run P w=.ok v w:=by
    simp only [Zke,had,asAddr,Sem.run_bind,Sem.run_pure,Result.andThen_ok,g1]
   simp only [List.mapM_cons,Sem.run_bind,e,Result.andThen_ok,h1,Sem.run_pure]
  ·cases j with
   |zero=>
    simp only [List.getElem?_cons_zero,Option.some.injEq] at hj hv'
    subst hj;subst hv'
    exact g2
   |succ j=>exact h3 j av' v' (by simpa using hj) (by simpa using hv')
theorem KJ (h:RelH n base w0 hd s a w) {fn:Func} {k:List AV→Prop} (hv:VI P s fn.results.toList k):∃ v l,(results fn a.tmps).run P w=.ok v w∧Rep w (Zw s.mem hd) hd s.mem.length (XJ l) v∧k l:=by
 obtain ⟨vs,l,h1,h2,h3,h4⟩:=QK h fn.results.toList hv
 refine ⟨if h:vs.length=1 then vs[0] else .tuple vs.toArray,l,?_,?_,h4⟩
 ·rw [Zgr,Array.mapM_eq_mapM_toList]
  simp only [Sem.run_bind,Sem.run_map,h1,Result.andThen_ok,Sem.run_pure]
  by_cases e:vs.length=1
  ·simp [e]
  ·simp [e]
 ·by_cases e:vs.length=1
  ·rw [dif_pos e]
   have hl:l.length=1:=by omega
   match l,hl with
   |[x],_=>exact h3 0 x _ rfl (by simp)
  ·rw [dif_neg e]
   have hj:XJ l=.tup l:=by
    unfold XJ
    split
    ·rename_i x;simp at h2;omega
    ·rfl
   rw [hj]
   exact .tup l vs h2.symm h3
theorem Gw {mem:List (Option Ob)}:∀ {ks:List Nat} {obs:List Ob},Vc mem ks=some obs→obs.length=ks.length∧∀ (j:Nat) ob,obs[j]?=some ob→∃ k,ks[j]?=some k∧mem[k]?=some (some ob)
 |[],obs,h=>by
  simp only [Vc,Option.some.injEq] at h
  subst h
  exact ⟨rfl,fun j ob hj=>by simp at hj⟩
 |k::ks,obs,h=>by
  simp only [Vc] at h
  split at h
  ·rename_i ob hob
   obtain ⟨r,hr,rfl⟩:=Option.map_eq_some_iff.1 h
   obtain ⟨h1,h2⟩:=Gw hr
   refine ⟨by simp [h1],fun j o hj=>?_⟩
   cases j with
   |zero=>
    simp only [List.getElem?_cons_zero,Option.some.injEq] at hj
    subst hj
    exact ⟨k,rfl,hob⟩
   |succ j=>exact h2 j o (by simpa using hj)
  ·simp at h
theorem Gj:∀ {l l':List Ob},X5 l l'→l.length=l'.length∧∀ (j:Nat) ob',l'[j]?=some ob'→∃ ob,l[j]?=some ob∧ZbJ ob ob'
 |[],[],_=>⟨rfl,fun j ob hj=>by simp at hj⟩
 |a::r,b::r',h=>by
  obtain ⟨h1,h2⟩:=Gj h.2
  refine ⟨by simp [h1],fun j ob' hj=>?_⟩
  cases j with
  |zero=>
   simp only [List.getElem?_cons_zero,Option.some.injEq] at hj
   subst hj
   exact ⟨a,rfl,h.1⟩
  |succ j=>exact h2 j ob' (by simpa using hj)
 |[],_::_,h=>h.elim
 | _::_,[],h=>h.elim
theorem Zaf {fn:Func} {R:AV→List Ob→Prop} {hd0:Nat→Value} (h:RelH n ⟨P,(fun b=>w0.heap.size≤b),hd0,[]⟩ w0 hd s a w) (hv:Zju P fn.results.toList R s) :
  ∃ v,(results fn a.tmps).run P w=.ok v w∧w0.grownBy w none∧∃ hd av obs,R av obs∧Vb av=true∧(∀ ob,ob∈obs→∀ i,i<ob.n→(ob.f i).all YL=true)∧
   MemRel (fun b=>w0.heap.size≤b) w hd (obs.map some)∧Rep w (fun _=>True) hd obs.length av v:=by
 obtain ⟨v,l,h1,h2,hfl,hnd,obs,obs',hex,hsame,hR⟩:=KJ h hv
 obtain ⟨g1,g2⟩:=Gw hex
 obtain ⟨g3,g4⟩:=Gj hsame
 generalize hks:Wi (XJ l)=ks at *
 have at_:∀ (j:Nat) ob',obs'[j]?=some ob'→∃ k ob,ks[j]?=some k∧s.mem[k]?=some (some ob)∧ZbJ ob ob':=by
  intro j ob' hj
  obtain ⟨ob,e1,e2⟩:=g4 j ob' hj
  obtain ⟨k,e3,e4⟩:=g2 j ob e1
  exact ⟨k,ob,e3,e4,e2⟩
 have toMap:∀ (j:Nat) ob',(obs'.map some)[j]?=some (some ob')→obs'[j]?=some ob':=by
  intro j ob' hj
  rw [List.getElem?_map,Option.map_eq_some_iff] at hj
  obtain ⟨o,h1,h2⟩:=hj
  simp only [Option.some.injEq] at h2
  rw [←h2];exact h1
 refine ⟨v,h1,⟨h.below.os,h.below.tape,h.below.output,h.below.size,fun k hk _=>h.below.block k hk (by simp only;omega)⟩,fun j=>hd (ks.getD j 0),_,obs',hR,?_,?_,⟨fun j ob' hj b hb=>?_,fun j ob' hj=>?_,fun j hj=>?_,fun j j' o o' hj hj' hne=>?_⟩,?_⟩
 ·-- flat
  have f1:∀ x,X8 (Ww (fun k=>ks.idxOf k) x)=X8 x:=by intro x;cases x<;>rfl
  have f2:∀ x,VP (QU (fun k=>ks.idxOf k) x)=VP x:=by
   intro x
   cases x with
   |agg cs=>simp [VP,QU,Function.comp_def,f1]
   | _=>rfl
  have f3:∀ x,Vb (ren (fun k=>ks.idxOf k) x)=Vb x:=by
   intro x
   cases x with
   |tup vs=>simp [Vb,ren,Function.comp_def,f2]
   |agg cs=>exact f2 (.agg cs)
   | _=>rfl
  exact (f3 _).trans hfl
 ·intro ob' hob' i hi
  obtain ⟨j,hj⟩:=List.getElem?_of_mem hob'
  obtain ⟨k,ob,_,_,e⟩:=at_ j ob' hj
  exact (e.2.2.2 i hi).2
 ·obtain ⟨k,ob,e1,e2,_⟩:=at_ j ob' (toMap j ob' hj)
  simp only [List.getD_eq_getElem?_getD,e1,Option.getD_some] at hb
  exact h.me.alw k ob e2 b hb
 ·obtain ⟨k,ob,e1,e2,e3,e4,e5,e6⟩:=at_ j ob' (toMap j ob' hj)
  obtain ⟨hs,vals,ho,hr⟩:=h.me.obs k ob e2
  simp only [List.getD_eq_getElem?_getD,e1,Option.getD_some]
  refine ⟨by omega,vals,by rw [←e3,←e4,←e5];exact ho,fun i hi=>?_⟩
  obtain ⟨q1,q2⟩:=hr i (by omega)
  obtain ⟨q3,q4⟩:=e6 i hi
  rw [q3,e4] at q1 q2
  refine ⟨q1,fun c av hc=>?_⟩
  obtain ⟨u,r1,r2,r3⟩:=q2 c av hc
  have hl:=List.all_eq_true.1 q4 av (List.mem_of_getElem? hc)
  refine ⟨u,r1,r2,?_⟩
  cases av<;>simp [YL] at hl
  cases r3;exact .lit _
 ·have hj':j<ks.length:=by simp at hj;omega
  simp only [List.getD_eq_getElem?_getD,List.getElem?_eq_getElem hj',Option.getD_some]
  have:∃ ob',obs'[j]?=some ob':=⟨obs'[j]'(by simpa using hj),by simp⟩
  obtain ⟨ob',hob'⟩:=this
  obtain ⟨k,ob,e1,e2,_⟩:=at_ j ob' hob'
  rw [List.getElem?_eq_getElem hj'] at e1
  simp only [Option.some.injEq] at e1
  rw [e1]
  exact h.me.hds k (List.getElem?_eq_some_iff.1 e2).1
 ·obtain ⟨k,ob,e1,e2,_⟩:=at_ j o (toMap j o hj)
  obtain ⟨k',ob2,e1',e2',_⟩:=at_ j' o' (toMap j' o' hj')
  simp only [List.getD_eq_getElem?_getD,e1,e1',Option.getD_some]
  refine h.me.apart k k' ob ob2 e2 e2' fun e=>hne ?_
  subst e
  have l1:=(List.getElem?_eq_some_iff.1 e1)
  have l2:=(List.getElem?_eq_some_iff.1 e1')
  obtain ⟨l1a,l1b⟩:=l1
  obtain ⟨l2a,l2b⟩:=l2
  exact (List.getElem_inj hnd).1 (l1b.trans l2b.symm)
 ·refine h2.ren_ hfl fun k hk hkm=>?_
  rw [hks] at hk
  have hi:=List.idxOf_lt_length_of_mem hk
  refine ⟨by omega,?_⟩
  simp only [List.getD_eq_getElem?_getD,List.getElem?_eq_getElem hi,Option.getD_some,List.getElem_idxOf]
def start (args:List AV):VS:=.of ((List.range args.length).map fun j=>(j,args.getD j .undef)) []
theorem Zf5 {f:FuncId} {fn:Func} {c:Code} {args:List AV} {R:AV→List Ob→Prop} (hf:P.funcs[f]?=some fn) (hn:(fn.name== "runtime.NumGoroutine")=false) (hb:fn.body=some c) (hl:args.length≤fn.ntmps)
  (h:vc P fn.ntmps c (start args) (fun x s=>match x with
   | .exit _=>False
   | _=>Zju P fn.results.toList R s)):VFun P f args R:=by
 refine ⟨⟨fn,hf,hn,by rw [hb];rfl⟩,fun w vs hlen hrep=>?_⟩
 obtain ⟨hlen,hgw,hlo⟩:=hlen
 refine calls_of_wp hf hb ?_
 have hst:∀ t,lk (start args).tmps t=args.getD t .undef:=by
  intro t
  have:∀ (l:List Nat) (t:Nat),lk (l.map fun j=>(j,args.getD j .undef)) t=if t∈l then args.getD t .undef else .undef:=by
   intro l t
   induction l with
   |nil=>rfl
   |cons x l ih=>
    simp only [List.map_cons,lk]
    by_cases e:x=t
    ·subst e;simp
    ·rw [if_neg e,ih]
     have e':¬t=x:=fun h=>e h.symm
     simp [e']
  rw [start,this]
  by_cases ht:t<args.length
  ·rw [if_pos (by simpa using ht)]
  ·rw [if_neg (by simpa using ht),List.getD_eq_getElem?_getD,List.getElem?_eq_none (by omega)];rfl
 have hrel:RelH fn.ntmps ⟨P,(fun b=>w.heap.size≤b),fun _=>undef,[]⟩ w (fun _=>undef) (start args) { tmps:=vs.toArray++Array.replicate (fn.ntmps-vs.toArray.size) undef,defers:=[] } w:=by
  refine ⟨rfl,by simp;omega,Bel.refl _ _,⟨fun b hb=>hb,hgw,hlo⟩,Nat.zero_le _,⟨fun k hk=>by simp [start] at hk,TailEq.refl _,⟨0,fun k _ b hb=>by simp [undef,Value.ownBlock] at hb⟩⟩,fun b mp hb=>by simp [start,lkm] at hb,fun t=>?_,⟨fun k ob hk=>by simp [start] at hk,fun k ob hk=>by simp [start] at hk,fun k hk=>by simp [start] at hk,fun k k' ob ob' hk=>by simp [start] at hk⟩⟩
  rw [hst]
  by_cases ht:t<args.length
  ·have h1:(vs.toArray++Array.replicate (fn.ntmps-vs.toArray.size) undef).getD t undef=vs[t]'(by omega):=by
    rw [Array.getD_eq_getD_getElem?,Array.getElem?_append_left (by simp;omega)]
    simp [show t<vs.length by omega]
   rw [h1,List.getD_eq_getElem?_getD,List.getElem?_eq_getElem ht]
   exact (hrep t _ _ (List.getElem?_eq_getElem ht) (List.getElem?_eq_getElem (by omega))).mono (fun ad u _ hc=>⟨hc,fun k ob hk=>by simp [start] at hk,⟨0,fun k _=>by simp [undef,Value.ownBlock]⟩⟩) (fun _ _=>rfl) (Nat.le_refl _)
  ·rw [List.getD_eq_getElem?_getD,List.getElem?_eq_none (by omega)];exact .undef _
 refine X6 rfl c hrel h fun x hd' s' a' w' h' hk=>?_
 cases x with
 |exit id=>exact hk.elim
 |normal=>
  obtain ⟨v,h1,h2⟩:=Zaf h' hk
  exact ⟨h'.defers,v,h1,v,rfl,h2⟩
 |ret=>
  obtain ⟨v,h1,h2⟩:=Zaf h' hk
  exact ⟨h'.defers,v,h1,v,rfl,h2⟩
end
end Go.Proofs.YtadghlfkddkelaaGreatDoor.V
namespace Go.Proofs.YtadghlfkddkelaaGreatDoor.V
open Go.RowKit
section
variable {P:Program} {n:Nat} {s:VS}
def Zmd (P:Program) (n:Nat) (y:Code) (K:VX→VS→Prop) (e:VX) (s:VS):Prop:=match e with
 | .normal=>vc P n y s K
 |e=>K e s
def ZdZ (id:Nat) (K:VX→VS→Prop) (e:VX) (s:VS):Prop:=match e with
 | .exit i=>if i=id then K .normal s else K (.exit i) s
 |e=>K e s
def Zn6 (P:Program) (rs:List ResultVar) (R:AV→List Ob→Prop) (e:VX) (s:VS):Prop:=match e with
 | .exit _=>False
 | _=>Zju P rs R s
def Yn (n:Nat) (dst:Option Tmp) (k:VS→Prop) (av:AV) (s:VS):Prop:=VY n dst av s k
def GJ (s:VS) (k:AV→VS→Prop) (av:AV) (obs:List Ob):Prop:=k (ren (·+s.mem.length) av) { s with mem:=s.mem++obs.map some }
def GT (P:Program) (n:Nat) (all r:List Oper) (k:VS→Prop) (s:VS):Prop:=V6 P n all r s k
def ZdY {ι:Type} (I:ι→Prop) (μ:ι→Nat) (S:ι→VS) (i:ι) (K:VX→VS→Prop) (e:VX) (s:VS):Prop:=match e with
 | .normal=>∃ j,I j∧μ j<μ i∧Le s (S j)
 |e=>K e s
variable {K:VX→VS→Prop} {k:VS→Prop} {all r:List Oper}
@[go_sem] theorem Kseq_n {y:Code}:Zmd P n y K .normal s=vc P n y s K:=_root_.id rfl
@[go_sem] theorem Kseq_e {y:Code} {id:Nat}:Zmd P n y K (.exit id) s=K (.exit id) s:=_root_.id rfl
@[go_sem] theorem Kseq_r {y:Code}:Zmd P n y K .ret s=K .ret s:=_root_.id rfl
@[go_sem] theorem Kblock_n {id:Nat}:ZdZ id K .normal s=K .normal s:=_root_.id rfl
@[go_sem] theorem Kblock_r {id:Nat}:ZdZ id K .ret s=K .ret s:=_root_.id rfl
@[go_sem] theorem Kblock_e {id i:Nat}:ZdZ id K (.exit i) s=if i=id then K .normal s else K (.exit i) s:=_root_.id rfl
@[go_sem] theorem Kfin_r {rs:List ResultVar} {R:AV→List Ob→Prop}:Zn6 P rs R .ret s=Zju P rs R s:=_root_.id rfl
@[go_sem] theorem Kround_e {ι:Type} {I:ι→Prop} {μ:ι→Nat} {S:ι→VS} {i:ι} {id:Nat}:ZdY I μ S i K (.exit id) s=K (.exit id) s:=_root_.id rfl
@[go_sem] theorem Kround_r {ι:Type} {I:ι→Prop} {μ:ι→Nat} {S:ι→VS} {i:ι}:ZdY I μ S i K .ret s=K .ret s:=_root_.id rfl
@[go_sem] theorem Kround_n {ι:Type} {I:ι→Prop} {μ:ι→Nat} {S:ι→VS} {i:ι}:ZdY I μ S i K .normal s=∃ j,I j∧μ j<μ i∧Le s (S j):=_root_.id rfl
@[go_sem] theorem Kput_s {t:Tmp} {av:AV}:Yn n (some t) k av s=(t<n∧k { s with tmps:=(t,av)::s.tmps }):=_root_.id rfl
@[go_sem] theorem Kput_n {av:AV}:Yn n none k av s=k s:=_root_.id rfl
@[go_sem] theorem Kops_:GT P n all r k s=V6 P n all r s k:=_root_.id rfl
@[go_sem] theorem vc_skip:vc P n .skip s K=K .normal s:=_root_.id rfl
@[go_sem] theorem vc_region {id:Nat} {l:List Oper}:vc P n (.region id l.toArray false) s K=V6 P n l l s (K .normal):=_root_.id rfl
@[go_sem] theorem vc_seq {x y:Code}:vc P n (.seq x y) s K=vc P n x s (Zmd P n y K):=_root_.id rfl
def Zb4 (P:Program) (n:Nat) (x y:Code) (s:VS) (K:VX→VS→Prop):AV→Prop
 | .lit (.bool t)=>(t=true→vc P n x s K)∧(t=false→vc P n y s K)
 | _=>False
@[go_sem] theorem vc_cond {c:Operand} {x y:Code}:vc P n (.cond c x y) s K=Zb4 P n x y s K (ev s c):=by
 simp only [vc]
 generalize ev s c=v
 cases v with
 |lit v=>cases v<;>rfl
 | _=>rfl
@[go_sem] theorem vcond_b {x y:Code} {t:Bool}:Zb4 P n x y s K (.lit (.bool t))=((t=true→vc P n x s K)∧(t=false→vc P n y s K)):=_root_.id rfl
@[go_sem 2000] theorem vcond_t {x y:Code}:Zb4 P n x y s K (.lit (.bool true))=vc P n x s K:=by simp [Zb4]
@[go_sem 2000] theorem vcond_f {x y:Code}:Zb4 P n x y s K (.lit (.bool false))=vc P n y s K:=by simp [Zb4]
@[go_sem] theorem vc_block {id:Nat} {x:Code}:vc P n (.block id x) s K=vc P n x s (ZdZ id K):=_root_.id rfl
@[go_sem] theorem vc_exit {id:Nat}:vc P n (.exit id) s K=K (.exit id) s:=_root_.id rfl
@[go_sem] theorem vc_scope {x:Code}:vc P n (.scope x) s K=vc P n x s K:=_root_.id rfl
@[go_sem] theorem vc_label {l:Nat}:vc P n (.label l) s K=K .normal s:=_root_.id rfl
@[go_sem] theorem vc_ret:vc P n .ret s K=K .ret s:=_root_.id rfl
theorem ZN {x:Code} {ι:Type} (I:ι→Prop) (μ:ι→Nat) (S:ι→VS) (h0:∃ i,I i∧Le s (S i)) (h:∀ i,I i→vc P n x (S i) (ZdY I μ S i K)):vc P n (.loop x) s K:=
 ⟨ι,I,μ,S,fun _=>.le,h0.imp fun _ h=>⟨h.1,Ent.of_le h.2⟩,h⟩
def ZdX {ι:Type} (I:ι→Prop) (μ:ι→Nat) (S:ι→VS) (f:Nat→Nat) (i:ι) (K:VX→VS→Prop) (e:VX) (s:VS):Prop:=match e with
 | .normal=>∃ j,I j∧μ j<μ i∧LeR f s (S j)
 |e=>K e s
@[go_sem] theorem KroundR_e {ι:Type} {I:ι→Prop} {μ:ι→Nat} {S:ι→VS} {f:Nat→Nat} {i:ι} {id:Nat}:ZdX I μ S f i K (.exit id) s=K (.exit id) s:=_root_.id rfl
@[go_sem] theorem KroundR_n {ι:Type} {I:ι→Prop} {μ:ι→Nat} {S:ι→VS} {f:Nat→Nat} {i:ι}:ZdX I μ S f i K .normal s=∃ j,I j∧μ j<μ i∧LeR f s (S j):=_root_.id rfl
theorem ZjM {x:Code} {ι:Type} (I:ι→Prop) (μ:ι→Nat) (S:ι→VS) (f:Nat→Nat) (h0:∃ i,I i∧Le s (S i)) (h:∀ i,I i→vc P n x (S i) (ZdX I μ S f i K)):vc P n (.loop x) s K:=
 ⟨ι,I,μ,S,fun _=>.ren f,h0.imp fun _ h=>⟨h.1,Ent.of_le h.2⟩,h⟩
def Zab {ι:Type} (I:ι→Prop) (μ:ι→Nat) (S:ι→VS) (i:ι) (K:VX→VS→Prop) (e:VX) (s:VS):Prop:=match e with
 | .normal=>∃ j,I j∧μ j<μ i∧Ent s (S j)
 |e=>K e s
@[go_sem] theorem KroundE_e {ι:Type} {I:ι→Prop} {μ:ι→Nat} {S:ι→VS} {i:ι} {id:Nat}:Zab I μ S i K (.exit id) s=K (.exit id) s:=_root_.id rfl
@[go_sem] theorem KroundE_r {ι:Type} {I:ι→Prop} {μ:ι→Nat} {S:ι→VS} {i:ι}:Zab I μ S i K .ret s=K .ret s:=_root_.id rfl
@[go_sem] theorem KroundE_n {ι:Type} {I:ι→Prop} {μ:ι→Nat} {S:ι→VS} {i:ι}:Zab I μ S i K .normal s=∃ j,I j∧μ j<μ i∧Ent s (S j):=_root_.id rfl
theorem ZC {x:Code} {ι:Type} (I:ι→Prop) (μ:ι→Nat) (S:ι→VS) (h0:∃ i,I i∧Ent s (S i)) (h:∀ i,I i→vc P n x (S i) (Zab I μ S i K)):vc P n (.loop x) s K:=
 ⟨ι,I,μ,S,fun _=>.ent,h0,h⟩
theorem Zd {f:FuncId} {fn:Func} {c:Code} {args:List AV} {R:AV→List Ob→Prop} (hf:P.funcs[f]?=some fn) (hn:(fn.name== "runtime.NumGoroutine")=false) (hb:fn.body=some c) (hl:args.length≤fn.ntmps)
  (h:vc P fn.ntmps c (start args) (Zn6 P fn.results.toList R)):VFun P f args R:=Zf5 hf hn hb hl h
@[go_sem] theorem vops_nil:V6 P n all [] s k=k s:=_root_.id rfl
section
variable {d:Option Tmp} {op:Op} {ty:TypeId} {ps:String} {af:Array Edge}
@[go_sem] theorem vops_cons:V6 P n all (⟨d,op,ty,ps,af,none⟩::r) s k=ZR P n ⟨d,op,ty,ps,af,none⟩ s (GT P n all r k):=_root_.id rfl
def VU (P:Program) (n:Nat) (all:List Oper) (o:Oper) (r:List Oper) (s:VS) (k:VS→Prop) (b:Bool) (t:Tmp):AV→Prop
 | .lit (.bool c)=>(c=b→ZR P n o { s with tmps:=(t,.lit (.bool b))::s.tmps } (GT P n all r k))∧(c=!b→VY n o.dst (.lit undef) { s with tmps:=(t,.lit (.bool (!b)))::s.tmps } (GT P n all r k))
 | .lit (.tuple _)=>VY n o.dst (.lit undef) s (GT P n all r k)
 | _=>False
def ZcW (P:Program) (n:Nat) (all:List Oper) (o:Oper) (r:List Oper) (s:VS) (k:VS→Prop) (b:Bool):Option Tmp→Prop
 |some t=>VU P n all o r s k b t (lk s.tmps t)
 |none=>False
@[go_sem] theorem vops_guard {g:Nat} {b:Bool}:V6 P n all (⟨d,op,ty,ps,af,some (g,b)⟩::r) s k=ZcW P n all ⟨d,op,ty,ps,af,some (g,b)⟩ r s k b (Um all g):=by
 simp only [V6]
 cases Um all g with
 |none=>rfl
 |some t=>
  simp only [ZcW]
  generalize lk s.tmps t=v
  cases v with
  |lit v=>cases v<;>rfl
  | _=>rfl
@[go_sem] theorem vguardO_s {o:Oper} {b:Bool} {t:Tmp}:ZcW P n all o r s k b (some t)=VU P n all o r s k b t (lk s.tmps t):=_root_.id rfl
@[go_sem] theorem vguard_b {o:Oper} {b:Bool} {t:Tmp} {c:Bool}:VU P n all o r s k b t (.lit (.bool c))=((c=b→ZR P n o { s with tmps:=(t,.lit (.bool b))::s.tmps } (GT P n all r k))∧(c=!b→VY n o.dst (.lit undef) { s with tmps:=(t,.lit (.bool (!b)))::s.tmps } (GT P n all r k))):=_root_.id rfl
@[go_sem] theorem vguard_u {o:Oper} {b:Bool} {t:Tmp}:VU P n all o r s k b t (.lit undef)=VY n o.dst (.lit undef) s (GT P n all r k):=_root_.id rfl
@[go_sem 2000] theorem vguard_tt {o:Oper} {t:Tmp}:VU P n all o r s k true t (.lit (.bool true))=ZR P n o { s with tmps:=(t,.lit (.bool true))::s.tmps } (GT P n all r k):=by simp [VU]
@[go_sem 2000] theorem vguard_ff {o:Oper} {t:Tmp}:VU P n all o r s k false t (.lit (.bool false))=ZR P n o { s with tmps:=(t,.lit (.bool false))::s.tmps } (GT P n all r k):=by simp [VU]
@[go_sem 2000] theorem vguard_tf {o:Oper} {t:Tmp}:VU P n all o r s k true t (.lit (.bool false))=VY n o.dst (.lit undef) { s with tmps:=(t,.lit (.bool false))::s.tmps } (GT P n all r k):=by simp [VU]
@[go_sem 2000] theorem vguard_ft {o:Oper} {t:Tmp}:VU P n all o r s k false t (.lit (.bool true))=VY n o.dst (.lit undef) { s with tmps:=(t,.lit (.bool true))::s.tmps } (GT P n all r k):=by simp [VU]
@[go_sem] theorem putO_s {t:Tmp} {av:AV}:VY n (some t) av s k=(t<n∧k { s with tmps:=(t,av)::s.tmps }):=_root_.id rfl
@[go_sem] theorem lk_cons {u:Nat} {v:AV} {l:List (Nat×AV)} {t:Nat}:lk ((u,v)::l) t=if u=t then v else lk l t:=_root_.id rfl
@[go_sem] theorem ev_tmp {t:Tmp}:ev s (.tmp t)=lk s.tmps t:=_root_.id rfl
@[go_sem] theorem ev_const {v:Value}:ev s (.const v)=.lit v:=_root_.id rfl
@[go_sem] theorem slotOf_ {g:Nat}:Um all g=(all[g]?).bind (·.dst):=_root_.id rfl
variable {g:Option (Nat×Bool)}
@[go_sem] theorem vs_move {x:Operand}:ZR P n ⟨d,.move x,ty,ps,af,g⟩ s k=Yn n d k (ev s x) s:=_root_.id rfl
@[go_sem] theorem vs_assign {x:Operand}:ZR P n ⟨d,.assign x,ty,ps,af,g⟩ s k=Yn n d k (ev s x) s:=_root_.id rfl
def Zd6 (s:VS) (a b:Operand) (k:AV→VS→Prop):AV→Prop
 | .lit (.bool t)=>(t=true→k (ev s a) s)∧(t=false→k (ev s b) s)
 | _=>False
@[go_sem] theorem vs_pick {c x y:Operand}:ZR P n ⟨d,.pick c x y,ty,ps,af,g⟩ s k=Zd6 s x y (Yn n d k) (ev s c):=by
 show vop P (.pick c x y) s (Yn n d k)=_
 simp only [vop]
 generalize ev s c=v
 cases v with
 |lit v=>cases v<;>rfl
 | _=>rfl
@[go_sem 2000] theorem vpick_t {x y:Operand} {k:AV→VS→Prop}:Zd6 s x y k (.lit (.bool true))=k (ev s x) s:=by simp [Zd6]
@[go_sem 2000] theorem vpick_f {x y:Operand} {k:AV→VS→Prop}:Zd6 s x y k (.lit (.bool false))=k (ev s y) s:=by simp [Zd6]
def Zm3 (P:Program) (T:TypeId) (s:VS) (k:AV→VS→Prop) (sz:Option Nat) (cells:List AV):Prop:=match sz with
 |some n=>0<n∧cells.length=n∧cells.all Xg=true∧k (.ptr s.mem.length n 0 0) { s with mem:=s.mem++[some ⟨T,n,1,fun _=>cells⟩] }
 |none=>False
@[go_sem] theorem vs_box {T:TypeId} {x:Operand}:ZR P n ⟨d,.box T x,ty,ps,af,g⟩ s k=Zm3 P T s (Yn n d k) (tsz P T) (ZJ (ev s x)):=by
 show vop P (.box T x) s (Yn n d k)=_
 simp only [vop]
 cases tsz P T<;>rfl
@[go_sem] theorem vbox_s {T:TypeId} {k:AV→VS→Prop} {m:Nat} {cells:List AV}:Zm3 P T s k (some m) cells=(0<m∧cells.length=m∧cells.all Xg=true∧k (.ptr s.mem.length m 0 0) { s with mem:=s.mem++[some ⟨T,m,1,fun _=>cells⟩] }):=_root_.id rfl
@[go_sem] theorem vs_alloc {T:TypeId}:ZR P n ⟨d,.alloc T,ty,ps,af,g⟩ s k=QO P T s (Yn n d k):=_root_.id rfl
def vrd (s:VS) (k:AV→VS→Prop) (agg:Option Bool) (sz:Option Nat) (cs:List AV) (c:Nat):Prop:=
 match agg,sz with
 |some false,_=>c<cs.length∧k (cs.getD c .undef) s
 |some true,some n=>c+n≤cs.length∧k (.agg ((cs.drop c).take n)) s
 | _,_=>False
@[go_sem] theorem vrd_f {k:AV→VS→Prop} {sz:Option Nat} {cs:List AV} {c:Nat}:vrd s k (some false) sz cs c=(c<cs.length∧k (cs.getD c .undef) s):=by cases sz<;>rfl
@[go_sem] theorem vrd_t {k:AV→VS→Prop} {m:Nat} {cs:List AV} {c:Nat}:vrd s k (some true) (some m) cs c=(c+m≤cs.length∧k (.agg ((cs.drop c).take m)) s):=_root_.id rfl
def Zf3 (P:Program) (T:TypeId) (s:VS) (k:AV→VS→Prop) (ad:Addr):Prop:=∃ t N vs as i cs,lk s.tmps t=.fam N vs as∧i<N∧vs i=.pointer (some ad)∧as i=.bptr cs∧vrd s k (XU P T) (tsz P T) cs 0
def Jx (P:Program) (T:TypeId) (s:VS) (k:AV→VS→Prop):AV→Prop
 | .ptr j sz i c=>match s.mem[j]? with
  |some (some ob)=>ob.sz=sz∧i<ob.n∧vrd s k (XU P T) (tsz P T) (ob.f i) c
  | _=>False
 | .bptr cs=>vrd s k (XU P T) (tsz P T) cs 0
 | .lit (.pointer (some ad))=>Zf3 P T s k ad
 | _=>False
@[go_sem] theorem vload_f {T:TypeId} {k:AV→VS→Prop} {ad:Addr}:Jx P T s k (.lit (.pointer (some ad)))=Zf3 P T s k ad:=_root_.id rfl
@[go_sem] theorem vs_load {T:TypeId} {x:Operand}:ZR P n ⟨d,.load T x,ty,ps,af,g⟩ s k=Jx P T s (Yn n d k) (ev s x):=by
 show vop P (.load T x) s (Yn n d k)=_
 simp only [vop]
 generalize ev s x=v
 cases v<;>first|rfl|(rename_i lv;cases lv<;>first|rfl|(rename_i p;cases p<;>rfl))
@[go_sem] theorem vload_b {T:TypeId} {k:AV→VS→Prop} {cs:List AV}:Jx P T s k (.bptr cs)=vrd s k (XU P T) (tsz P T) cs 0:=_root_.id rfl
def ZjB (P:Program) (T:TypeId) (s:VS) (k:AV→VS→Prop) (sz i c:Nat):Option (Option Ob)→Prop
 |some (some ob)=>ob.sz=sz∧i<ob.n∧vrd s k (XU P T) (tsz P T) (ob.f i) c
 | _=>False
@[go_sem] theorem vload_p {T:TypeId} {k:AV→VS→Prop} {j sz i c:Nat}:Jx P T s k (.ptr j sz i c)=ZjB P T s k sz i c (s.mem[j]?):=by
 simp only [Jx]
 generalize s.mem[j]?=v
 cases v with
 |none=>rfl
 |some v=>cases v<;>rfl
@[go_sem] theorem vloadO_s {T:TypeId} {k:AV→VS→Prop} {sz i c:Nat} {ob:Ob}:ZjB P T s k sz i c (some (some ob))=(ob.sz=sz∧i<ob.n∧vrd s k (XU P T) (tsz P T) (ob.f i) c):=_root_.id rfl
def ZcR (s:VS) (k:AV→VS→Prop) (n j sz i c:Nat) (cells:List AV):Option (Option Ob)→Prop
 |some (some ob)=>ob.sz=sz∧i<ob.n∧cells.length=n∧0<n∧c+n≤sz∧cells.all Xg=true∧k .undef { s with mem:=s.mem.set j (some (upd ob i c cells)) }
 | _=>False
def Zjt (s:VS) (k:AV→VS→Prop) (sz:Option Nat) (cells:List AV):AV→Prop
 | .ptr j sz' i c=>match sz with
  |some n=>ZcR s k n j sz' i c cells (s.mem[j]?)
  |none=>False
 | _=>False
@[go_sem] theorem vs_store {T:TypeId} {p x:Operand}:ZR P n ⟨d,.store T p x,ty,ps,af,g⟩ s k=Zjt s (Yn n d k) (tsz P T) (ZJ (ev s x)) (ev s p):=by
 show vop P (.store T p x) s (Yn n d k)=_
 simp only [vop]
 generalize ev s p=v
 generalize tsz P T=z
 cases v<;>cases z<;>rfl
@[go_sem] theorem vstore_p {k:AV→VS→Prop} {m:Nat} {cells:List AV} {j sz i c:Nat}:Zjt s k (some m) cells (.ptr j sz i c)=ZcR s k m j sz i c cells (s.mem[j]?):=_root_.id rfl
@[go_sem] theorem vstoreO_s {k:AV→VS→Prop} {m j sz i c:Nat} {cells:List AV} {ob:Ob}:ZcR s k m j sz i c cells (some (some ob))=(ob.sz=sz∧i<ob.n∧cells.length=m∧0<m∧c+m≤sz∧cells.all Xg=true∧k .undef { s with mem:=s.mem.set j (some (upd ob i c cells)) }):=_root_.id rfl
def vfa (P:Program) (s:VS) (k:AV→VS→Prop):Option (TypeId×Nat)→AV→Prop
 |some (ft,off),.ptr j sz i c=>(∃ n,tsz P ft=some n∧n≠0)∧k (.ptr j sz i (c+off)) s
 |some (ft,off),.bptr cs=>(∃ n,tsz P ft=some n∧n≠0)∧off<cs.length∧k (.bptr (cs.drop off)) s
 | _,_=>False
@[go_sem] theorem vs_fa {T:TypeId} {x:Operand} {f:Nat}:ZR P n ⟨d,.fieldAddr T x f,ty,ps,af,g⟩ s k=vfa P s (Yn n d k) (WK P T f) (ev s x):=by
 show vop P (.fieldAddr T x f) s (Yn n d k)=_
 simp only [vop]
 generalize ev s x=v
 cases WK P T f with
 |none=>cases v<;>rfl
 |some y=>cases v<;>first|rfl|(simp only [vfa];exact propext ⟨fun h=>h.2.elim,fun h=>h.elim⟩)
@[go_sem] theorem vfa_p {k:AV→VS→Prop} {ft off j sz i c:Nat}:vfa P s k (some (ft,off)) (.ptr j sz i c)=((∃ n,tsz P ft=some n∧n≠0)∧k (.ptr j sz i (c+off)) s):=_root_.id rfl
@[go_sem] theorem vfa_b {k:AV→VS→Prop} {ft off:Nat} {cs:List AV}:vfa P s k (some (ft,off)) (.bptr cs)=((∃ n,tsz P ft=some n∧n≠0)∧off<cs.length∧k (.bptr (cs.drop off)) s):=_root_.id rfl
def via (s:VS) (k:AV→VS→Prop) (sz:Option Nat) (ix:Option Value):AV→Prop
 | .sl sz' n f=>match sz,ix with
  |some z,some (.int _ i)=>sz'=z∧0≤i∧i<n∧k (.bptr (f i.toNat)) s
  | _,_=>False
 | .own j=>match sz,ix,s.mem[j]? with
  |some z,some (.int _ i),some (some ob)=>ob.sz=z∧0≤i∧i<ob.n∧k (.ptr j z i.toNat 0) s
  | _,_,_=>False
 | .sub j sz' lo m=>match sz,ix with
  |some z,some (.int _ i)=>sz'=z∧0≤i∧i<m∧k (.ptr j z (lo+i.toNat) 0) s
  | _,_=>False
 | _=>False
def esz (P:Program) (T:TypeId):Option Nat:=match P.underlying T with
 |some (.slice e)=>tsz P e
 | _=>none
@[go_sem] theorem vs_ia {T:TypeId} {x ix:Operand}:ZR P n ⟨d,.indexAddr T x ix,ty,ps,af,g⟩ s k=via s (Yn n d k) (esz P T) (Yb (ev s ix)) (ev s x):=by
 show vop P (.indexAddr T x ix) s (Yn n d k)=_
 simp only [vop]
 unfold esz
 generalize ev s x=v
 generalize Yb (ev s ix)=u
 cases P.underlying T with
 |none=>cases v<;>first|rfl|(cases u<;>first|rfl|(rename_i y;cases y<;>rfl))
 |some D=>
  cases D with
  |slice e=>
   simp only
   cases u with
   |none=>generalize tsz P e=z;cases z<;>cases v<;>rfl
   |some y=>
    cases y with
    |int q i=>
     simp only
     generalize tsz P e=z
     cases z with
     |none=>cases v<;>rfl
     |some z=>
      cases v<;>first|rfl|skip
      rename_i j
      simp only [via]
      generalize s.mem[j]?=y
      cases y with
      |none=>rfl
      |some y=>cases y<;>rfl
    | _=>generalize tsz P e=z;cases z<;>cases v<;>rfl
  | _=>cases v<;>first|rfl|(cases u<;>first|rfl|(rename_i y;cases y<;>rfl))
@[go_sem] theorem via_s {k:AV→VS→Prop} {z sz' m:Nat} {f:Nat→List AV} {q:IntKind} {i:Int}:via s k (some z) (some (.int q i)) (.sl sz' m f)=(sz'=z∧0≤i∧i<m∧k (.bptr (f i.toNat)) s):=_root_.id rfl
@[go_sem] theorem via_u {k:AV→VS→Prop} {z j sz' lo m:Nat} {q:IntKind} {i:Int}:via s k (some z) (some (.int q i)) (.sub j sz' lo m)=(sz'=z∧0≤i∧i<m∧k (.ptr j z (lo+i.toNat) 0) s):=_root_.id rfl
def Zm1 (s:VS) (k:AV→VS→Prop) (z j:Nat) (i:Int):Option (Option Ob)→Prop
 |some (some ob)=>ob.sz=z∧0≤i∧i<ob.n∧k (.ptr j z i.toNat 0) s
 | _=>False
@[go_sem] theorem via_o {k:AV→VS→Prop} {z j:Nat} {q:IntKind} {i:Int}:via s k (some z) (some (.int q i)) (.own j)=Zm1 s k z j i (s.mem[j]?):=by
 simp only [via]
 generalize s.mem[j]?=v
 cases v with
 |none=>rfl
 |some v=>cases v<;>rfl
@[go_sem] theorem viaO_s {k:AV→VS→Prop} {z j:Nat} {i:Int} {ob:Ob}:Zm1 s k z j i (some (some ob))=(ob.sz=z∧0≤i∧i<ob.n∧k (.ptr j z i.toNat 0) s):=_root_.id rfl
end
end
end Go.Proofs.YtadghlfkddkelaaGreatDoor.V
namespace Go.Proofs.YtadghlfkddkelaaGreatDoor.V
open Go.RowKit
section
variable {P:Program} {n:Nat} {s:VS} {K:VX→VS→Prop} {k:VS→Prop} {all r:List Oper} {d:Option Tmp} {ty:TypeId} {ps:String} {af:Array Edge} {g:Option (Nat×Bool)}
def vix (s:VS) (k:AV→VS→Prop) (T:Option TypeDesc) (x ix:Option Value):Prop:=match T,x,ix with
 |some .string,some (.string z),some (.int q i)=>0≤i∧i<z.size∧k (.lit (.int .u8 (Ze z i.toNat))) s
 | _,_,_=>False
@[go_sem] theorem vs_ix {T:TypeId} {x ix:Operand}:ZR P n ⟨d,.index T x ix,ty,ps,af,g⟩ s k=vix s (Yn n d k) (P.underlying T) (Yb (ev s x)) (Yb (ev s ix)):=_root_.id rfl
@[go_sem] theorem vix_s {k:AV→VS→Prop} {z:ByteArray} {q:IntKind} {i:Int}:vix s k (some .string) (some (.string z)) (some (.int q i))=(0≤i∧i<z.size∧k (.lit (.int .u8 (Ze z i.toNat))) s):=_root_.id rfl
def vsl (P:Program) (s:VS) (k:AV→VS→Prop) (lo hi:Option Operand) (T:Option TypeDesc) (av:AV):Prop:=match T,av,Yl s 0 lo with
 |some .string,.lit (.string z),some l=>match Yl s z.size hi with
  |some h=>0≤l∧l≤h∧h≤z.size∧k (.lit (.string (z.extract l.toNat h.toNat))) s
  |none=>False
 |some (.slice e),.sl sz n f,some l=>match Yl s n hi with
  |some h=>tsz P e=some sz∧0≤l∧l≤h∧h≤n∧k (.sl sz (h.toNat-l.toNat) (fun i=>f (l.toNat+i))) s
  |none=>False
 |some (.slice e),.own j,some l=>match s.mem[j]? with
  |some (some ob)=>match Yl s ob.n hi with
   |some h=>tsz P e=some ob.sz∧0≤l∧l≤h∧h≤ob.n∧k (.sub j ob.sz l.toNat (h.toNat-l.toNat)) s
   |none=>False
  | _=>False
 |some (.slice e),.sub j sz lo0 m,some l=>match Yl s m hi with
  |some h=>tsz P e=some sz∧0≤l∧l≤h∧h≤m∧k (.sub j sz (lo0+l.toNat) (h.toNat-l.toNat)) s
  |none=>False
 | _,_,_=>False
@[go_sem] theorem vs_sl {T:TypeId} {x:Operand} {lo hi:Option Operand}:ZR P n ⟨d,.slice T x lo hi none,ty,ps,af,g⟩ s k=vsl P s (Yn n d k) lo hi (P.underlying T) (ev s x):=_root_.id rfl
def Zh5 (P:Program) (s:VS) (k:AV→VS→Prop):AV→Option TypeDesc→Option Int→Option Int→Prop
 | .lit (.string z),some .string,some l,some h=>0≤l∧l≤h∧h≤z.size∧k (.lit (.string (z.extract l.toNat h.toNat))) s
 | .sl sz n f,some (.slice e),some l,some h=>tsz P e=some sz∧0≤l∧l≤h∧h≤n∧k (.sl sz (h.toNat-l.toNat) (fun i=>f (l.toNat+i))) s
 | _,_,_,_=>False
def Zmq (P:Program) (s:VS) (k:AV→VS→Prop) (j sz lo0 m:Nat) (e:TypeId):Option Int→Option Int→Prop
 |some l,some h=>tsz P e=some sz∧0≤l∧l≤h∧h≤m∧k (.sub j sz (lo0+l.toNat) (h.toNat-l.toNat)) s
 | _,_=>False
@[go_sem] theorem vsl_u {k:AV→VS→Prop} {lo hi:Option Operand} {e:TypeId} {j sz lo0 m:Nat}:vsl P s k lo hi (some (.slice e)) (.sub j sz lo0 m)=Zmq P s k j sz lo0 m e (Yl s 0 lo) (Yl s m hi):=by
 cases h1:Yl s 0 lo<;>cases h2:Yl s m hi<;>simp only [vsl,Zmq,h1,h2]
@[go_sem] theorem vslU_s {k:AV→VS→Prop} {j sz lo0 m:Nat} {e:TypeId} {l h:Int}:Zmq P s k j sz lo0 m e (some l) (some h)=(tsz P e=some sz∧0≤l∧l≤h∧h≤m∧k (.sub j sz (lo0+l.toNat) (h.toNat-l.toNat)) s):=_root_.id rfl
def Zll (P:Program) (s:VS) (k:AV→VS→Prop) (j:Nat) (hi:Option Operand):Option (Option Ob)→Option TypeDesc→Option Int→Prop
 |some (some ob),some (.slice e),some l=>match Yl s ob.n hi with
  |some h=>tsz P e=some ob.sz∧0≤l∧l≤h∧h≤ob.n∧k (.sub j ob.sz l.toNat (h.toNat-l.toNat)) s
  |none=>False
 | _,_,_=>False
@[go_sem] theorem vsl_str {k:AV→VS→Prop} {lo hi:Option Operand} {z:ByteArray}:vsl P s k lo hi (some .string) (.lit (.string z))=Zh5 P s k (.lit (.string z)) (some .string) (Yl s 0 lo) (Yl s z.size hi):=by
 cases h1:Yl s 0 lo<;>cases h2:Yl s z.size hi<;>simp only [vsl,Zh5,h1,h2]
@[go_sem] theorem vsl_sl {k:AV→VS→Prop} {lo hi:Option Operand} {e:TypeId} {sz m:Nat} {f:Nat→List AV}:vsl P s k lo hi (some (.slice e)) (.sl sz m f)=Zh5 P s k (.sl sz m f) (some (.slice e)) (Yl s 0 lo) (Yl s m hi):=by
 cases h1:Yl s 0 lo<;>cases h2:Yl s m hi<;>simp only [vsl,Zh5,h1,h2]
@[go_sem] theorem vsl_o {k:AV→VS→Prop} {lo hi:Option Operand} {e:TypeId} {j:Nat}:vsl P s k lo hi (some (.slice e)) (.own j)=Zll P s k j hi (s.mem[j]?) (some (.slice e)) (Yl s 0 lo):=by
 cases h1:Yl s 0 lo<;>cases h2:s.mem[j]?<;>simp only [vsl,Zll,h1,h2]<;>rename_i y<;>cases y<;>simp only
@[go_sem] theorem vsl1_str {k:AV→VS→Prop} {z:ByteArray} {l h:Int}:Zh5 P s k (.lit (.string z)) (some .string) (some l) (some h)=(0≤l∧l≤h∧h≤z.size∧k (.lit (.string (z.extract l.toNat h.toNat))) s):=_root_.id rfl
@[go_sem] theorem vsl1_sl {k:AV→VS→Prop} {e:TypeId} {sz m:Nat} {f:Nat→List AV} {l h:Int}:Zh5 P s k (.sl sz m f) (some (.slice e)) (some l) (some h)=(tsz P e=some sz∧0≤l∧l≤h∧h≤m∧k (.sl sz (h.toNat-l.toNat) (fun i=>f (l.toNat+i))) s):=_root_.id rfl
def Zmr (P:Program) (s:VS) (k:AV→VS→Prop) (j:Nat) (ob:Ob) (e:TypeId) (l:Int):Option Int→Prop
 |some h=>tsz P e=some ob.sz∧0≤l∧l≤h∧h≤ob.n∧k (.sub j ob.sz l.toNat (h.toNat-l.toNat)) s
 |none=>False
@[go_sem] theorem vslO_s {k:AV→VS→Prop} {j:Nat} {hi:Option Operand} {ob:Ob} {e:TypeId} {l:Int}:Zll P s k j hi (some (some ob)) (some (.slice e)) (some l)=Zmr P s k j ob e l (Yl s ob.n hi):=by
 cases h:Yl s ob.n hi<;>simp only [Zll,Zmr,h]
@[go_sem] theorem vslH_s {k:AV→VS→Prop} {j:Nat} {ob:Ob} {e:TypeId} {l h:Int}:Zmr P s k j ob e l (some h)=(tsz P e=some ob.sz∧0≤l∧l≤h∧h≤ob.n∧k (.sub j ob.sz l.toNat (h.toNat-l.toNat)) s):=_root_.id rfl
def Zkl:Option Value→Option Int
 |some (.int _ n)=>some n
 | _=>none
@[go_sem] theorem optInt_n {e:Int}:Yl s e none=some e:=_root_.id rfl
@[go_sem] theorem optInt_s {e:Int} {x:Operand}:Yl s e (some x)=Zkl (Yb (ev s x)):=by
 simp only [Yl]
 generalize Yb (ev s x)=y
 cases y with
 |none=>rfl
 |some y=>cases y<;>rfl
@[go_sem] theorem optVal_i {q:IntKind} {i:Int}:Zkl (some (.int q i))=some i:=_root_.id rfl
def ZjG (P:Program) (s:VS) (k:AV→VS→Prop):Option (TypeId×Nat)→AV→Prop
 |some (ft,off),.agg cs=>vrd s k (XU P ft) (tsz P ft) cs off
 | _,_=>False
@[go_sem] theorem vs_field {T:TypeId} {x:Operand} {f:Nat}:ZR P n ⟨d,.field T x f,ty,ps,af,g⟩ s k=ZjG P s (Yn n d k) (WK P T f) (ev s x):=by
 show vop P (.field T x f) s (Yn n d k)=_
 simp only [vop]
 generalize ev s x=v
 generalize WK P T f=o
 cases o<;>cases v<;>rfl
@[go_sem] theorem vfield_s {k:AV→VS→Prop} {ft off:Nat} {cs:List AV}:ZjG P s k (some (ft,off)) (.agg cs)=vrd s k (XU P ft) (tsz P ft) cs off:=_root_.id rfl
def ZjO (P:Program) (s:VS) (k:AV→VS→Prop) (b:BinOp) (T:TypeId) (x y:Operand):Option Value→Option Value→Prop
 |some vx,some vy=>∃ v,(∀ w,(do eqGuard b T x y vx vy;binOp b T vx vy:Sem Value).run P w=.ok v w)∧k (.lit v) s
 | _,_=>False
def ZjN (P:Program) (s:VS) (k:AV→VS→Prop) (b:BinOp) (T:TypeId) (x y:Operand):AV→AV→Prop
 | .ptr k0 sz i j,ay=>Zjv P b T s k k0 sz i j ay
 | .sl _ m _,ay=>Zae P b T s k m ay
 |ax,ay=>ZjO P s k b T x y (Yb ax) (Yb ay)
@[go_sem] theorem vs_bin {b:BinOp} {T T2:TypeId} {x y:Operand}:ZR P n ⟨d,.binOp b T x y T2,ty,ps,af,g⟩ s k=ZjN P s (Yn n d k) b T x y (ev s x) (ev s y):=by
 have h0:QL P (.binOp b T x y T2) s (Yn n d k)=ZjO P s (Yn n d k) b T x y (Yb (ev s x)) (Yb (ev s y)):=by
  show vop P (.binOp b T x y T2) s (Yn n d k)=_
  simp only [vop]
  generalize Yb (ev s x)=u
  generalize Yb (ev s y)=v
  cases u<;>cases v<;>rfl
 show UU P (.binOp b T x y T2) s (Yn n d k)=_
 simp only [UU,h0]
 generalize ev s x=u
 cases u<;>rfl
@[go_sem] theorem vbinA_lit {k:AV→VS→Prop} {b:BinOp} {T:TypeId} {x y:Operand} {v:Value} {ay:AV}:ZjN P s k b T x y (.lit v) ay=ZjO P s k b T x y (some v) (Yb ay):=_root_.id rfl
@[go_sem] theorem vbinA_agg {k:AV→VS→Prop} {b:BinOp} {T:TypeId} {x y:Operand} {cs:List AV} {ay:AV}:ZjN P s k b T x y (.agg cs) ay=ZjO P s k b T x y (Yb (.agg cs)) (Yb ay):=_root_.id rfl
@[go_sem] theorem vbin_s {k:AV→VS→Prop} {b:BinOp} {T:TypeId} {x y:Operand} {vx vy:Value}:ZjO P s k b T x y (some vx) (some vy)=∃ v,(∀ w,(do eqGuard b T x y vx vy;binOp b T vx vy:Sem Value).run P w=.ok v w)∧k (.lit v) s:=_root_.id rfl
def vun (P:Program) (s:VS) (k:AV→VS→Prop) (b:UnOp):Option Value→Prop
 |some vx=>∃ v,(∀ w,(Op.unary b vx).run P w=.ok v w)∧k (.lit v) s
 | _=>False
@[go_sem] theorem vs_un {b:UnOp} {T:TypeId} {x:Operand}:ZR P n ⟨d,.unOp b T x,ty,ps,af,g⟩ s k=vun P s (Yn n d k) b (Yb (ev s x)):=by
 show vop P (.unOp b T x) s (Yn n d k)=_
 simp only [vop]
 generalize Yb (ev s x)=u
 cases u<;>rfl
@[go_sem] theorem vun_s {k:AV→VS→Prop} {b:UnOp} {vx:Value}:vun P s k b (some vx)=∃ v,(∀ w,(Op.unary b vx).run P w=.ok v w)∧k (.lit v) s:=_root_.id rfl
def Zhj (P:Program) (s:VS) (k:AV→VS→Prop) (a b:TypeId):Option Value→Prop
 |some vx=>∃ v,(∀ w,(convert a b vx).run P w=.ok v w)∧k (.lit v) s
 | _=>False
def KW (P:Program) (s:VS) (k:AV→VS→Prop) (a b:TypeId) (av:AV):Option TypeDesc→Option TypeDesc→Prop
 |some .string,some (.slice e)=>ZcZ P e s k av
 |some (.slice e),some .string=>UV P e s k av
 | _,_=>Zhj P s k a b (Yb av)
def Zf9 (P:Program) (s:VS) (k:AV→VS→Prop) (a b:TypeId):AV→Prop
 | .ptr k0 sz i j=>KV P a b s k k0 sz i j
 |av=>KW P s k a b av (P.underlying a) (P.underlying b)
@[go_sem] theorem vs_conv {a b:TypeId} {x:Operand}:ZR P n ⟨d,.convert a b x,ty,ps,af,g⟩ s k=Zf9 P s (Yn n d k) a b (ev s x):=by
 have h0:Zjw P (.convert a b x) s (Yn n d k)=Zhj P s (Yn n d k) a b (Yb (ev s x)):=by
  show vop P (.convert a b x) s (Yn n d k)=_
  simp only [vop]
  generalize Yb (ev s x)=u
  cases u<;>rfl
 have h1:QL P (.convert a b x) s (Yn n d k)=KW P s (Yn n d k) a b (ev s x) (P.underlying a) (P.underlying b):=by
  simp only [QL,h0]
  generalize P.underlying a=u
  generalize P.underlying b=v
  cases u with
  |none=>rfl
  |some u=>cases v with
   |none=>cases u<;>rfl
   |some v=>cases u<;>cases v<;>rfl
 show UU P (.convert a b x) s (Yn n d k)=_
 simp only [UU,h1]
 generalize ev s x=u
 cases u<;>rfl
@[go_sem] theorem vconvA_lit {k:AV→VS→Prop} {a b:TypeId} {v:Value}:Zf9 P s k a b (.lit v)=KW P s k a b (.lit v) (P.underlying a) (P.underlying b):=_root_.id rfl
@[go_sem] theorem vconvA_own {k:AV→VS→Prop} {a b:TypeId} {j:Nat}:Zf9 P s k a b (.own j)=KW P s k a b (.own j) (P.underlying a) (P.underlying b):=_root_.id rfl
@[go_sem] theorem vconvU_i {k:AV→VS→Prop} {a b:TypeId} {v:Value} {q q':IntKind}:KW P s k a b (.lit v) (some (.int q)) (some (.int q'))=Zhj P s k a b (some v):=_root_.id rfl
@[go_sem] theorem vconvU_sb {k:AV→VS→Prop} {a b e:TypeId} {z:ByteArray}:KW P s k a b (.lit (.string z)) (some .string) (some (.slice e))=(P.underlying e=some (.int .u8)∧z.size≤140737488355328∧k (.own s.mem.length) { s with mem:=s.mem++[some ⟨e+Wd,1,z.size,Yd z⟩] }):=_root_.id rfl
@[go_sem] theorem vconvU_bs {k:AV→VS→Prop} {a b e:TypeId} {av:AV}:KW P s k a b av (some (.slice e)) (some .string)=UV P e s k av:=_root_.id rfl
def Zf8 (P:Program) (e:TypeId) (s:VS) (k:AV→VS→Prop):Option (Nat×(Nat→List AV))→Prop
 |some (n,f)=>P.underlying e=some (.int .u8)∧∃ z:ByteArray,z.size=n∧(∀ i,i<n→f i=Yd z i)∧k (.lit (.string z)) s
 |none=>False
@[go_sem] theorem vconvB_ {k:AV→VS→Prop} {e:TypeId} {av:AV}:UV P e s k av=Zf8 P e s k (ZY s.mem 1 av):=by
 unfold UV Zf8
 cases ZY s.mem 1 av<;>rfl
@[go_sem] theorem vconvC_s {k:AV→VS→Prop} {e:TypeId} {m:Nat} {f:Nat→List AV}:Zf8 P e s k (some (m,f))=(P.underlying e=some (.int .u8)∧∃ z:ByteArray,z.size=m∧(∀ i,i<m→f i=Yd z i)∧k (.lit (.string z)) s):=_root_.id rfl
def Zf0 (s:VS) (k:AV→VS→Prop) (e:TypeId):Option (Value×Nat×Nat)→Option Value→Option Value→Prop
 |some (z,sz,by_),some (.int _ l),some (.int _ c)=>l≤c∧0≤l∧z.cells.size=sz∧0<sz∧(z.cells.toList.all fun v=>v.oneCell')=true∧(by_:Int)*c≤281474976710656∧c≤9223372036854775807∧
    k (.own s.mem.length) { s with mem:=s.mem++[some ⟨e,sz,l.toNat,fun _=>z.cells.toList.map .lit⟩] }
 | _,_,_=>False
def ZjA (P:Program) (s:VS) (k:AV→VS→Prop) (x y:Option Value):Option TypeDesc→Prop
 |some (.slice e)=>Zf0 s k e (Yq P e) x y
 | _=>False
@[go_sem] theorem vs_make {t:TypeId} {x y:Operand}:ZR P n ⟨d,.makeSlice t x y,ty,ps,af,g⟩ s k=ZjA P s (Yn n d k) (Yb (ev s x)) (Yb (ev s y)) (P.underlying t):=by
 show Zd8 P t x y s (Yn n d k)=_
 unfold Zd8
 generalize Yb (ev s x)=u
 generalize Yb (ev s y)=v
 cases P.underlying t with
 |none=>rfl
 |some D=>
  cases D<;>rfl
@[go_sem] theorem vmakeU_s {k:AV→VS→Prop} {x y:Option Value} {e:TypeId}:ZjA P s k x y (some (.slice e))=Zf0 s k e (Yq P e) x y:=_root_.id rfl
@[go_sem] theorem vmakeK_s {k:AV→VS→Prop} {e:TypeId} {z:Value} {sz by_:Nat} {q q':IntKind} {l c:Int}:Zf0 s k e (some (z,sz,by_)) (some (.int q l)) (some (.int q' c))=(l≤c∧0≤l∧z.cells.size=sz∧0<sz∧(z.cells.toList.all fun v=>v.oneCell')=true∧(by_:Int)*c≤281474976710656∧c≤9223372036854775807∧
    k (.own s.mem.length) { s with mem:=s.mem++[some ⟨e,sz,l.toNat,fun _=>z.cells.toList.map .lit⟩] }):=_root_.id rfl
@[go_sem] theorem vconv_s {k:AV→VS→Prop} {a b:TypeId} {vx:Value}:Zhj P s k a b (some vx)=∃ v,(∀ w,(convert a b vx).run P w=.ok v w)∧k (.lit v) s:=_root_.id rfl
def Zm2 (s:VS) (k:AV→VS→Prop) (i:Nat):AV→Prop
 | .tup vs=>i<vs.length∧k (vs.getD i .undef) s
 | _=>False
@[go_sem] theorem vs_ext {x:Operand} {i:Nat}:ZR P n ⟨d,.extract x i,ty,ps,af,g⟩ s k=Zm2 s (Yn n d k) i (ev s x):=by
 show vop P (.extract x i) s (Yn n d k)=_
 simp only [vop]
 generalize ev s x=u
 cases u<;>rfl
@[go_sem] theorem vext_s {k:AV→VS→Prop} {i:Nat} {vs:List AV}:Zm2 s k i (.tup vs)=(i<vs.length∧k (vs.getD i .undef) s):=_root_.id rfl
def Zms (s:VS) (k:AV→VS→Prop):AV→Prop
 | .ptr j sz i c=>k (.ptr j sz i c) s
 | .bptr cs=>k (.bptr cs) s
 | _=>False
@[go_sem] theorem vs_nil {x:Operand}:ZR P n ⟨d,.nilCheck x,ty,ps,af,g⟩ s k=Zms s (Yn n d k) (ev s x):=by
 show vop P (.nilCheck x) s (Yn n d k)=_
 simp only [vop]
 generalize ev s x=u
 cases u<;>rfl
@[go_sem] theorem vnil_p {k:AV→VS→Prop} {j sz i c:Nat}:Zms s k (.ptr j sz i c)=k (.ptr j sz i c) s:=_root_.id rfl
@[go_sem] theorem vnil_b {k:AV→VS→Prop} {cs:List AV}:Zms s k (.bptr cs)=k (.bptr cs) s:=_root_.id rfl
def QM (P:Program) (s:VS) (k:AV→VS→Prop) (av:AV):Option Nat→Option TypeDesc→Prop
 |some n,some .string=>(∃ z,av=.lit (.string z))∧k (.lit (.int .i64 n)) s
 |some n,some (.slice _)=>(∀ z,av≠.lit (.string z))∧n≤9223372036854775807∧k (.lit (.int .i64 n)) s
 | _,_=>False
theorem Zlm {x:Operand} {t:TypeId} {k:AV→VS→Prop}:(match WM s.mem (ev s x),P.underlying t with
 |some n,some .string=>(∃ z,ev s x=.lit (.string z))∧k (.lit (.int .i64 n)) s
 |some n,some (.slice _)=>(∀ z,ev s x≠.lit (.string z))∧n≤9223372036854775807∧k (.lit (.int .i64 n)) s
 | _,_=>False)=QM P s k (ev s x) (WM s.mem (ev s x)) (P.underlying t):=by
 generalize WM s.mem (ev s x)=u
 generalize P.underlying t=v
 cases u<;>cases v<;>first|rfl|(rename_i y;cases y<;>rfl)
def Zeb (P:Program) (t:TypeId) (s:VS) (k:AV→VS→Prop) (av:AV):Bool→Prop
 |true=>H7 P t s k av
 |false=>QM P s k av (WM s.mem av) (P.underlying t)
@[go_sem] theorem vs_len {x:Operand} {t:TypeId}:ZR P n ⟨d,.call { callee:=.builtin .len,args:=#[x],argTypes:=#[t] },ty,ps,af,g⟩ s k=Zeb P t s (Yn n d k) (ev s x) (XO P t):=by
 show ((XO P t=true∧H7 P t s (Yn n d k) (ev s x))∨(XO P t=false∧Zec P x t s (Yn n d k)))=_
 cases XO P t with
 |true=>simp [Zeb]
 |false=>simp [Zeb];unfold Zec;exact Iff.of_eq (Zlm)
@[go_sem] theorem vlenB_t {t:TypeId} {k:AV→VS→Prop} {av:AV}:Zeb P t s k av true=H7 P t s k av:=_root_.id rfl
@[go_sem] theorem vlenB_f {t:TypeId} {k:AV→VS→Prop} {av:AV}:Zeb P t s k av false=QM P s k av (WM s.mem av) (P.underlying t):=_root_.id rfl
@[go_sem] theorem vlenK_str {k:AV→VS→Prop} {m:Nat} {z:ByteArray}:QM P s k (.lit (.string z)) (some m) (some .string)=k (.lit (.int .i64 m)) s:=by
 simp [QM]
@[go_sem] theorem vlenK_sl {k:AV→VS→Prop} {m sz l:Nat} {f:Nat→List AV} {e:TypeId}:QM P s k (.sl sz l f) (some m) (some (.slice e))=(m≤9223372036854775807∧k (.lit (.int .i64 m)) s):=by
 simp [QM]
@[go_sem] theorem vlenK_own {k:AV→VS→Prop} {m j:Nat} {e:TypeId}:QM P s k (.own j) (some m) (some (.slice e))=(m≤9223372036854775807∧k (.lit (.int .i64 m)) s):=by
 simp [QM]
@[go_sem] theorem vlenK_sub {k:AV→VS→Prop} {m j sz lo l:Nat} {e:TypeId}:QM P s k (.sub j sz lo l) (some m) (some (.slice e))=(m≤9223372036854775807∧k (.lit (.int .i64 m)) s):=by
 simp [QM]
def ZjQ (s:VS) (k:AV→VS→Prop) (e:TypeId) (z:Value) (sz by_:Nat) (x y:AV):Option (List (Option Ob)×Nat×(Nat→List AV))→Option (Nat×(Nat→List AV))→Prop
 |some (mem,n,f),some (m,g)=>y≠x∧(∀ i,i<m→(g i).all Xg=true)∧n+m≤9223372036854775807∧(n+m)*by_≤140737488355328∧k (.own s.mem.length) { s with mem:=mem++[some ⟨e,sz,n+m,ZH n f g⟩] }
 | _,_=>False
def ZjP (P:Program) (s:VS) (k:AV→VS→Prop) (e:TypeId) (x y:AV):Option (Value×Nat×Nat)→Prop
 |some (z,sz,by_)=>z.cells.size=sz∧0<sz∧ZjQ s k (QH s.mem e x) z sz by_ x y (JM s.mem (QH s.mem e x) sz x) (ZY s.mem sz y)
 |none=>False
def Zho (P:Program) (s:VS) (k:AV→VS→Prop) (x y:AV):Option TypeDesc→Prop
 |some (.slice e)=>ZjP P s k e x y (Yq P e)
 | _=>False
@[go_sem] theorem vs_clear {x:Operand} {t:TypeId}:ZR P n ⟨d,.call { callee:=.builtin .clear,args:=#[x],argTypes:=#[t] },ty,ps,af,g⟩ s k=Zaq P t s (Yn n d k) (ev s x):=_root_.id rfl
@[go_sem] theorem vclear_s {t:TypeId} {j sz lo m:Nat} {k:AV→VS→Prop}:Zaq P t s k (.sub j sz lo m)=(match P.underlying t,s.mem[j]? with
  |some (.slice e),some (some ob)=>sz=1∧ob.sz=1∧lo+m≤ob.n∧∃ z,W7 P e z∧z.cells=#[z]∧z.oneCell'=true∧k (.tup []) { s with mem:=s.mem.set j (some { ob with f:=W5 ob.f lo m z }) }
  | _,_=>False):=_root_.id rfl
@[go_sem] theorem vs_min {x y:Operand} {t t':TypeId}:ZR P n ⟨d,.call { callee:=.builtin .min,args:=#[x,y],argTypes:=#[t,t'] },ty,ps,af,g⟩ s k=Zjy s (Yn n d k) (ev s x) (ev s y):=_root_.id rfl
@[go_sem] theorem vmin_i {k:AV→VS→Prop} {q q':IntKind} {i j:Int}:Zjy s k (.lit (.int q i)) (.lit (.int q' j))=k (.lit (.int q (if j<i then j else i))) s:=_root_.id rfl
def Zgb (s:VS) (k:AV→VS→Prop) (e:TypeId) (j sz lo m:Nat):Option (Value×Nat×Nat)→Option (Option Ob)→Option (Nat×(Nat→List AV))→Prop
 |some (z,sz',by_),some (some ob),some (M,g)=>z.cells.size=sz'∧0<sz'∧sz'=sz∧ob.ty=e∧ob.sz=sz∧lo+m=ob.n∧0<M∧(∀ i,i<M→(g i).all Xg=true)∧ob.n+M≤9223372036854775807∧(ob.n+M)*by_≤140737488355328∧
   k (.sub s.mem.length sz lo (m+M)) { s with mem:=s.mem.set j none++[some ⟨e,sz,ob.n+M,ZH ob.n ob.f g⟩] }∧
   k (.sub s.mem.length sz 0 (m+M)) { s with mem:=s.mem.set j none++[some ⟨e,sz,m+M,ZH m (fun i=>ob.f (lo+i)) g⟩] }
 | _,_,_=>False
def Zc4 (P:Program) (s:VS) (k:AV→VS→Prop) (j sz lo m:Nat) (c:Option (Nat×(Nat→List AV))):Option TypeDesc→Prop
 |some (.slice e)=>Zgb s k e j sz lo m (Yq P e) (s.mem[j]?) c
 | _=>False
def Zeg (P:Program) (s:VS) (k:AV→VS→Prop) (t t':TypeId) (ay:AV):AV→Prop
 | .sub j sz lo m=>t=t'∧Zc4 P s k j sz lo m (ZY s.mem sz ay) (P.underlying t)
 |ax=>t=t'∧Zho P s k ax ay (P.underlying t)
def ZjR (P:Program) (s:VS) (k:AV→VS→Prop) (x:Operand) (t t':TypeId) (ax:AV):AV→Prop
 | .lit (.string z)=>Zhn P x z t t' s k
 |ay=>Zeg P s k t t' ay ax
@[go_sem] theorem vs_app {x y:Operand} {t t':TypeId}:ZR P n ⟨d,.call { callee:=.builtin .append,args:=#[x,y],argTypes:=#[t,t'] },ty,ps,af,g⟩ s k=ZjR P s (Yn n d k) x t t' (ev s x) (ev s y):=by
 have h0:QL P (.call { callee:=.builtin .append,args:=#[x,y],argTypes:=#[t,t'] }) s (Yn n d k)=(t=t'∧Zho P s (Yn n d k) (ev s x) (ev s y) (P.underlying t)):=by
  show ZjS P x y t t' s (Yn n d k)=_
  unfold ZjS
  generalize ev s x=u
  generalize ev s y=v
  cases P.underlying t with
  |none=>rfl
  |some D=>
   cases D<;>rfl
 have h1:∀ (K:AV→VS→Prop) j sz lo m,Zef P y t t' s K j sz lo m=(t=t'∧Zc4 P s K j sz lo m (ZY s.mem sz (ev s y)) (P.underlying t)):=fun K j sz lo m=>by
  unfold Zef
  congr 1
 show UU P (.call { callee:=.builtin .append,args:=#[x,y],argTypes:=#[t,t'] }) s (Yn n d k)=_
 simp only [UU,h0,h1]
 generalize ev s y=u
 generalize ev s x=v
 cases u with
 |lit u=>cases u<;>first|rfl|(cases v<;>rfl)
 | _=>cases v<;>rfl
@[go_sem] theorem vappG_own {k:AV→VS→Prop} {x:Operand} {t t':TypeId} {ax:AV} {j:Nat}:ZjR P s k x t t' ax (.own j)=Zeg P s k t t' (.own j) ax:=_root_.id rfl
@[go_sem] theorem vappG_sl {k:AV→VS→Prop} {x:Operand} {t t':TypeId} {ax:AV} {sz l:Nat} {f:Nat→List AV}:ZjR P s k x t t' ax (.sl sz l f)=Zeg P s k t t' (.sl sz l f) ax:=_root_.id rfl
@[go_sem] theorem vappW_own {k:AV→VS→Prop} {t t':TypeId} {ay:AV} {j:Nat}:Zeg P s k t t' ay (.own j)=(t=t'∧Zho P s k (.own j) ay (P.underlying t)):=_root_.id rfl
@[go_sem] theorem vappW_sub {k:AV→VS→Prop} {t t':TypeId} {ay:AV} {j sz lo m:Nat}:Zeg P s k t t' ay (.sub j sz lo m)=(t=t'∧Zc4 P s k j sz lo m (ZY s.mem sz ay) (P.underlying t)):=_root_.id rfl
@[go_sem] theorem vappuU_s {k:AV→VS→Prop} {j sz lo m:Nat} {c:Option (Nat×(Nat→List AV))} {e:TypeId}:Zc4 P s k j sz lo m c (some (.slice e))=Zgb s k e j sz lo m (Yq P e) (s.mem[j]?) c:=_root_.id rfl
@[go_sem] theorem vappuT_s {k:AV→VS→Prop} {e:TypeId} {j sz lo m:Nat} {z:Value} {sz' by_:Nat} {ob:Ob} {M:Nat} {g:Nat→List AV}:Zgb s k e j sz lo m (some (z,sz',by_)) (some (some ob)) (some (M,g))=(z.cells.size=sz'∧0<sz'∧sz'=sz∧ob.ty=e∧ob.sz=sz∧lo+m=ob.n∧0<M∧(∀ i,i<M→(g i).all Xg=true)∧ob.n+M≤9223372036854775807∧(ob.n+M)*by_≤140737488355328∧
   k (.sub s.mem.length sz lo (m+M)) { s with mem:=s.mem.set j none++[some ⟨e,sz,ob.n+M,ZH ob.n ob.f g⟩] }∧
   k (.sub s.mem.length sz 0 (m+M)) { s with mem:=s.mem.set j none++[some ⟨e,sz,m+M,ZH m (fun i=>ob.f (lo+i)) g⟩] }):=_root_.id rfl
@[go_sem] theorem vappU_s {k:AV→VS→Prop} {x y:AV} {e:TypeId}:Zho P s k x y (some (.slice e))=ZjP P s k e x y (Yq P e):=_root_.id rfl
@[go_sem] theorem vappT_s {k:AV→VS→Prop} {x y:AV} {e:TypeId} {z:Value} {sz by_:Nat}:ZjP P s k e x y (some (z,sz,by_))=(z.cells.size=sz∧0<sz∧ZjQ s k (QH s.mem e x) z sz by_ x y (JM s.mem (QH s.mem e x) sz x) (ZY s.mem sz y)):=_root_.id rfl
@[go_sem] theorem vappK_s {k:AV→VS→Prop} {x y:AV} {e:TypeId} {z:Value} {sz by_:Nat} {mem:List (Option Ob)} {l m:Nat} {f h:Nat→List AV}:ZjQ s k e z sz by_ x y (some (mem,l,f)) (some (m,h))=(y≠x∧(∀ i,i<m→(h i).all Xg=true)∧l+m≤9223372036854775807∧(l+m)*by_≤140737488355328∧k (.own s.mem.length) { s with mem:=mem++[some ⟨e,sz,l+m,ZH l f h⟩] }):=_root_.id rfl
def ZjC (s:VS) (k:AV→VS→Prop) (e:TypeId) (len:Nat):Option (Value×Nat×Nat)→Option (List (List AV))→Prop
 |some (z,sz,_),some css=>z.cells.size=sz∧0<sz∧css.length=len∧len*sz≤16777216∧(∀ c∈css,c.length=sz∧c.all Xg=true)∧k (.own s.mem.length) { s with mem:=s.mem++[some ⟨e,sz,len,fun i=>css.getD i []⟩] }
 | _,_=>False
def Zmf (P:Program) (s:VS) (k:AV→VS→Prop) (len:Nat) (css:Option (List (List AV))):Option TypeDesc→Prop
 |some (.slice e)=>ZjC s k e len (Yq P e) css
 | _=>False
@[go_sem] theorem vs_lit {t:TypeId} {len:Nat} {l:List (Nat×Operand)}:ZR P n ⟨d,.buildSlice t len l.toArray,ty,ps,af,g⟩ s k=Zmf P s (Yn n d k) len (Wq s l 0) (P.underlying t):=by
 show H8 P t len l s (Yn n d k)=_
 unfold H8
 generalize Wq s l 0=q
 cases P.underlying t with
 |none=>rfl
 |some D=>
  cases D<;>rfl
@[go_sem] theorem vlitU_s {k:AV→VS→Prop} {len:Nat} {css:Option (List (List AV))} {e:TypeId}:Zmf P s k len css (some (.slice e))=ZjC s k e len (Yq P e) css:=_root_.id rfl
@[go_sem] theorem vlitK_s {k:AV→VS→Prop} {e:TypeId} {len:Nat} {z:Value} {sz b:Nat} {css:List (List AV)}:ZjC s k e len (some (z,sz,b)) (some css)=(z.cells.size=sz∧0<sz∧css.length=len∧len*sz≤16777216∧(∀ c∈css,c.length=sz∧c.all Xg=true)∧k (.own s.mem.length) { s with mem:=s.mem++[some ⟨e,sz,len,fun i=>css.getD i []⟩] }):=_root_.id rfl
def Zc2 (s:VS) (k:AV→VS→Prop):Option (List AV)→Prop
 |some cells=>k (.agg cells) s
 |none=>False
def Zc1 (P:Program) (s:VS) (k:AV→VS→Prop) (fs:Array Field) (l:List (Nat×Operand)):Option (Value×Nat×Nat)→Prop
 |some (z,_,_)=>UA P fs.toList=true∧Zc2 s k (UH P fs s l (z.cells.toList.map .lit))
 |none=>False
def Zhm (P:Program) (s:VS) (k:AV→VS→Prop) (l:List (Nat×Operand)) (ti:Option (Value×Nat×Nat)):Option TypeDesc→Prop
 |some (.struct fs)=>Zc1 P s k fs l ti
 | _=>False
@[go_sem] theorem vs_build {t:TypeId} {l:List (Nat×Operand)}:ZR P n ⟨d,.build t l.toArray,ty,ps,af,g⟩ s k=Zhm P s (Yn n d k) l (Yq P t) (P.underlying t):=by
 show KZ P t l s (Yn n d k)=_
 unfold KZ
 cases P.underlying t with
 |none=>rfl
 |some D=>
  cases D<;>rfl
@[go_sem] theorem vbuildU_s {k:AV→VS→Prop} {l:List (Nat×Operand)} {ti:Option (Value×Nat×Nat)} {fs:Array Field}:Zhm P s k l ti (some (.struct fs))=Zc1 P s k fs l ti:=_root_.id rfl
@[go_sem] theorem vbuildT_s {k:AV→VS→Prop} {l:List (Nat×Operand)} {fs:Array Field} {z:Value} {sz b:Nat}:Zc1 P s k fs l (some (z,sz,b))=(UA P fs.toList=true∧Zc2 s k (UH P fs s l (z.cells.toList.map .lit))):=_root_.id rfl
@[go_sem] theorem vbuildK_s {k:AV→VS→Prop} {cells:List AV}:Zc2 s k (some cells)=k (.agg cells) s:=_root_.id rfl
def KY (P:Program) (f:FuncId) (avs:List AV) (s:VS) (k:AV→VS→Prop):Prop:=∃ args',V2 s.mem avs args'∧VFun P f args' (GJ s k)
def Wn (P:Program) (f:FuncId) (avs:List AV) (s:VS) (k:AV→VS→Prop):Prop:=KY P f avs s k∨ZjL P f avs s k
@[go_sem] theorem vs_call {f:FuncId} {args:List Operand} {tys:Array TypeId}:ZR P n ⟨d,.call { callee:=.value (.func f),args:=args.toArray,argTypes:=tys },ty,ps,af,g⟩ s k=Wn P f (args.map (ev s)) s (Yn n d k):=_root_.id rfl
def ZjH (P:Program) (s:VS) (k:AV→VS→Prop) (avs:List AV):Option FuncId→Prop
 |some f=>Wn P f avs s k
 |none=>False
def ZjD (P:Program) (s:VS) (k:AV→VS→Prop) (name:String) (avs:List AV):AV→Prop
 | .lit (.iface t v)=>ZjH P s k (.lit v::avs) (XI P t name)
 | _=>False
def ZjF (P:Program) (s:VS) (k:AV→VS→Prop) (avs:List AV):AV→Prop
 | .lit (.func (.func f) first caps)=>Wn P f (first.toList.map .lit++avs++caps.toList.map .lit) s k
 | _=>False
@[go_sem] theorem vs_inv {r:Operand} {name:String} {args:List Operand} {tys:Array TypeId}:ZR P n ⟨d,.call { callee:=.invoke r name,args:=args.toArray,argTypes:=tys },ty,ps,af,g⟩ s k=ZjD P s (Yn n d k) name (args.map (ev s)) (ev s r):=by
 have h0:UU P (.call { callee:=.invoke r name,args:=args.toArray,argTypes:=tys }) s (Yn n d k)=False:=_root_.id rfl
 unfold ZR WB UN WT
 simp only
 generalize ev s r=ar
 cases ar with
 |lit v=>
  cases v with
  |iface t v=>
   simp only [ZjD]
   cases XI P t name with
   |none=>exact h0
   |some f=>rfl
  | _=>exact h0
 | _=>exact h0
@[go_sem] theorem vs_fval {x:Tmp} {args:List Operand} {tys:Array TypeId}:ZR P n ⟨d,.call { callee:=.value (.tmp x),args:=args.toArray,argTypes:=tys },ty,ps,af,g⟩ s k=ZjF P s (Yn n d k) (args.map (ev s)) (lk s.tmps x):=by
 have h0:UU P (.call { callee:=.value (.tmp x),args:=args.toArray,argTypes:=tys }) s (Yn n d k)=False:=_root_.id rfl
 unfold ZR WB UN WT
 simp only [ev]
 generalize lk s.tmps x=ar
 cases ar with
 |lit v=>
  cases v with
  |func fn first caps=>
   cases fn with
   |func f=>
    simp only [ZjF]
    show Zhk P f _ s (Yn n d k)=_
    have e:(first.toList.map Operand.const++args++caps.toList.map Operand.const).map (ev s)=first.toList.map .lit++args.map (ev s)++caps.toList.map .lit:=by
     simp [Function.comp_def,ev]
    unfold Zhk
    rw [e]
    rfl
   | _=>exact h0
  | _=>exact h0
 | _=>exact h0
@[go_sem] theorem vinvA_i {k:AV→VS→Prop} {name:String} {avs:List AV} {t:TypeId} {v:Value}:ZjD P s k name avs (.lit (.iface t v))=ZjH P s k (.lit v::avs) (XI P t name):=_root_.id rfl
@[go_sem] theorem vdynM_s {k:AV→VS→Prop} {avs:List AV} {f:FuncId}:ZjH P s k avs (some f)=Wn P f avs s k:=_root_.id rfl
@[go_sem] theorem vfunA_s {k:AV→VS→Prop} {avs:List AV} {f:FuncId} {first caps:Array Value}:ZjF P s k avs (.lit (.func (.func f) first caps))=Wn P f (first.toList.map .lit++avs++caps.toList.map .lit) s k:=_root_.id rfl
@[go_sem] theorem vs_max {x y:Operand} {t t':TypeId}:ZR P n ⟨d,.call { callee:=.builtin .max,args:=#[x,y],argTypes:=#[t,t'] },ty,ps,af,g⟩ s k=Zjz s (Yn n d k) (ev s x) (ev s y):=_root_.id rfl
@[go_sem] theorem vmax_i {k:AV→VS→Prop} {q q':IntKind} {i j:Int}:Zjz s k (.lit (.int q i)) (.lit (.int q' j))=k (.lit (.int q (if j>i then j else i))) s:=_root_.id rfl
@[go_sem] theorem vs_mkif {T:TypeId} {x:Operand}:ZR P n ⟨d,.makeInterface T x,ty,ps,af,g⟩ s k=Zhh P T s (Yn n d k) (Yb (ev s x)):=_root_.id rfl
@[go_sem] theorem vmkif_s {T:TypeId} {k:AV→VS→Prop} {v:Value}:Zhh P T s k (some v)=(Qx P T=some false∧k (.lit (.iface T v)) s):=_root_.id rfl
@[go_sem] theorem vs_mkfun {fn:Fn} {first caps:Array Operand}:ZR P n ⟨d,.makeFunc fn first caps,ty,ps,af,g⟩ s k=ZcU s (Yn n d k) fn first.toList caps.toList:=_root_.id rfl
theorem Zal {k:AV→VS→Prop} {fn:Fn} {caps:List Operand} (vs:List Value) (h:Zaa s caps vs) (hk:k (.lit (.func fn #[] vs.toArray)) s):ZcU s k fn [] caps:=⟨rfl,vs,h,hk⟩
theorem Jm {x:Operand} {v:Value} {N:Nat} {vs:Nat→Value} {as':Nat→AV} {kk sz p q:Nat} (t i:Nat) (h1:lk s.tmps t=.fam N vs as') (h2:i<N) (h3:vs i=v) (h4:as' i=.ptr kk sz p q) (h5:ev s x=.ptr kk sz p q):Zmn s x v:=.inr ⟨t,N,vs,as',i,kk,sz,p,q,h1,h2,h3,h4,h5⟩
theorem ZP {f:FuncId} {avs args':List AV} {k:AV→VS→Prop} {R:AV→List Ob→Prop} (h:VFun P f args' R) (ha:V2 s.mem avs args') (hk:∀ av obs,R av obs→GJ s k av obs):Wn P f avs s k:=
 .inl ⟨args',ha,h.mono hk⟩
theorem Yk {f:FuncId} {avs args':List AV} {k:AV→VS→Prop} {R:AV→List Ob→Prop} (h:VFun P f args' R) (ha:V2 s.mem avs args') (hk:∀ av obs,R av obs→GJ s k av obs):KY P f avs s k:=
 ⟨args',ha,h.mono hk⟩
@[go_sem] theorem Kcall_ {k:AV→VS→Prop} {av:AV} {obs:List Ob}:GJ s k av obs=k (ren (·+s.mem.length) av) { s with mem:=s.mem++obs.map some }:=_root_.id rfl
def ZfU (mem:List (Option Ob)):List AV→List AV→Prop
 |[],[]=>True
 |a::r,b::r'=>Kg mem a b∧ZfU mem r r'
 | _,_=>False
theorem argL_iff {mem:List (Option Ob)}:∀ {cs cs':List AV},ZfU mem cs cs'↔(cs.length=cs'.length∧∀ (j:Nat) c c',cs[j]?=some c→cs'[j]?=some c'→Kg mem c c')
 |[],[]=>by simp [ZfU]
 |[],_::_=>by simp [ZfU]
 | _::_,[]=>by simp [ZfU]
 |a::r,b::r'=>by
  have ih:=argL_iff (mem:=mem) (cs:=r) (cs':=r')
  simp only [ZfU,ih]
  constructor
  ·rintro ⟨h,h1,h2⟩
   refine ⟨by simp [h1],fun j c c' hc hc'=>?_⟩
   cases j with
   |zero=>simp at hc hc';subst hc;subst hc';exact h
   |succ j=>exact h2 j c c' (by simpa using hc) (by simpa using hc')
  ·rintro ⟨h1,h2⟩
   exact ⟨h2 0 a b rfl rfl,by simpa using h1,fun j c c' hc hc'=>h2 (j+1) c c' (by simpa using hc) (by simpa using hc')⟩
@[go_sem] theorem argOk_agg {mem:List (Option Ob)} {cs cs':List AV}:ZfT mem (.agg cs) (.agg cs')=ZfU mem cs cs':=by
 refine propext ⟨fun ⟨cs0,e,h1,h2⟩=>argL_iff.mpr ?_,fun h=>⟨cs,rfl,argL_iff.mp h⟩⟩
 cases e
 exact ⟨h1,h2⟩
@[go_sem] theorem argOk_lit {mem:List (Option Ob)} {a:AV} {v:Value}:ZfT mem a (.lit v)=(a=.lit v):=_root_.id rfl
@[go_sem] theorem argOk_sl {mem:List (Option Ob)} {a:AV} {sz n:Nat} {f:Nat→List AV}:ZfT mem a (.sl sz n f)=QI mem a sz n f:=_root_.id rfl
theorem Zc {f:FuncId} {avs args':List AV} {k:AV→VS→Prop} {v:Value} (h:VFun P f args' (fun av obs=>obs=[]∧av=.lit v)) (ha:V2 s.mem avs args') (hk:k (.lit v) s):Wn P f avs s k:=
 ZP h ha (by rintro av obs ⟨rfl,rfl⟩;simpa [GJ,ren,Ww,QU] using hk)
theorem Zv {f:FuncId} {avs args':List AV} {k:AV→VS→Prop} {v:Value} (h:VFun P f args' (fun av obs=>obs=[]∧av=.lit v)) (ha:V2 s.mem avs args') (hk:k (.lit v) s):KY P f avs s k:=
 Yk h ha (by rintro av obs ⟨rfl,rfl⟩;simpa [GJ,ren,Ww,QU] using hk)
theorem Ua {P:Program} {s:VS} {f:FuncId} {avs args':List AV} {k:AV→VS→Prop} {x:AV} (h:VFun P f args' (fun av obs=>obs=[]∧av=x)) (ha:V2 s.mem avs args') (hr:ren (·+s.mem.length) x=x) (hk:k x s):Wn P f avs s k:=
 ZP h ha (by rintro av obs ⟨rfl,rfl⟩;simpa [GJ,hr] using hk)
theorem KX {P:Program} {s:VS} {f:FuncId} {avs args':List AV} {k:AV→VS→Prop} {x:AV} (h:VFun P f args' (fun av obs=>obs=[]∧av=x)) (ha:V2 s.mem avs args') (hr:ren (·+s.mem.length) x=x) (hk:k x s):KY P f avs s k:=
 Yk h ha (by rintro av obs ⟨rfl,rfl⟩;simpa [GJ,hr] using hk)
@[go_sem] theorem ZeL {x:List Ob}:X5 [] x=(x=[]):=by cases x<;>simp [X5]
def ZcX (R:AV→List Ob→Prop) (s:VS) (av:AV):Prop:=Vb av=true∧(Wi av).Nodup∧∃ obs obs',Vc s.mem (Wi av)=some obs∧X5 obs obs'∧R (ren (fun k=>(Wi av).idxOf k) av) obs'
def Ui (P:Program) (R:AV→List Ob→Prop) (s:VS):List ResultVar→List AV→Prop
 |[],acc=>ZcX R s (XJ acc.reverse)
 | .tmp t::r,acc=>Ui P R s r (lk s.tmps t::acc)
 | .cell t T::r,acc=>Jx P T s (fun av _=>Ui P R s r (av::acc)) (lk s.tmps t)
def Zn5 (P:Program) (R:AV→List Ob→Prop) (s:VS) (r:List ResultVar) (acc:List AV) (av:AV) (_:VS):Prop:=Ui P R s r (av::acc)
theorem ZcS {R:AV→List Ob→Prop}:∀ (rs:List ResultVar) (acc:List AV),VI P s rs (fun l=>ZcX R s (XJ (acc.reverse++l)))=Ui P R s rs acc
 |[],acc=>by simp [VI,Ui]
 | .tmp t::r,acc=>by
  have:=ZcS (R:=R) r (lk s.tmps t::acc)
  simpa [VI,Ui] using this
 | .cell t T::r,acc=>by
  have h:∀ av,VI P s r (fun l=>ZcX R s (XJ (acc.reverse++(av::l))))=Ui P R s r (av::acc):=fun av=>by
   have:=ZcS (R:=R) r (av::acc)
   simpa using this
  simp only [VI,Ui,h]
  generalize hk:(fun (av:AV) (_:VS)=>Ui P R s r (av::acc))=k
  show vop P (.load T (.tmp t)) s k=_
  simp only [vop,ev]
  generalize lk s.tmps t=v
  cases v<;>rfl
@[go_sem] theorem vret_eq {rs:List ResultVar} {R:AV→List Ob→Prop}:Zju P rs R s=Ui P R s rs []:=ZcS (R:=R) rs []
@[go_sem] theorem vresA_nil {R:AV→List Ob→Prop} {acc:List AV}:Ui P R s [] acc=ZcX R s (XJ acc.reverse):=_root_.id rfl
@[go_sem] theorem vresA_tmp {R:AV→List Ob→Prop} {r:List ResultVar} {acc:List AV} {t:Tmp}:Ui P R s (.tmp t::r) acc=Ui P R s r (lk s.tmps t::acc):=_root_.id rfl
@[go_sem] theorem vresA_cell {R:AV→List Ob→Prop} {r:List ResultVar} {acc:List AV} {t:Tmp} {T:TypeId}:Ui P R s (.cell t T::r) acc=Jx P T s (Zn5 P R s r acc) (lk s.tmps t):=_root_.id rfl
@[go_sem] theorem Kres_ {R:AV→List Ob→Prop} {s':VS} {r:List ResultVar} {acc:List AV} {av:AV}:Zn5 P R s r acc av s'=Ui P R s r (av::acc):=_root_.id rfl
@[go_sem] theorem vend_lit {R:AV→List Ob→Prop} {v:Value}:ZcX R s (.lit v)=R (.lit v) []:=by
 simp [ZcX,Vb,VP,X8,Wi,Zcp,WI,Vc,ZeL,ren,QU,Ww]
@[go_sem] theorem vend_own {R:AV→List Ob→Prop} {j:Nat}:ZcX R s (.own j)=(Vb (.own j)=true∧(Wi (.own j)).Nodup∧∃ obs obs',Vc s.mem (Wi (.own j))=some obs∧X5 obs obs'∧R (ren (fun k=>(Wi (.own j)).idxOf k) (.own j)) obs'):=_root_.id rfl
@[go_sem] theorem vend_agg {R:AV→List Ob→Prop} {cs:List AV}:ZcX R s (.agg cs)=(Vb (.agg cs)=true∧(Wi (.agg cs)).Nodup∧∃ obs obs',Vc s.mem (Wi (.agg cs))=some obs∧X5 obs obs'∧R (ren (fun k=>(Wi (.agg cs)).idxOf k) (.agg cs)) obs'):=_root_.id rfl
@[go_sem] theorem vend_tup {R:AV→List Ob→Prop} {cs:List AV}:ZcX R s (.tup cs)=(Vb (.tup cs)=true∧(Wi (.tup cs)).Nodup∧∃ obs obs',Vc s.mem (Wi (.tup cs))=some obs∧X5 obs obs'∧R (ren (fun k=>(Wi (.tup cs)).idxOf k) (.tup cs)) obs'):=_root_.id rfl
def Hp (m:Nat) (f:Nat→List AV) (i c:Nat) (cells:List AV) (j:Nat):List AV:=if m=1 then Y5 (f 0) c cells else if j=i then Y5 (f i) c cells else f j
@[go_sem 2000] theorem upd_one {T sz:Nat} {f:Nat→List AV} {i c:Nat} {cells:List AV}:upd ⟨T,sz,1,f⟩ i c cells=⟨T,sz,1,fun _=>Y5 (f 0) c cells⟩:=by simp [upd]
@[go_sem] theorem upd_mk {T sz m:Nat} {f:Nat→List AV} {i c:Nat} {cells:List AV}:upd ⟨T,sz,m,f⟩ i c cells=⟨T,sz,m,Hp m f i c cells⟩:=by
 unfold upd Hp
 by_cases h:m=1<;>simp [h]
theorem WO {m:Nat} {f:Nat→List AV} {i c:Nat} {cells:List AV} {j:Nat} (hi:i<m) (hj:j<m):Hp m f i c cells j=if j=i then Y5 (f i) c cells else f j:=by
 unfold Hp
 by_cases h:m=1
 ·have:i=0:=by omega
  have:j=0:=by omega
  subst_vars
  simp
 ·simp [h]
def Yc (l:List (Nat×Mp)):List (Nat×Mp)→Prop
 |[]=>True
 | (b,mp)::r=>lkm l b=some mp∧Yc l r
theorem Z7 {l:List (Nat×Mp)}:∀ {l':List (Nat×Mp)},Yc l l'→∀ p,p∈l'→lkm l p.1=some p.2
 |[],_,p,hp=>by simp at hp
 | (t,av)::r,h,p,hp=>by
  simp only [List.mem_cons] at hp
  rcases hp with rfl|hp
  ·exact h.1
  ·exact Z7 h.2 p hp
theorem Zcu {l:List (Nat×Mp)}:∀ {l':List (Nat×Mp)},(∀ p,p∈l'→lkm l p.1=some p.2)→Yc l l'
 |[],_=>trivial
 | (t,av)::r,h=>⟨h (t,av) (by simp),Zcu fun p hp=>h p (by simp [hp])⟩
def ZbK (m:Nat):List (Option Ob)→List (Option Ob)→Prop
 | _,[]=>True
 |o::r,none::r'=>ZbK m r r'
 |some ob::r,some ob'::r'=>Zlf m ob ob'∧ZbK m r r'
 | _,_=>False
theorem Kn {m:Nat}:∀ {l l':List (Option Ob)},ZbK m l l'→l'.length≤l.length∧∀ (k:Nat) (ob':Ob),l'[k]?=some (some ob')→∃ ob,l[k]?=some (some ob)∧Zlf m ob ob'
 |l,[],_=>⟨by simp,fun k ob' hk=>by simp at hk⟩
 |o::r,none::r',h=>by
  obtain ⟨h1,h2⟩:=Kn (l:=r) (l':=r') (by cases o<;>exact h)
  refine ⟨by simp;omega,fun k ob' hk=>?_⟩
  cases k with
  |zero=>simp at hk
  |succ k=>exact h2 k ob' (by simpa using hk)
 |some ob::r,some ob2::r',h=>by
  obtain ⟨h1,h2⟩:=Kn (l:=r) (l':=r') h.2
  refine ⟨by simp;omega,fun k ob' hk=>?_⟩
  cases k with
  |zero=>
   simp only [List.getElem?_cons_zero,Option.some.injEq] at hk
   subst hk
   exact ⟨ob,rfl,h.1⟩
  |succ k=>exact h2 k ob' (by simpa using hk)
 |[],none::_,h=>h.elim
 |[],some _::_,h=>h.elim
 |none::_,some _::_,h=>h.elim
def H2 (m:Nat) (l:List (Nat×AV)):List (Nat×AV)→Prop
 |[]=>True
 | (t,av)::r=>lk l t=av∧Bd m av∧H2 m l r
theorem Zaw {m:Nat} {l:List (Nat×AV)}:∀ {l':List (Nat×AV)},H2 m l l'→∀ p,p∈l'→lk l p.1=p.2∧Bd m p.2
 |[],_,p,hp=>by simp at hp
 | (t,av)::r,h,p,hp=>by
  simp only [List.mem_cons] at hp
  rcases hp with rfl|hp
  ·exact ⟨h.1,h.2.1⟩
  ·exact Zaw h.2.2 p hp
theorem ZkI {t t':List (Nat×AV)} {m m':List (Option Ob)} {M M':List (Nat×Mp)} {x x':Nat} (h:(x'=x∧x'≤m'.length)∧Yc M M'∧H2 m'.length t t'∧ZbK m'.length m m'):Le ⟨t,m,M,x⟩ ⟨t',m',M',x'⟩:=
 ⟨h.1,Z7 h.2.1,Zaw h.2.2.1,(Kn h.2.2.2).1,(Kn h.2.2.2).2⟩
theorem Zcc {m:Nat} {l:List (Nat×AV)}:∀ {l':List (Nat×AV)},(∀ p,p∈l'→lk l p.1=p.2∧Bd m p.2)→H2 m l l'
 |[],_=>trivial
 | (t,av)::r,h=>⟨(h (t,av) (by simp)).1,(h (t,av) (by simp)).2,Zcc fun p hp=>h p (by simp [hp])⟩
theorem ZaV {m:Nat}:∀ {l l':List (Option Ob)},l'.length≤l.length→(∀ (k:Nat) (ob':Ob),l'[k]?=some (some ob')→∃ ob,l[k]?=some (some ob)∧Zlf m ob ob')→ZbK m l l'
 |l,[],_,_=>by cases l with
  |nil=>trivial
  |cons a _=>cases a<;>trivial
 |[],_::_,h,_=>by simp at h
 |o::r,none::r',h1,h2=>by
  have:=ZaV (m:=m) (l:=r) (l':=r') (by simpa using h1) fun k ob' hk=>by simpa using h2 (k+1) ob' (by simpa using hk)
  cases o<;>exact this
 |none::r,some ob::r',h1,h2=>by
  obtain ⟨o,e,_⟩:=h2 0 ob (by simp)
  simp at e
 |some o::r,some ob::r',h1,h2=>by
  have:=ZaV (m:=m) (l:=r) (l':=r') (by simpa using h1) fun k ob' hk=>by simpa using h2 (k+1) ob' (by simpa using hk)
  obtain ⟨o',e,h⟩:=h2 0 ob (by simp)
  simp at e
  subst e
  exact ⟨h,this⟩
@[go_sem] theorem le_iff (t t':List (Nat×AV)) (m m':List (Option Ob)) (M M':List (Nat×Mp)) (x x':Nat):Le ⟨t,m,M,x⟩ ⟨t',m',M',x'⟩=((x'=x∧x'≤m'.length)∧Yc M M'∧H2 m'.length t t'∧ZbK m'.length m m'):=
 propext ⟨fun h=>⟨h.fix,Zcu h.maps,Zcc h.tmps,ZaV h.len h.mem⟩,ZkI⟩
theorem obsSame_one {a:Ob} {x:List Ob}:X5 [a] x↔∃ b,ZbJ a b∧x=[b]:=by
 constructor
 ·cases x with
  |nil=>intro h;exact h.elim
  |cons b r=>cases r with
   |nil=>exact fun h=>⟨b,h.1,rfl⟩
   |cons _ _=>exact fun h=>h.2.elim
 ·rintro ⟨b,h,rfl⟩;exact ⟨h,trivial⟩
def Ke (f:Nat→Nat) (m:Nat) (l:List (Nat×AV)):List (Nat×AV)→Prop
 |[]=>True
 | (t,av)::r=>Rn f m (lk l t) av∧Ke f m l r
def Zh0 (f:Nat→Nat) (m:Nat) (ob':Ob):Option (Option Ob)→Prop
 |some (some ob)=>GR f m ob ob'
 | _=>False
def Zlh (f:Nat→Nat) (m:Nat) (mem:List (Option Ob)):Nat→List (Option Ob)→Prop
 | _,[]=>True
 |k,none::r=>Zlh f m mem (k+1) r
 |k,some ob'::r=>Zh0 f m ob' (mem[f k]?)∧Zlh f m mem (k+1) r
theorem U3 {f:Nat→Nat} {m:Nat} {l:List (Nat×AV)}:∀ {l':List (Nat×AV)},Ke f m l l'→∀ p,p∈l'→Rn f m (lk l p.1) p.2
 |[],_,p,hp=>by simp at hp
 | (t,av)::r,h,p,hp=>by
  simp only [List.mem_cons] at hp
  rcases hp with rfl|hp
  ·exact h.1
  ·exact U3 h.2 p hp
theorem ZaT {f:Nat→Nat} {m:Nat} {mem:List (Option Ob)}:∀ {l:List (Option Ob)} {k0:Nat},Zlh f m mem k0 l→∀ (k:Nat) (ob':Ob),l[k]?=some (some ob')→∃ ob,mem[f (k0+k)]?=some (some ob)∧GR f m ob ob'
 |[],_,_,k,ob',hk=>by simp at hk
 |none::r,k0,h,k,ob',hk=>by
  cases k with
  |zero=>simp at hk
  |succ k=>
   have:=ZaT (k0:=k0+1) (l:=r) h k ob' (by simpa using hk)
   rwa [Nat.add_right_comm] at this
 |some ob::r,k0,h,k,ob',hk=>by
  cases k with
  |zero=>
   simp only [List.getElem?_cons_zero,Option.some.injEq] at hk
   subst hk
   have h1:=h.1
   rw [Nat.add_zero]
   generalize mem[f k0]?=y at h1
   match y,h1 with
   |some (some o),h1=>exact ⟨o,rfl,h1⟩
  |succ k=>
   have:=ZaT (k0:=k0+1) (l:=r) h.2 k ob' (by simpa using hk)
   rwa [Nat.add_right_comm] at this
theorem ZiI {f:Nat→Nat} {t t':List (Nat×AV)} {m m':List (Option Ob)} {M M':List (Nat×Mp)} {x:Nat} (hx:x≤m'.length) (hf:∀ k,k<x→f k=k) (hM:Yc M M') (h1:Ke f m'.length t t') (h2:∀ k,k<m'.length→f k<m.length) (h3:∀ k k',k<m'.length→k'<m'.length→f k=f k'→k=k') (h4:Zlh f m'.length m 0 m'):LeR f ⟨t,m,M,x⟩ ⟨t',m',M',x⟩:=
 ⟨⟨rfl,hx,hf⟩,Z7 hM,U3 h1,h2,h3,fun k ob' hk=>by have:=ZaT h4 k ob' hk;rwa [Nat.zero_add] at this⟩
theorem ZlM {K:Nat} {t t':List (Nat×AV)} {m:List (Option Ob)} {M:List (Nat×Mp)} {ob':Ob} (h1:Ke (fun _=>K) 1 t t') (h2:K<m.length) (h4:Zh0 (fun _=>K) 1 ob' (m[K]?)):LeR (fun _=>K) ⟨t,m,M,0⟩ ⟨t',[some ob'],[],0⟩:=
 ZiI (Nat.zero_le _) (fun k hk=>by omega) trivial h1 (fun k _=>h2) (fun k k' h h' _=>by simp at h h';omega) ⟨h4,trivial⟩
@[go_sem] theorem ZlK {f:Nat→Nat} {m:Nat} {ob ob':Ob}:Zh0 f m ob' (some (some ob))=GR f m ob ob':=_root_.id rfl
@[go_sem] theorem rn_lit {f:Nat→Nat} {m:Nat} {x:AV} {v:Value}:Rn f m x (.lit v)=(x=.lit v):=propext ⟨fun h=>by cases h;rfl,fun h=>by rw [h];exact .closed _ (.lit v)⟩
@[go_sem] theorem rn_own {f:Nat→Nat} {m:Nat} {x:AV} {k:Nat}:Rn f m x (.own k)=(k<m∧x=.own (f k)):=propext ⟨fun h=>by cases h with
 |own _ h=>exact ⟨h,rfl⟩
 |closed _ h=>(cases h),fun h=>by rw [h.2];exact .own k h.1⟩
@[go_sem] theorem rn_sl {f:Nat→Nat} {m:Nat} {x:AV} {sz n:Nat} {g:Nat→List AV}:Rn f m x (.sl sz n g)=(Closed (.sl sz n g)∧x=.sl sz n g):=propext ⟨fun h=>by cases h with
 |closed _ h=>(exact ⟨h,rfl⟩),fun h=>by rw [h.2];exact .closed _ h.1⟩
@[go_sem] theorem bd_lit {m:Nat} {v:Value}:Bd m (.lit v)=True:=eq_true (.closed _ (.lit v))
@[go_sem] theorem bd_own {m k:Nat}:Bd m (.own k)=(k<m):=propext ⟨fun h=>by cases h with|own _ h=>exact h|closed _ h=>(cases h),fun h=>.own k h⟩
@[go_sem] theorem bd_ptr {m k sz i j:Nat}:Bd m (.ptr k sz i j)=(k<m):=propext ⟨fun h=>by cases h with|ptr _ _ _ _ h=>exact h|closed _ h=>(cases h),fun h=>.ptr k sz i j h⟩
@[go_sem] theorem bd_sl {m sz l:Nat} {f:Nat→List AV}:Bd m (.sl sz l f)=Closed (.sl sz l f):=propext ⟨fun h=>by cases h with|closed _ h=>(exact h),fun h=>.closed _ h⟩
@[go_sem] theorem closed_lit {v:Value}:Closed (.lit v)=True:=eq_true (.lit v)
@[go_sem] theorem ZiT {sz l:Nat} {f:Nat→List AV}:Closed (.sl sz l f)=∀ (i:Nat) c,i<l→c∈f i→Closed c:=propext ⟨fun h=>by cases h with|sl _ _ _ h=>exact h,fun h=>.sl sz l f h⟩
@[go_sem] theorem ZgN {cs:List AV}:Closed (.agg cs)=∀ c,c∈cs→Closed c:=propext ⟨fun h=>by cases h with|agg _ h=>exact h,fun h=>.agg cs h⟩
end
attribute [go_sem] Wd QH ZfU QO UH Yb Vw ZJ Xg WK ZY WM JM Wq V2 Kg Y5 XJ Vc X8 VP Vb WI Zcp Wi Ww QU ren UA Value.cells Value.oneCell' YL esz start ZbK H2 ZbJ Zlf Ke Zlh GR VS.of Yc lkm
end Go.Proofs.YtadghlfkddkelaaGreatDoor.V
namespace Go.Proofs.YtadghlfkddkelaaGreatDoor.V
open Go.RowKit
open Go.Maps (Keyed)
section
variable {P:Program} {n:Nat} {s:VS} {K:VX→VS→Prop} {k:VS→Prop} {all r:List Oper}
theorem Zn {id:Nat} {l:List Oper} (fin:List Nat) (p:Plan) (hok:W9 P l.toArray fin p=true) (h:WX P n l fin p s (K .normal)):vc P n (.region id l.toArray true) s K:=⟨fin,p,hok,.inl (by simpa using h)⟩
theorem Zb5 {id:Nat} {l:List Oper} (S1:VS) (fin:List Nat) (p:Plan) (hok:W9 P l.toArray fin p=true) (h:WX P n l fin p s (fun s'=>Ent s' S1)) (h2:K .normal S1):vc P n (.region id l.toArray true) s K:=⟨fin,p,hok,.inr ⟨S1,by simpa using h,h2⟩⟩
def Zha (f:Nat→Nat) (m:Nat) (mem:List (Option Ob)):List Nat→List (Option Ob)→Prop
 |[],[]=>True
 | _::ks,none::r=>Zha f m mem ks r
 |k::ks,some ob'::r=>(Zh0 f m ob' (mem[k]?)∨Zle f m ob' (mem[k]?))∧Zha f m mem ks r
 | _,_=>False
theorem ZaS {f:Nat→Nat} {m:Nat} {mem:List (Option Ob)}:∀ {ks:List Nat} {r:List (Option Ob)},Zha f m mem ks r→r.length=ks.length∧∀ (j:Nat) ob',r[j]?=some (some ob')→∃ ob,mem[ks.getD j 0]?=some (some ob)∧(GR f m ob ob'∨ZbH f m ob ob')
 |[],[],_=>⟨rfl,fun j ob h=>by simp at h⟩
 |k::ks,none::r,h=>by
  obtain ⟨h1,h2⟩:=ZaS (ks:=ks) (r:=r) h
  refine ⟨by simp [h1],fun j ob' hj=>?_⟩
  cases j with
  |zero=>simp at hj
  |succ j=>exact h2 j ob' (by simpa using hj)
 |k::ks,some ob0::r,h=>by
  obtain ⟨h1,h2⟩:=ZaS (ks:=ks) (r:=r) h.2
  refine ⟨by simp [h1],fun j ob' hj=>?_⟩
  cases j with
  |zero=>
   simp only [List.getElem?_cons_zero,Option.some.injEq] at hj
   subst hj
   show ∃ ob,mem[k]?=some (some ob)∧_
   have h3:=h.1
   generalize mem[k]?=y at h3
   match y,h3 with
   |some (some o),h3=>exact ⟨o,rfl,h3⟩
   |some none,h3=>rcases h3 with h3|h3<;>exact h3.elim
   |none,h3=>rcases h3 with h3|h3<;>exact h3.elim
  |succ j=>exact h2 j ob' (by simpa using hj)
 |[],_::_,h=>h.elim
 | _::_,[],h=>h.elim
theorem ZU (ks:List Nat) {t t':List (Nat×AV)} {m m':List (Option Ob)} {M M':List (Nat×Mp)} {x:Nat} (hnd:ks.Nodup) (hlt:∀ k,k∈ks→k<m.length) (hx:x≤ks.length) (hf:∀ k,k<x→ks.getD k 0=k) (hM:Yc M M')
  (h1:Ke (fun j=>ks.getD j 0) ks.length t t') (h4:Zha (fun j=>ks.getD j 0) ks.length m ks m'):Ent ⟨t,m,M,x⟩ ⟨t',m',M',x⟩:=by
 obtain ⟨hl,h5⟩:=ZaS h4
 rw [←hl] at h1 h5
 refine Ent.of_leS (f:=fun j=>ks.getD j 0) ⟨⟨rfl,by simp only;omega,hf⟩,Z7 hM,U3 h1,fun k hk=>?_,fun k k' hk hk' e=>?_,h5⟩
 ·have hk':k<ks.length:=by simp only at hk;omega
  simp only [List.getD_eq_getElem?_getD,List.getElem?_eq_getElem hk',Option.getD_some]
  exact hlt _ (List.getElem_mem hk')
 ·have l1:k<ks.length:=by simp only at hk;omega
  have l2:k'<ks.length:=by simp only at hk';omega
  simp only [List.getD_eq_getElem?_getD,List.getElem?_eq_getElem l1,List.getElem?_eq_getElem l2,Option.getD_some] at e
  exact (List.getElem_inj hnd).1 e
def Zli (P:Program) (n:Nat) (all:List Oper) (fin:List Nat) (p:Plan) (k:VS→Prop) (s:VS):Prop:=WX P n all fin p s k
@[go_sem] theorem Kplan_ {fin:List Nat} {p:Plan}:Zli P n all fin p k s=WX P n all fin p s k:=_root_.id rfl
def KT (P:Program) (n:Nat) (all:List Oper) (k:VS→Prop) (s:VS):Option Oper→Prop
 |some o=>V6 P n all [o] s k
 |none=>False
def Qi (P:Program) (n:Nat) (all:List Oper) (k:VS→Prop) (s:VS):Option Oper→Prop
 |some o=>Jw P n all o s k
 |none=>False
def Zai (P:Program) (n:Nat) (all:List Oper) (k:VS→Prop) (s:VS) (o:Option Oper):Bool→Prop
 |true=>KT P n all k s o
 |false=>Qi P n all k s o
@[go_sem] theorem vplan_done {fin:List Nat}:WX P n all fin .done s k=k s:=_root_.id rfl
@[go_sem] theorem vplan_nil {fin:List Nat}:WX P n all fin .nil s k=True:=_root_.id rfl
@[go_sem] theorem vplan_q {fin:List Nat} {i:Nat} {p:Plan}:WX P n all fin (.q i p) s k=KT P n all (Zli P n all fin p k) s (all[i]?):=by
 simp only [WX]
 cases all[i]?<;>rfl
@[go_sem] theorem vplan_or {fin:List Nat} {i:Nat} {p q:Plan}:WX P n all fin (.or i p q) s k=(Zai P n all (Zli P n all fin p k) s (all[i]?) (decide (i∈fin))∧WX P n all fin q s k):=by
 simp only [WX]
 cases all[i]? with
 |none=>by_cases h:i∈fin<;>simp [h,Zai,KT,Qi]
 |some o=>by_cases h:i∈fin<;>simp [h,Zai,KT,Qi]<;>intro _<;>rfl
@[go_sem] theorem vplanB_t {o:Option Oper}:Zai P n all k s o true=KT P n all k s o:=_root_.id rfl
@[go_sem] theorem vplanB_f {o:Option Oper}:Zai P n all k s o false=Qi P n all k s o:=_root_.id rfl
@[go_sem] theorem vplanO_s {o:Oper}:KT P n all k s (some o)=V6 P n all [o] s k:=_root_.id rfl
@[go_sem] theorem vplanV_s {o:Oper}:Qi P n all k s (some o)=Jw P n all o s k:=_root_.id rfl
section
variable {d:Option Tmp} {op:Op} {ty:TypeId} {ps:String} {af:Array Edge} {g:Option (Nat×Bool)}
@[go_sem] theorem voneV_n:Jw P n all ⟨d,op,ty,ps,af,none⟩ s k=YZ P n ⟨d,op,ty,ps,af,none⟩ s k:=_root_.id rfl
def vgV (P:Program) (n:Nat) (o:Oper) (s:VS) (k:VS→Prop) (b:Bool) (t:Tmp):AV→Prop
 | .lit (.bool c)=>(c=b→YZ P n o { s with tmps:=(t,.lit (.bool b))::s.tmps } k)∧(c=!b→VY n o.dst (.lit undef) { s with tmps:=(t,.lit (.bool (!b)))::s.tmps } k)
 | .lit (.tuple _)=>VY n o.dst (.lit undef) s k
 | _=>False
def Zmt (P:Program) (n:Nat) (o:Oper) (s:VS) (k:VS→Prop) (b:Bool):Option Tmp→Prop
 |some t=>vgV P n o s k b t (lk s.tmps t)
 |none=>False
@[go_sem] theorem voneV_g {i:Nat} {b:Bool}:Jw P n all ⟨d,op,ty,ps,af,some (i,b)⟩ s k=Zmt P n ⟨d,op,ty,ps,af,some (i,b)⟩ s k b (Um all i):=by
 simp only [Jw]
 cases Um all i with
 |none=>rfl
 |some t=>
  simp only [Zmt]
  generalize lk s.tmps t=v
  cases v with
  |lit v=>cases v<;>rfl
  | _=>rfl
@[go_sem] theorem vgVO_s {o:Oper} {b:Bool} {t:Tmp}:Zmt P n o s k b (some t)=vgV P n o s k b t (lk s.tmps t):=_root_.id rfl
@[go_sem] theorem vgV_u {o:Oper} {b:Bool} {t:Tmp}:vgV P n o s k b t (.lit undef)=VY n o.dst (.lit undef) s k:=_root_.id rfl
@[go_sem 2000] theorem vgV_tt {o:Oper} {t:Tmp}:vgV P n o s k true t (.lit (.bool true))=YZ P n o { s with tmps:=(t,.lit (.bool true))::s.tmps } k:=by simp [vgV]
@[go_sem 2000] theorem vgV_ff {o:Oper} {t:Tmp}:vgV P n o s k false t (.lit (.bool false))=YZ P n o { s with tmps:=(t,.lit (.bool false))::s.tmps } k:=by simp [vgV]
@[go_sem 2000] theorem vgV_tf {o:Oper} {t:Tmp}:vgV P n o s k true t (.lit (.bool false))=VY n o.dst (.lit undef) { s with tmps:=(t,.lit (.bool false))::s.tmps } k:=by simp [vgV]
@[go_sem 2000] theorem vgV_ft {o:Oper} {t:Tmp}:vgV P n o s k false t (.lit (.bool true))=VY n o.dst (.lit undef) { s with tmps:=(t,.lit (.bool true))::s.tmps } k:=by simp [vgV]
@[go_sem] theorem vsV_call {f:FuncId} {args:List Operand} {tys:Array TypeId}:YZ P n ⟨d,.call { callee:=.value (.func f),args:=args.toArray,argTypes:=tys },ty,ps,af,g⟩ s k=KY P f (args.map (ev s)) s (Yn n d k):=_root_.id rfl
@[go_sem] theorem vsV_alloc {T:TypeId}:YZ P n ⟨d,.alloc T,ty,ps,af,g⟩ s k=ZR P n ⟨d,.alloc T,ty,ps,af,g⟩ s k:=_root_.id rfl
@[go_sem] theorem vsV_lit {T:TypeId} {len:Nat} {parts:Array (Nat×Operand)}:YZ P n ⟨d,.buildSlice T len parts,ty,ps,af,g⟩ s k=ZR P n ⟨d,.buildSlice T len parts,ty,ps,af,g⟩ s k:=_root_.id rfl
def Zf7 (P:Program) (s:VS) (k:AV→VS→Prop) (avs:List AV):Option FuncId→Prop
 |some f=>KY P f avs s k
 |none=>False
def Zf4 (P:Program) (s:VS) (k:AV→VS→Prop) (name:String) (avs:List AV):AV→Prop
 | .lit (.iface t v)=>Zf7 P s k (.lit v::avs) (XI P t name)
 | _=>False
@[go_sem] theorem vsV_move {x:Operand}:YZ P n ⟨d,.move x,ty,ps,af,g⟩ s k=ZR P n ⟨d,.move x,ty,ps,af,g⟩ s k:=by simp [YZ,ZR,WB,UN,WT,X2]
@[go_sem] theorem vsV_pick {x y z:Operand}:YZ P n ⟨d,.pick x y z,ty,ps,af,g⟩ s k=ZR P n ⟨d,.pick x y z,ty,ps,af,g⟩ s k:=by simp [YZ,ZR,WB,UN,WT,X2]
@[go_sem] theorem vsV_load {T:TypeId} {x:Operand}:YZ P n ⟨d,.load T x,ty,ps,af,g⟩ s k=ZR P n ⟨d,.load T x,ty,ps,af,g⟩ s k:=by simp [YZ,ZR,WB,UN,WT,X2]
@[go_sem] theorem vsV_fieldAddr {T:TypeId} {x:Operand} {f:Nat}:YZ P n ⟨d,.fieldAddr T x f,ty,ps,af,g⟩ s k=ZR P n ⟨d,.fieldAddr T x f,ty,ps,af,g⟩ s k:=by simp [YZ,ZR,WB,UN,WT,X2]
@[go_sem] theorem vsV_bin {b:BinOp} {T T2:TypeId} {x y:Operand}:YZ P n ⟨d,.binOp b T x y T2,ty,ps,af,g⟩ s k=ZR P n ⟨d,.binOp b T x y T2,ty,ps,af,g⟩ s k:=by simp [YZ,ZR,WB,UN,WT,X2]
@[go_sem] theorem vsV_indexAddr {T:TypeId} {x y:Operand}:YZ P n ⟨d,.indexAddr T x y,ty,ps,af,g⟩ s k=ZR P n ⟨d,.indexAddr T x y,ty,ps,af,g⟩ s k:=by simp [YZ,ZR,WB,UN,WT,X2]
@[go_sem] theorem vsV_extract {x:Operand} {i:Nat}:YZ P n ⟨d,.extract x i,ty,ps,af,g⟩ s k=ZR P n ⟨d,.extract x i,ty,ps,af,g⟩ s k:=by simp [YZ,ZR,WB,UN,WT,X2]
@[go_sem] theorem vsV_inv {r:Operand} {name:String} {args:List Operand} {tys:Array TypeId}:YZ P n ⟨d,.call { callee:=.invoke r name,args:=args.toArray,argTypes:=tys },ty,ps,af,g⟩ s k=Zf4 P s (Yn n d k) name (args.map (ev s)) (ev s r):=by
 have h0:(X2 P (.call { callee:=.invoke r name,args:=args.toArray,argTypes:=tys })=true∧UU P (.call { callee:=.invoke r name,args:=args.toArray,argTypes:=tys }) s (Yn n d k))=False:=by simp [X2]
 unfold YZ WB UN WT
 simp only
 generalize ev s r=ar
 cases ar with
 |lit v=>
  cases v with
  |iface t v=>
   simp only [Zf4]
   cases XI P t name with
   |none=>exact h0
   |some f=>rfl
  | _=>exact h0
 | _=>exact h0
@[go_sem] theorem vinvVA_i {k:AV→VS→Prop} {name:String} {avs:List AV} {t:TypeId} {v:Value}:Zf4 P s k name avs (.lit (.iface t v))=Zf7 P s k (.lit v::avs) (XI P t name):=_root_.id rfl
@[go_sem] theorem vdynVM_s {k:AV→VS→Prop} {avs:List AV} {f:FuncId}:Zf7 P s k avs (some f)=KY P f avs s k:=_root_.id rfl
def Zhg (s:VS) (k:AV→VS→Prop):Option TypeDesc→Prop
 |some (.map kt e)=>∀ b,lkm s.maps b=none→k (.lit (.map (some b))) { s with maps:=(b,⟨kt,[]⟩)::s.maps }
 | _=>False
@[go_sem] theorem vs_mmake {t:TypeId}:ZR P n ⟨d,.makeMap t none,ty,ps,af,g⟩ s k=Zhg s (Yn n d k) (P.underlying t):=by
 show Zak P t s (Yn n d k)=_
 unfold Zak
 cases P.underlying t with
 |none=>rfl
 |some D=>cases D<;>rfl
@[go_sem] theorem vmmakeU_s {k:AV→VS→Prop} {kt e:TypeId}:Zhg s k (some (.map kt e))=∀ b,lkm s.maps b=none→k (.lit (.map (some b))) { s with maps:=(b,⟨kt,[]⟩)::s.maps }:=_root_.id rfl
def Zdq (ok:Bool) (v:Option Value) (z:Value):AV:=if ok then .tup [.lit (v.getD z),.lit (.bool v.isSome)] else .lit (v.getD z)
@[go_sem] theorem lookAV_t {v:Option Value} {z:Value}:Zdq true v z=.tup [.lit (v.getD z),.lit (.bool v.isSome)]:=_root_.id rfl
@[go_sem] theorem lookAV_f {v:Option Value} {z:Value}:Zdq false v z=.lit (v.getD z):=_root_.id rfl
def ZcV (P:Program) (ok:Bool) (s:VS) (k:AV→VS→Prop):Option Mp→Option TypeDesc→Option Value→Prop
 |some mp,some (.map kt e),some kv=>mp.kt=kt∧Keyed P kt∧(∃ l,keyOf P kt kv=some l)∧∃ z,W7 P e z∧(k (Zdq ok (mget mp.es kv) z) s∨Zf1 ok s k (mget mp.es kv))
 | _,_,_=>False
def Zf2 (P:Program) (t:TypeId) (ok:Bool) (s:VS) (k:AV→VS→Prop) (x:Option Value):AV→Prop
 | .lit (.map (some b))=>ZcV P ok s k (lkm s.maps b) (P.underlying t) x
 | _=>False
@[go_sem] theorem vs_look {t:TypeId} {m x:Operand} {ok:Bool}:ZR P n ⟨d,.lookup t m x ok,ty,ps,af,g⟩ s k=Zf2 P t ok s (Yn n d k) (Yb (ev s x)) (ev s m):=by
 show Zea P t ok s (Yn n d k) (ev s m) (ev s x)=_
 generalize ev s m=u
 generalize ev s x=y
 cases u with
 |lit v=>
  cases v with
  |map b=>
   cases b with
   |none=>rfl
   |some b=>
    simp only [Zea,Zf2]
    cases lkm s.maps b with
    |none=>rfl
    |some mp=>
     cases P.underlying t with
     |none=>rfl
     |some D=>
      cases D<;>first|rfl|(cases Yb y<;>rfl)
  | _=>rfl
 | _=>rfl
@[go_sem] theorem vlookA_m {t:TypeId} {ok:Bool} {k:AV→VS→Prop} {x:Option Value} {b:Nat}:Zf2 P t ok s k x (.lit (.map (some b)))=ZcV P ok s k (lkm s.maps b) (P.underlying t) x:=_root_.id rfl
theorem Yj {ok:Bool} {k:AV→VS→Prop} {kt e:TypeId} {es:List (Value×Value)} {kv:Value} (K:Keyed P kt) (hk:∃ l,keyOf P kt kv=some l) (z:Value) (hz:W7 P e z) (h:k (Zdq ok (mget es kv) z) s):ZcV P ok s k (some ⟨kt,es⟩) (some (.map kt e)) (some kv):=⟨rfl,K,hk,z,hz,.inl h⟩
theorem Zd9 {k:AV→VS→Prop} {kt e:TypeId} {es:List (Value×Value)} {kv:Value} (K:Keyed P kt) (hk:∃ l,keyOf P kt kv=some l) (z:Value) (hz:W7 P e z) (g:Nat) {N:Nat} {vs:Nat→Value} {as':Nat→AV} (hg:lk s.tmps g=.fam N vs as') (i:Nat) (hi:i<N) (hm:mget es kv=some (vs i)) (h:k (.tup [as' i,.lit (.bool true)]) s):ZcV P true s k (some ⟨kt,es⟩) (some (.map kt e)) (some kv):=
 ⟨rfl,K,hk,z,hz,.inr (by show Zf1 true s k (mget es kv);rw [hm];exact ⟨rfl,g,N,vs,as',i,hg,hi,rfl,h⟩)⟩
def ZcT (P:Program) (s:VS) (k:AV→VS→Prop) (b:Nat):Option Mp→Option TypeDesc→Option Value→Option Value→AV→Prop
 |some mp,some (.map kt e),some kv,some u,_=>mp.kt=kt∧Keyed P kt∧(∃ l,keyOf P kt kv=some l)∧k .undef { s with maps:=Ht s.maps b { mp with es:=mput mp.es kv u } }
 |some mp,some (.map kt e),some kv,none,v=>mp.kt=kt∧Keyed P kt∧(∃ l,keyOf P kt kv=some l)∧∃ g N vs as',lk s.tmps g=.fam N vs as'∧
   ∀ u,k .undef { s with tmps:=(g,.fam (N+1) (fun i=>if i=N then u else vs i) (fun i=>if i=N then v else as' i))::s.tmps,maps:=Ht s.maps b { mp with es:=mput mp.es kv u } }
 | _,_,_,_,_=>False
def ZfZ (P:Program) (t:TypeId) (s:VS) (k:AV→VS→Prop) (x u:Option Value) (v:AV):AV→Prop
 | .lit (.map (some b))=>ZcT P s k b (lkm s.maps b) (P.underlying t) x u v
 | _=>False
@[go_sem] theorem vs_mset {t:TypeId} {m x v:Operand}:ZR P n ⟨d,.mapUpdate t m x v,ty,ps,af,g⟩ s k=ZfZ P t s (Yn n d k) (Yb (ev s x)) (Yb (ev s v)) (ev s v) (ev s m):=by
 show Zb3 P t s (Yn n d k) (ev s m) (ev s x) (ev s v)=_
 generalize ev s m=u
 generalize ev s x=y
 generalize ev s v=y2
 cases u with
 |lit v=>
  cases v with
  |map b=>
   cases b with
   |none=>rfl
   |some b=>
    simp only [Zb3,ZfZ]
    cases lkm s.maps b with
    |none=>rfl
    |some mp=>
     cases P.underlying t with
     |none=>rfl
     |some D=>
      cases D<;>first|rfl|(cases Yb y<;>first|rfl|(cases h:Yb y2<;>rfl))
  | _=>rfl
 | _=>rfl
@[go_sem] theorem vmsetA_m {t:TypeId} {k:AV→VS→Prop} {x u:Option Value} {v:AV} {b:Nat}:ZfZ P t s k x u v (.lit (.map (some b)))=ZcT P s k b (lkm s.maps b) (P.underlying t) x u v:=_root_.id rfl
theorem Y0 {k:AV→VS→Prop} {b:Nat} {kt e:TypeId} {es:List (Value×Value)} {kv u:Value} {v:AV} (K:Keyed P kt) (hk:∃ l,keyOf P kt kv=some l) (h:k .undef { s with maps:=Ht s.maps b ⟨kt,mput es kv u⟩ }):ZcT P s k b (some ⟨kt,es⟩) (some (.map kt e)) (some kv) (some u) v:=⟨rfl,K,hk,h⟩
theorem Zd7 {k:AV→VS→Prop} {b:Nat} {kt e:TypeId} {es:List (Value×Value)} {kv:Value} {v:AV} (K:Keyed P kt) (hk:∃ l,keyOf P kt kv=some l) (g:Nat) {N:Nat} {vs:Nat→Value} {as':Nat→AV} (hg:lk s.tmps g=.fam N vs as')
  (h:∀ u,k .undef { s with tmps:=(g,.fam (N+1) (fun i=>if i=N then u else vs i) (fun i=>if i=N then v else as' i))::s.tmps,maps:=Ht s.maps b ⟨kt,mput es kv u⟩ }):ZcT P s k b (some ⟨kt,es⟩) (some (.map kt e)) (some kv) none v:=⟨rfl,K,hk,g,N,vs,as',hg,h⟩
def Zjx (s:VS) (k:AV→VS→Prop):Option Mp→Option TypeDesc→Prop
 |some mp,some (.map kt e)=>k (.lit (.int .i64 mp.es.length)) s
 | _,_=>False
@[go_sem] theorem vmlen_m {t:TypeId} {k:AV→VS→Prop} {b:Nat}:H7 P t s k (.lit (.map (some b)))=Zjx s k (lkm s.maps b) (P.underlying t):=by
 simp only [H7]
 cases lkm s.maps b with
 |none=>rfl
 |some mp=>
  cases P.underlying t with
  |none=>rfl
  |some D=>cases D<;>rfl
@[go_sem] theorem vmlenK_s {k:AV→VS→Prop} {mp:Mp} {kt e:TypeId}:Zjx s k (some mp) (some (.map kt e))=k (.lit (.int .i64 mp.es.length)) s:=_root_.id rfl
end
theorem Zx {f:FuncId} {avs args':List AV} {k:AV→VS→Prop} {mem0:List (Option Ob)} {maps0:List (Nat×Mp)} {R:AV→List (Option Ob)→List (Nat×Mp)→Prop} (ks:List Nat) (h:VProc P f args' mem0 maps0 R) (hnd:ks.Nodup) (ha:ZO (fun j=>ks.getD j 0) ks.length avs args')
  (hs:XS (fun j=>ks.getD j 0) ks.length s.mem ks mem0) (hm:Yc s.maps maps0)
  (hk:∀ av mem' maps',R av mem' maps'→k (ren (YV ks s.mem.length) av) { s with mem:=YQ s.mem ks mem',maps:=maps'++s.maps }):Wn P f avs s k:=
 .inr (.inl ⟨ks,args',mem0,maps0,false,hnd,⟨ArgsX.of_cells ha,.inr ha⟩,hs,Z7 hm,h.mono fun av mem' maps' r=>⟨.inl rfl,fun _=>hk av mem' maps' r⟩⟩)
theorem Zc0 {f:FuncId} {avs args':List AV} {k:AV→VS→Prop} {mem0:List (Option Ob)} {maps0:List (Nat×Mp)} {R:AV→List (Option Ob)→List (Nat×Mp)→Prop} (ks:List Nat) (h:VProc P f args' mem0 maps0 R) (hnd:ks.Nodup) (ha:ZO (fun j=>ks.getD j 0) ks.length avs args')
  (hs:XS (fun j=>ks.getD j 0) ks.length s.mem ks mem0) (hm:Yc s.maps maps0)
  (hk:∀ av mem' maps',R av mem' maps'→Zd1 s.maps maps0 maps'→k (ren (YV ks s.mem.length) av) { s with mem:=YQ s.mem ks mem',maps:=maps'++s.maps }):Wn P f avs s k:=
 .inr (.inl ⟨ks,args',mem0,maps0,false,hnd,⟨ArgsX.of_cells ha,.inr ha⟩,hs,Z7 hm,h.mono fun av mem' maps' r=>⟨.inl rfl,hk av mem' maps' r⟩⟩)
theorem ZeO {ty sz n:Nat} {f:Nat→List AV} (h:∀ i,(f i).all X8=true):Zlg [none,some ⟨ty,sz,n,f⟩]:=fun k ob hk i _=>by
 match k,hk with
 |0,hk=>simp at hk
 |1,hk=>
  simp only [List.getElem?_cons_succ,List.getElem?_cons_zero,Option.some.injEq] at hk
  subst hk
  exact h i
 |k+2,hk=>simp at hk
theorem Jz {f:FuncId} {avs args':List AV} {k:AV→VS→Prop} {mem0:List (Option Ob)} {maps0:List (Nat×Mp)} {R:AV→List (Option Ob)→List (Nat×Mp)→Prop} (ks:List Nat) (h:VProc P f args' mem0 maps0 R) (hnd:ks.Nodup) (ha:ArgsX s.mem ks avs args')
  (hs:XS (fun j=>ks.getD j 0) ks.length s.mem ks mem0) (hm:Yc s.maps maps0)
  (hk:∀ av mem' maps',R av mem' maps'→Zlg mem'∧k (ren (YV ks s.mem.length) av) { s with mem:=YQ s.mem ks mem',maps:=maps'++s.maps }) (hf:∀ av mem' maps',R av mem' maps'→Vb av=true:=by rintro _ _ _ ⟨rfl,_⟩;rfl):Wn P f avs s k:=
 .inr (.inl ⟨ks,args',mem0,maps0,true,hnd,⟨ha,.inl rfl⟩,hs,Z7 hm,h.mono fun av mem' maps' r=>⟨.inr ⟨(hk av mem' maps' r).1,hf av mem' maps' r⟩,fun _=>(hk av mem' maps' r).2⟩⟩)
@[go_sem] theorem argsX_nil {mem:List (Option Ob)} {ks:List Nat}:ArgsX mem ks [] []=True:=_root_.id rfl
@[go_sem] theorem argsX_cons {mem:List (Option Ob)} {ks:List Nat} {a b:AV} {r r':List AV}:ArgsX mem ks (a::r) (b::r')=(Zme mem ks a b∧ArgsX mem ks r r'):=_root_.id rfl
@[go_sem] theorem shAt_s {f:Nat→Nat} {m:Nat} {ob ob':Ob}:Zle f m ob' (some (some ob))=ZbH f m ob ob':=_root_.id rfl
@[go_sem] theorem rn_ptr {f:Nat→Nat} {m:Nat} {x:AV} {k a b c:Nat}:Rn f m x (.ptr k a b c)=(k<m∧x=.ptr (f k) a b c):=propext ⟨fun h=>by cases h with
 |ptr _ _ _ _ h=>exact ⟨h,rfl⟩
 |closed _ h=>(cases h),fun h=>by rw [h.2];exact .ptr k a b c h.1⟩
@[go_sem] theorem rn_agg {f:Nat→Nat} {m:Nat} {cs ds:List AV}:Rn f m (.agg cs) (.agg ds)=ZO f m cs ds:=propext ⟨fun h=>by
 have all:∀ (cs ds:List AV),cs.length=ds.length→(∀ (j:Nat) a b,cs[j]?=some a→ds[j]?=some b→Rn f m a b)→ZO f m cs ds:=by
  intro cs
  induction cs with
  |nil=>intro ds hl _;cases ds with
   |nil=>trivial
   |cons _ _=>simp at hl
  |cons c cs ih=>
   intro ds hl h
   cases ds with
   |nil=>simp at hl
   |cons d ds=>exact ⟨h 0 c d rfl rfl,ih ds (by simpa using hl) fun j a b h1 h2=>h (j+1) a b (by simpa using h1) (by simpa using h2)⟩
 cases h with
 |agg _ _ hl h=>exact all _ _ hl h
 |closed _ hc=>cases hc with
  |agg _ hc=>exact all _ _ rfl fun j a b h1 h2=>(by rw [h1] at h2;cases h2;exact .closed _ (hc a (List.mem_of_getElem? h1))),fun h=>.agg cs ds (X0 h).1 (X0 h).2⟩
def WN (idx:Nat→Nat) (ks:List Nat) (ob':Ob):Option (Option Ob)→Prop
 |some (some ob)=>ob.ty=ob'.ty∧ob.sz=ob'.sz∧ob.n=ob'.n∧∀ i,i<ob'.n→(ob.f i).map (Ww idx)=ob'.f i∧(∀ c,c∈ob'.f i→Gu c)∧∀ c,c∈ob.f i→∀ q,q∈WI c→q∈ks
 | _=>False
def UC (idx:Nat→Nat) (all:List Nat) (m:List (Option Ob)):List Nat→List (Option Ob)→Prop
 |[],[]=>True
 |k::ks,none::r=>UC idx all m ks r
 |k::ks,some ob'::r=>WN idx all ob' (m[k]?)∧UC idx all m ks r
 | _,_=>False
theorem Je {idx:Nat→Nat} {all:List Nat} {m:List (Option Ob)}:∀ {ks:List Nat} {r:List (Option Ob)},UC idx all m ks r→r.length=ks.length∧∀ (j:Nat) ob',r[j]?=some (some ob')→∃ k ob,ks[j]?=some k∧m[k]?=some (some ob)∧WN idx all ob' (some (some ob))
 |[],[],_=>⟨rfl,fun j ob h=>by simp at h⟩
 |k::ks,none::r,h=>by
  obtain ⟨h1,h2⟩:=Je (ks:=ks) (r:=r) h
  refine ⟨by simp [h1],fun j ob' hj=>?_⟩
  cases j with
  |zero=>simp at hj
  |succ j=>obtain ⟨k,ob,e1,e2⟩:=h2 j ob' (by simpa using hj);exact ⟨k,ob,by simpa using e1,e2⟩
 |k::ks,some ob0::r,h=>by
  obtain ⟨h1,h2⟩:=Je (ks:=ks) (r:=r) h.2
  refine ⟨by simp [h1],fun j ob' hj=>?_⟩
  cases j with
  |zero=>
   simp only [List.getElem?_cons_zero,Option.some.injEq] at hj
   subst hj
   have h3:=h.1
   generalize hy:m[k]?=y at h3
   match y,hy,h3 with
   |some (some o),hy,h3=>exact ⟨k,o,rfl,hy,h3⟩
  |succ j=>obtain ⟨k,ob,e1,e2⟩:=h2 j ob' (by simpa using hj);exact ⟨k,ob,by simpa using e1,e2⟩
 |[],_::_,h=>h.elim
 | _::_,[],h=>h.elim
def YX (fix:Nat) (ex:List Nat) (k:Nat):Nat:=if k<fix then k else fix+ex.idxOf k
def XY (fix:Nat) (ex:List Nat):List Nat:=List.range fix++ex
def Zag (P:Program) (maps0:List (Nat×Mp)) (rs:List ResultVar) (R:AV→List (Option Ob)→List (Nat×Mp)→Prop) (s:VS):Prop:=
 VI P s rs fun l=>true=true∧∃ ex mem',ex.Nodup∧(∀ e,e∈ex→s.fix≤e∧e<s.mem.length)∧((∀ q,q∈Wi (XJ l)→q∈XY s.fix ex)∧clW (XJ l))∧UC (YX s.fix ex) (XY s.fix ex) s.mem (XY s.fix ex) mem'∧
  (∀ b,(lkm maps0 b).isSome=true→(lkm s.maps b).isSome=true)∧R (ren (YX s.fix ex) (XJ l)) mem' s.maps
end
section
variable {P:Program} {n:Nat} {base:Fr} {w0 w:World} {hd:Nat→Value} {s:VS} {a:Act}
theorem Jv {fn:Func} {R:AV→List (Option Ob)→List (Nat×Mp)→Prop} {mem0:List (Option Ob)} {maps0:List (Nat×Mp)} {hd0:Nat→Value} {ds:List Deferred} {hdI:Nat→Value} (h:RelH n ⟨P,Sh w0 hd0 mem0 maps0,hd0,ds⟩ w0 hdI s a w) (hfix:s.fix=mem0.length) (hv:Zag P maps0 fn.results.toList R s) :
  ∃ v,(results fn a.tmps).run P w=.ok v w∧Bel (Sh w0 hd0 mem0 maps0) w0 w∧∃ hd av mem maps,R av mem maps∧PostOk mem0 maps0 av mem maps∧((∀ k,k<mem0.length→hd k=hd0 k)∧TailEq hd0 hd)∧MemRel (Sh w0 hd0 mem0 maps0) w hd mem∧MapRel P (Sh w0 hd0 mem0 maps0) w maps∧Rep w (Zw mem hd) hd mem.length av v∧∀ b,Zw s.mem hdI b→Zw mem hd b:=by
 obtain ⟨v,l,h1,h2,hfl,ex,mem',hnd,hex,⟨hall,hcw⟩,hout,hmaps,hR⟩:=KJ h hv
 obtain ⟨g1,g2⟩:=Je hout
 generalize hks:XY s.fix ex=ks at *
 have hfixl:=h.fixl
 have hlen:ks.length=s.fix+ex.length:=by rw [←hks];simp [XY]
 have hlow:∀ j,j<s.fix→ks[j]?=some j:=by
  intro j hj
  rw [←hks];unfold XY
  rw [List.getElem?_append_left (by simpa using hj)]
  simp [hj]
 have hhigh:∀ j,s.fix≤j→ks[j]?=ex[j-s.fix]?:=by
  intro j hj
  rw [←hks];unfold XY
  rw [List.getElem?_append_right (by simpa using hj)]
  simp
 have hknd:ks.Nodup:=by
  rw [←hks];unfold XY
  refine List.nodup_append.2 ⟨List.nodup_range,hnd,fun x hx y hy e=>?_⟩
  have:=(hex y hy).1
  simp at hx;omega
 have hkl:∀ k,k∈ks→k<s.mem.length:=by
  intro k hk
  rw [←hks] at hk
  simp only [XY,List.mem_append,List.mem_range] at hk
  rcases hk with hk|hk
  ·omega
  ·exact (hex k hk).2
 have hidx:∀ k,k∈ks→YX s.fix ex k<ks.length∧ks[YX s.fix ex k]?=some k:=by
  intro k hk
  unfold YX
  by_cases hlt:k<s.fix
  ·rw [if_pos hlt];exact ⟨by omega,hlow k hlt⟩
  ·rw [if_neg hlt]
   have hke:k∈ex:=by
    rw [←hks] at hk
    simp only [XY,List.mem_append,List.mem_range] at hk
    exact hk.resolve_left hlt
   have hi:=List.idxOf_lt_length_of_mem hke
   refine ⟨by omega,?_⟩
   rw [hhigh _ (by omega),Nat.add_sub_cancel_left,List.getElem?_eq_getElem hi,List.getElem_idxOf]
 obtain ⟨HD,hHD⟩:∃ HD:Nat→Value,HD=fun j=>if j<ks.length then hdI (ks.getD j 0) else hdI j:=⟨_,rfl⟩
 have heqT:TailEq hdI HD:=⟨ks.length,fun k hk=>by rw [hHD];exact if_neg (by omega)⟩
 have hHDk:∀ j k,ks[j]?=some k→HD j=hdI k:=by
  intro j k hj
  rw [hHD];simp only [if_pos (List.getElem?_eq_some_iff.1 hj).1,List.getD_eq_getElem?_getD,hj,Option.getD_some]
 have renOk:∀ q,q∈ks→YX s.fix ex q<mem'.length∧HD (YX s.fix ex q)=hdI q:=by
  intro q hq
  obtain ⟨i1,i2⟩:=hidx q hq
  exact ⟨by omega,hHDk _ _ i2⟩
 refine ⟨v,h1,h.below,HD,_,mem',s.maps,hR,⟨by omega,?_,fun j ob' hj i hi=>?_,hmaps⟩,⟨fun k hk=>?_,h.fix.2.1.trans ⟨ks.length,fun k hk=>by rw [hHD];exact if_neg (by omega)⟩⟩,⟨fun j ob' hj b hb=>?_,fun j ob' hj=>?_,fun j hj=>?_,fun j j' o o' hj hj' hne=>?_⟩,h.mp,?_,fun b hb=>⟨fun j2 ob2 hj2=>by
  obtain ⟨k2,ob3,e1,e2,_⟩:=g2 j2 ob2 hj2
  rw [hHDk j2 k2 e1]
  exact hb.1 k2 ob3 e2,hb.2.eq heqT⟩⟩
 ·exact Zl0 hcw
 ·obtain ⟨k,ob,_,_,_,_,_,e⟩:=g2 j ob' hj
  exact (e i hi).2.1
 ·rw [hHDk k k (hlow k (by omega)),h.fix.1 k (by omega)]
 ·obtain ⟨k,ob,e1,e2,_⟩:=g2 j ob' hj
  rw [hHDk j k e1] at hb
  exact h.me.alw k ob e2 b hb
 ·obtain ⟨k,ob,e1,e2,e3,e4,e5,e6⟩:=g2 j ob' hj
  obtain ⟨hs,vals,ho,hr⟩:=h.me.obs k ob e2
  rw [hHDk j k e1]
  refine ⟨by omega,vals,by rw [←e3,←e4,←e5];exact ho,fun i hi=>?_⟩
  obtain ⟨q1,q2⟩:=hr i (by omega)
  obtain ⟨q3,q4,q5⟩:=e6 i hi
  refine ⟨by rw [←q3,List.length_map];omega,fun c av hc=>?_⟩
  rw [←q3,List.getElem?_map,Option.map_eq_some_iff] at hc
  obtain ⟨a0,hc,rfl⟩:=hc
  obtain ⟨u,r1,r2,r3⟩:=q2 c a0 hc
  refine ⟨u,by rw [←e4];exact r1,r2,?_⟩
  have hf:Gu a0:=flatC_ren.1 (q4 (Ww (YX s.fix ex) a0) (by rw [←q3];exact List.mem_map_of_mem (List.mem_of_getElem? hc)))
  refine r3.renC_ hf (fun ad u h1 h2=>⟨h2,fun j' ob2 hj2=>?_,h1.2.eq heqT⟩) fun q hq _=>renOk q (q5 a0 (List.mem_of_getElem? hc) q hq)
  obtain ⟨k2,ob3,e1',e2',_⟩:=g2 j' ob2 hj2
  rw [hHDk j' k2 e1']
  exact h1.1 k2 ob3 e2'
 ·have hj':j<ks.length:=by omega
  rw [hHDk j ks[j] (List.getElem?_eq_getElem hj')]
  exact h.me.hds _ (hkl _ (List.getElem_mem hj'))
 ·obtain ⟨k,ob,e1,e2,_⟩:=g2 j o hj
  obtain ⟨k',ob2,e1',e2',_⟩:=g2 j' o' hj'
  rw [hHDk j k e1,hHDk j' k' e1']
  refine h.me.apart k k' ob ob2 e2 e2' fun e=>hne ?_
  subst e
  obtain ⟨l1a,l1b⟩:=List.getElem?_eq_some_iff.1 e1
  obtain ⟨l2a,l2b⟩:=List.getElem?_eq_some_iff.1 e1'
  exact (List.getElem_inj hknd).1 (l1b.trans l2b.symm)
 ·exact h2.renW_ hcw (fun ad u h1 h2=>⟨h2,fun j' ob2 hj2=>by
   obtain ⟨k2,ob3,e1',e2',_⟩:=g2 j' ob2 hj2
   rw [hHDk j' k2 e1']
   exact h1.1 k2 ob3 e2',h1.2.eq heqT⟩) fun q hq _=>renOk q (hall q hq)
theorem WW {fn:Func} {R:AV→List (Option Ob)→List (Nat×Mp)→Prop} {mem0:List (Option Ob)} {maps0:List (Nat×Mp)} {hd0:Nat→Value} {ds:List Deferred} (h:RelH n ⟨P,Sh w0 hd0 mem0 maps0,hd0,ds⟩ w0 hd s a w) (hfix:s.fix=mem0.length) (hv:Zag P maps0 fn.results.toList R s) :
  ∃ v,(results fn a.tmps).run P w=.ok v w∧Bel (Sh w0 hd0 mem0 maps0) w0 w∧∃ hd av mem maps,R av mem maps∧PostOk mem0 maps0 av mem maps∧((∀ k,k<mem0.length→hd k=hd0 k)∧TailEq hd0 hd)∧MemRel (Sh w0 hd0 mem0 maps0) w hd mem∧MapRel P (Sh w0 hd0 mem0 maps0) w maps∧Rep w (Zw mem hd) hd mem.length av v:=by
 obtain ⟨v,h1,h2,hd',av,mem,maps,h3,h4,h5,h6,h7,h8,_⟩:=Jv h hfix hv
 exact ⟨v,h1,h2,hd',av,mem,maps,h3,h4,h5,h6,h7,h8⟩
def X1 (args:List AV) (mem0:List (Option Ob)) (maps0:List (Nat×Mp)):VS:=⟨(List.range args.length).map fun j=>(j,args.getD j .undef),mem0,maps0,mem0.length⟩
def Zh1 (P:Program) (m:Nat) (maps0:List (Nat×Mp)) (rs:List ResultVar) (R:AV→List (Option Ob)→List (Nat×Mp)→Prop) (e:VX) (s:VS):Prop:=match e with
 | .exit _=>False
 | _=>s.fix=m∧Zag P maps0 rs R s
@[go_sem] theorem KfinP_r {m:Nat} {maps0:List (Nat×Mp)} {rs:List ResultVar} {R:AV→List (Option Ob)→List (Nat×Mp)→Prop}:Zh1 P m maps0 rs R .ret s=(s.fix=m∧Zag P maps0 rs R s):=_root_.id rfl
theorem Zu {f:FuncId} {fn:Func} {c:Code} {args:List AV} {mem0:List (Option Ob)} {maps0:List (Nat×Mp)} {R:AV→List (Option Ob)→List (Nat×Mp)→Prop} (hf:P.funcs[f]?=some fn) (hn:(fn.name== "runtime.NumGoroutine")=false) (hb:fn.body=some c) (hl:args.length≤fn.ntmps)
  (h:vc P fn.ntmps c (X1 args mem0 maps0) (Zh1 P mem0.length maps0 fn.results.toList R)):VProc P f args mem0 maps0 R:=by
 refine ⟨⟨fn,hf,hn,by rw [hb];rfl⟩,fun w vs hd0 hlen hrep hm hmp htl=>?_⟩
 obtain ⟨hlen,hgw,hlo⟩:=hlen
 refine calls_of_wp hf hb ?_
 have hst:∀ t,lk (X1 args mem0 maps0).tmps t=args.getD t .undef:=by
  intro t
  have:∀ (l:List Nat) (t:Nat),lk (l.map fun j=>(j,args.getD j .undef)) t=if t∈l then args.getD t .undef else .undef:=by
   intro l t
   induction l with
   |nil=>rfl
   |cons x l ih=>
    simp only [List.map_cons,lk]
    by_cases e:x=t
    ·subst e;simp
    ·rw [if_neg e,ih]
     have e':¬t=x:=fun h=>e h.symm
     simp [e']
  rw [X1,this]
  by_cases ht:t<args.length
  ·rw [if_pos (by simpa using ht)]
  ·rw [if_neg (by simpa using ht),List.getD_eq_getElem?_getD,List.getElem?_eq_none (by omega)];rfl
 have hrel:RelH fn.ntmps ⟨P,Sh w hd0 mem0 maps0,hd0,[]⟩ w hd0 (X1 args mem0 maps0) { tmps:=vs.toArray++Array.replicate (fn.ntmps-vs.toArray.size) undef,defers:=[] } w:=by
  refine ⟨rfl,by simp;omega,Bel.refl _ _,⟨fun b hb=>.inl hb,hgw,hlo⟩,Nat.le_refl _,⟨fun k hk=>rfl,TailEq.refl _,htl⟩,fun b mp hb=>?_,fun t=>?_,⟨fun k ob hk b hb=>.inr (.inl ⟨k,ob,hk,hb⟩),hm.obs,hm.hds,hm.apart⟩⟩
  ·obtain ⟨_,es,clock,q1,q2⟩:=hmp b mp hb
   exact ⟨.inr (.inr (by have:lkm maps0 b=some mp:=hb;rw [this];rfl)),es,clock,q1,q2⟩
  ·rw [hst]
   by_cases ht:t<args.length
   ·have h1:(vs.toArray++Array.replicate (fn.ntmps-vs.toArray.size) undef).getD t undef=vs[t]'(by omega):=by
     rw [Array.getD_eq_getD_getElem?,Array.getElem?_append_left (by simp;omega)]
     simp [show t<vs.length by omega]
    rw [h1,List.getD_eq_getElem?_getD,List.getElem?_eq_getElem ht]
    exact hrep t _ _ (List.getElem?_eq_getElem ht) (List.getElem?_eq_getElem (by omega))
   ·rw [List.getD_eq_getElem?_getD,List.getElem?_eq_none (by omega)];exact .undef _
 refine X6 rfl c hrel h fun x hd' s' a' w' h' hk=>?_
 cases x with
 |exit id=>exact hk.elim
 |normal=>
  obtain ⟨v,h1,h2⟩:=WW h' hk.1 hk.2
  exact ⟨h'.defers,v,h1,v,rfl,h2⟩
 |ret=>
  obtain ⟨v,h1,h2⟩:=WW h' hk.1 hk.2
  exact ⟨h'.defers,v,h1,v,rfl,h2⟩
section
variable {v:Value} {k sz i j n:Nat} {f:Nat→List AV} {cs:List AV}
@[go_sem] theorem clW_tup:clW (.tup cs)=∀ v,v∈cs→GO v:=_root_.id rfl
@[go_sem] theorem clW_lit:clW (.lit v)=True:=eq_true (.inl rfl)
@[go_sem] theorem clW_own:clW (.own k)=True:=eq_true (.inl rfl)
@[go_sem] theorem clW_sub:clW (.sub k sz i j)=True:=eq_true (.inl rfl)
@[go_sem] theorem clW_agg:clW (.agg cs)=(cs.all X8=true∨Closed (.agg cs)):=_root_.id rfl
@[go_sem] theorem clW2_lit:GO (.lit v)=True:=eq_true (.inl rfl)
@[go_sem] theorem clW2_own:GO (.own k)=True:=eq_true (.inl rfl)
@[go_sem] theorem clW2_ptr:GO (.ptr k sz i j)=True:=eq_true (.inl rfl)
@[go_sem] theorem clW2_agg:GO (.agg cs)=(cs.all X8=true∨Closed (.agg cs)):=_root_.id rfl
end
def VJ (maps0:List (Nat×Mp)) (R:AV→List (Option Ob)→List (Nat×Mp)→Prop) (s:VS) (av:AV):Prop:=true=true∧∃ ex mem',ex.Nodup∧(∀ e,e∈ex→s.fix≤e∧e<s.mem.length)∧((∀ q,q∈Wi av→q∈XY s.fix ex)∧clW av)∧UC (YX s.fix ex) (XY s.fix ex) s.mem (XY s.fix ex) mem'∧
  (∀ b,(lkm maps0 b).isSome=true→(lkm s.maps b).isSome=true)∧R (ren (YX s.fix ex) av) mem' s.maps
def Uh (P:Program) (maps0:List (Nat×Mp)) (R:AV→List (Option Ob)→List (Nat×Mp)→Prop) (s:VS):List ResultVar→List AV→Prop
 |[],acc=>VJ maps0 R s (XJ acc.reverse)
 | .tmp t::r,acc=>Uh P maps0 R s r (lk s.tmps t::acc)
 | .cell t T::r,acc=>Jx P T s (fun av _=>Uh P maps0 R s r (av::acc)) (lk s.tmps t)
def Zmo (P:Program) (maps0:List (Nat×Mp)) (R:AV→List (Option Ob)→List (Nat×Mp)→Prop) (s:VS) (r:List ResultVar) (acc:List AV) (av:AV) (_:VS):Prop:=Uh P maps0 R s r (av::acc)
theorem Zah {maps0:List (Nat×Mp)} {R:AV→List (Option Ob)→List (Nat×Mp)→Prop}:∀ (rs:List ResultVar) (acc:List AV),VI P s rs (fun l=>VJ maps0 R s (XJ (acc.reverse++l)))=Uh P maps0 R s rs acc
 |[],acc=>by simp [VI,Uh]
 | .tmp t::r,acc=>by
  have:=Zah (maps0:=maps0) (R:=R) r (lk s.tmps t::acc)
  simpa [VI,Uh] using this
 | .cell t T::r,acc=>by
  have h:∀ av,VI P s r (fun l=>VJ maps0 R s (XJ (acc.reverse++(av::l))))=Uh P maps0 R s r (av::acc):=fun av=>by
   have:=Zah (maps0:=maps0) (R:=R) r (av::acc)
   simpa using this
  simp only [VI,Uh,h]
  generalize hk:(fun (av:AV) (_:VS)=>Uh P maps0 R s r (av::acc))=k
  show vop P (.load T (.tmp t)) s k=_
  simp only [vop,ev]
  generalize lk s.tmps t=v
  cases v<;>rfl
variable {maps0:List (Nat×Mp)} {R:AV→List (Option Ob)→List (Nat×Mp)→Prop} {r:List ResultVar} {acc:List AV} {t:Tmp}
@[go_sem] theorem vretP_eq {rs:List ResultVar}:Zag P maps0 rs R s=Uh P maps0 R s rs []:=Zah (R:=R) rs []
@[go_sem] theorem vresP_nil:Uh P maps0 R s [] acc=VJ maps0 R s (XJ acc.reverse):=_root_.id rfl
@[go_sem] theorem vresP_tmp:Uh P maps0 R s (.tmp t::r) acc=Uh P maps0 R s r (lk s.tmps t::acc):=_root_.id rfl
@[go_sem] theorem vresP_cell {T:TypeId}:Uh P maps0 R s (.cell t T::r) acc=Jx P T s (Zmo P maps0 R s r acc) (lk s.tmps t):=_root_.id rfl
@[go_sem] theorem KresP_ {s':VS} {av:AV}:Zmo P maps0 R s r acc av s'=Uh P maps0 R s r (av::acc):=_root_.id rfl
end
attribute [go_sem] Zha X1 ZO XS ZbH Vn YQ VM YV UC XY YX Ht
end Go.Proofs.YtadghlfkddkelaaGreatDoor.V
namespace Go.Proofs.YtadghlfkddkelaaGreatDoor.V
open Go.RowKit
def RepA (w:World) (hd:Nat→Value) (as:List AV) (cs:List Value):Prop:=as.length=cs.length∧∀ (j:Nat) a u,as[j]?=some a→cs[j]?=some u→Rep w (fun _=>True) hd 0 a u
def ZbN {α β:Type} (p:α→β→Prop):List α→List β→Prop
 |[],[]=>True
 |a::r,b::r'=>p a b∧ZbN p r r'
 | _,_=>False
def Vg (P:Program):Nat→TypeId→List AV→Prop
 |0,_,_=>True
 |n+1,t,as=>match P.underlying t with
  |some .bool=>∃ b,as=[.lit (.bool b)]
  |some (.int k)=>∃ i,as=[.lit (.int k i)]∧(Lit.int k i).wf=true
  |some .string=>∃ s,as=[.lit (.string s)]∧s.size≤maxLen
  |some (.slice e)=>∃ m f,as=[.sl (P.cellsOf e) m f]∧m≤maxLen∧∀ i,i<m→(f i).length=P.cellsOf e∧Vg P n e (f i)
  |some (.struct fs)=>∃ parts:List (List AV),ZbN (fun (f:Field) c=>c.length=P.cellsOf f.type∧Vg P n f.type c) fs.toList parts∧as=parts.flatten
  | _=>True
theorem ZfS {α β:Type} {p:α→β→Prop} {l:List β}:ZbN p [] l↔l=[]:=by cases l<;>simp [ZbN]
theorem ZcM {α β:Type} {p:α→β→Prop} {a:α} {r:List α} {l:List β}:ZbN p (a::r) l↔∃ b l',l=b::l'∧p a b∧ZbN p r l':=by
 cases l with
 |nil=>simp [ZbN]
 |cons b l=>exact ⟨fun h=>⟨b,l,rfl,h⟩,fun ⟨_,_,e,h⟩=>by cases e;exact h⟩
section
variable {P:Program} {n:Nat} {t e:TypeId} {xs:List AV}
theorem JF (hu:P.underlying t=some .string) (h:Vg P (n+1) t xs):∃ s,xs=[.lit (.string s)]∧s.size≤maxLen:=by unfold Vg at h;rw [hu] at h;exact h
theorem Zer (hu:P.underlying t=some (.slice e)) (h:Vg P (n+1) t xs):∃ m f,xs=[.sl (P.cellsOf e) m f]∧m≤maxLen∧∀ i,i<m→(f i).length=P.cellsOf e∧Vg P n e (f i):=by unfold Vg at h;rw [hu] at h;exact h
theorem Zda {fs:Array Field} (hu:P.underlying t=some (.struct fs)) (h:Vg P (n+1) t xs):∃ parts:List (List AV),ZbN (fun (f:Field) c=>c.length=P.cellsOf f.type∧Vg P n f.type c) fs.toList parts∧xs=parts.flatten:=by unfold Vg at h;rw [hu] at h;exact h
end
section
variable {w:World} {hd:Nat→Value}
theorem RepA.nil:RepA w hd [] []:=⟨rfl,fun j a u h=>by simp at h⟩
theorem RepA.append {a b:List AV} {c d:List Value} (h:RepA w hd a c) (h':RepA w hd b d):RepA w hd (a++b) (c++d):=by
 refine ⟨by simp [h.1,h'.1],fun j x u hx hu=>?_⟩
 by_cases hj:j<a.length
 ·rw [List.getElem?_append_left hj] at hx
  rw [List.getElem?_append_left (by rw [←h.1];exact hj)] at hu
  exact h.2 j x u hx hu
 ·rw [List.getElem?_append_right (by omega)] at hx
  rw [List.getElem?_append_right (by rw [←h.1];omega),←h.1] at hu
  exact h'.2 _ x u hx hu
theorem RepA.one {a:AV} {u:Value} (h:Rep w (fun _=>True) hd 0 a u):RepA w hd [a] [u]:=by
 refine ⟨rfl,fun j x v hx hv=>?_⟩
 cases j with
 |zero=>simp at hx hv;subst hx;subst hv;exact h
 |succ j=>simp at hx
theorem RepA.undefs (cs:List Value):RepA w hd (cs.map fun _=>.undef) cs:=by
 refine ⟨by simp,fun j a u hx hu=>?_⟩
 rw [List.getElem?_map,hu] at hx
 simp at hx
 subst hx
 exact .undef u
theorem Zkg {cs0:List Value} (sz:Field→Nat):∀ (fs:List Field) (o:Nat),(∀ (j:Nat) f,fs[j]?=some f→f.offset=o+((fs.take j).map sz).sum)→(cs0.drop o).length=(fs.map sz).sum→
  cs0.drop o=(fs.map fun f=>(cs0.drop f.offset).take (sz f)).flatten
 |[],o,_,h=>by
  simp only [List.map_nil,List.sum_nil,List.flatten_nil] at h ⊢
  exact List.length_eq_zero_iff.mp h
 |f::fs,o,ho,h=>by
  have e0:f.offset=o:=by simpa using ho 0 f rfl
  have hl:(cs0.drop (o+sz f)).length=(fs.map sz).sum:=by
   simp only [List.map_cons,List.sum_cons,List.length_drop] at h ⊢
   omega
  have:=Zkg sz fs (o+sz f) (fun j g hg=>by
   have:=ho (j+1) g (by simpa using hg)
   simp only [List.take_succ_cons,List.map_cons,List.sum_cons] at this
   omega) hl
  simp only [List.map_cons,List.flatten_cons]
  rw [←this,e0,←List.drop_drop]
  exact (List.take_append_drop _ _).symm
variable {H:Type} {enc:TypeId×Value→H} {P:Program} {sp:Nat→Bool} {held:Bool}
theorem ZcB {p:Field→List AV→Prop} {g:Field→List Value}:∀ (fs:List Field),(∀ f,f∈fs→∃ as,RepA w hd as (g f)∧p f as)→∃ parts,ZbN p fs parts∧RepA w hd parts.flatten (fs.map g).flatten
 |[],_=>⟨[],trivial,.nil⟩
 |f::fs,h=>by
  obtain ⟨as,h1,h2⟩:=h f (by simp)
  obtain ⟨parts,h3,h4⟩:=ZcB fs fun f hf=>h f (by simp [hf])
  exact ⟨as::parts,⟨h2,h3⟩,by simpa using h1.append h4⟩
theorem Gb (l:List Nat) (k:Nat):(l.take k).sum≤l.sum:=by
 have:(l.take k).sum+(l.drop k).sum=l.sum:=by rw [←List.sum_append_nat,List.take_append_drop]
 omega
instance:Inhabited AV:=⟨.undef⟩
theorem Jc (hl:laidOutB P=true) (hz:∀ t e,t<P.types.size→P.underlying t=some (.slice e)→0<P.cellsOf e):∀ (n fuel:Nat) (t:TypeId) (cs:List Value) (x:DataW H×List MemPlace),t<P.types.size→
  DataW.trod enc P w 0 sp held fuel t cs=some x→∃ as,RepA w hd as cs∧Vg P n t as
 |0,fuel,t,cs,x,ht,h=>⟨_,.undefs cs,trivial⟩
 |n+1,fuel,t,cs,x,ht,h=>by
  unfold Vg
  cases hu:P.underlying t with
  |none=>exact ⟨_,.undefs cs,trivial⟩
  |some D=>
   cases D with
   |bool=>
    obtain ⟨b,rfl,_⟩:=DataW.trod_bool hu h
    exact ⟨_,.one (.lit _),b,rfl⟩
   |int k=>
    obtain ⟨i,rfl,_,hw⟩:=DataW.trod_int hu h
    exact ⟨_,.one (.lit _),i,rfl,hw⟩
   |string=>
    obtain ⟨s,rfl,_,hw⟩:=DataW.trod_string hu h
    exact ⟨_,.one (.lit _),s,rfl,hw⟩
   |slice e=>
    have hse:=hz t e ht hu
    rcases Go.Deep.open_slice hu h with ⟨rfl,_⟩|⟨a,len,cap,m,k,D,Pl,rfl,hb,hlc,hm,hmm,_,hx⟩
    ·refine ⟨[.sl (P.cellsOf e) 0 (fun _=>[])],.one (.sl _ _ _ _ _ (fun _ _=>undef) (Nat.le_refl _) (by omega) hse (fun i hi=>by omega) (fun h=>by omega) (fun i j a hi=>by omega)),0,_,rfl,by simp [maxLen],fun i hi=>by omega⟩
    ·have hlm:len≤m:=by rw [hmm];split<;>omega
     have hmx:len≤9223372036854775807:=by simp only [maxLen] at hm;omega
     have each:∀ i,i<len→∃ q:List AV×List Value,w.cells? 0 (a.add (i*P.cellsOf e)) (P.cellsOf e)=some q.2∧RepA w hd q.1 q.2∧Vg P n e q.1:=by
      intro i hi
      obtain ⟨cs',h1,h2⟩:=hx i (by omega)
      obtain ⟨as,h3,h4⟩:=Jc hl hz n k e cs' _ (kid_slice hl ht hu) h2
      exact ⟨(as,cs'),h1,h3,h4⟩
     obtain ⟨q,hq⟩:=Go.Deep.choose_lt each
     refine ⟨[.sl (P.cellsOf e) len (fun i=>(q i).1)],.one (.sl _ _ _ _ _ (fun i j=>(q i).2.getD j undef) hlc hmx hse (fun i hi=>?_) (fun _=>⟨a,rfl,trivial,fun i j hi hj=>?_⟩) (fun i j av hi hav=>?_)),len,_,rfl,by simp only [maxLen] at hm ⊢;omega,fun i hi=>⟨?_,(hq i hi).2.2⟩⟩
     ·rw [(hq i hi).2.1.1];exact (World.cells?_some (hq i hi).1).2.1
     ·obtain ⟨_,h2,h3⟩:=World.cells?_some (hq i hi).1
      have:=h3 j hj
      rw [Go.Deep.add_add] at this
      rw [this,List.getD_eq_getElem?_getD,List.getElem?_eq_getElem (by omega)]
      rfl
     ·have hj:j<(q i).2.length:=by rw [←(hq i hi).2.1.1];exact (List.getElem?_eq_some_iff.mp hav).1
      refine (hq i hi).2.1.2 j av _ hav ?_
      rw [List.getD_eq_getElem?_getD,List.getElem?_eq_getElem hj]
      rfl
     ·rw [(hq i hi).2.1.1];exact (World.cells?_some (hq i hi).1).2.1
   |struct fs=>
    obtain ⟨xs,k,_,_,hlen,hxl,hf⟩:=DataW.trod_struct hu h
    obtain ⟨hk1,hk2,hk3⟩:=kid_struct hl ht hu
    have hp:=Zkg (cs0:=cs) (fun f=>P.cellsOf f.type) fs.toList 0 (fun j f hj=>by simpa using hk3 j f hj) (by simpa [hlen] using hk2)
    have each:∀ f,f∈fs.toList→∃ as,RepA w hd as ((cs.drop f.offset).take (P.cellsOf f.type))∧(as.length=P.cellsOf f.type∧Vg P n f.type as):=by
     intro f hfm
     obtain ⟨j,hj,e⟩:=List.mem_iff_getElem.mp hfm
     have hj':fs[j]?=some f:=by rw [←Array.getElem?_toList,List.getElem?_eq_getElem hj,e]
     have h1:=hf j f hj'
     have hjx:j<xs.length:=by rw [hxl];simpa using hj
     rw [List.getElem?_eq_getElem hjx] at h1
     obtain ⟨as,h3,h4⟩:=Jc hl hz n k f.type _ _ (hk1 f hfm) h1
     refine ⟨as,h3,?_,h4⟩
     rw [h3.1,List.length_take,List.length_drop]
     have h5:=hk3 j f (by rw [Array.getElem?_toList];exact hj')
     have h6:((fs.toList.take (j+1)).map fun f=>P.cellsOf f.type).sum≤(fs.toList.map fun f=>P.cellsOf f.type).sum:=by
      rw [List.map_take]
      exact Gb _ _
     rw [List.take_add_one,List.getElem?_eq_getElem hj] at h6
     simp only [List.map_append,List.sum_append,e,Option.toList_some,List.map_cons,List.map_nil,List.sum_cons,List.sum_nil] at h6
     omega
    obtain ⟨parts,h1,h2⟩:=ZcB fs.toList each
    refine ⟨parts.flatten,?_,parts,h1,rfl⟩
    rw [←hp] at h2
    simpa using h2
   | _=>exact ⟨_,.undefs cs,trivial⟩
def Zjf (P:Program) (t:TypeId) (as:List AV):AV:=match P.underlying t with
 |some (.struct _)=>.agg as
 |some .bool|some (.int _)|some .string|some (.slice _)=>as.headD .undef
 | _=>.undef
theorem Zkm (hl:laidOutB P=true) (hz:∀ t e,t<P.types.size→P.underlying t=some (.slice e)→0<P.cellsOf e) (n:Nat) {r:Reach} {b0:Nat} {t:TypeId} {v:Value} {d:DataW H} {ps:List MemPlace} (ht:t<P.types.size)
  (hval:Value.okWide P w r b0 t v) (h:DataW.Trod enc P w 0 sp held t v d ps):∃ as,(as.length=v.cells.size∧Vg P n t as)∧Rep w (fun _=>True) hd 0 (Zjf P t as) v:=by
 obtain ⟨fuel,h⟩:=h
 obtain ⟨as,h1,h2⟩:=Jc (hd:=hd) hl hz n fuel t _ _ ht h
 refine ⟨as,⟨by simpa using h1.1,h2⟩,?_⟩
 have one:∀ (hv:v.cells=#[v]),Rep w (fun _=>True) hd 0 (as.headD .undef) v:=by
  intro hv
  rw [hv] at h1
  obtain ⟨h3,h4⟩:=h1
  match as,h3 with
  |[a],_=>exact h4 0 a v rfl rfl
 unfold Zjf
 unfold Value.okWide at hval
 cases hu:P.underlying t with
 |none=>exact .undef v
 |some D=>
  rw [hu] at hval
  cases D with
  |struct fs=>
   obtain ⟨cs,rfl,_,_⟩:=hval
   have:=Rep.agg (w:=w) (ok:=fun _=>True) (hd:=hd) (m:=0) as cs.toList (by simpa [Value.cells] using h1.1) (by simpa [Value.cells] using h1.2)
   simpa using this
  |bool=>exact one (by cases v<;>first|rfl|(simp [Cell.okWide,Cell.ok,hu] at hval))
  |int k=>exact one (by cases v<;>first|rfl|(simp [Cell.okWide,Cell.ok,hu] at hval))
  |string=>exact one (by cases v<;>first|rfl|(simp [Cell.okWide,Cell.ok,hu] at hval))
  |slice e=>exact one (by cases v<;>first|rfl|(simp [Cell.okWide,Cell.ok,hu] at hval))
  | _=>exact .undef v
theorem Zcr (hl:laidOutB P=true) (hz:∀ t e,t<P.types.size→P.underlying t=some (.slice e)→0<P.cellsOf e) (n:Nat) {r:Reach} {b0:Nat}:∀ {ts:List TypeId} {vs:List Value} {ds:List (DataW H)} {ps:List MemPlace},
  (∀ t,t∈ts→t<P.types.size)→(∀ (j:Nat) t v,ts[j]?=some t→vs[j]?=some v→Value.okWide P w r b0 t v)→DataW.TrodAll enc P w 0 sp held ts vs ds ps→
  ∃ ass:List (List AV),ZbN (fun t as=>Vg P n t as) ts ass∧(List.zipWith (Zjf P) ts ass).length=vs.length∧∀ (j:Nat) a u,(List.zipWith (Zjf P) ts ass)[j]?=some a→vs[j]?=some u→Rep w (fun _=>True) hd 0 a u
 |[],[],[],ps,_,_,h=>⟨[],trivial,rfl,fun j a u hj=>by simp at hj⟩
 |t::ts,v::vs,d::ds,ps,ht,hval,⟨p,q,h1,h2,_⟩=>by
  obtain ⟨as,h3,h4⟩:=Zkm (hd:=hd) hl hz n (ht t (by simp)) (hval 0 t v rfl rfl) h1
  obtain ⟨ass,h5,h6,h7⟩:=Zcr hl hz n (fun t h=>ht t (by simp [h])) (fun j t v hj hv=>hval (j+1) t v (by simpa using hj) (by simpa using hv)) h2
  refine ⟨as::ass,⟨h3.2,h5⟩,by simpa using h6,fun j a u ha hu=>?_⟩
  cases j with
  |zero=>simp at ha hu;subst ha;subst hu;exact h4
  |succ j=>exact h7 j a u (by simpa using ha) (by simpa using hu)
theorem KI (hl:laidOutB P=true) {W W':World} (hb:Below W.heap.size W W'):∀ {ts:List TypeId} {vs:List Value} {ds:List (DataW H)} {ps:List MemPlace},
  (∀ t,t∈ts→t<P.types.size∧P.readableRec t=true)→(∀ x∈ps,x.block<W.heap.size)→DataW.TrodAll enc P W 0 (fun _=>true) true ts vs ds ps→DataW.TrodAll enc P W' 0 (fun b=>decide (b<W.heap.size)) true ts vs ds ps
 |[],[],[],_,_,_,h=>h
 |t::ts,v::vs,d::ds,ps,ht,hlt,⟨p,q,h1,h2,e⟩=>
  ⟨p,q,Below.trod hl (ht t (by simp)).2 (ht t (by simp)).1 h1 hb (fun x hx=>hlt x (by rw [e];exact List.mem_append_left _ hx)),
   KI hl hb (fun t h=>ht t (by simp [h])) (fun x hx=>hlt x (by rw [e];exact List.mem_append_right _ hx)) h2,e⟩
theorem ZmL {f:FuncId} {fn:Func} {s:ChangeSpec} {tb:TypeId} (n:Nat) (hl:laidOutB P=true) (hz:∀ t e,t<P.types.size→P.underlying t=some (.slice e)→0<P.cellsOf e) (hvars:s.vars=[])
  (hts:∀ t,t∈fn.params.toList→t<P.types.size∧P.readableRec t=true) (hs:∀ ds:List (DataW H),ds.length=fn.params.size→s.fn H ds=⟨[.lit (.bool true)],ds,[]⟩)
  (hrt:fn.resultTypes=#[tb]) (htb:P.underlying tb=some .bool)
  (hv:∀ ass:List (List AV),ZbN (fun t as=>Vg P n t as) fn.params.toList ass→VFun P f (List.zipWith (Zjf P) fn.params.toList ass) (fun av _=>av=.lit (.bool true)))
  {W:World} {base:Nat} {args:Array Value} {ds gs:List (DataW H)} {before:List MemPlace}
  (hval:∀ (j:Nat) t v,fn.params[j]?=some t→args[j]?=some v→Value.okWide P W .any base t v)
  (hW:DataW.Whole enc P fn.params.toList s.vars false W args.toList ds gs before) (hgw:GW P W) :
  Calls P f args W fun e W'=>∃ v,e=.returned v∧s.post enc P fn false true false false W args v W':=by
 have hW':=hW
 have hlt:=hW.lt
 obtain ⟨p,q,hA,hV,rfl,hfz,hnd⟩:=hW
 rw [hvars] at hV
 obtain ⟨rfl,rfl⟩:=Go.ChangeShapes.trodVars_none hV
 obtain ⟨ass,h1,h2,h3⟩:=Zcr (hd:=fun _=>undef) hl hz n (r:=.any) (b0:=base) (fun t h=>(hts t h).1) (fun j t v hj hv=>hval j t v (by simpa using hj) (by simpa using hv)) hA
 have hlen:ds.length=fn.params.size:=by
  have:∀ {ts:List TypeId} {vs:List Value} {ds:List (DataW H)} {ps:List MemPlace},DataW.TrodAll enc P W 0 (fun _=>true) true ts vs ds ps→ds.length=ts.length:=by
   intro ts
   induction ts with
   |nil=>intro vs ds ps h;cases vs<;>cases ds<;>first|rfl|exact h.elim
   |cons t ts ih=>intro vs ds ps h;cases vs<;>cases ds<;>first|exact h.elim|(obtain ⟨_,_,_,h,_⟩:=h;simp [ih h])
  simpa using this hA
 have:=(hv ass h1).2 W args.toList ⟨h2,hgw,fun b hb=>Nat.le_trans hgw.1 hb⟩ h3
 simp only [Array.toArray_toList] at this
 refine this.mono fun e W' ⟨v,he,hg,hd,av,obs,hr,_,_,_,hrep⟩=>⟨v,he,?_⟩
 subst hr
 have hvb:v=.bool true:=by cases hrep;rfl
 subst hvb
 have bel:Below W.heap.size W W':=(Below.refl _ W).grown hg (Nat.le_refl _) (fun k hk=>by simp at hk)
 refine ⟨_,_,_,[],p,[],hW',?_,?_,?_,bel.frame _,fun h=>by cases h⟩
 ·rw [hrt,List.append_nil,hs _ hlen]
  exact Go.ChangeShapes.trodAll_mk1 (shut_bool htb _)
 ·rw [List.append_nil,hs _ hlen]
  exact KI hl bel hts (fun x hx=>hlt x (by simpa using hx)) hA
 ·rw [List.append_nil,hs _ hlen,hvars]
  rfl
end
end Go.Proofs.YtadghlfkddkelaaGreatDoor.V
