import Derived.Test.YtjdmmhcogmepaaaGreatDoorFB
import Derived.Maps.RangeRun
import Derived.Test.YtjdmmhcogmepaaaGreatDoorFC
import Derived.Shelf.Strings.Builder1
import Derived.Test.YtjdmmhcogmepaaaGreatDoorFA
set_option linter.unusedVariables false
set_option linter.unusedSimpArgs false
set_option linter.constructorNameAsVariable false
namespace Go.Proofs.YtjdmmhcogmepaaaGreatDoor.V
open Go.RowKit
section
variable {P:Program} {n:Nat} {base:Fr} {w0 w:World} {hd:Nat→Value} {s:VS} {a:Act}
def UT (m:Nat) (args:List AV) (N:Nat) (vs0:Nat→Value) (as0:Nat→AV) (mem0:List (Option Ob)) (maps0:List (Nat×Mp)):VS:=
 ⟨(m,.fam N vs0 as0)::(List.range args.length).map fun j=>(j,args.getD j .undef),mem0,maps0,mem0.length⟩
theorem US {fn:Func} {args:List AV} {mem0:List (Option Ob)} {maps0:List (Nat×Mp)} (hl:args.length≤fn.ntmps) {w:World} {vs:List Value} {hd0:Nat→Value} (hlen:args.length=vs.length)
  (hrep:∀ (j:Nat) a u,args[j]?=some a→vs[j]?=some u→Rep w (ZE mem0 hd0) hd0 mem0.length a u) (hm:MemRel (fun _=>True) w hd0 mem0) (hmp:MapRel P (fun _=>True) w maps0) (htl:Vf hd0 (Sh w hd0 mem0 maps0)) :
  RelH fn.ntmps ⟨P,Sh w hd0 mem0 maps0,hd0,[]⟩ w hd0 (We args mem0 maps0) { tmps:=vs.toArray++Array.replicate (fn.ntmps-vs.toArray.size) undef,defers:=[] } w:=by
 have hst:∀ t,lk (We args mem0 maps0).tmps t=args.getD t .undef:=by
  intro t
  have:∀ (l:List Nat) (t:Nat),lk (l.map fun j=>(j,args.getD j .undef)) t=if t∈l then args.getD t .undef else .undef:=by
   intro l t
   induction l with
   |nil=>rfl
   |cons x l ih=>
    simp only [List.map_cons,lk]
    by_cases e:x=t
    ·subst e;simp
    ·rw [if_neg e,ih]
     have e':¬t=x:=fun h=>e h.symm
     simp [e']
  rw [We,this]
  by_cases ht:t<args.length
  ·rw [if_pos (by simpa using ht)]
  ·rw [if_neg (by simpa using ht),List.getD_eq_getElem?_getD,List.getElem?_eq_none (by omega)];rfl
 refine ⟨rfl,by simp;omega,Bel.refl _ _,fun b hb=>.inl hb,Nat.le_refl _,⟨fun k hk=>rfl,TailEq.refl _,htl⟩,fun b mp hb=>?_,fun t=>?_,⟨fun k ob hk b hb=>.inr (.inl ⟨k,ob,hk,hb⟩),hm.obs,hm.hds,hm.apart⟩⟩
 ·obtain ⟨_,es,clock,q1,q2⟩:=hmp b mp hb
  exact ⟨.inr (.inr (by have:lkm maps0 b=some mp:=hb;rw [this];rfl)),es,clock,q1,q2⟩
 ·rw [hst]
  by_cases ht:t<args.length
  ·have h1:(vs.toArray++Array.replicate (fn.ntmps-vs.toArray.size) undef).getD t undef=vs[t]'(by omega):=by
    rw [Array.getD_eq_getD_getElem?,Array.getElem?_append_left (by simp;omega)]
    simp [show t<vs.length by omega]
   rw [h1,List.getD_eq_getElem?_getD,List.getElem?_eq_getElem ht]
   exact hrep t _ _ (List.getElem?_eq_getElem ht) (List.getElem?_eq_getElem (by omega))
  ·rw [List.getD_eq_getElem?_getD,List.getElem?_eq_none (by omega)];exact .undef _
theorem Wc {f:FuncId} {fn:Func} {c:Code} {args:List AV} {N:Nat} {vs0:Nat→Value} {as0:Nat→AV} {mem0:List (Option Ob)} {maps0:List (Nat×Mp)} {R:AV→List (Option Ob)→List (Nat×Mp)→Prop} (hf:P.funcs[f]?=some fn) (hn:(fn.name== "runtime.NumGoroutine")=false) (hb:fn.body=some c) (hl:args.length≤fn.ntmps)
  (h:vc P fn.ntmps c (UT fn.ntmps args N vs0 as0 mem0 maps0) (ZfQ P mem0.length maps0 fn.results.toList R)):VProcG P f args N vs0 as0 mem0 maps0 R:=by
 refine ⟨⟨fn,hf,hn,by rw [hb];rfl⟩,fun w vs hd0 hlen hrep hfam hm hmp htl=>?_⟩
 refine calls_of_wp hf hb ?_
 have hrel:=(US (P:=P) hl hlen hrep hm hmp htl).tell fn.ntmps (N:=N) (vs:=vs0) («as»:=as0) hfam
 refine WE rfl c hrel h fun x hd' s' a' w' h' hk=>?_
 cases x with
 |exit id=>exact hk.elim
 |normal=>
  obtain ⟨v,h1,h2⟩:=Vm h' hk.1 hk.2
  exact ⟨h'.defers,v,h1,v,rfl,h2⟩
 |ret=>
  obtain ⟨v,h1,h2⟩:=Vm h' hk.1 hk.2
  exact ⟨h'.defers,v,h1,v,rfl,h2⟩
def QD (pv:Value) (base:Fr) (w0:World) (M0:List (Nat×Mp)):Exit→Act→World→Prop:=fun e a w=>e=.panic [{ v:=pv,recovered:=false }]∧a.defers=base.ds∧Bel base.may w0 w∧MapRel base.P base.may w M0
theorem QD.free {pv:Value} {M0:List (Nat×Mp)} {base:Fr} {w0:World}:Zca (QD pv base w0 M0):=fun _ _ d _ _ h=>by cases d<;>exact h
def ZaO (P:Program) (pv:Value) (M0:List (Nat×Mp)) (f:FuncId) (avs:List AV) (s:VS):Prop:=
 ∃ ks args' mem0 maps0 t N vs0 as0 as1,ks.Nodup∧Yf (fun j=>ks.getD j 0) ks.length avs args'∧(lk s.tmps t=.fam N vs0 as0∧∀ i,i<N→Rn (fun j=>ks.getD j 0) ks.length (as0 i) (as1 i))∧Vv (fun j=>ks.getD j 0) ks.length s.mem ks mem0∧(∀ p,p∈maps0→lkm s.maps p.1=some p.2)∧(∀ p,p∈M0→lkm maps0 p.1=some p.2)∧
  Zc8 P f pv args' N vs0 as1 mem0 maps0
def ZaN (P:Program) (pv:Value) (M0:List (Nat×Mp)) (s:VS) (op:Op):Prop:=match WO P s op with
 |some (f,xs)=>ZaO P pv M0 f (xs.map (ev s)) s
 |none=>match op with
  | .panic x=>ev s x=.lit pv∧(∃ t v,pv=.iface t v)∧YE s.maps M0
  | _=>False
theorem ZaM (h:RelH n base w0 hd s a w) (hP:base.P=P) {pv:Value} {M0:List (Nat×Mp)} {o:Oper} (hv:ZaN P pv M0 s o.op) {K:Act→World→Prop}:o.wp P a w K (QD pv base w0 M0):=by
 unfold ZaN at hv
 split at hv
 ·rename_i f xs hcall
  obtain ⟨ks,args',mem0,maps0,t,N,vs0,as0,as1,hnd,hargs,⟨hgt,hg⟩,hsh,hmaps,hM0,hfn,hc⟩:=hv
  have hrun:(execOp a.eval o).run P w=.ok (.enter f (xs.map a.eval).toArray) w:=(HR h hcall).trans (Qj hfn _ w)
  obtain ⟨hlen,_,hrep,hfam,hm0,hmp0,htl0⟩:=Gv h hP hnd hargs hgt hg hsh hmaps
  have hcalls:=hc w (xs.map a.eval) (hdF hd ks s.mem false) hlen hrep hfam hm0 hmp0 htl0
  unfold Oper.wp
  rw [hrun]
  simp only [Oper.upon]
  refine hcalls.mono ?_
  rintro e w' ⟨rfl,hb,hmr⟩
  refine ⟨rfl,h.defers,?_⟩
  have may:∀ b,Sh w (hdF hd ks s.mem false) mem0 maps0 b→base.may b:=by
   obtain ⟨f0,f1⟩:=XY hsh
   rintro b (h1|⟨j,ob',h1,h2⟩|h1)
   ·exact h.le _ (Nat.le_trans h.below.size h1)
   ·have hj:j<ks.length:=by have:=(List.getElem?_eq_some_iff.1 h1).1;omega
    obtain ⟨ob,_,_,h4,_⟩:=f1 j (ks.getD j 0) (by rw [List.getD_eq_getElem?_getD,List.getElem?_eq_getElem hj];rfl)
    rw [X2 hj] at h2
    exact h.me.alw _ ob h4 b h2
   ·cases hq:lkm maps0 b with
    |none=>rw [hq] at h1;simp at h1
    |some mp=>exact (h.mp b mp (hmaps _ (XE hq))).1
  refine ⟨⟨hb.os.trans h.below.os,hb.tape.trans h.below.tape,hb.output.trans h.below.output,Nat.le_trans h.below.size hb.size,fun k hk hk2=>(hb.block k (Nat.lt_of_lt_of_le hk h.below.size) (fun e=>hk2 (may k e))).trans (h.below.block k hk hk2)⟩,fun b mp hq=>?_⟩
  obtain ⟨h1,es,clock,h2,h3⟩:=hmr b mp (hM0 _ (XE hq))
  exact ⟨may b h1,es,clock,h2,by rw [hP];exact h3⟩
 ·split at hv
  ·rename_i x hop
   obtain ⟨hx,⟨t,v,rfl⟩,hM0⟩:=hv
   have hrun:(execOp a.eval o).run P w=.halt (.panic (.iface t v)) w:=by
    unfold execOp
    simp only [hop,Y3 h hx]
    rfl
   unfold Oper.wp
   rw [hrun]
   exact ⟨rfl,h.defers,h.below,fun b mp hq=>h.mp b mp (YK hM0 _ (XE hq))⟩
  ·exact hv.elim
def Qg (P:Program) (n:Nat) (pv:Value) (M0:List (Nat×Mp)):Nat→List Oper→VS→Prop
 | _,[],_=>False
 |0,o::_,s=>o.guard=none∧ZaN P pv M0 s o.op
 |i+1,o::r,s=>o.guard=none∧Z4 P n o s (fun s'=>Qg P n pv M0 i r s')
theorem Jx (hP:base.P=P) {pv:Value} {M0:List (Nat×Mp)} {all:Array Oper}:∀ (i:Nat) (ops:List Oper) {hd:Nat→Value} {s:VS} {a:Act} {w:World},RelH n base w0 hd s a w→Qg P n pv M0 i ops s→wpList P all (QD pv base w0 M0) ops a w
 | _,[],_,_,_,_,_,hv=>by cases ‹Nat›<;>exact hv.elim
 |0,o::r,hd,s,a,w,h,hv=>by
  unfold wpList
  rw [if_pos (by simp [Region.wanted,hv.1])]
  exact .inl (ZaM h hP hv.2)
 |i+1,o::r,hd,s,a,w,h,hv=>by
  unfold wpList
  rw [if_pos (by simp [Region.wanted,hv.1])]
  exact .inl (Uc h hP hv.2 fun hd' s' a' w' h' hk=>Jx hP i r h' hk)
def W4 (P:Program) (n:Nat) (pv:Value) (M0:List (Nat×Mp)) (all:List Oper) (fin:List Nat):Plan→VS→Prop
 | .done,_=>False
 | .nil,_=>True
 | .q i p,s=>match all[i]? with
  |some o=>Uu P n all [o] s (fun s'=>W4 P n pv M0 all fin p s')
  |none=>False
 | .or i p r,s=>(match all[i]? with
  |some o=>if i∈fin then o.guard=none∧ZaN P pv M0 s o.op else Hi P n all o s (fun s'=>W4 P n pv M0 all fin p s')
  |none=>False)∧W4 P n pv M0 all fin r s
theorem Zdg (hP:base.P=P) {pv:Value} {M0:List (Nat×Mp)} {all:List Oper} {fin:List Nat} {md:Region.Mode} (hsel:Region.noSelect all.toArray=true) {Q:Act→World→Prop} :
  ∀ (p:Plan) (fuel:Nat) (listed:Array Bool) (m:Option (List Nat)) {hd:Nat→Value} {s:VS} {a:Act} {w:World},RelH n base w0 hd s a w→Down md all.toArray listed→YN P md all.toArray fin p fuel listed m=true→W4 P n pv M0 all fin p s→
   match m with
   |none=>Um P md all.toArray (QD pv base w0 M0) fin Q fuel listed a w
   |some js=>(∀ j,j∈js→j∈Region.ready md all.toArray listed)→∀ fuel',fuel=fuel'+1→∀ j,j∈js→wpOp P all.toArray (QD pv base w0 M0) j (fun a' w'=>(j∉fin→w.grownBy w' none)∧Um P md all.toArray (QD pv base w0 M0) fin Q fuel' (listed.setIfInBounds j true) a' w') a w:=by
 intro p
 induction p with
 |done=>intro fuel listed m hd s a w h hdn hok hv;exact hv.elim
 |nil=>
  intro fuel listed m hd s a w h hdn hok hv
  cases m with
  |none=>simp [YN] at hok
  |some js=>cases js with
   |nil=>exact fun _ _ _ j hj=>by cases hj
   |cons j js=>simp [YN] at hok
 |q i p ih=>
  intro fuel listed m hd s a w h hdn hok hv
  cases m with
  |some js=>cases js<;>cases fuel<;>simp [YN] at hok
  |none=>
   cases fuel with
   |zero=>simp [YN] at hok
   |succ fuel=>
    simp only [YN,Bool.and_eq_true,Bool.not_eq_true',List.contains_eq_mem,decide_eq_false_iff_not] at hok
    obtain ⟨⟨⟨⟨⟨hr,hf⟩,hq⟩,hif⟩,hL⟩,hok⟩:=hok
    have hr':i∈Region.ready md all.toArray listed:=by simpa using hr
    obtain ⟨_,o,ho,_⟩:=mem_ready.1 hr'
    rw [ho] at hq
    have ho':all[i]?=some o:=by simpa using ho
    simp only [W4,ho'] at hv
    obtain ⟨v,hy,s',h1,h2⟩:=Zel h hP hq hv
    rcases Bool.or_eq_true _ _▸hL with hL|hL
    ·exact Hg QD.free ho (Region.noSelect_spec hsel) hif fuel listed a w hdn hL (Region.free_spec ho hf) hr' hy (ih fuel _ none h1 (hdn.set hr') hok h2)
    ·rw [ho] at hL
     obtain ⟨v,hy,s',h1,h2⟩:=Zej h hL hv
     exact Jv QD.free ho (Region.noSelect_spec hsel) hif fuel listed a w hdn (Region.free_spec ho hf) hr' hy (ih fuel _ none h1 (hdn.set hr') hok h2)
 |or i p r ihp ihr=>
  intro fuel listed m hd s a w h hdn hok hv
  have one:∀ fuel' (hr:i∈Region.ready md all.toArray listed) (hok:YN P md all.toArray fin p fuel' (listed.setIfInBounds i true) none=true),wpOp P all.toArray (QD pv base w0 M0) i (fun a' w'=>(i∉fin→w.grownBy w' none)∧Um P md all.toArray (QD pv base w0 M0) fin Q fuel' (listed.setIfInBounds i true) a' w') a w:=by
   intro fuel' hr hok
   obtain ⟨_,o,ho,_⟩:=mem_ready.1 hr
   have ho':all[i]?=some o:=by simpa using ho
   have hv1:=hv.1
   simp only [ho'] at hv1
   split at hv1
   ·unfold wpOp
    simp only [ho]
    rw [if_pos (by simp [Region.wanted,hv1.1])]
    exact .inl (ZaM h hP hv1.2)
   ·exact GM h hP ho hv1 fun hd' s' a' w' hg h1 h2=>⟨fun _=>hg,ihp fuel' _ none h1 (hdn.set hr) hok h2⟩
  cases fuel with
  |zero=>cases m with
   |none=>simp [YN] at hok
   |some js=>cases js<;>simp [YN] at hok
  |succ fuel=>
   cases m with
   |none=>
    simp only [YN] at hok
    split at hok
    ·rename_i j js hrd
     simp only [Bool.and_eq_true,beq_iff_eq] at hok
     obtain ⟨⟨rfl,hok1⟩,hok2⟩:=hok
     refine ⟨fun e=>(by rw [hrd] at e;cases e),fun j hj=>?_⟩
     have hrest:=ihr (fuel+1) listed (some js) h hdn hok2 hv.2 (fun j hj=>by rw [hrd];simp [hj]) fuel rfl
     rw [hrd] at hj
     rcases List.mem_cons.1 hj with rfl|hj
     ·exact one fuel (by rw [hrd];simp) hok1
     ·exact hrest j hj
    ·cases hok
   |some js=>
    cases js with
    |nil=>simp [YN] at hok
    |cons j js=>
     simp only [YN,Bool.and_eq_true,beq_iff_eq] at hok
     obtain ⟨⟨rfl,hok1⟩,hok2⟩:=hok
     intro hsub fuel' hf j hj
     obtain rfl:fuel=fuel':=by omega
     rcases List.mem_cons.1 hj with rfl|hj
     ·exact one fuel (hsub _ (by simp)) hok1
     ·exact ihr (fuel+1) listed (some js) h hdn hok2 hv.2 (fun j hj=>hsub j (by simp [hj])) fuel rfl j hj
theorem ZaL (h:RelH n base w0 hd s a w) (hP:base.P=P) {pv:Value} {M0:List (Nat×Mp)} {id:Nat} {all:List Oper} {fin:List Nat} {p:Plan} (hok:VC P all.toArray fin p=true) (hv:W4 P n pv M0 all fin p s) :
  (Code.region id all.toArray true).wp P (QD pv base w0 M0) a w:=by
 simp only [VC,Bool.and_eq_true] at hok
 obtain ⟨⟨h1,h3⟩,h4⟩:=hok
 refine wp_region_any h1 (JG (Q:=fun _ _=>False) (Q0:=QD pv base w0 M0) (fun _ _ h=>h.elim) (fun _ _ _ h=>h) _ _ _ _ (Zdg (w0:=w0) hP h3 p _ _ none (h.grown ⟨rfl,rfl,rfl,Nat.le_refl _,fun _ _ _=>rfl⟩) (fun j oj hj hl=>?_) h4 hv))
 exfalso
 rcases Nat.lt_or_ge j all.toArray.size with h'|h'
 ·simp at hl h';simp [h'] at hl
 ·simp at hl h';simp [Array.getElem?_eq_none,h'] at hl
end
def vd (P:Program) (n:Nat) (pv:Value) (M0:List (Nat×Mp)):Code→VS→Prop
 | .region _ ops false,s=>∃ i,Qg P n pv M0 i ops.toList s
 | .region _ ops true,s=>∃ fin p,VC P ops fin p=true∧W4 P n pv M0 ops.toList fin p s
 | .seq x y,s=>vd P n pv M0 x s∨vc P n x s (fun e s'=>match e with
  | .normal=>vd P n pv M0 y s'
  | _=>False)
 | .cond c x y,s=>match ev s c with
  | .lit (.bool t)=>(t=true→vd P n pv M0 x s)∧(t=false→vd P n pv M0 y s)
  | _=>False
 | .block _ x,s=>vd P n pv M0 x s
 | .loop x,s=>∃ (ι:Type) (I:ι→Prop) (μ:ι→Nat) (S:ι→VS),(∃ i,I i∧Ent s (S i))∧∀ i,I i→vd P n pv M0 x (S i)∨vc P n x (S i) (fun e s'=>match e with
  | .normal=>∃ j,I j∧μ j<μ i∧Ent s' (S j)
  | _=>False)
 | .scope x,s=>vd P n pv M0 x s
 | _,_=>False
section
variable {P:Program} {n:Nat} {base:Fr} {w0:World}
theorem Zi9 (hP:base.P=P) {pv:Value} {M0:List (Nat×Mp)}:∀ (c:Code) {hd:Nat→Value} {s:VS} {a:Act} {w:World},RelH n base w0 hd s a w→vd P n pv M0 c s→c.wp P (QD pv base w0 M0) a w:=by
 intro c
 induction c with
 |region id ops draw=>
  intro hd s a w h hv
  cases draw with
  |true=>
   obtain ⟨fin,p,h1,h2⟩:=hv
   exact ZaL h hP (all:=ops.toList) h1 h2
  |false=>
   obtain ⟨i,hv⟩:=hv
   exact wp_region_list (Jx hP i ops.toList h hv)
 |seq x y ihx ihy=>
  intro hd s a w h hv
  rcases hv with hv|hv
  ·refine wp_seq (wp_mono (ihx h hv) (fun e a' w' hq=>?_))
   obtain ⟨rfl,hq⟩:=hq
   exact ⟨rfl,hq⟩
  ·refine wp_seq (WE hP x h hv fun e hd' s' a' w' h' hk=>?_)
   cases e with
   |normal=>exact ihy h' hk
   |exit id=>exact hk.elim
   |ret=>exact hk.elim
 |cond c x y ihx ihy=>
  intro hd s a w h hv
  simp only [vd] at hv
  split at hv
  ·rename_i t e
   have hc:=(h.ev_ c).val_ (Wk e)
   cases t with
   |true=>exact wp_cond_true hc (ihx h (hv.1 rfl))
   |false=>exact wp_cond_false hc (ihy h (hv.2 rfl))
  ·exact hv.elim
 |block id x ih=>
  intro hd s a w h hv
  refine wp_block (wp_mono (ih h hv) (fun e a' w' hq=>?_))
  obtain ⟨rfl,hq⟩:=hq
  exact ⟨rfl,hq⟩
 |loop x ih=>
  intro hd s a w h hv
  obtain ⟨ι,I,μ,S,⟨i0,hI0,hle0⟩,hround⟩:=hv
  refine JF (ι:=ι) (fun i a w=>I i∧∃ hd,RelH n base w0 hd (S i) a w) μ (fun i a w hI=>?_) (i:=i0) ⟨hI0,hle0 _ _ _ _ _ _ h⟩
  obtain ⟨hIi,hd1,h1⟩:=hI
  rcases hround i hIi with hr|hr
  ·refine wp_mono (ih h1 hr) (fun e a' w' hq=>?_)
   obtain ⟨rfl,hq⟩:=hq
   exact ⟨rfl,hq⟩
  ·refine WE hP x h1 hr fun e hd' s' a' w' h' hk=>?_
   cases e with
   |normal=>
    obtain ⟨j,hj,hlt,hle⟩:=hk
    exact ⟨j,⟨hj,hle _ _ _ _ _ _ h'⟩,hlt⟩
   |exit id=>exact hk.elim
   |ret=>exact hk.elim
 |scope x ih=>
  intro hd s a w h hv
  refine wp_scope_straight (wp_mono (ih h hv) (fun e a' w' hq=>?_))
  obtain ⟨rfl,hq⟩:=hq
  exact ⟨rfl,hq⟩
 | _=>intro hd s a w h hv;exact hv.elim
theorem X8 {f:FuncId} {fn:Func} {c:Code} {pv:Value} {args:List AV} {N:Nat} {vs0:Nat→Value} {as0:Nat→AV} {mem0:List (Option Ob)} {maps0:List (Nat×Mp)} (hf:P.funcs[f]?=some fn) (hn:(fn.name== "runtime.NumGoroutine")=false) (hb:fn.body=some c) (hl:args.length≤fn.ntmps)
  (h:vd P fn.ntmps pv maps0 c (UT fn.ntmps args N vs0 as0 mem0 maps0)):Zc8 P f pv args N vs0 as0 mem0 maps0:=by
 refine ⟨⟨fn,hf,hn,by rw [hb];rfl⟩,fun w vs hd0 hlen hrep hfam hm hmp htl=>?_⟩
 refine calls_of_wp hf hb ?_
 have hrel:=(US (P:=P) hl hlen hrep hm hmp htl).tell fn.ntmps (N:=N) (vs:=vs0) («as»:=as0) hfam
 refine wp_mono (Zi9 rfl c hrel h) (fun e a' w' hq=>?_)
 obtain ⟨rfl,hq1,hq2⟩:=hq
 exact ⟨hq1,rfl,hq2⟩
end
section
variable {P:Program} {n:Nat} {s:VS} {pv:Value} {M0:List (Nat×Mp)} {all r:List Oper} {d:Option Tmp} {op:Op} {ty:TypeId} {ps:String} {af:Array Edge} {g:Option (Nat×Bool)}
theorem YI {f:FuncId} {avs args':List AV} {k:AV→VS→Prop} {N:Nat} {vs0:Nat→Value} {as0 as1:Nat→AV} {mem0:List (Option Ob)} {maps0:List (Nat×Mp)} {R:AV→List (Option Ob)→List (Nat×Mp)→Prop} (ks:List Nat) (t:Nat) (h:VProcG P f args' N vs0 as1 mem0 maps0 R) (hnd:ks.Nodup) (hg:lk s.tmps t=.fam N vs0 as0) (hg2:∀ i,i<N→Rn (fun j=>ks.getD j 0) ks.length (as0 i) (as1 i)) (ha:Yf (fun j=>ks.getD j 0) ks.length avs args')
  (hs:Vv (fun j=>ks.getD j 0) ks.length s.mem ks mem0) (hm:YE s.maps maps0)
  (hk:∀ av mem' maps',R av mem' maps'→k (ren (XH ks s.mem.length) av) { s with mem:=XA s.mem ks mem',maps:=maps'++s.maps }):Vy P f avs s k:=
 .inr (.inr (.inr (.inl ⟨ks,args',mem0,maps0,t,N,vs0,as0,as1,hnd,ha,⟨hg,hg2⟩,hs,YK hm,h.mono fun av mem' maps' r=>hk av mem' maps' r⟩)))
theorem Zgf {f:FuncId} {avs args':List AV} {k:AV→VS→Prop} {mem0:List (Option Ob)} {maps0:List (Nat×Mp)} {R:AV→List (Option Ob)→List (Nat×Mp)→Nat→(Nat→Value)→(Nat→AV)→Prop} (ks:List Nat) (t:Nat) (h:VProcT P f args' mem0 maps0 R) (hnd:ks.Nodup) (ha:Yf (fun j=>ks.getD j 0) ks.length avs args')
  (hs:Vv (fun j=>ks.getD j 0) ks.length s.mem ks mem0) (hm:YE s.maps maps0)
  (hk:∀ av mem' maps' N vs as',R av mem' maps' N vs as'→k (ren (XH ks s.mem.length) av) { s with tmps:=(t,.fam N vs (fun i=>Zh7 (XH ks s.mem.length) (as' i)))::s.tmps,mem:=XA s.mem ks mem',maps:=maps'++s.maps }):Vy P f avs s k:=
 .inr (.inr (.inr (.inr ⟨ks,args',mem0,maps0,t,hnd,ha,hs,YK hm,h.mono fun av mem' maps' N vs as' r=>hk av mem' maps' N vs as' r⟩)))
theorem Vo {f:FuncId} {avs args':List AV} {N:Nat} {vs0:Nat→Value} {as0 as1:Nat→AV} {mem0:List (Option Ob)} {maps0:List (Nat×Mp)} (ks:List Nat) (t:Nat) (h:Zc8 P f pv args' N vs0 as1 mem0 maps0) (hnd:ks.Nodup) (hg:lk s.tmps t=.fam N vs0 as0) (hg2:∀ i,i<N→Rn (fun j=>ks.getD j 0) ks.length (as0 i) (as1 i)) (ha:Yf (fun j=>ks.getD j 0) ks.length avs args')
  (hs:Vv (fun j=>ks.getD j 0) ks.length s.mem ks mem0) (hm:YE s.maps maps0) (hM:YE maps0 M0):ZaO P pv M0 f avs s:=
 ⟨ks,args',mem0,maps0,t,N,vs0,as0,as1,hnd,ha,⟨hg,hg2⟩,hs,YK hm,YK hM,h⟩
theorem VV {T:TypeId} {k:AV→VS→Prop} {ad:Addr} {N:Nat} {vs:Nat→Value} {as':Nat→AV} {cs:List AV} (t i:Nat) (ht:lk s.tmps t=.fam N vs as') (hi:i<N) (hv:vs i=.pointer (some ad)) (ha:as' i=.bptr cs) (hk:vrd s k (Ws P T) (tsz P T) cs 0):Zf9 P T s k ad:=
 ⟨t,N,vs,as',i,cs,ht,hi,hv,ha,hk⟩
def KD (P:Program) (n:Nat) (pv:Value) (M0:List (Nat×Mp)) (y:Code) (e:VX) (s:VS):Prop:=match e with
 | .normal=>vd P n pv M0 y s
 | _=>False
@[go_sem] theorem KD_n {y:Code}:KD P n pv M0 y .normal s=vd P n pv M0 y s:=_root_.id rfl
theorem Q8 {x y:Code} (h:vd P n pv M0 x s):vd P n pv M0 (.seq x y) s:=.inl h
theorem YM {x y:Code} (h:vc P n x s (KD P n pv M0 y)):vd P n pv M0 (.seq x y) s:=.inr h
def Zeh {ι:Type} (I:ι→Prop) (μ:ι→Nat) (S:ι→VS) (i:ι) (e:VX) (s:VS):Prop:=match e with
 | .normal=>∃ j,I j∧μ j<μ i∧Ent s (S j)
 | _=>False
section
variable {ι:Type} {I:ι→Prop} {μ:ι→Nat} {S:ι→VS} {i:ι}
@[go_sem] theorem KDround_n:Zeh I μ S i .normal s=(∃ j,I j∧μ j<μ i∧Ent s (S j)):=_root_.id rfl
@[go_sem] theorem KDround_r:Zeh I μ S i .ret s=False:=_root_.id rfl
end
theorem Zja {x:Code} {ι:Type} (I:ι→Prop) (μ:ι→Nat) (S:ι→VS) (h0:∃ i,I i∧Ent s (S i)) (h:∀ i,I i→vd P n pv M0 x (S i)∨vc P n x (S i) (Zeh I μ S i)):vd P n pv M0 (.loop x) s:=⟨ι,I,μ,S,h0,h⟩
@[go_sem] theorem vd_block {x:Code} {id:Nat}:vd P n pv M0 (.block id x) s=vd P n pv M0 x s:=_root_.id rfl
def H3 (P:Program) (n:Nat) (pv:Value) (M0:List (Nat×Mp)) (x y:Code) (s:VS):AV→Prop
 | .lit (.bool t)=>(t=true→vd P n pv M0 x s)∧(t=false→vd P n pv M0 y s)
 | _=>False
@[go_sem] theorem vd_cond {c:Operand} {x y:Code}:vd P n pv M0 (.cond c x y) s=H3 P n pv M0 x y s (ev s c):=by
 simp only [vd]
 generalize ev s c=v
 cases v with
 |lit v=>cases v<;>rfl
 | _=>rfl
@[go_sem] theorem vdcond_b {x y:Code} {t:Bool}:H3 P n pv M0 x y s (.lit (.bool t))=((t=true→vd P n pv M0 x s)∧(t=false→vd P n pv M0 y s)):=_root_.id rfl
@[go_sem 2000] theorem vdcond_t {x y:Code}:H3 P n pv M0 x y s (.lit (.bool true))=vd P n pv M0 x s:=by simp [H3]
@[go_sem 2000] theorem vdcond_f {x y:Code}:H3 P n pv M0 x y s (.lit (.bool false))=vd P n pv M0 y s:=by simp [H3]
theorem Zhj {id:Nat} {l:List Oper} (i:Nat) (h:Qg P n pv M0 i l s):vd P n pv M0 (.region id l.toArray false) s:=⟨i,h⟩
theorem Hl {id:Nat} {l:List Oper} (fin:List Nat) (p:Plan) (hok:VC P l.toArray fin p=true) (h:W4 P n pv M0 l fin p s):vd P n pv M0 (.region id l.toArray true) s:=⟨fin,p,hok,h⟩
def Zlv (P:Program) (n:Nat) (pv:Value) (M0:List (Nat×Mp)) (i:Nat) (r:List Oper) (s:VS):Prop:=Qg P n pv M0 i r s
@[go_sem] theorem KDops_ {i:Nat}:Zlv P n pv M0 i r s=Qg P n pv M0 i r s:=_root_.id rfl
@[go_sem] theorem vdopsAt_z {o:Oper}:Qg P n pv M0 0 (o::r) s=(o.guard=none∧ZaN P pv M0 s o.op):=_root_.id rfl
@[go_sem] theorem vdopsAt_s {i:Nat} {o:Oper}:Qg P n pv M0 (i+1) (o::r) s=(o.guard=none∧Z4 P n o s (Zlv P n pv M0 i r)):=_root_.id rfl
def Zg9 (P:Program) (n:Nat) (pv:Value) (M0:List (Nat×Mp)) (all:List Oper) (fin:List Nat) (p:Plan) (s:VS):Prop:=W4 P n pv M0 all fin p s
@[go_sem] theorem KDplan_ {fin:List Nat} {p:Plan}:Zg9 P n pv M0 all fin p s=W4 P n pv M0 all fin p s:=_root_.id rfl
def vdO (P:Program) (pv:Value) (M0:List (Nat×Mp)) (s:VS):Option Oper→Prop
 |some o=>o.guard=none∧ZaN P pv M0 s o.op
 |none=>False
def vdB (P:Program) (n:Nat) (pv:Value) (M0:List (Nat×Mp)) (all:List Oper) (k:VS→Prop) (s:VS) (o:Option Oper):Bool→Prop
 |true=>vdO P pv M0 s o
 |false=>Q7 P n all k s o
@[go_sem] theorem vdplan_nil {fin:List Nat}:W4 P n pv M0 all fin .nil s=True:=_root_.id rfl
@[go_sem] theorem vdplan_q {fin:List Nat} {i:Nat} {p:Plan}:W4 P n pv M0 all fin (.q i p) s=JH P n all (Zg9 P n pv M0 all fin p) s (all[i]?):=by
 simp only [W4]
 cases all[i]?<;>rfl
@[go_sem] theorem vdplan_or {fin:List Nat} {i:Nat} {p q:Plan}:W4 P n pv M0 all fin (.or i p q) s=(vdB P n pv M0 all (Zg9 P n pv M0 all fin p) s (all[i]?) (decide (i∈fin))∧W4 P n pv M0 all fin q s):=by
 simp only [W4]
 cases all[i]? with
 |none=>by_cases h:i∈fin<;>simp [h,vdB,vdO,Q7]
 |some o=>by_cases h:i∈fin<;>simp [h,vdB,vdO,Q7]<;>intro _<;>rfl
@[go_sem] theorem vdB_t {k:VS→Prop} {o:Option Oper}:vdB P n pv M0 all k s o true=vdO P pv M0 s o:=_root_.id rfl
@[go_sem] theorem vdB_f {k:VS→Prop} {o:Option Oper}:vdB P n pv M0 all k s o false=Q7 P n all k s o:=_root_.id rfl
@[go_sem] theorem vdO_s {o:Oper}:vdO P pv M0 s (some o)=(o.guard=none∧ZaN P pv M0 s o.op):=_root_.id rfl
@[go_sem] theorem vdop_call {f:FuncId} {args:List Operand} {tys:Array TypeId}:ZaN P pv M0 s (.call { callee:=.value (.func f),args:=args.toArray,argTypes:=tys })=ZaO P pv M0 f (args.map (ev s)) s:=_root_.id rfl
def Zi8 (P:Program) (pv:Value) (M0:List (Nat×Mp)) (s:VS) (avs:List AV):AV→Prop
 | .lit (.func (.func f) first caps)=>ZaO P pv M0 f (first.toList.map .lit++avs++caps.toList.map .lit) s
 | _=>False
@[go_sem] theorem vdop_fval {x:Tmp} {args:List Operand} {tys:Array TypeId}:ZaN P pv M0 s (.call { callee:=.value (.tmp x),args:=args.toArray,argTypes:=tys })=Zi8 P pv M0 s (args.map (ev s)) (lk s.tmps x):=by
 unfold ZaN WO Qb W6
 simp only [ev]
 generalize lk s.tmps x=ar
 cases ar with
 |lit v=>
  cases v with
  |func fn first caps=>
   cases fn with
   |func f=>
    simp only [Zi8]
    have e:(first.toList.map Operand.const++args++caps.toList.map Operand.const).map (ev s)=first.toList.map .lit++args.map (ev s)++caps.toList.map .lit:=by
     simp [Function.comp_def,ev]
    simp only [e]
   | _=>rfl
  | _=>rfl
 | _=>rfl
@[go_sem] theorem vdfun_s {avs:List AV} {f:FuncId} {first caps:Array Value}:Zi8 P pv M0 s avs (.lit (.func (.func f) first caps))=ZaO P pv M0 f (first.toList.map .lit++avs++caps.toList.map .lit) s:=_root_.id rfl
@[go_sem] theorem vdop_panic {x:Operand}:ZaN P pv M0 s (.panic x)=(ev s x=.lit pv∧(∃ t v,pv=.iface t v)∧YE s.maps M0):=_root_.id rfl
end
attribute [go_sem] UT
end Go.Proofs.YtjdmmhcogmepaaaGreatDoor.V
namespace Go.Proofs.YtjdmmhcogmepaaaGreatDoor.V
open Go.RowKit
open Go.ChangeMaps (setBlock)
theorem Ql {w:World} {ok:Nat→Prop} {hd:Nat→Value} {m k sz i j:Nat} {v:Value} (h:Rep w ok hd m (.ptr k sz i j) v):∃ b n c,hd k=.slice (some ⟨b,0,none⟩) n c∧v=.pointer (some ⟨b,i*sz+j,none⟩):=by
 cases h with
 |ptr _ _ _ _ b n c _ hh=>exact ⟨b,n,c,hh,rfl⟩
section
variable {P:Program} {n:Nat} {base:Fr} {w0 w:World} {hd:Nat→Value} {s:VS} {a:Act}
theorem Zaz (mem:List (Option Ob)) (hd:Nat→Value) (k b:Nat) (h:ZE mem hd b):ZE (mem.set k none) hd b:=by
 refine ⟨fun q ob hq=>h.1 q ob ?_,h.2⟩
 by_cases e:k=q
 ·subst e
  rw [List.getElem?_set_self'] at hq
  cases hm:mem[k]?<;>rw [hm] at hq<;>simp at hq
 ·rwa [List.getElem?_set_ne e] at hq
theorem QY {mem:List (Option Ob)} {k q:Nat} {ob:Ob} (h:(mem.set k none)[q]?=some (some ob)):mem[q]?=some (some ob)∧q≠k:=by
 by_cases e:k=q
 ·subst e
  rw [List.getElem?_set_self'] at h
  cases hm:mem[k]?<;>rw [hm] at h<;>simp at h
 ·rw [List.getElem?_set_ne e] at h
  exact ⟨h,fun e'=>e e'.symm⟩
theorem RelH.free (h:RelH n base w0 hd s a w) (k:Nat):RelH n base w0 hd { s with mem:=s.mem.set k none } a w:=by
 have hc:∀ ad u,ZE s.mem hd ad.block→w.cell? ad=some u→w.cell? ad=some u∧ZE (s.mem.set k none) hd ad.block:=fun ad u ho hcell=>⟨hcell,Zaz _ _ _ _ ho⟩
 refine ⟨h.defers,h.size,h.below,h.le,by simpa using h.fixl,h.fix,h.mp,fun t=>(h.tm t).mono hc (fun _ _=>rfl) (by simp),⟨fun q ob hq=>h.me.alw q ob (QY hq).1,fun q ob hq=>?_,fun q hq=>h.me.hds q (by simpa using hq),fun q q' ob ob' hq hq'=>h.me.apart q q' ob ob' (QY hq).1 (QY hq').1⟩⟩
 obtain ⟨hs,vals,ho,hr⟩:=h.me.obs q ob (QY hq).1
 refine ⟨hs,vals,ho,fun i hi=>⟨(hr i hi).1,fun j av hj=>?_⟩⟩
 obtain ⟨u,h1,h2,h3⟩:=(hr i hi).2 j av hj
 exact ⟨u,h1,h2,h3.mono hc (fun _ _=>rfl) (by simp)⟩
theorem RelH.freed (h:RelH n base w0 hd s a w) {k:Nat} {ob:Ob} (hk:s.mem[k]?=some (some ob)) (hn:0<ob.n) {v:Value} (hv:Rep w (ZE s.mem hd) hd s.mem.length (.ptr k ob.sz 0 0) v):Rep w (ZE (s.mem.set k none) hd) hd (s.mem.set k none).length (.bptr (ob.f 0)) v:=by
 have hc:∀ ad u,ZE s.mem hd ad.block→w.cell? ad=some u→w.cell? ad=some u∧ZE (s.mem.set k none) hd ad.block:=fun ad u ho hcell=>⟨hcell,Zaz _ _ _ _ ho⟩
 cases hv with
 |ptr _ _ _ _ b n' c' hlt hb=>
  have hcells:=h.cells_ hk hb hn
  obtain ⟨hs,vals,ho,hr⟩:=h.me.obs k ob hk
  have hlen:=(hr 0 hn).1
  have hown:(hd k).ownBlock=some b:=by rw [hb];rfl
  refine .bptr (ob.f 0) _ (fun j=>(w.cell? ((⟨b,0*ob.sz,none⟩:Addr).add j)).getD undef) (fun e=>by rw [e] at hlen;simp at hlen;omega) ⟨fun q ob' hq e=>?_,h.ownTail (h.me.alw k ob hk b hown)⟩ (fun j hj=>?_) fun j av hj=>?_
  ·obtain ⟨hq1,hq2⟩:=QY hq
   rcases h.me.apart q k ob' ob hq1 hk hq2 with e'|e'
   ·rw [e] at e';cases e'
   ·exact e' (by rw [e,hown])
  ·obtain ⟨u,h1,_⟩:=hcells j _ (List.getElem?_eq_getElem hj)
   show w.cell? ((⟨b,0*ob.sz+0,none⟩:Addr).add j)=_
   rw [Nat.add_zero,h1];rfl
  ·obtain ⟨u,h1,h2⟩:=hcells j av hj
   rw [h1]
   exact h2.mono hc (fun _ _=>rfl) (by simp)
theorem RelH.told (h:RelH n base w0 hd s a w) {t N:Nat} {vs:Nat→Value} {as':Nat→AV} (ht:lk s.tmps t=.fam N vs as') {i:Nat} (hi:i<N):Rep w (ZE s.mem hd) hd s.mem.length (as' i) (vs i):=by
 have h1:=h.tm t
 rw [ht] at h1
 generalize a.tmps.getD t undef=u0 at h1
 cases h1 with
 |fam _ _ _ _ hf=>exact hf i hi
theorem RelH.again_map (h:RelH n base w0 hd s a w) {b:Nat} {mp:Mp} {es:Array MapEntry} {clock:Nat} (hb:w.heap[b]?=some (.map es clock)) (hm:MapIs base.P mp es clock) (hmay:base.may b):RelH n base w0 hd { s with maps:=(b,mp)::s.maps } a w:=by
 refine ⟨h.defers,h.size,h.below,h.le,h.fixl,h.fix,fun c mq hc=>?_,h.tm,h.me⟩
 have hc':lkm ((b,mp)::s.maps) c=some mq:=hc
 simp only [lkm] at hc'
 split at hc'
 ·rename_i e
  simp only [Option.some.injEq] at hc'
  subst hc';subst e
  exact ⟨hmay,es,clock,hb,hm⟩
 ·exact h.mp c mq hc'
theorem RelH.iterTurn (h:RelH n base w0 hd s a w) {b:Nat} {o:Obj} (hb:w.heap[b]?=some o) (h1:∀ cs t fz,o≠.cells cs t fz) (h2:∀ es c,o≠.map es c) (hcell:∀ ad u,ad.block=b→w.cell? ad≠some u) (hmay:base.may b) (o':Obj):RelH n base w0 hd s a (setBlock w b o'):=by
 have hg:w.grownBy (setBlock w b o') (some b):=⟨rfl,rfl,rfl,by simp [setBlock],fun i _ hi=>by
  have hne:i≠b:=fun e=>hi (by rw [e])
  simp only [setBlock]
  rw [Array.getElem?_setIfInBounds_ne (fun e=>hne e.symm)]⟩
 have ne_cell:∀ ad u,w.cell? ad=some u→ad.block≠b:=fun ad u hc e=>hcell ad u e hc
 have hc:∀ ad u,ZE s.mem hd ad.block→w.cell? ad=some u→(setBlock w b o').cell? ad=some u∧ZE s.mem hd ad.block:=fun ad u ho hcl=>⟨WX (hg.block _ (World.block_lt_of_cell? w _ hcl) (by simpa using ne_cell ad u hcl)) hcl,ho⟩
 refine ⟨h.defers,h.size,h.below.grown hg (fun q hq=>by simp only [Option.some.injEq] at hq;rw [←hq];exact hmay),h.le,h.fixl,h.fix,h.mp.grown hg (fun c mp hq hm=>?_),fun t=>(h.tm t).mono hc (fun _ _=>rfl) (Nat.le_refl _),⟨h.me.alw,fun k ob hk=>?_,h.me.hds,h.me.apart⟩⟩
 ·simp only [Option.some.injEq] at hq
  subst hq
  obtain ⟨_,es,clock,h3,_⟩:=h.mp b mp hm
  rw [hb] at h3
  simp only [Option.some.injEq] at h3
  exact h2 _ _ h3
 ·obtain ⟨hs,vals,ho,hr⟩:=h.me.obs k ob hk
  have hne:(hd k).ownBlock≠some b:=by
   intro e
   rcases ho.2 with ⟨e2,_⟩|⟨g,cap,cur,e2,⟨_,_,hh,_⟩,_⟩
   ·rw [e2] at e;simp [Value.ownBlock] at e
   ·rw [e2] at e
    simp only [Value.ownBlock,Option.some.injEq] at e
    rw [e,hb] at hh
    simp only [Option.some.injEq] at hh
    exact h1 _ _ _ hh
  refine ⟨hs,vals,ho.kept hg (by
   cases hq:(hd k).ownBlock with
   |none=>exact .inl rfl
   |some c=>exact .inr (fun e=>hne (by rw [hq];exact e))),fun i hi=>⟨(hr i hi).1,fun j av hj=>?_⟩⟩
  obtain ⟨u,g1,g2,g3⟩:=(hr i hi).2 j av hj
  exact ⟨u,g1,g2,g3.mono hc (fun _ _=>rfl) (Nat.le_refl _)⟩
theorem RelH.rebase (h:RelH n base w0 hd s a w) (no:Nat→Prop) (h1:∀ b,no b→b<w.heap.size) (h2:∀ b,no b→∀ mp,lkm s.maps b≠some mp) (h3:∀ b,no b→∀ k ob,s.mem[k]?=some (some ob)→(hd k).ownBlock≠some b):RelH n ⟨base.P,fun b=>base.may b∧¬no b,base.hd0,base.ds⟩ w hd s a w:=by
 obtain ⟨K,hK⟩:=h.fix.2.2
 refine ⟨h.defers,h.size,Bel.refl _ _,fun b hb=>⟨h.le b (Nat.le_trans h.below.size hb),fun hn=>by have:=h1 b hn;omega⟩,h.fixl,⟨h.fix.1,h.fix.2.1,K,fun k hk b hb hm=>hK k hk b hb hm.1⟩,fun b mp hb=>?_,h.tm,⟨fun k ob hk b hb=>⟨h.me.alw k ob hk b hb,fun hn=>h3 b hn k ob hk hb⟩,h.me.obs,h.me.hds,h.me.apart⟩⟩
 obtain ⟨g1,g2⟩:=h.mp b mp hb
 exact ⟨⟨g1,fun hn=>h2 b hn mp hb⟩,g2⟩
theorem RelH.unbase {may':Nat→Prop} {w':World} {hd':Nat→Value} {s':VS} {a':Act} (h:RelH n base w0 hd s a w) (h':RelH n ⟨base.P,may',base.hd0,base.ds⟩ w hd' s' a' w') (hm:∀ b,may' b→base.may b):RelH n base w0 hd' s' a' w':=by
 refine ⟨h'.defers,h'.size,⟨h'.below.os.trans h.below.os,h'.below.tape.trans h.below.tape,h'.below.output.trans h.below.output,Nat.le_trans h.below.size h'.below.size,fun k hk hk2=>(h'.below.block k (Nat.lt_of_lt_of_le hk h.below.size) (fun e=>hk2 (hm k e))).trans (h.below.block k hk hk2)⟩,h.le,h'.fixl,⟨h'.fix.1,h'.fix.2.1,h.fix.2.2⟩,fun b mp hb=>?_,h'.tm,⟨fun k ob hk b hb=>hm b (h'.me.alw k ob hk b hb),h'.me.obs,h'.me.hds,h'.me.apart⟩⟩
 obtain ⟨g1,g2⟩:=h'.mp b mp hb
 exact ⟨hm b g1,g2⟩
theorem RelH.own_ne (h:RelH n base w0 hd s a w) {b:Nat} {o:Obj} (hb:w.heap[b]?=some o) (h1:∀ cs t fz,o≠.cells cs t fz) (k:Nat) (ob:Ob) (hk:s.mem[k]?=some (some ob)):(hd k).ownBlock≠some b:=by
 obtain ⟨hs,vals,ho,hr⟩:=h.me.obs k ob hk
 intro e
 rcases ho.2 with ⟨e2,_⟩|⟨g,cap,cur,e2,⟨_,_,hh,_⟩,_⟩
 ·rw [e2] at e;simp [Value.ownBlock] at e
 ·rw [e2] at e
  simp only [Value.ownBlock,Option.some.injEq] at e
  rw [e,hb] at hh
  simp only [Option.some.injEq] at hh
  exact h1 _ _ _ hh
theorem Zhm {c:Code} {K:VX→VS→Prop} {Q:Exit→Act→World→Prop} (h:RelH n base w0 hd s a w) (hP:base.P=P) (no:Nat→Prop) (h1:∀ b,no b→b<w.heap.size) (h2:∀ b,no b→∀ mp,lkm s.maps b≠some mp) (h3:∀ b,no b→∀ k ob,s.mem[k]?=some (some ob)→(hd k).ownBlock≠some b) (hv:vc P n c s K)
  (hQ:∀ x hd' s' a' w',RelH n base w0 hd' s' a' w'→(∀ b,no b→w'.heap[b]?=w.heap[b]?)→K x s'→Q x.out a' w'):c.wp P Q a w:=
 WE (base:=⟨base.P,fun b=>base.may b∧¬no b,base.hd0,base.ds⟩) hP c (h.rebase no h1 h2 h3) hv fun x hd' s' a' w' h' hk=>hQ x hd' s' a' w' (h.unbase h' fun b hb=>hb.1) (fun b hb=>h'.below.block b (h1 b hb) fun hm=>hm.2 hb) hk
theorem GJ {all:Array Oper} {o:Oper} {rest:List Oper} {Q:Exit→Act→World→Prop} {k:VS→Prop} (h:RelH n base w0 hd s a w) (hP:base.P=P) (no:Nat→Prop) (h1:∀ b,no b→b<w.heap.size) (h2:∀ b,no b→∀ mp,lkm s.maps b≠some mp) (h3:∀ b,no b→∀ k ob,s.mem[k]?=some (some ob)→(hd k).ownBlock≠some b) (hg:o.guard=none) (hv:Z4 P n o s k)
  (hK:∀ hd' s' a' w',RelH n base w0 hd' s' a' w'→(∀ b,no b→w'.heap[b]?=w.heap[b]?)→k s'→wpList P all Q rest a' w'):wpList P all Q (o::rest) a w:=by
 unfold wpList
 rw [if_pos (by simp [Region.wanted,hg])]
 exact .inl (Uc (base:=⟨base.P,fun b=>base.may b∧¬no b,base.hd0,base.ds⟩) (h.rebase no h1 h2 h3) hP hv fun hd' s' a' w' h' hk=>hK hd' s' a' w' (h.unbase h' fun b hb=>hb.1) (fun b hb=>h'.below.block b (h1 b hb) fun hm=>hm.2 hb) hk)
end
end Go.Proofs.YtjdmmhcogmepaaaGreatDoor.V
namespace Go.Proofs.YtjdmmhcogmepaaaGreatDoor.V
open Go.RowKit
theorem ZbC (w:World) (row:Option Nat):w.grownBy w.drew row:=⟨rfl,rfl,rfl,Nat.le_refl _,fun _ _ _=>rfl⟩
theorem ZdS (w:World) (p:Addr) (n:Nat):w.grownBy (w.freeze p n) (some p.block):=by
 unfold World.freeze
 split
 ·exact ⟨rfl,rfl,rfl,Nat.le_refl _,fun _ _ _=>rfl⟩
 ·exact ⟨rfl,rfl,rfl,by simp,fun k _ hk=>by
   simp only [Array.getElem?_modify]
   rw [if_neg (fun e=>hk (by rw [e]))]⟩
theorem Ziz:Tryz.prog.cellsOf 5=1:=by kernel_rfl
set_option maxHeartbeats 2000000 in
set_option maxRecDepth 100000 in
theorem ZkM (b g cap:Nat) (cur:Array Value) (l:List UInt8) (w:World) (h0:l≠[]) (c1:w.drew.cell? ⟨b,1,none⟩=some (.slice (some ⟨g,0,none⟩) l.length cap)) (hg:w.drew.heap[g]?=some (.cells cur 5 (0,0)))
  (hnc:l.length≤cap) (hcm:cap≤maxLen) (hcs:cur.size=cap) (hcell:∀ j x,l[j]?=some x→w.drew.cell? ((⟨g,0,none⟩:Addr).add j)=some (.int .u8 x.toNat)) :
  Calls Tryz.prog 61 #[.pointer (some ⟨b,0,none⟩)] w fun e w'=>e=.returned (.string ⟨l.toArray⟩)∧w.grownBy w' (some g):=by
 have hl0:l.length≠0:=by simpa using h0
 have hSD:(Builtin.unsafeSliceData_ #[34] 174 #[.slice (some ⟨g,0,none⟩) l.length cap]).run Tryz.prog w.drew=.ok (.pointer (some ⟨g,0,none⟩)) w.drew:=
  Lib.run_unsafeSliceData_row _ _ _ _ _ _ (by omega)
 have hUS:(Builtin.unsafeString_ #[174,3] 9 #[.pointer (some ⟨g,0,none⟩),.int .i64 l.length]).run Tryz.prog w.drew=.ok (.string ⟨l.toArray⟩) (w.drew.freeze ⟨g,0,none⟩ l.length):=
  Lib.run_unsafeString_row w.drew 174 3 9 5 Tryz.underlying174 Ziz g cur.size (by simp [World.shape?,hg]) l h0 (by omega) (by unfold maxLen at hcm;omega) hcell
 have hgr:w.grownBy (w.drew.freeze ⟨g,0,none⟩ l.length) (some g):=by
  have h1:=ZdS w.drew ⟨g,0,none⟩ l.length
  exact ⟨h1.os,h1.tape,h1.output,h1.size,h1.block⟩
 clear hcell hnc hcm hcs hg
 go_enter Tryz.func61,Tryz.ntmps61
 go_wp2
 go_region
 all_goals (go_wp2;go_ret;exact ⟨rfl,hgr⟩)
theorem ZaW (W:World) (q:Option Addr):(Builtin.unsafeString_ #[174,3] 9 #[.pointer q,.int .i64 0]).run Tryz.prog W=.ok (.string .empty) W:=Lib.run_unsafeString_none W _ _ _ q
set_option maxHeartbeats 2000000 in
set_option maxRecDepth 100000 in
theorem ZkN (b:Nat) (w:World) (row:Option Nat) (c1:w.drew.cell? ⟨b,1,none⟩=some (.slice none 0 0)) :
  Calls Tryz.prog 61 #[.pointer (some ⟨b,0,none⟩)] w fun e w'=>e=.returned (.string ⟨#[]⟩)∧w.grownBy w' row:=by
 have hUS:=ZaW
 have hSD:(Builtin.unsafeSliceData_ #[34] 174 #[.slice none 0 0]).run Tryz.prog w.drew=.ok (.pointer none) w.drew:=rfl
 have hgr:=ZbC w row
 go_enter Tryz.func61,Tryz.ntmps61
 go_wp2
 go_region
 all_goals (go_wp2;go_ret;exact ⟨rfl,hgr⟩)
set_option maxHeartbeats 2000000 in
set_option maxRecDepth 100000 in
theorem Zgp (b g:Nat) (w:World) (row:Option Nat) (cur:Array Value) (hlt:b<w.heap.size) (c1:w.drew.cell? ⟨b,1,none⟩=some (.slice (some ⟨g,0,none⟩) 0 0)) (hg:w.drew.heap[g]?=some (.cells cur 5 (0,0))) :
  Calls Tryz.prog 61 #[.pointer (some ⟨b,0,none⟩)] w fun e w'=>e=.returned (.string ⟨#[]⟩)∧w.grownBy w' row:=by
 have hUS:=ZaW
 have hSD:(Builtin.unsafeSliceData_ #[34] 174 #[.slice (some ⟨g,0,none⟩) 0 0]).run Tryz.prog w.drew=.ok (.pointer (some ⟨w.drew.heap.size,0,none⟩)) (w.drew.alloc (.view ⟨g,0,none⟩ 5)):=
  Lib.run_unsafeSliceData_zero w.drew _ _ 5 Tryz.underlying174 ⟨g,0,none⟩ 0 (5,cur.size) (by simp [World.shape?,hg])
 have c2:(w.drew.alloc (.view ⟨g,0,none⟩ 5)).cell? ⟨b,1,none⟩=some (.slice (some ⟨g,0,none⟩) 0 0):=by
  have e:(w.drew.alloc (.view ⟨g,0,none⟩ 5)).heap[b]?=w.drew.heap[b]?:=Lib.alloc_old w.drew _ b hlt
  unfold World.cell? at c1 ⊢
  simp only at c1 ⊢
  rw [e];exact c1
 have c3:(w.alloc (.view ⟨g,0,none⟩ 5)).drew.cell? ⟨b,1,none⟩=some (.slice (some ⟨g,0,none⟩) 0 0):=c2
 have c0:w.cell? ⟨b,1,none⟩=some (.slice (some ⟨g,0,none⟩) 0 0):=c1
 have hgr:w.grownBy (w.drew.alloc (.view ⟨g,0,none⟩ 5)) row:=by
  have h1:=World.grownBy_alloc w.drew (.view ⟨g,0,none⟩ 5) row
  exact ⟨h1.os,h1.tape,h1.output,h1.size,h1.block⟩
 clear hg hlt
 go_enter Tryz.func61,Tryz.ntmps61
 go_wp2
 go_region
 all_goals (go_wp2;go_ret;exact ⟨rfl,hgr⟩)
set_option maxHeartbeats 2000000 in
set_option maxRecDepth 100000 in
theorem Zjm (b g cap:Nat) (w:World) (row:Option Nat) (hc0:cap≠0) (c1:w.drew.cell? ⟨b,1,none⟩=some (.slice (some ⟨g,0,none⟩) 0 cap)) :
  Calls Tryz.prog 61 #[.pointer (some ⟨b,0,none⟩)] w fun e w'=>e=.returned (.string ⟨#[]⟩)∧w.grownBy w' row:=by
 have hUS:=ZaW
 have hSD:(Builtin.unsafeSliceData_ #[34] 174 #[.slice (some ⟨g,0,none⟩) 0 cap]).run Tryz.prog w.drew=.ok (.pointer (some ⟨g,0,none⟩)) w.drew:=
  Lib.run_unsafeSliceData_row _ _ _ _ _ _ hc0
 have hgr:=ZbC w row
 clear hc0
 go_enter Tryz.func61,Tryz.ntmps61
 go_wp2
 go_region
 all_goals (go_wp2;go_ret;exact ⟨rfl,hgr⟩)
theorem Zkr (p:AV) (z:ByteArray):VProc Tryz.prog 61 [.ptr 0 2 0 0] [some ⟨111,2,1,fun _=>[p,.own 1]⟩,some ⟨5,1,z.size,Zt z⟩] [] (fun av mem maps=>av=.lit (.string z)∧mem=[none,none]∧maps=[]):=by
 refine ⟨⟨_,Tryz.func61,rfl,rfl⟩,fun w vs hd0 hl hv hm hmp htl=>?_⟩
 match vs,hl with
 |[v],_=>
  have h0:=hv 0 _ v rfl rfl
  cases h0 with
  |ptr _ _ _ _ b n' c' hk hb=>
   obtain ⟨_,vals0,hown0,hr0⟩:=hm.obs 0 _ rfl
   obtain ⟨_,vals1,hown1,hr1⟩:=hm.obs 1 _ rfl
   replace hown0:=hown0.row (show (111:Nat)<1000000 by omega)
   replace hown1:=hown1.row (show (5:Nat)<1000000 by omega)
   obtain ⟨u,hu1,hu2,hu3⟩:=(hr0 0 (by simp)).2 1 _ rfl
   cases hu3
   simp only [Nat.zero_mul,Nat.zero_add] at hu1
   have c1:w.cell? ⟨b,1,none⟩=some (hd0 1):=by
    have:=hown0.cells (g:=b) (by rw [hb];rfl) 1 _ hu1
    simpa [Addr.add] using this
   have hlt:b<w.heap.size:=World.block_lt_of_cell? w ⟨b,1,none⟩ c1
   have hbytes:∀ i,i<z.size→vals1[i]?=some (.int .u8 (Zh z i)):=by
    intro i hi
    obtain ⟨u,g1,g2,g3⟩:=(hr1 i hi).2 0 _ rfl
    cases g3
    simpa using g1
   have fin:∀ w',w.grownBy w' (hd0 1).ownBlock→Bel (Sh w hd0 [some ⟨111,2,1,fun _=>[p,.own 1]⟩,some ⟨5,1,z.size,Zt z⟩] []) w w'∧∃ hd av mem maps,(av=.lit (.string z)∧mem=[none,none]∧maps=[])∧PostOk [some ⟨111,2,1,fun _=>[p,.own 1]⟩,some ⟨5,1,z.size,Zt z⟩] [] av mem maps∧((∀ k,k<2→hd k=hd0 k)∧TailEq hd0 hd)∧MemRel (Sh w hd0 [some ⟨111,2,1,fun _=>[p,.own 1]⟩,some ⟨5,1,z.size,Zt z⟩] []) w' hd mem∧MapRel Tryz.prog (Sh w hd0 [some ⟨111,2,1,fun _=>[p,.own 1]⟩,some ⟨5,1,z.size,Zt z⟩] []) w' maps∧Rep w' (ZE mem hd) hd mem.length av (.string z):=by
    intro w' hg
    have nn:∀ (k:Nat) (ob:Ob),([none,none]:List (Option Ob))[k]?=some (some ob)→False:=fun k ob h=>by
     match k,h with
     |0,h=>simp at h
     |1,h=>simp at h
     |k+2,h=>simp at h
    refine ⟨(Bel.refl _ w).grown hg fun k hk=>.inr (.inl ⟨1,_,rfl,hk⟩),hd0,_,_,_,⟨rfl,rfl,rfl⟩,⟨by simp,rfl,fun k ob h=>(nn k ob h).elim,fun b h=>h⟩,⟨fun _ _=>rfl,TailEq.refl _⟩,⟨fun k ob h=>(nn k ob h).elim,fun k ob h=>(nn k ob h).elim,fun k hk=>hm.hds k (by simpa using hk),fun k k' ob ob' h=>(nn k ob h).elim⟩,fun b mp h=>by simp [lkm] at h,.lit _⟩
   have done_:∀ (l:List UInt8),z=⟨l.toArray⟩→(Calls Tryz.prog 61 #[.pointer (some ⟨b,0,none⟩)] w fun e w'=>e=.returned (.string ⟨l.toArray⟩)∧w.grownBy w' (hd0 1).ownBlock)→Calls Tryz.prog 61 [Value.pointer (some ⟨b,0*2+0,none⟩)].toArray w (fun e w'=>∃ v,e=.returned v∧Bel (Sh w hd0 [some ⟨111,2,1,fun _=>[p,.own 1]⟩,some ⟨5,1,z.size,Zt z⟩] []) w w'∧∃ hd av mem maps,(av=.lit (.string z)∧mem=[none,none]∧maps=[])∧PostOk [some ⟨111,2,1,fun _=>[p,.own 1]⟩,some ⟨5,1,z.size,Zt z⟩] [] av mem maps∧((∀ k,k<2→hd k=hd0 k)∧TailEq hd0 hd)∧MemRel (Sh w hd0 [some ⟨111,2,1,fun _=>[p,.own 1]⟩,some ⟨5,1,z.size,Zt z⟩] []) w' hd mem∧MapRel Tryz.prog (Sh w hd0 [some ⟨111,2,1,fun _=>[p,.own 1]⟩,some ⟨5,1,z.size,Zt z⟩] []) w' maps∧Rep w' (ZE mem hd) hd mem.length av v):=by
    intro l hz hc
    refine hc.mono ?_
    rintro e w' ⟨rfl,hg⟩
    rw [←hz]
    exact ⟨_,rfl,fin w' hg⟩
   rcases hown1.2 with ⟨hn,hz0⟩|⟨g,cap,cur,hg1,_,hg2,hnc,hcm,hcs,htake⟩
   ·refine done_ [] ?_ (ZkN b w _ ?_)
    ·obtain ⟨⟨l⟩⟩:=z
     match l,hz0 with
     |[],_=>rfl
    ·rw [hn] at c1;exact c1
   ·rw [hg1] at c1
    rw [hg1] at done_
    rcases Nat.eq_zero_or_pos z.size with h0|h0
    ·have hz:z=⟨#[]⟩:=by
      obtain ⟨⟨l⟩⟩:=z
      match l,h0 with
      |[],_=>rfl
     simp only at c1
     rw [h0] at c1
     by_cases hc0:cap=0
     ·subst hc0
      exact done_ [] hz (Zgp b g w _ cur hlt c1 hg2)
     ·exact done_ [] hz (Zjm b g cap w _ hc0 c1)
    ·have hls:z.data.toList.length=z.size:=by simp
     refine done_ z.data.toList (by simp) ?_
     refine (ZkM b g cap cur z.data.toList w (by intro e;rw [e] at hls;simp at hls;omega) ?_ hg2 (by rw [hls];exact hnc) hcm (by simpa using hcs) fun j x hx=>?_).mono fun e w' h=>h
     ·rw [hls];exact c1
     ·have hj:j<z.size:=by rw [←hls];exact (List.getElem?_eq_some_iff.1 hx).1
      have h1:=hown1.cells (g:=g) (by rw [hg1];rfl) j _ (hbytes j hj)
      have e:Zh z j=(x.toNat:Int):=by
       unfold Zh
       rw [dif_pos hj]
       have:z[j]=x:=by
        rw [List.getElem?_eq_getElem (by rw [hls];exact hj)] at hx
        exact Option.some.inj hx
       rw [this]
      rw [e] at h1
      exact h1
def bp (u:Bool):AV:=if u then .ptr 0 2 0 0 else .lit (.pointer none)
theorem Ziy:Tryz.prog.cellsOf 111=2:=by kernel_rfl
@[go_sem] theorem byteCells_ren {g:Nat→Nat} {z:ByteArray} {i:Nat}:(Zt z i).map (VN g)=Zt z i:=KS rfl
theorem Zcg:Zjr Tryz.prog 127:=⟨_,Tryz.func127,by kernel_rfl,by kernel_rfl,by kernel_rfl,by kernel_rfl⟩
theorem Zac (u:Bool) (z:ByteArray):VProc Tryz.prog 102 [.ptr 0 2 0 0] [some ⟨111,2,1,fun _=>[bp u,.own 1]⟩,some ⟨5,1,z.size,Zt z⟩] [] (fun av mem maps=>av=.tup []∧mem=[some ⟨111,2,1,fun _=>[.ptr 0 2 0 0,.own 1]⟩,some ⟨5,1,z.size,Zt z⟩]∧maps=[]):=by
 refine Zl Tryz.func102 (by kernel_rfl) rfl (by simp [Tryz.ntmps102]) ?_;simp only [Tryz.ntmps102,Tryz.results102];simp [go_sem]
 have fin:∀ t,VO [] (fun av mem maps=>av=.tup []∧mem=[some ⟨111,2,1,fun _=>[.ptr 0 2 0 0,.own 1]⟩,some ⟨5,1,z.size,Zt z⟩]∧maps=[]) ⟨t,[some ⟨111,2,1,fun _=>[.ptr 0 2 0 0,.own 1]⟩,some ⟨5,1,z.size,Zt z⟩],[],2⟩ (.tup []):=by
  intro t
  refine ⟨rfl,[],[some ⟨111,2,1,fun _=>[.ptr 0 2 0 0,.own 1]⟩,some ⟨5,1,z.size,Zt z⟩],by simp,by simp,by simp [go_sem],?_,by simp [go_sem],?_⟩
  ·simp [go_sem]
   exact ⟨⟨rfl,rfl,rfl,fun i hi=>⟨rfl,UF rfl,fun c hc q hq=>by simp at hc;rcases hc with rfl|rfl<;>simp [VP] at hq<;>simp [hq]⟩⟩,ZC (fun i _=>rfl) (fun i _=>rfl)⟩
  ·simp [go_sem]
 cases u with
 |true=>
  simp [go_sem,bp]
  exact fin _
 |false=>
  simp [go_sem,bp]
  refine ⟨⟨_,_,⟨rfl,rfl⟩,by decide⟩,Zgg Zcg ?_⟩
  simp [go_sem,Ziy]
  exact fin _
theorem QE (u:Bool) (z t:ByteArray) (h:z.size+t.size≤140737488355328):VProc Tryz.prog 60 [.ptr 0 2 0 0,.lit (.string t)] [some ⟨111,2,1,fun _=>[bp u,.own 1]⟩,some ⟨5,1,z.size,Zt z⟩] [] (fun av mem maps=>av=.tup [.lit (.int .i64 t.size),.lit .nilIface]∧mem=[some ⟨111,2,1,fun _=>[.ptr 0 2 0 0,.own 2]⟩,none,some ⟨5,1,z.size+t.size,Zt (z++t)⟩]∧maps=[]):=by
 refine Zl Tryz.func60 (by kernel_rfl) rfl (by simp [Tryz.ntmps60]) ?_;simp only [Tryz.ntmps60,Tryz.results60];simp [go_sem]
 refine Zd [0,1] (Zac u z) (by simp) ?_ ?_ trivial ?_
 ·simp [go_sem]
 ·simp [go_sem]
  refine ⟨?_,fun i _=>Zk rfl⟩
  cases u
  ·exact .closed _ (.lit _)
  ·exact .ptr 0 2 0 0 (by omega)
 ·rintro av mem maps ⟨rfl,rfl,rfl⟩
  simp [go_sem]
  refine ⟨h,rfl,[2],[some ⟨111,2,1,fun _=>[.ptr 0 2 0 0,.own 2]⟩,none,some ⟨5,1,z.size+t.size,Zt (z++t)⟩],by simp,by simp,by simp [go_sem],?_,by simp [go_sem],?_⟩
  ·simp [go_sem]
   exact ⟨⟨rfl,rfl,rfl,fun i hi=>⟨rfl,UF rfl,fun c hc q hq=>by simp at hc;rcases hc with rfl|rfl<;>simp [VP] at hq<;>simp [hq]⟩⟩,ZC (fun i hi=>V5 z t i hi) (fun i _=>rfl)⟩
  ·simp [go_sem]
theorem Zks (l:List POp) (hl:l.length≤9223372036854775807) (hw:YT l) (t:List PTok) (ht:t.length≤1048576) (hz:∀ i,i<t.length→(Zj t i).text.size≤maxLen):VFun Tryz.prog 50 [.agg [.sl 4 l.length (Zg l)],.sl 3 t.length (Zr t)] (fun av obs=>av=.tup [.own 0,.lit (.int .i64 (Z8 l t).2)]∧obs=[⟨3,1,(Z8 l t).1.length,ZA (Z8 l t).1⟩]):=by
 refine (Zll l hl hw t ht hz).adopt 3 1 (by omega) (ZA []) fun av obs h=>?_
 rcases h with ⟨x,h1,rfl,rfl⟩|h1
 ·refine .inr ⟨_,rfl,rfl,?_⟩
  rw [h1]
  exact ⟨rfl,rfl⟩
 ·exact .inl h1
end Go.Proofs.YtjdmmhcogmepaaaGreatDoor.V
namespace Go.Proofs.YtjdmmhcogmepaaaGreatDoor.Ops
variable {α β:Type} (v:α→Lv)
def Tk.op?:Tk α β→Option α
 | .pre o=>some o
 | .inf o=>some o
 | .post o=>some o
 | _=>none
def Tk.turn:Tk α β→Int
 | .opn=>1
 | .cls=>-1
 | _=>0
def better (best:Option (Nat×α)) (x:Nat×α):Option (Nat×α):=
 match best with
 |none=>some x
 |some b=>if (v x.2).lev<(v b.2).lev∨((v x.2).lev=(v b.2).lev∧(v x.2).srt≠2) then some x else some b
def root:List (Tk α β)→Nat→Int→Option (Nat×α)→Option (Nat×α)
 |[],_,_,best=>best
 |tk::r,i,d,best=>
  if d+tk.turn=0 then
   match tk.op? with
   |none=>root r (i+1) (d+tk.turn) best
   |some o=>root r (i+1) (d+tk.turn) (better v best (i,o))
  else root r (i+1) (d+tk.turn) best
def buildF (bl:List (Tk α β)→Option (Tr α β)) (s:List (Tk α β)):Option (Tr α β):=
 match root v s 0 0 none with
 |none=>
  match s with
  | .opn::r=>(bl r.dropLast).map .grp
  | .leaf b::_=>some (.leaf b)
  | _=>none
 |some (i,_)=>
  match s[i]? with
  |some (.pre o)=>
   if i≠0 then none
   else match bl (s.drop 1) with
    |none=>none
    |some t=>if (v o).h2≤t.level v then some (.pre o t) else none
  |some (.post o)=>
   if i+1≠s.length then none
   else match bl (s.take i) with
    |none=>none
    |some t=>if (v o).h1≤t.level v then some (.post o t) else none
  |some (.inf o)=>
   match bl (s.take i) with
   |none=>none
   |some l=>
    match bl (s.drop (i+1)) with
    |none=>none
    |some r=>if (v o).h1≤l.level v∧(v o).h2≤r.level v then some (.inf o l r) else none
  | _=>none
def build:Nat→List (Tk α β)→Option (Tr α β)
 |0,_=>none
 |n+1,s=>buildF v (build n) s
def Tr.tops:Tr α β→Nat→List (Nat×α)
 | .leaf _,_=>[]
 | .grp _,_=>[]
 | .pre o t,i=>(i,o)::t.tops (i+1)
 | .post o t,i=>t.tops i++[(i+t.yield.length,o)]
 | .inf o l r,i=>l.tops i++(i+l.yield.length,o)::r.tops (i+l.yield.length+1)
theorem UB {tk:Tk α β} {r:List (Tk α β)} {i:Nat} {d d':Int} {best} (e:d+tk.turn=d') (h:d'≠0):root v (tk::r) i d best=root v r (i+1) d' best:=by
 subst e;rw [root,if_neg h]
theorem JS {tk:Tk α β} {r:List (Tk α β)} {i:Nat} {d d':Int} {best} (e:d+tk.turn=d') (h:tk.op?=none):root v (tk::r) i d best=root v r (i+1) d' best:=by
 subst e;rw [root];split
 ·rw [h]
 ·rfl
theorem Ge {tk:Tk α β} {r:List (Tk α β)} {i:Nat} {best} {o:α} (e:tk.turn=0) (h:tk.op?=some o):root v (tk::r) i 0 best=root v r (i+1) 0 (better v best (i,o)):=by
 rw [root,e,if_pos (by omega),h];rfl
theorem Zh4 (t:Tr α β):∀ (rest:List (Tk α β)) (i:Nat) (d:Int) best,0<d→root v (t.yield++rest) i d best=root v rest (i+t.yield.length) d best:=by
 induction t with
 |leaf b=>
  intro rest i d best h
  simp only [Tr.yield,List.cons_append,List.nil_append,List.length_cons,List.length_nil]
  rw [UB v (d':=d) (by simp [Tk.turn]) (by omega)]
 |grp t ih=>
  intro rest i d best h
  simp only [Tr.yield,List.cons_append,List.append_assoc,List.nil_append,List.length_cons,List.length_append,List.length_nil]
  rw [UB v (d':=d+1) (by simp [Tk.turn]) (by omega),ih _ _ _ _ (by omega),UB v (d':=d) (by simp [Tk.turn];omega) (by omega)]
  rw [show i+1+t.yield.length+1=i+(t.yield.length+(0+1)+1) by omega]
 |pre o t ih=>
  intro rest i d best h
  simp only [Tr.yield,List.cons_append,List.length_cons]
  rw [UB v (d':=d) (by simp [Tk.turn]) (by omega),ih _ _ _ _ (by omega)]
  rw [show i+1+t.yield.length=i+(t.yield.length+1) by omega]
 |post o t ih=>
  intro rest i d best h
  simp only [Tr.yield,List.append_assoc,List.cons_append,List.nil_append,List.length_append,List.length_cons,List.length_nil]
  rw [ih _ _ _ _ h,UB v (d':=d) (by simp [Tk.turn]) (by omega)]
  rw [show i+t.yield.length+1=i+(t.yield.length+(0+1)) by omega]
 |inf o l r ihl ihr=>
  intro rest i d best h
  simp only [Tr.yield,List.append_assoc,List.cons_append,List.length_append,List.length_cons]
  rw [ihl _ _ _ _ h,UB v (d':=d) (by simp [Tk.turn]) (by omega),ihr _ _ _ _ (by omega)]
  rw [show i+l.yield.length+1+r.yield.length=i+(l.yield.length+(r.yield.length+1)) by omega]
theorem Zh3 (t:Tr α β):∀ (rest:List (Tk α β)) (i:Nat) best,root v (t.yield++rest) i 0 best=root v rest (i+t.yield.length) 0 ((t.tops i).foldl (better v) best):=by
 induction t with
 |leaf b=>
  intro rest i best
  simp only [Tr.yield,List.cons_append,List.nil_append,List.length_cons,List.length_nil,Tr.tops,List.foldl_nil]
  rw [JS v (d':=0) (by simp [Tk.turn]) rfl]
 |grp t ih=>
  intro rest i best
  simp only [Tr.yield,List.cons_append,List.append_assoc,List.nil_append,List.length_cons,List.length_append,List.length_nil,Tr.tops,List.foldl_nil]
  rw [JS v (d':=1) (by simp [Tk.turn]) rfl,Zh4 v t _ _ _ _ (by omega),JS v (d':=0) (by simp [Tk.turn]) rfl]
  rw [show i+1+t.yield.length+1=i+(t.yield.length+(0+1)+1) by omega]
 |pre o t ih=>
  intro rest i best
  simp only [Tr.yield,List.cons_append,List.length_cons,Tr.tops,List.foldl_cons]
  rw [Ge v (o:=o) rfl rfl,ih]
  rw [show i+1+t.yield.length=i+(t.yield.length+1) by omega]
 |post o t ih=>
  intro rest i best
  simp only [Tr.yield,List.append_assoc,List.cons_append,List.nil_append,List.length_append,List.length_cons,List.length_nil,Tr.tops,List.foldl_append,List.foldl_cons,List.foldl_nil]
  rw [ih,Ge v (o:=o) rfl rfl]
  rw [show i+t.yield.length+1=i+(t.yield.length+(0+1)) by omega]
 |inf o l r ihl ihr=>
  intro rest i best
  simp only [Tr.yield,List.append_assoc,List.cons_append,List.length_append,List.length_cons,Tr.tops,List.foldl_append,List.foldl_cons]
  rw [ihl,Ge v (o:=o) rfl rfl,ihr]
  rw [show i+l.yield.length+1+r.yield.length=i+(l.yield.length+(r.yield.length+1)) by omega]
theorem V1 (t:Tr α β):root v t.yield 0 0 none=(t.tops 0).foldl (better v) none:=by
 have:=Zh3 v t [] 0 none
 rw [List.append_nil] at this
 rw [this];rfl
theorem Zex {p:α→Prop} (t:Tr α β):∀ i,t.All v p→∀ x∈t.tops i,p x.2:=by
 induction t with
 |leaf b=>intro i _ x h;simp [Tr.tops] at h
 |grp t _=>intro i _ x h;simp [Tr.tops] at h
 |pre o t ih=>
  intro i hp x h
  simp only [Tr.tops,List.mem_cons] at h
  rcases h with rfl|h
  ·exact hp.1
  ·exact ih _ hp.2.2 x h
 |post o t ih=>
  intro i hp x h
  simp only [Tr.tops,List.mem_append,List.mem_cons,List.not_mem_nil,or_false] at h
  rcases h with h|rfl
  ·exact ih _ hp.2.2 x h
  ·exact hp.1
 |inf o l r ihl ihr=>
  intro i hp x h
  simp only [Tr.tops,List.mem_append,List.mem_cons] at h
  rcases h with h|rfl|h
  ·exact ihl _ hp.2.1 x h
  ·exact hp.1
  ·exact ihr _ hp.2.2 x h
theorem K3 (t:Tr α β):∀ i,t.Adm v→∀ x∈t.tops i,t.level v≤(v x.2).lev:=by
 have le1:∀ o,(v o).lev≤(v o).h1:=by intro o;unfold Lv.h1;split<;>omega
 have le2:∀ o,(v o).lev≤(v o).h2:=by intro o;unfold Lv.h2;split<;>omega
 induction t with
 |leaf b=>intro i _ x h;simp [Tr.tops] at h
 |grp t _=>intro i _ x h;simp [Tr.tops] at h
 |pre o t ih=>
  intro i ha x h
  simp only [Tr.tops,List.mem_cons] at h
  simp only [Tr.level]
  rcases h with rfl|h
  ·exact Int.le_refl _
  ·have:=ih _ ha.2 x h;have:=ha.1;have:=le2 o;omega
 |post o t ih=>
  intro i ha x h
  simp only [Tr.tops,List.mem_append,List.mem_cons,List.not_mem_nil,or_false] at h
  simp only [Tr.level]
  rcases h with h|rfl
  ·have:=ih _ ha.2 x h;have:=ha.1;have:=le1 o;omega
  ·exact Int.le_refl _
 |inf o l r ihl ihr=>
  intro i ha x h
  simp only [Tr.tops,List.mem_append,List.mem_cons] at h
  simp only [Tr.level]
  rcases h with h|rfl|h
  ·have:=ihl _ ha.2.2.1 x h;have:=ha.1;have:=le1 o;omega
  ·exact Int.le_refl _
  ·have:=ihr _ ha.2.2.2 x h;have:=ha.2.1;have:=le2 o;omega
theorem Zj8 (l:List (Nat×α)):∀ best,(l.foldl (better v) best=best)∨∃ x∈l,l.foldl (better v) best=some x:=by
 induction l with
 |nil=>intro best;exact .inl rfl
 |cons y l ih=>
  intro best
  simp only [List.foldl_cons]
  have hb:better v best y=best∨better v best y=some y:=by
   unfold better
   cases best with
   |none=>exact .inr rfl
   |some b=>simp only;split;exact .inr rfl;exact .inl rfl
  rcases ih (better v best y) with h|⟨x,hx,h⟩
  ·rcases hb with hb|hb
   ·rw [hb] at h;rw [hb];exact .inl h
   ·rw [h];exact .inr ⟨y,List.mem_cons_self,hb⟩
  ·exact .inr ⟨x,List.mem_cons_of_mem _ hx,h⟩
theorem ZgQ (l:List (Nat×α)) (b:Nat×α) (h:∀ x∈l,¬((v x.2).lev<(v b.2).lev∨((v x.2).lev=(v b.2).lev∧(v x.2).srt≠2))):l.foldl (better v) (some b)=some b:=by
 induction l with
 |nil=>rfl
 |cons y l ih=>
  simp only [List.foldl_cons]
  have:better v (some b) y=some b:=by
   unfold better;simp only;rw [if_neg (h y List.mem_cons_self)]
  rw [this]
  exact ih fun x hx=>h x (List.mem_cons_of_mem _ hx)
theorem ZbJ (l:List (Nat×α)) (y:Nat×α) (h:∀ x∈l,(v y.2).h1≤(v x.2).lev):better v (l.foldl (better v) none) y=some y:=by
 rcases Zj8 v l none with e|⟨x,hx,e⟩
 ·rw [e];rfl
 ·rw [e];unfold better;simp only
  have:=h x hx
  rw [if_pos]
  unfold Lv.h1 at this
  split at this
  ·rename_i hs
   by_cases he:(v y.2).lev=(v x.2).lev
   ·exact .inr ⟨he,by omega⟩
   ·exact .inl (by omega)
  ·exact .inl (by omega)
theorem ZbI {p:α→Prop} (hg:Good v p) (l:List (Nat×α)) (y:Nat×α) (hy:p y.2) (hl:∀ x∈l,p x.2) (h:∀ x∈l,(v y.2).h2≤(v x.2).lev):l.foldl (better v) (some y)=some y:=by
 refine ZgQ v l y fun x hx=>?_
 have h1:=h x hx
 have h2:=hg.one x.2 y.2 (hl x hx) hy
 unfold Lv.h2 at h1
 split at h1<;>omega
theorem Zjv {p:α→Prop} (hg:Good v p) (o:α) (t:Tr α β) (hp:(Tr.pre o t).All v p) (ha:(Tr.pre o t).Adm v):root v (Tr.pre o t).yield 0 0 none=some (0,o):=by
 rw [V1]
 simp only [Tr.tops,List.foldl_cons]
 refine ZbI v hg _ (0,o) hp.1 (Zex v t _ hp.2.2) fun x hx=>?_
 have:=K3 v t _ ha.2 x hx
 have:=ha.1
 simp only;omega
theorem Zh2 (o:α) (t:Tr α β) (ha:(Tr.post o t).Adm v):root v (Tr.post o t).yield 0 0 none=some (t.yield.length,o):=by
 rw [V1]
 simp only [Tr.tops,List.foldl_append,List.foldl_cons,List.foldl_nil,Nat.zero_add]
 refine ZbJ v _ (t.yield.length,o) fun x hx=>?_
 have:=K3 v t _ ha.2 x hx
 have:=ha.1
 simp only;omega
theorem Zjw {p:α→Prop} (hg:Good v p) (o:α) (l r:Tr α β) (hp:(Tr.inf o l r).All v p) (ha:(Tr.inf o l r).Adm v):root v (Tr.inf o l r).yield 0 0 none=some (l.yield.length,o):=by
 rw [V1]
 simp only [Tr.tops,List.foldl_append,List.foldl_cons,Nat.zero_add]
 rw [ZbJ v _ (l.yield.length,o) fun x hx=>?_]
 ·refine ZbI v hg _ (l.yield.length,o) hp.1 (Zex v r _ hp.2.2) fun x hx=>?_
  have:=K3 v r _ ha.2.2.2 x hx
  have:=ha.2.1
  simp only;omega
 ·have:=K3 v l _ ha.2.2.1 x hx
  have:=ha.1
  simp only;omega
theorem yield_pos (t:Tr α β):0<t.yield.length:=by cases t<;>simp [Tr.yield]<;>omega
theorem build_complete {p:α→Prop} (hg:Good v p) (t:Tr α β):∀ n,t.yield.length≤n→t.All v p→t.Adm v→build v n t.yield=some t:=by
 induction t with
 |leaf b=>
  intro n hn _ _
  obtain ⟨n,rfl⟩:∃ m,n=m+1:=⟨n-1,by simp [Tr.yield] at hn;omega⟩
  rw [build];unfold buildF;rw [V1];rfl
 |grp t ih=>
  intro n hn hp ha
  obtain ⟨n,rfl⟩:∃ m,n=m+1:=⟨n-1,by simp [Tr.yield] at hn;omega⟩
  rw [build];unfold buildF;rw [V1]
  show (build v n (t.yield++[Tk.cls]).dropLast).map Tr.grp=_
  rw [List.dropLast_concat,ih n (by simp [Tr.yield] at hn;omega) hp ha];rfl
 |pre o t ih=>
  intro n hn hp ha
  obtain ⟨n,rfl⟩:∃ m,n=m+1:=⟨n-1,by simp [Tr.yield] at hn;omega⟩
  rw [build];unfold buildF;rw [Zjv v hg o t hp ha]
  simp only [Tr.yield,List.getElem?_cons_zero,List.drop_succ_cons,List.drop_zero]
  rw [ih n (by simp [Tr.yield] at hn;omega) hp.2.2 ha.2]
  simp only [ne_eq,not_true_eq_false,if_false]
  rw [if_pos ha.1]
 |post o t ih=>
  intro n hn hp ha
  have:=yield_pos t
  obtain ⟨n,rfl⟩:∃ m,n=m+1:=⟨n-1,by simp [Tr.yield] at hn;omega⟩
  rw [build];unfold buildF;rw [Zh2 v o t ha]
  simp only [Tr.yield]
  rw [List.getElem?_append_right (Nat.le_refl _),Nat.sub_self,List.take_left]
  simp only [List.getElem?_cons_zero,List.length_append,List.length_cons,List.length_nil]
  rw [ih n (by simp [Tr.yield] at hn;omega) hp.2.2 ha.2]
  simp only
  rw [if_neg (by omega),if_pos ha.1]
 |inf o l r ihl ihr=>
  intro n hn hp ha
  have:=yield_pos l
  have:=yield_pos r
  obtain ⟨n,rfl⟩:∃ m,n=m+1:=⟨n-1,by simp [Tr.yield] at hn;omega⟩
  rw [build];unfold buildF;rw [Zjw v hg o l r hp ha]
  simp only [Tr.yield]
  rw [List.getElem?_append_right (Nat.le_refl _),Nat.sub_self,List.take_left]
  simp only [List.getElem?_cons_zero]
  rw [show l.yield++Tk.inf o::r.yield=(l.yield++[Tk.inf o])++r.yield by simp,List.drop_left' (by simp)]
  rw [ihl n (by simp [Tr.yield] at hn;omega) hp.2.1 ha.2.2.1,ihr n (by simp [Tr.yield] at hn;omega) hp.2.2 ha.2.2.2]
  simp only
  rw [if_pos ⟨ha.1,ha.2.1⟩]
def OF (s:List (Tk α β)):Prop:=∃ t:Tr α β,t.yield=s
theorem of_pre {o:α} {w:List (Tk α β)} (h:OF (.pre o::w)):OF w:=by
 obtain ⟨t,ht⟩:=h
 induction t generalizing w with
 |leaf b=>simp [Tr.yield] at ht
 |grp t=>simp [Tr.yield] at ht
 |pre p t=>simp only [Tr.yield,List.cons.injEq] at ht;exact ⟨t,ht.2⟩
 |post p t ih=>
  simp only [Tr.yield] at ht
  rcases List.append_eq_cons_iff.1 ht with ⟨h1,_⟩|⟨w1,h1,h2⟩
  ·have:=yield_pos t;rw [h1] at this;simp at this
  ·obtain ⟨t',ht'⟩:=ih h1
   exact ⟨.post p t',by rw [h2];simp [Tr.yield,ht']⟩
 |inf p l r ih _=>
  simp only [Tr.yield] at ht
  rcases List.append_eq_cons_iff.1 ht with ⟨h1,_⟩|⟨w1,h1,h2⟩
  ·have:=yield_pos l;rw [h1] at this;simp at this
  ·obtain ⟨t',ht'⟩:=ih h1
   exact ⟨.inf p t' r,by rw [h2];simp [Tr.yield,ht']⟩
theorem of_post {o:α} {u:List (Tk α β)} (h:OF (u++[.post o])):OF u:=by
 obtain ⟨t,ht⟩:=h
 induction t generalizing u with
 |leaf b=>
  have h2:=congrArg List.getLast? ht
  simp [Tr.yield] at h2
 |grp t=>
  have h2:=congrArg List.getLast? ht
  simp only [Tr.yield,←List.cons_append,List.getLast?_append,List.getLast?_singleton,Option.some_or] at h2
  simp at h2
 |post p t=>
  simp only [Tr.yield] at ht
  exact ⟨t,(List.append_inj' ht rfl).1⟩
 |pre p t ih=>
  simp only [Tr.yield] at ht
  cases u with
  |nil=>
   simp at ht
  |cons x u=>
   simp only [List.cons_append,List.cons.injEq] at ht
   obtain ⟨t',ht'⟩:=ih ht.2
   exact ⟨.pre p t',by rw [←ht.1];simp [Tr.yield,ht']⟩
 |inf p l r _ ih=>
  simp only [Tr.yield] at ht
  rw [show l.yield++Tk.inf p::r.yield=(l.yield++[Tk.inf p])++r.yield by simp] at ht
  rcases List.append_eq_append_iff.1 ht with ⟨a',h1,h2⟩|⟨c',h1,h2⟩
  ·obtain ⟨t',ht'⟩:=ih h2
   exact ⟨.inf p l t',by rw [h1];simp [Tr.yield,ht']⟩
  ·have:=yield_pos r
   cases c' with
   |nil=>
    simp only [List.append_nil,List.nil_append] at h1 h2
    obtain ⟨t',ht'⟩:=ih (u:=[]) (by simpa using h2.symm)
    have:=yield_pos t'
    rw [ht'] at this;simp at this
   |cons x c'=>
    have h3:=congrArg List.length h2
    simp only [List.length_append,List.length_cons,List.length_nil] at h3
    omega
def depth (s:List (Tk α β)):Int:=(s.map Tk.turn).sum
theorem Wg (a b:List (Tk α β)):depth (a++b)=depth a+depth b:=by unfold depth;rw [List.map_append,List.sum_append_int]
theorem XB (a:Tk α β) (b:List (Tk α β)):depth (a::b)=a.turn+depth b:=by simp [depth]
theorem Qp (t:Tr α β):depth t.yield=0:=by
 induction t with
 |leaf b=>simp [Tr.yield,depth,Tk.turn]
 |grp t ih=>simp only [Tr.yield,XB,Wg,ih,Tk.turn];simp [depth]
 |pre o t ih=>simp only [Tr.yield,XB,ih,Tk.turn];rfl
 |post o t ih=>simp only [Tr.yield,Wg,XB,ih,Tk.turn];rfl
 |inf o l r ihl ihr=>simp only [Tr.yield,Wg,XB,ihl,ihr,Tk.turn];rfl
theorem Zfm (t:Tr α β):∀ u w,t.yield=u++w→0≤depth u:=by
 induction t with
 |leaf b=>
  intro u w h
  rcases u with _|⟨x,u⟩
  ·simp [depth]
  ·simp only [Tr.yield,List.cons_append,List.cons.injEq] at h
   obtain ⟨rfl,h⟩:=h
   have:u=[]:=by simpa using (List.append_eq_nil_iff.1 h.symm).1
   subst this;simp [depth,Tk.turn]
 |grp t ih=>
  intro u w h
  rcases u with _|⟨x,u⟩
  ·simp [depth]
  ·simp only [Tr.yield,List.cons_append,List.cons.injEq] at h
   obtain ⟨rfl,h⟩:=h
   rw [XB]
   rcases List.append_eq_append_iff.1 h with ⟨a',h1,h2⟩|⟨c',h1,h2⟩
   ·rw [h1,Wg,Qp]
    have:a'=[]∨a'=[.cls]:=by
     rcases a' with _|⟨y,a'⟩
     ·exact .inl rfl
     ·simp only [List.cons_append,List.cons.injEq] at h2
      obtain ⟨rfl,h2⟩:=h2
      have:a'=[]:=by simpa using (List.append_eq_nil_iff.1 h2.symm).1
      subst this;exact .inr rfl
    rcases this with rfl|rfl<;>simp [depth,Tk.turn]
   ·have:=ih u c' h1
    simp only [Tk.turn];omega
 |pre o t ih=>
  intro u w h
  rcases u with _|⟨x,u⟩
  ·simp [depth]
  ·simp only [Tr.yield,List.cons_append,List.cons.injEq] at h
   obtain ⟨rfl,h⟩:=h
   rw [XB]
   have:=ih u w h
   simp only [Tk.turn];omega
 |post o t ih=>
  intro u w h
  simp only [Tr.yield] at h
  rcases List.append_eq_append_iff.1 h with ⟨a',h1,h2⟩|⟨c',h1,h2⟩
  ·rw [h1,Wg,Qp]
   rcases a' with _|⟨y,a'⟩
   ·simp [depth]
   ·simp only [List.cons_append,List.cons.injEq] at h2
    obtain ⟨rfl,h2⟩:=h2
    have:a'=[]:=by simpa using (List.append_eq_nil_iff.1 h2.symm).1
    subst this;simp [depth,Tk.turn]
  ·exact ih u c' h1
 |inf o l r ihl ihr=>
  intro u w h
  simp only [Tr.yield] at h
  rcases List.append_eq_append_iff.1 h with ⟨a',h1,h2⟩|⟨c',h1,h2⟩
  ·rw [h1,Wg,Qp]
   rcases a' with _|⟨y,a'⟩
   ·simp [depth]
   ·simp only [List.cons_append,List.cons.injEq] at h2
    obtain ⟨rfl,h2⟩:=h2
    rw [XB]
    have:=ihr a' w h2
    simp only [Tk.turn];omega
  ·exact ihl u c' h1
theorem of_inf {o:α} {u w:List (Tk α β)} (h:OF (u++.inf o::w)) (hd:depth u=0):OF u∧OF w:=by
 obtain ⟨t,ht⟩:=h
 induction t generalizing u w with
 |leaf b=>
  exfalso
  rcases u with _|⟨x,u⟩
  ·simp [Tr.yield] at ht
  ·simp [Tr.yield] at ht
 |grp t ih=>
  exfalso
  rcases u with _|⟨x,u⟩
  ·simp [Tr.yield] at ht
  ·simp only [Tr.yield,List.cons_append,List.cons.injEq] at ht
   obtain ⟨rfl,h⟩:=ht
   rw [XB] at hd
   rcases List.append_eq_append_iff.1 h with ⟨a',h1,h2⟩|⟨c',h1,h2⟩
   ·rcases a' with _|⟨y,a'⟩
    ·simp at h2
    ·simp only [List.cons_append,List.cons.injEq] at h2
     have:=(List.append_eq_nil_iff.1 h2.2.symm).2
     simp at this
   ·have:=Zfm t u c' h1
    simp only [Tk.turn] at hd;omega
 |pre p t ih=>
  rcases u with _|⟨x,u⟩
  ·simp [Tr.yield] at ht
  ·simp only [Tr.yield,List.cons_append,List.cons.injEq] at ht
   obtain ⟨rfl,h⟩:=ht
   rw [XB] at hd
   obtain ⟨⟨t1,e1⟩,h2⟩:=ih (by simp only [Tk.turn] at hd;omega) h
   exact ⟨⟨.pre p t1,by simp [Tr.yield,e1]⟩,h2⟩
 |post p t ih=>
  simp only [Tr.yield] at ht
  rcases List.append_eq_append_iff.1 ht with ⟨a',h1,h2⟩|⟨c',h1,h2⟩
  ·exfalso
   rcases a' with _|⟨y,a'⟩
   ·simp at h2
   ·simp only [List.cons_append,List.cons.injEq] at h2
    have:=(List.append_eq_nil_iff.1 h2.2.symm).2
    simp at this
  ·rcases c' with _|⟨y,c'⟩
   ·simp at h2
   ·simp only [List.cons_append,List.cons.injEq] at h2
    obtain ⟨rfl,h2⟩:=h2
    obtain ⟨h3,⟨t1,e1⟩⟩:=ih hd h1
    exact ⟨h3,⟨.post p t1,by rw [h2];simp [Tr.yield,e1]⟩⟩
 |inf p l r ihl ihr=>
  simp only [Tr.yield] at ht
  rcases List.append_eq_append_iff.1 ht with ⟨a',h1,h2⟩|⟨c',h1,h2⟩
  ·rcases a' with _|⟨y,a'⟩
   ·simp only [List.append_nil,List.nil_append,List.cons.injEq] at h1 h2
    exact ⟨⟨l,h1.symm⟩,⟨r,h2.2⟩⟩
   ·simp only [List.cons_append,List.cons.injEq] at h2
    obtain ⟨rfl,h2⟩:=h2
    rw [h1,Wg,Qp,XB] at hd
    obtain ⟨⟨t1,e1⟩,h4⟩:=ihr (by simp only [Tk.turn] at hd;omega) h2
    exact ⟨⟨.inf p l t1,by rw [h1];simp [Tr.yield,e1]⟩,h4⟩
  ·rcases c' with _|⟨y,c'⟩
   ·simp only [List.append_nil,List.nil_append,List.cons.injEq] at h1 h2
    exact ⟨⟨l,h1⟩,⟨r,h2.2.symm⟩⟩
   ·simp only [List.cons_append,List.cons.injEq] at h2
    obtain ⟨rfl,h2⟩:=h2
    obtain ⟨h3,⟨t1,e1⟩⟩:=ihl hd h1
    exact ⟨h3,⟨.inf p t1 r,by rw [h2];simp [Tr.yield,e1]⟩⟩
theorem root_at (s:List (Tk α β)):∀ (i:Nat) (d:Int) best (j:Nat) (o:α),root v s i d best=some (j,o)→best=some (j,o)∨∃ u tk w,s=u++tk::w∧tk.op?=some o∧d+depth u=0∧j=i+u.length:=by
 induction s with
 |nil=>intro i d best j o h;exact .inl h
 |cons tk r ih=>
  intro i d best j o h
  rw [root] at h
  have go:∀ best',root v r (i+1) (d+tk.turn) best'=some (j,o)→best'=some (j,o)∨∃ u t w,tk::r=u++t::w∧t.op?=some o∧d+depth u=0∧j=i+u.length:=by
   intro best' h'
   rcases ih _ _ _ _ _ h' with h'|⟨u,t,w,h1,h2,h3,h4⟩
   ·exact .inl h'
   ·exact .inr ⟨tk::u,t,w,by rw [h1];rfl,h2,by rw [XB];omega,by rw [List.length_cons];omega⟩
  split at h
  rotate_left
  ·exact go _ h
  ·rename_i hd
   split at h
   ·exact go _ h
   ·rename_i o' ho
    rcases go _ h with h|h
    ·have:better v best (i,o')=best∨better v best (i,o')=some (i,o'):=by
      unfold better
      cases best with
      |none=>exact .inr rfl
      |some b=>simp only;split;exact .inr rfl;exact .inl rfl
     rcases this with e|e
     ·rw [e] at h;exact .inl h
     ·rw [e] at h
      simp only [Option.some.injEq,Prod.mk.injEq] at h
      obtain ⟨rfl,rfl⟩:=h
      refine .inr ⟨[],tk,r,rfl,ho,?_,by simp⟩
      have:tk.turn=0:=by cases tk<;>simp [Tk.op?] at ho<;>rfl
      rw [this] at hd
      simp [depth];omega
    ·exact .inr h
theorem Qu (best:Option (Nat×α)) (x:Nat×α):∃ y,better v best x=some y:=by
 unfold better
 cases best with
 |none=>exact ⟨_,rfl⟩
 |some b=>simp only;split;exact ⟨_,rfl⟩;exact ⟨_,rfl⟩
theorem ZcW (l:List (Nat×α)):∀ x,∃ y,l.foldl (better v) (some x)=some y:=by
 induction l with
 |nil=>intro x;exact ⟨x,rfl⟩
 |cons z l ih=>
  intro x
  obtain ⟨y,hy⟩:=Qu v (some x) z
  simp only [List.foldl_cons,hy]
  exact ih y
theorem root_none (t:Tr α β) (h:root v t.yield 0 0 none=none):(∃ b,t=.leaf b)∨∃ t',t=.grp t':=by
 rw [V1] at h
 cases t with
 |leaf b=>exact .inl ⟨b,rfl⟩
 |grp t=>exact .inr ⟨t,rfl⟩
 |pre o t=>
  simp only [Tr.tops,List.foldl_cons] at h
  obtain ⟨y,hy⟩:=Qu v none (0,o)
  rw [hy] at h
  obtain ⟨z,hz⟩:=ZcW v (t.tops (0+1)) y
  rw [hz] at h;simp at h
 |post o t=>
  simp only [Tr.tops,List.foldl_append,List.foldl_cons,List.foldl_nil] at h
  obtain ⟨y,hy⟩:=Qu v (List.foldl (better v) none (t.tops 0)) (0+t.yield.length,o)
  rw [hy] at h;simp at h
 |inf o l r=>
  simp only [Tr.tops,List.foldl_append,List.foldl_cons] at h
  obtain ⟨y,hy⟩:=Qu v (List.foldl (better v) none (l.tops 0)) (0+l.yield.length,o)
  rw [hy] at h
  obtain ⟨z,hz⟩:=ZcW v (r.tops (0+l.yield.length+1)) y
  rw [hz] at h;simp at h
theorem build_sound (n:Nat):∀ (s:List (Tk α β)) (t:Tr α β),OF s→build v n s=some t→t.Adm v∧t.yield=s:=by
 induction n with
 |zero=>intro s t _ h;simp [build] at h
 |succ n ih=>
  intro s t hof h
  rw [build] at h;unfold buildF at h
  cases hr:root v s 0 0 none with
  |none=>
   rw [hr] at h;simp only at h
   obtain ⟨t0,rfl⟩:=hof
   rcases root_none v t0 hr with ⟨b,rfl⟩|⟨t1,rfl⟩
   ·simp only [Tr.yield,Option.some.injEq] at h
    subst h;exact ⟨trivial,rfl⟩
   ·simp only [Tr.yield,List.dropLast_concat] at h
    cases hb:build v n t1.yield with
    |none=>rw [hb] at h;simp at h
    |some t2=>
     rw [hb] at h
     simp only [Option.map_some,Option.some.injEq] at h
     subst h
     obtain ⟨h1,h2⟩:=ih _ _ ⟨t1,rfl⟩ hb
     exact ⟨h1,by simp [Tr.yield,h2]⟩
  |some x=>
   obtain ⟨i,o⟩:=x
   rw [hr] at h;simp only at h
   rcases root_at v s _ _ _ _ _ hr with h0|⟨u,tk,w,rfl,ho,hd,rfl⟩
   ·simp at h0
   ·rw [List.getElem?_append_right (by omega)] at h
    simp only [Nat.zero_add,Nat.sub_self,List.getElem?_cons_zero] at h
    rw [Int.zero_add] at hd
    have hdr:(u++tk::w).drop (u.length+1)=w:=by
     rw [show u++tk::w=(u++[tk])++w by simp,List.drop_left' (by simp)]
    rw [List.take_left,hdr] at h
    split at h
    ·rename_i p hp
     simp only [Option.some.injEq] at hp
     subst hp
     split at h
     ·simp at h
     ·rename_i hu
      have hu':u=[]:=List.eq_nil_of_length_eq_zero (by omega)
      subst hu'
      simp only [List.nil_append,List.drop_succ_cons,List.drop_zero] at h hof ⊢
      cases hb:build v n w with
      |none=>rw [hb] at h;simp at h
      |some t2=>
       rw [hb] at h;simp only at h
       split at h
       ·rename_i hc
        simp only [Option.some.injEq] at h
        subst h
        obtain ⟨h1,h2⟩:=ih _ _ (of_pre hof) hb
        exact ⟨⟨hc,h1⟩,by simp [Tr.yield,h2]⟩
       ·simp at h
    ·rename_i p hp
     simp only [Option.some.injEq] at hp
     subst hp
     split at h
     ·simp at h
     ·rename_i hw
      have hw':w=[]:=List.eq_nil_of_length_eq_zero (by simp only [List.length_append,List.length_cons] at hw;omega)
      subst hw'
      cases hb:build v n u with
      |none=>rw [hb] at h;simp at h
      |some t2=>
       rw [hb] at h;simp only at h
       split at h
       ·rename_i hc
        simp only [Option.some.injEq] at h
        subst h
        obtain ⟨h1,h2⟩:=ih _ _ (of_post hof) hb
        exact ⟨⟨hc,h1⟩,by simp [Tr.yield,h2]⟩
       ·simp at h
    ·rename_i p hp
     simp only [Option.some.injEq] at hp
     subst hp
     obtain ⟨ofu,ofw⟩:=of_inf hof hd
     cases hb:build v n u with
     |none=>rw [hb] at h;simp at h
     |some t2=>
      rw [hb] at h;simp only at h
      cases hb':build v n w with
      |none=>rw [hb'] at h;simp at h
      |some t3=>
       rw [hb'] at h;simp only at h
       split at h
       ·rename_i hc
        simp only [Option.some.injEq] at h
        subst h
        obtain ⟨h1,h2⟩:=ih _ _ ofu hb
        obtain ⟨h3,h4⟩:=ih _ _ ofw hb'
        exact ⟨⟨hc.1,hc.2,h1,h3⟩,by simp [Tr.yield,h2,h4]⟩
       ·simp at h
    ·rename_i h1 h2 h3
     cases tk with
     |pre p=>exact absurd rfl (h1 p)
     |post p=>exact absurd rfl (h2 p)
     |inf p=>exact absurd rfl (h3 p)
     |leaf b=>simp [Tk.op?] at ho
     |opn=>simp [Tk.op?] at ho
     |cls=>simp [Tk.op?] at ho
def Fit:Bool→Nat→List (Tk α β)→Prop
 |false,d,[]=>d=0
 |true,_,[]=>False
 |true,d,.leaf _::r=>Fit false d r
 |true,d,.opn::r=>Fit true (d+1) r
 |true,d,.pre _::r=>Fit true d r
 |false,d,.inf _::r=>Fit true d r
 |false,d,.post _::r=>Fit false d r
 |false,d+1,.cls::r=>Fit false d r
 | _,_,_=>False
theorem ZlQ (n:Nat) :
  (∀ d (ts:List (Tk α β)),ts.length<n→Fit true d ts→∃ t:Tr α β,∃ rest,ts=t.yield++rest∧((rest=[]∧d=0)∨∃ r d',rest=.cls::r∧d=d'+1∧Fit false d' r))∧
  (∀ d (t0:Tr α β) (ts:List (Tk α β)),ts.length<n→Fit false d ts→∃ t:Tr α β,∃ rest,t0.yield++ts=t.yield++rest∧((rest=[]∧d=0)∨∃ r d',rest=.cls::r∧d=d'+1∧Fit false d' r)):=by
 induction n with
 |zero=>exact ⟨fun _ _ h=>by omega,fun _ _ _ h=>by omega⟩
 |succ n ih=>
  obtain ⟨ih1,ih2⟩:=ih
  refine ⟨fun d ts hl h=>?_,fun d t0 ts hl h=>?_⟩
  ·rcases ts with _|⟨tk,r⟩
   ·simp [Fit] at h
   ·simp only [List.length_cons] at hl
    cases tk with
    |leaf b=>
     simp only [Fit] at h
     exact ih2 d (.leaf b) r (by omega) h
    |opn=>
     simp only [Fit] at h
     obtain ⟨t1,rest,e,hr⟩:=ih1 _ _ (by omega) h
     rcases hr with ⟨_,h0⟩|⟨r',d',h1,h2,h3⟩
     ·omega
     ·obtain rfl:d'=d:=by omega
      obtain ⟨t,rest',e',hr'⟩:=ih2 _ (.grp t1) r' (by
       have:=congrArg List.length e
       rw [h1] at this
       simp at this;omega) h3
      refine ⟨t,rest',?_,hr'⟩
      rw [←e',e,h1];simp [Tr.yield]
    |pre o=>
     simp only [Fit] at h
     obtain ⟨t1,rest,e,hr⟩:=ih1 _ _ (by omega) h
     exact ⟨.pre o t1,rest,by rw [e];simp [Tr.yield],hr⟩
    |inf o=>simp [Fit] at h
    |post o=>simp [Fit] at h
    |cls=>simp [Fit] at h
  ·rcases ts with _|⟨tk,r⟩
   ·simp only [Fit] at h
    exact ⟨t0,[],rfl,.inl ⟨rfl,h⟩⟩
   ·simp only [List.length_cons] at hl
    cases tk with
    |leaf b=>simp [Fit] at h
    |opn=>simp [Fit] at h
    |pre o=>simp [Fit] at h
    |inf o=>
     simp only [Fit] at h
     obtain ⟨t1,rest,e,hr⟩:=ih1 _ _ (by omega) h
     exact ⟨.inf o t0 t1,rest,by rw [e];simp [Tr.yield],hr⟩
    |post o=>
     simp only [Fit] at h
     obtain ⟨t,rest,e,hr⟩:=ih2 _ (.post o t0) r (by omega) h
     exact ⟨t,rest,by rw [←e];simp [Tr.yield],hr⟩
    |cls=>
     cases d with
     |zero=>simp [Fit] at h
     |succ d=>
      simp only [Fit] at h
      exact ⟨t0,_,rfl,.inr ⟨r,d,rfl,rfl,h⟩⟩
theorem OF.of_fit {ts:List (Tk α β)} (h:Fit true 0 ts):OF ts:=by
 obtain ⟨t,rest,e,hr⟩:=(ZlQ (ts.length+1)).1 0 ts (by omega) h
 rcases hr with ⟨rfl,_⟩|⟨_,_,_,h0,_⟩
 ·exact ⟨t,by rw [e,List.append_nil]⟩
 ·omega
theorem build_eq_operand {p:α→Prop} (hg:Good v p) (s:List (Tk α β)) (hs:OF s) (hall:∀ t:Tr α β,t.yield=s→t.All v p) (t:Tr α β) :
  build v s.length s=some t↔operand v (2*s.length+2) 0 s=some (some (t,[])):=by
 constructor
 ·intro h
  obtain ⟨h1,h2⟩:=build_sound v _ s t hs h
  exact (Zl0 v hg t (hall t h2) s).2 ⟨h1,h2⟩
 ·intro h
  obtain ⟨h1,h2,_⟩:=(sound_all v _).1 _ _ _ _ h
  have h2':t.yield=s:=by rw [h1];simp
  rw [←h2']
  exact build_complete v hg t _ (by omega) (hall t h2') h2
end Go.Proofs.YtjdmmhcogmepaaaGreatDoor.Ops
namespace Go.Proofs.YtjdmmhcogmepaaaGreatDoor.V
open Go.RowKit
open Go.Maps (Keyed)
open Go.Proofs.YtjdmmhcogmepaaaGreatDoor.Ops (Tr Tk)
abbrev PT:=Tr POp (Int×ByteArray)
def ZY:PT→Int
 | .leaf _=>1
 | .grp e=>1+ZY e
 | .pre _ e=>1+ZY e
 | .post _ e=>1+ZY e
 | .inf _ x y=>1+max (ZY x) (ZY y)
def Wx:PT→Value
 | .leaf b=>.iface 193 (.agg #[.int .i64 b.1,.string b.2,.int .i64 0,.int .i64 0])
 | .grp e=>.iface 212 (.agg #[Wx e,.int .i64 (1+ZY e)])
 | .pre o e=>.iface 164 (.agg #[.string o.text,.int .i64 o.kind,.int .i64 o.level,.int .i64 o.side,.nilIface,Wx e,.int .i64 (1+ZY e)])
 | .post o e=>.iface 164 (.agg #[.string o.text,.int .i64 o.kind,.int .i64 o.level,.int .i64 o.side,Wx e,.nilIface,.int .i64 (1+ZY e)])
 | .inf o x y=>.iface 164 (.agg #[.string o.text,.int .i64 o.kind,.int .i64 o.level,.int .i64 o.side,Wx x,Wx y,.int .i64 (1+max (ZY x) (ZY y))])
def Zk1:PT→Int
 | .leaf _=>1001
 | .grp _=>1001
 | .pre o _=>o.level
 | .post o _=>o.level
 | .inf o _ _=>o.level
theorem WW:∀ e:PT,1≤ZY e
 | .leaf _=>by simp [ZY]
 | .grp e=>by have:=WW e;simp only [ZY];omega
 | .pre _ e=>by have:=WW e;simp only [ZY];omega
 | .post _ e=>by have:=WW e;simp only [ZY];omega
 | .inf _ x y=>by have:=WW x;simp only [ZY];omega
theorem Xs:∀ e:PT,ZY e≤e.yield.length
 | .leaf _=>by simp [ZY,Tr.yield]
 | .grp e=>by have:=Xs e;simp [ZY,Tr.yield];omega
 | .pre _ e=>by have:=Xs e;simp [ZY,Tr.yield];omega
 | .post _ e=>by have:=Xs e;simp [ZY,Tr.yield];omega
 | .inf _ x y=>by have:=Xs x;have:=Xs y;simp [ZY,Tr.yield];omega
def ZlY (v:Value) (lv hi:Int):Prop:=∃ T u,v=.iface T u∧(∃ f,Xz Tryz.prog T "loop.example/s0059/impl.level"=some f∧VFun Tryz.prog f [.lit u] (fun av obs=>obs=[]∧av=.lit (.int .i64 lv)))∧∃ f,Xz Tryz.prog T "loop.example/s0059/impl.height"=some f∧VFun Tryz.prog f [.lit u] (fun av obs=>obs=[]∧av=.lit (.int .i64 hi))
theorem GV (e:PT):∃ T u,Wx e=.iface T u:=by cases e<;>exact ⟨_,_,rfl⟩
def Zbx (v:Value):Prop:=v=.nilIface∨∃ t u,v=.iface t u
theorem Zcn (a c d:Int) (b:ByteArray):VFun Tryz.prog 185 [.lit (.agg #[.int .i64 a,.string b,.int .i64 c,.int .i64 d])] (fun av obs=>obs=[]∧av=.lit (.int .i64 1001)):=by
 refine Zi Tryz.func185 (by kernel_rfl) rfl (by simp [Tryz.ntmps185]) ?_;simp only [Tryz.ntmps185,Tryz.results185];simp [go_sem]
theorem ZbU (a c d:Int) (b:ByteArray):VFun Tryz.prog 184 [.lit (.agg #[.int .i64 a,.string b,.int .i64 c,.int .i64 d])] (fun av obs=>obs=[]∧av=.lit (.int .i64 1)):=by
 refine Zi Tryz.func184 (by kernel_rfl) rfl (by simp [Tryz.ntmps184]) ?_;simp only [Tryz.ntmps184,Tryz.results184];simp [go_sem]
theorem Zb1 (a:Value) (ha:Zbx a) (c:Int):VFun Tryz.prog 188 [.lit (.agg #[a,.int .i64 c])] (fun av obs=>obs=[]∧av=.lit (.int .i64 1001)):=by
 refine Zi Tryz.func188 (by kernel_rfl) rfl (by simp [Tryz.ntmps188]) ?_;simp only [Tryz.ntmps188,Tryz.results188];simp [go_sem]
 rcases ha with rfl|⟨_,_,rfl⟩<;>rfl
theorem Zap (a:Value) (ha:Zbx a) (c:Int):VFun Tryz.prog 187 [.lit (.agg #[a,.int .i64 c])] (fun av obs=>obs=[]∧av=.lit (.int .i64 c)):=by
 refine Zi Tryz.func187 (by kernel_rfl) rfl (by simp [Tryz.ntmps187]) ?_;simp only [Tryz.ntmps187,Tryz.results187];simp [go_sem]
 rcases ha with rfl|⟨_,_,rfl⟩<;>rfl
theorem V8 (o:POp) (a b:Value) (ha:Zbx a) (hb:Zbx b) (c:Int):VFun Tryz.prog 182 [.lit (.agg #[.string o.text,.int .i64 o.kind,.int .i64 o.level,.int .i64 o.side,a,b,.int .i64 c])] (fun av obs=>obs=[]∧av=.lit (.int .i64 o.level)):=by
 refine Zi Tryz.func182 (by kernel_rfl) rfl (by simp [Tryz.ntmps182]) ?_;simp only [Tryz.ntmps182,Tryz.results182];simp [go_sem]
 constructor
 ·rcases ha with rfl|⟨_,_,rfl⟩<;>rfl
 ·rcases hb with rfl|⟨_,_,rfl⟩<;>rfl
theorem VK (o:POp) (a b:Value) (ha:Zbx a) (hb:Zbx b) (c:Int):VFun Tryz.prog 181 [.lit (.agg #[.string o.text,.int .i64 o.kind,.int .i64 o.level,.int .i64 o.side,a,b,.int .i64 c])] (fun av obs=>obs=[]∧av=.lit (.int .i64 c)):=by
 refine Zi Tryz.func181 (by kernel_rfl) rfl (by simp [Tryz.ntmps181]) ?_;simp only [Tryz.ntmps181,Tryz.results181];simp [go_sem]
 constructor
 ·rcases ha with rfl|⟨_,_,rfl⟩<;>rfl
 ·rcases hb with rfl|⟨_,_,rfl⟩<;>rfl
theorem Zie:Xz Tryz.prog 193 "loop.example/s0059/impl.level"=some 185:=by kernel_rfl
theorem Zif:Xz Tryz.prog 193 "loop.example/s0059/impl.height"=some 184:=by kernel_rfl
theorem ZgF:Xz Tryz.prog 212 "loop.example/s0059/impl.level"=some 188:=by kernel_rfl
theorem ZgG:Xz Tryz.prog 212 "loop.example/s0059/impl.height"=some 187:=by kernel_rfl
theorem Kl:Xz Tryz.prog 164 "loop.example/s0059/impl.level"=some 182:=by kernel_rfl
theorem Km:Xz Tryz.prog 164 "loop.example/s0059/impl.height"=some 181:=by kernel_rfl
theorem UY (e:PT):ZlY (Wx e) (Zk1 e) (ZY e):=by
 have hi:∀ e:PT,Zbx (Wx e):=fun e=>.inr (GV e)
 cases e with
 |leaf b=>exact ⟨_,_,rfl,⟨_,Zie,Zcn _ _ _ _⟩,_,Zif,ZbU _ _ _ _⟩
 |grp e=>exact ⟨_,_,rfl,⟨_,ZgF,Zb1 _ (hi e) _⟩,_,ZgG,Zap _ (hi e) _⟩
 |pre o e=>exact ⟨_,_,rfl,⟨_,Kl,V8 o _ _ (.inl rfl) (hi e) _⟩,_,Km,VK o _ _ (.inl rfl) (hi e) _⟩
 |post o e=>exact ⟨_,_,rfl,⟨_,Kl,V8 o _ _ (hi e) (.inl rfl) _⟩,_,Km,VK o _ _ (hi e) (.inl rfl) _⟩
 |inf o x y=>exact ⟨_,_,rfl,⟨_,Kl,V8 o _ _ (hi x) (hi y) _⟩,_,Km,VK o _ _ (hi x) (hi y) _⟩
def pOb (b1 b2 b3 b4:Nat) (t:List PTok) (i:Nat):Option Ob:=some ⟨161,6,1,fun _=>[.lit (.map (some b1)),.lit (.map (some b2)),.sl 3 t.length (Zr t),.lit (.int .i64 i),.lit (.map (some b3)),.lit (.map (some b4))]⟩
theorem Zjz {idx:Nat→Nat} {ks:List Nat} {b1 b2 b3 b4 n ty:Nat} {t:List PTok} {i:Int}:Vw idx ks ⟨ty,6,1,fun _=>[.lit (.map (some b1)),.lit (.map (some b2)),.sl 3 n (Zr t),.lit (.int .i64 i),.lit (.map (some b3)),.lit (.map (some b4))]⟩ (some (some ⟨ty,6,1,fun _=>[.lit (.map (some b1)),.lit (.map (some b2)),.sl 3 n (Zr t),.lit (.int .i64 i),.lit (.map (some b3)),.lit (.map (some b4))]⟩)):=
 ⟨rfl,rfl,rfl,fun i hi=>⟨rfl,fun c hc=>by
  simp at hc
  rcases hc with rfl|rfl|rfl|rfl|rfl|rfl
  ·exact .inl rfl
  ·exact .inl rfl
  ·exact .inr ⟨⟨_,_,_,rfl⟩,.sl _ _ _ fun i c _ h=>Zs t i c h⟩
  ·exact .inl rfl
  ·exact .inl rfl
  ·exact .inl rfl,fun c hc q hq=>by
  simp at hc
  rcases hc with rfl|rfl|rfl|rfl|rfl|rfl<;>simp [VP] at hq⟩⟩
theorem Qq (b1 b2 b3 b4:Nat) (t:List PTok) (ht:t.length≤1048576) (i:Nat) (hi:i<t.length):VProc Tryz.prog 149 [.ptr 0 6 0 0] [pOb b1 b2 b3 b4 t i] [] (fun av mem maps=>av=.agg (Zj t i).cells∧mem=[pOb b1 b2 b3 b4 t (i+1)]∧maps=[]):=by
 have ew:IntKind.i64.wrap ((i:Int)+1)=((i+1:Nat):Int):=Zn (by omega)
 simp only [pOb,PTok.cells]
 refine Zl Tryz.func149 (by kernel_rfl) rfl (by simp [Tryz.ntmps149]) ?_;simp only [Tryz.ntmps149,Tryz.results149];simp [go_sem]
 refine Zq [11] (.q 0 <| .q 1 <| .q 2 <| .q 3 <| .q 4 <| .q 5 <| .q 6 <| .q 7 <| .q 8 <| .q 9 <| .or 10 (.or 11 (.done) (.nil)) (.nil)) (by kernel_rfl) ?_
 simp [go_sem,Zo,hi,ew]
 refine ⟨rfl,[],[pOb b1 b2 b3 b4 t (i+1)],by simp,by simp,by simp [go_sem],?_,by simp [go_sem],?_⟩
 ·simp [go_sem,pOb]
  exact Zjz
 ·simp [go_sem,pOb]
theorem ZfD (l:List POp) (b1 b2 b3 b4:Nat) (t:List PTok) (i:Nat) (hu:WB l) (es:List (Value×Value)) (h:H1 l l.length es) (j:Nat) (hj:j<l.length) (hk:(Zm l j).kind≠1) (hz:(Zm l j).text.size≤maxLen) :
  VProc Tryz.prog 126 [.ptr 0 6 0 0,.lit (.string (Zm l j).text)] [pOb b1 b2 b3 b4 t i] [(b1,⟨151,es⟩)] (fun av mem maps=>av=.agg (Zm l j).cells∧mem=[pOb b1 b2 b3 b4 t i]∧maps=[(b1,⟨151,es⟩)]):=by
 have hget:mget es (.agg #[.string (Zm l j).text,.bool false])=some (opV (Zm l j)):=by
  rcases ZfI h (Zm l j).text false with ⟨_,h2⟩|⟨j',hj',h1,h2,h3⟩
  ·exact absurd ⟨rfl,by simpa using hk⟩ (h2 j hj)
  ·rw [h1,hu j' j hj' hj h2 (by rw [h3];simpa using hk)]
 simp only [pOb,POp.cells]
 refine Zl Tryz.func126 (by kernel_rfl) rfl (by simp [Tryz.ntmps126]) ?_;simp only [Tryz.ntmps126,Tryz.results126];simp [go_sem]
 refine Xk U4 (KV hz) _ Zhb ?_
 rw [hget]
 simp [go_sem,opV]
 refine ⟨rfl,[],[pOb b1 b2 b3 b4 t i],by simp,by simp,by simp [go_sem],?_,by simp [go_sem],?_⟩
 ·simp [go_sem,pOb]
  exact Zjz
 ·simp [go_sem,pOb]
end Go.Proofs.YtjdmmhcogmepaaaGreatDoor.V
namespace Go.Proofs.YtjdmmhcogmepaaaGreatDoor.V
open Go.RowKit
open Go.Maps (Keyed)
open Go.Proofs.YtjdmmhcogmepaaaGreatDoor.Ops (Tr Tk Lv Res)
abbrev TkP:=Tk POp (Int×ByteArray)
def lvO (o:POp):Lv:=⟨o.level,XF o⟩
theorem Jb (e:PT):Zk1 e=e.level lvO:=by cases e<;>rfl
theorem Qn {o:POp} (h:Yx o=true) (hk:o.kind≠1):ZH o false=(lvO o).h1:=by
 unfold ZH Lv.h1 lvO XF
 rw [h]
 simp only [Bool.true_eq_false,Bool.false_eq_true,false_and,or_self,if_false,if_neg hk]
 have h3:o.kind=2∨o.kind=3:=by simp [Yx] at h;omega
 rcases h3 with h3|h3
 ·have hs:1≤o.side∧o.side≤3:=by simp [Yx] at h;omega
  rw [h3]
  by_cases h1:o.side=1
  ·simp [h1]
  ·simp [h1]
 ·rw [h3];simp
theorem HJ {o:POp} (h:Yx o=true) (hk:o.kind=1):ZH o false=(lvO o).h2:=by
 unfold ZH Lv.h2 lvO XF
 rw [h,hk]
 simp
theorem QV {o:POp} (h:Yx o=true) (hk:o.kind=2):ZH o true=(lvO o).h2:=by
 unfold ZH Lv.h2 lvO XF
 rw [h,hk]
 have hs:1≤o.side∧o.side≤3:=by simp [Yx] at h;omega
 rcases (by omega:o.side=1∨o.side=2∨o.side=3) with h1|h1|h1<;>simp [h1]
def Vc (l:List POp) (k:PTok):TkP→Prop
 | .leaf b=>(k.kind=1∨k.kind=2)∧b=(k.kind,k.text)
 | .opn=>k.kind=4
 | .cls=>k.kind=5
 | .pre o=>k.kind=3∧o.text=k.text∧o.kind=1∧∃ j,j<l.length∧Zm l j=o
 | .inf o=>k.kind=3∧o.text=k.text∧o.kind=2∧∃ j,j<l.length∧Zm l j=o
 | .post o=>k.kind=3∧o.text=k.text∧o.kind=3∧∃ j,j<l.length∧Zm l j=o
def Yi (l:List POp) (t:List PTok):Nat→List TkP→Prop
 |i,[]=>i+1=t.length∧(Zj t i).kind=7
 |i,tk::r=>Vc l (Zj t i) tk∧Yi l t (i+1) r
theorem Y6 {l:List POp} {t:List PTok}:∀ {ts:List TkP} {i:Nat},Yi l t i ts→i+ts.length+1=t.length
 |[],i,h=>by simpa using h.1
 |tk::r,i,h=>by
  have:=Y6 h.2
  simp only [List.length_cons];omega
theorem Kb {l:List POp} {t:List PTok}:∀ {u ts:List TkP} {i:Nat},Yi l t i (u++ts)→Yi l t (i+u.length) ts
 |[],ts,i,h=>by simpa using h
 |tk::u,ts,i,h=>by
  have:=Kb (u:=u) h.2
  simp only [List.length_cons]
  rw [show i+(u.length+1)=i+1+u.length by omega];exact this
theorem Vz {l:List POp} {t:List PTok} {u ts:List TkP} {i:Nat} (h:Yi l t i (u++ts)):Yi l t (t.length-1-ts.length) ts:=by
 have h1:=Kb h
 have h2:=Y6 h
 simp only [List.length_append] at h2
 rw [show t.length-1-ts.length=i+u.length by omega];exact h1
open Go.Proofs.YtjdmmhcogmepaaaGreatDoor.Ops (Fit) in
theorem Vt:∀ (e:PT) (d:Nat) (rest:List TkP),Fit true d (e.yield++rest)→Fit false d rest
 | .leaf b,d,rest,h=>by simpa [Tr.yield,Fit] using h
 | .grp e,d,rest,h=>by
  simp only [Tr.yield,List.cons_append,List.append_assoc,List.nil_append,Fit] at h
  have:=Vt e (d+1) _ h
  simpa [Fit] using this
 | .pre o e,d,rest,h=>by
  simp only [Tr.yield,List.cons_append,Fit] at h
  exact Vt e d rest h
 | .post o e,d,rest,h=>by
  simp only [Tr.yield,List.append_assoc,List.cons_append,List.nil_append] at h
  have:=Vt e d _ h
  simpa [Fit] using this
 | .inf o x y,d,rest,h=>by
  simp only [Tr.yield,List.append_assoc,List.cons_append,List.nil_append] at h
  have:=Vt x d _ h
  simp only [Fit] at this
  exact Vt y d rest this
def vsP (bp:Nat) (bo:Nat→Nat):Nat→Value
 |0=>.pointer (some ⟨bp,0,none⟩)
 |j+1=>.pointer (some ⟨bo j,0,none⟩)
def asP (lo:List POp):Nat→AV
 |0=>.bptr [.ptr 0 6 0 0]
 |j+1=>.bptr (Zm lo j).cells
theorem rnP (lo:List POp) (i:Nat):Rn (fun j=>[0].getD j 0) 1 (asP lo i) (asP lo i):=by
 cases i with
 |zero=>
  refine .bptr _ _ rfl fun j a b h1 h2=>?_
  match j with
  |0=>
   simp only [List.getElem?_cons_zero,Option.some.injEq] at h1 h2
   subst h1;subst h2
   exact .ptr 0 6 0 0 (by omega)
  |j+1=>simp at h1
 |succ j=>exact .closed _ (.bptr _ fun c hc=>by
   simp [POp.cells] at hc
   rcases hc with rfl|rfl|rfl|rfl<;>exact .lit _)
structure PMaps (l lo:List POp) (bp:Nat) (bo:Nat→Nat) (esA esN esL:List (Value×Value)):Prop where
 uniq:WB l
 ok:∀ j,j<l.length→Yx (Zm l j)=true
 wf:YT l
 at_:H1 l l.length esA
 nud:∀ j,j<l.length→(Zm l j).kind=1→∃ q,q<lo.length∧Zm lo q=Zm l j∧mget esN (.string (Zm l j).text)=some (.func (.func 94) #[] #[vsP bp bo 0,vsP bp bo (q+1)])
 led2:∀ j,j<l.length→(Zm l j).kind=2→mget esL (.string (Zm l j).text)=some (.func (.func 96) #[] #[vsP bp bo 0])
 led3:∀ j,j<l.length→(Zm l j).kind=3→mget esL (.string (Zm l j).text)=some (.func (.func 97) #[] #[])
def Xc (b1 b3 b4:Nat) (esA esN esL:List (Value×Value)):List (Nat×Mp):=[(b1,⟨151,esA⟩),(b3,⟨9,esN⟩),(b4,⟨9,esL⟩)]
def Zaw:Value:=.iface 168 (.agg #[])
theorem VProcG.maps {P:Program} {f:FuncId} {args:List AV} {N:Nat} {vs0:Nat→Value} {as0:Nat→AV} {mem0:List (Option Ob)} {maps0:List (Nat×Mp)} {R:AV→List (Option Ob)→Prop} (h:VProcG P f args N vs0 as0 mem0 maps0 (fun av mem maps=>R av mem∧YE maps maps0)):VProcG P f args N vs0 as0 mem0 maps0 (fun av mem maps=>R av mem∧maps=maps0):=
 ⟨h.1,fun w vs hd0 hl hv hg hm hmp ht=>(h.2 w vs hd0 hl hv hg hm hmp ht).mono fun e w' ⟨v,e1,g,hd,av,mem,maps,⟨r,hle⟩,po,hf,hmr,hmap,hrep⟩=>⟨v,e1,g,hd,av,mem,maps0,⟨r,rfl⟩,⟨po.len,po.flat,po.cells,fun b hb=>hb⟩,hf,hmr,fun b mp hb=>hmap b mp (YK hle (b,mp) (XE hb)),hrep⟩⟩
end Go.Proofs.YtjdmmhcogmepaaaGreatDoor.V
namespace Go.Proofs.YtjdmmhcogmepaaaGreatDoor.V
open Go.RowKit
open Go.Maps (Keyed)
open Go.Proofs.YtjdmmhcogmepaaaGreatDoor.Ops (Tr Tk Lv Res)
structure PEnv where
 l:List POp
 lo:List POp
 t:List PTok
 bp:Nat
 bo:Nat→Nat
 b1:Nat
 b2:Nat
 b3:Nat
 b4:Nat
 esA:List (Value×Value)
 esN:List (Value×Value)
 esL:List (Value×Value)
 maps:PMaps l lo bp bo esA esN esL
 len:t.length≤1048576
 txt:∀ i,i<t.length→(Zj t i).text.size≤maxLen
 n13:b1≠b3
 n14:b1≠b4
 n34:b3≠b4
namespace PEnv
variable (E:PEnv)
def ob (i:Nat):Option Ob:=pOb E.b1 E.b2 E.b3 E.b4 E.t i
def mps:List (Nat×Mp):=Xc E.b1 E.b3 E.b4 E.esA E.esN E.esL
def at_ (rest:List TkP):Nat:=E.t.length-1-rest.length
def Rt (u:Value) (j:Nat) (av:AV) (mem:List (Option Ob)) (maps:List (Nat×Mp)):Prop:=(av=.lit u∧mem=[E.ob j])∧YE maps E.mps
def Ans (f:FuncId) (args:List AV) (i:Nat):Option (PT×List TkP)→Prop
 |some (e,rest)=>VProcG Tryz.prog f args (E.lo.length+1) (vsP E.bp E.bo) (asP E.lo) [E.ob i] E.mps (fun av mem maps=>(av=.lit (Wx e)∧mem=[E.ob (E.at_ rest)])∧maps=E.mps)
 |none=>Zc8 Tryz.prog f Zaw args (E.lo.length+1) (vsP E.bp E.bo) (asP E.lo) [E.ob i] E.mps
theorem Ans.mk {E:PEnv} {f:FuncId} {args:List AV} {i:Nat} {e:PT} {rest:List TkP} (h:VProcG Tryz.prog f args (E.lo.length+1) (vsP E.bp E.bo) (asP E.lo) [E.ob i] E.mps (E.Rt (Wx e) (E.at_ rest))):E.Ans f args i (some (e,rest)):=VProcG.maps h
theorem mpsLe (M:List (Nat×Mp)):YE (E.mps++M) E.mps:=by
 have h1:=E.n13
 have h2:=E.n14
 have h3:=E.n34
 simp [mps,Xc,YE,lkm,h1,h2,h3,Ne.symm h1,Ne.symm h2,Ne.symm h3]
theorem fin_ {u v:Value} {i j:Nat} (M:List (Nat×Mp)) {r:List (Option Ob)} {tm:List (Nat×AV)} (hv:v=u) (hij:i=j):VO E.mps (E.Rt u j) ⟨tm,E.ob i::r,E.mps++M,1⟩ (.lit v):=by
 subst hv;subst hij
 refine ⟨rfl,[],[E.ob i],by simp,by simp,by simp [go_sem],?_,fun b hb=>?_,⟨⟨rfl,rfl⟩,E.mpsLe M⟩⟩
 ·simp only [ob,pOb]
  simp [go_sem]
  exact Zjz
 ·cases hq:lkm E.mps b with
  |none=>rw [hq] at hb;simp at hb
  |some mp=>rw [YK (E.mpsLe M) (b,mp) (XE hq)];rfl
end PEnv
theorem ZhJ (E:PEnv) (e:PT) (o:POp) (rest:List TkP) (hl:ZY e<2^62):E.Ans 97 [.lit (Wx e),.agg o.cells] (E.at_ rest) (some (.post o e,rest)):=by
 refine .mk ?_
 obtain ⟨T,u,hT,_,fh,hh,ch⟩:=UY e
 have ew:IntKind.i64.wrap (1+ZY e)=1+ZY e:=wrap_i64 (by have:=WW e;omega)
 simp only [PEnv.ob,pOb,PEnv.mps,Xc,POp.cells]
 refine Wc Tryz.func97 (by kernel_rfl) rfl (by simp [Tryz.ntmps97]) ?_;simp only [Tryz.ntmps97,Tryz.results97];simp [go_sem]
 refine Zq [] (.q 0 <| .q 1 <| .q 2 <| .or 3 (.q 4 <| .q 5 <| .q 6 <| .q 7 <| .done) (.nil)) (by kernel_rfl) ?_
 simp [go_sem]
 rw [hT]
 simp [go_sem,hh]
 refine Zu ch ?_ ?_
 ·simp [go_sem]
 ·simp [go_sem,ew]
  exact E.fin_ [] (by simp only [Wx,hT]) rfl
theorem ZlV (E:PEnv) (k:PTok) (q:Nat) (hq:q<E.lo.length) (hw:(Zm E.lo q).wf) (i:Nat) (e:PT) (rest:List TkP) (hl:ZY e<2^62) (ho:E.Ans 95 [.ptr 0 6 0 0,.lit (.int .i64 (ZH (Zm E.lo q) false))] i (some (e,rest))):E.Ans 94 [.agg k.cells,.lit (vsP E.bp E.bo 0),.lit (vsP E.bp E.bo (q+1))] i (some (.pre (Zm E.lo q) e,rest)):=by
 refine .mk ?_
 obtain ⟨T,u,hT,_,fh,hh,ch⟩:=UY e
 have ew:IntKind.i64.wrap (1+ZY e)=1+ZY e:=wrap_i64 (by have:=WW e;omega)
 have cH:=Kw _ hw false
 simp only [PEnv.ob,pOb,PEnv.mps,Xc,PTok.cells,vsP,POp.cells] at cH ⊢
 refine Wc Tryz.func94 (by kernel_rfl) rfl (by simp [Tryz.ntmps94]) ?_;simp only [Tryz.ntmps94,Tryz.results94];simp [go_sem]
 refine Zq [3] (.q 0 <| .q 1 <| .or 2 (.or 3 (.q 4 <| .done) (.nil)) (.nil)) (by kernel_rfl) ?_
 simp [go_sem]
 refine VV 17 0 rfl (by omega) rfl rfl ?_
 simp [go_sem]
 refine VV 17 (q+1) rfl (by omega) rfl rfl ?_
 simp [go_sem,POp.cells]
 refine Zu cH ?_ ?_
 ·simp [go_sem]
 ·simp [go_sem]
  refine YI [0] 17 ho (by simp) rfl (fun i _=>rnP E.lo i) ?_ ?_ ?_ ?_
  ·simp [go_sem]
  ·simp [go_sem,PEnv.ob,pOb]
   exact fun i c _ h=>Zs E.t i c h
  ·exact E.mpsLe []
  ·rintro av mem maps ⟨⟨rfl,rfl⟩,rfl⟩
   simp only [PEnv.ob,pOb,PEnv.mps,Xc]
   simp [go_sem]
   refine Zq [] (.q 0 <| .q 1 <| .q 2 <| .or 3 (.q 4 <| .q 5 <| .q 6 <| .q 7 <| .done) (.nil)) (by kernel_rfl) ?_
   simp [go_sem]
   refine VV 17 (q+1) rfl (by omega) rfl rfl ?_
   simp [go_sem,POp.cells]
   rw [hT]
   simp [go_sem,hh]
   refine Zu ch ?_ ?_
   ·simp [go_sem]
   ·simp [go_sem,ew]
    exact E.fin_ E.mps (by simp only [Wx,hT]) rfl
theorem ZfN (E:PEnv) (k:PTok) (q:Nat) (hq:q<E.lo.length) (hw:(Zm E.lo q).wf) (i:Nat) (ho:E.Ans 95 [.ptr 0 6 0 0,.lit (.int .i64 (ZH (Zm E.lo q) false))] i none):E.Ans 94 [.agg k.cells,.lit (vsP E.bp E.bo 0),.lit (vsP E.bp E.bo (q+1))] i none:=by
 have cH:=Kw _ hw false
 simp only [PEnv.Ans,PEnv.ob,pOb,PEnv.mps,Xc,PTok.cells,vsP,POp.cells] at cH ho ⊢
 refine X8 Tryz.func94 (by kernel_rfl) rfl (by simp [Tryz.ntmps94]) ?_;simp only [Tryz.ntmps94,UT,We,List.length_cons,List.length_nil,List.length_singleton]
 refine YM ?_
 simp [go_sem]
 refine Q8 (Hl [3] (.q 0 <| .q 1 <| .or 2 (.or 3 (.q 4 <| .done) (.nil)) (.nil)) (by kernel_rfl) ?_)
 simp [go_sem]
 refine VV 17 0 rfl (by omega) rfl rfl ?_
 simp [go_sem]
 refine VV 17 (q+1) rfl (by omega) rfl rfl ?_
 simp [go_sem,POp.cells]
 refine Zu cH ?_ ?_
 ·simp [go_sem]
 ·simp [go_sem]
  refine Vo [0] 17 ho (by simp) rfl (fun i _=>rnP E.lo i) ?_ ?_ (E.mpsLe []) (E.mpsLe [])
  ·simp [go_sem]
  ·simp [go_sem,PEnv.ob,pOb]
   exact fun i c _ h=>Zs E.t i c h
theorem Zky (E:PEnv) (o:POp) (hw:o.wf) (i:Nat) (x e:PT) (rest:List TkP) (hlx:ZY x<2^61) (hl:ZY e<2^61) (ho:E.Ans 95 [.ptr 0 6 0 0,.lit (.int .i64 (ZH o true))] i (some (e,rest))):E.Ans 96 [.lit (Wx x),.agg o.cells,.lit (vsP E.bp E.bo 0)] i (some (.inf o x e,rest)):=by
 refine .mk ?_
 obtain ⟨T,u,hT,_,fh,hh,ch⟩:=UY e
 obtain ⟨T',u',hT',_,fh',hh',ch'⟩:=UY x
 have ew:IntKind.i64.wrap (1+max (ZY x) (ZY e))=1+max (ZY x) (ZY e):=wrap_i64 (by have:=WW e;have:=WW x;omega)
 have cH:=Kw _ hw true
 simp only [PEnv.ob,pOb,PEnv.mps,Xc,vsP,POp.cells] at cH ⊢
 refine Wc Tryz.func96 (by kernel_rfl) rfl (by simp [Tryz.ntmps96]) ?_;simp only [Tryz.ntmps96,Tryz.results96];simp [go_sem]
 refine Zq [3] (.q 0 <| .q 1 <| .or 2 (.or 3 (.q 4 <| .done) (.nil)) (.nil)) (by kernel_rfl) ?_
 simp [go_sem]
 refine VV 22 0 rfl (by omega) rfl rfl ?_
 simp [go_sem]
 refine Zu cH ?_ ?_
 ·simp [go_sem]
 ·simp [go_sem]
  refine YI [0] 22 ho (by simp) rfl (fun i _=>rnP E.lo i) ?_ ?_ ?_ ?_
  ·simp [go_sem]
  ·simp [go_sem,PEnv.ob,pOb]
   exact fun i c _ h=>Zs E.t i c h
  ·exact E.mpsLe []
  ·rintro av mem maps ⟨⟨rfl,rfl⟩,rfl⟩
   simp only [PEnv.ob,pOb,PEnv.mps,Xc]
   simp [go_sem]
   refine Zq [] (.q 0 <| .q 1 <| .q 2 <| .q 3 <| .q 5 <| .or 4 (.or 6 (.q 7 <| .q 8 <| .q 9 <| .q 10 <| .q 11 <| .done) (.nil)) (.nil)) (by kernel_rfl) ?_
   simp [go_sem]
   rw [hT,hT']
   simp [go_sem,hh,hh']
   refine Zu ch' ?_ ?_
   ·simp [go_sem]
   ·simp [go_sem,hh]
    refine Zu ch ?_ ?_
    ·simp [go_sem]
    ·simp [go_sem,ew]
     have em:(if ZY x<ZY e then ZY e else ZY x)=max (ZY x) (ZY e):=by split<;>omega
     exact E.fin_ E.mps (by simp only [Wx,hT,hT',em,ew]) rfl
theorem ZfO (E:PEnv) (o:POp) (hw:o.wf) (i:Nat) (x:PT) (ho:E.Ans 95 [.ptr 0 6 0 0,.lit (.int .i64 (ZH o true))] i none):E.Ans 96 [.lit (Wx x),.agg o.cells,.lit (vsP E.bp E.bo 0)] i none:=by
 have cH:=Kw _ hw true
 simp only [PEnv.Ans,PEnv.ob,pOb,PEnv.mps,Xc,vsP,POp.cells] at cH ho ⊢
 refine X8 Tryz.func96 (by kernel_rfl) rfl (by simp [Tryz.ntmps96]) ?_;simp only [Tryz.ntmps96,UT,We,List.length_cons,List.length_nil,List.length_singleton]
 refine YM ?_
 simp [go_sem]
 refine Q8 (Hl [3] (.q 0 <| .q 1 <| .or 2 (.or 3 (.q 4 <| .done) (.nil)) (.nil)) (by kernel_rfl) ?_)
 simp [go_sem]
 refine VV 22 0 rfl (by omega) rfl rfl ?_
 simp [go_sem]
 refine Zu cH ?_ ?_
 ·simp [go_sem]
 ·simp [go_sem]
  refine Vo [0] 22 ho (by simp) rfl (fun i _=>rnP E.lo i) ?_ ?_ (E.mpsLe []) (E.mpsLe [])
  ·simp [go_sem]
  ·simp [go_sem,PEnv.ob,pOb]
   exact fun i c _ h=>Zs E.t i c h
end Go.Proofs.YtjdmmhcogmepaaaGreatDoor.V
namespace Go.Proofs.YtjdmmhcogmepaaaGreatDoor.V
open Go.RowKit
open Go.Maps (Keyed)
open Go.ChangeMaps (setBlock)
def asN (lo:List POp):Nat→AV
 |0=>.ptr 1 1 0 0
 |j+1=>.bptr (Zm lo j).cells
structure NP where
 lo:List POp
 bo:Nat→Nat
 esN:List (Value×Value)
 esL:List (Value×Value)
 seen:Array Nat
def npS (b1 b2 b3 b4 bp bi:Nat) (t:List PTok) (x:NP):VS:=⟨[(50,.fam (x.lo.length+1) (vsP bp x.bo) (asN x.lo)),(5,.ptr 1 1 0 0),(16,.lit (.pointer (some ⟨bi,0,none⟩)))],[pOb b1 b2 b3 b4 t 0,some ⟨94,1,1,fun _=>[.ptr 0 6 0 0]⟩],[(b3,⟨9,x.esN⟩),(b4,⟨9,x.esL⟩)],0⟩
structure NPDone (bp:Nat) (x:NP) (o:POp):Prop where
 k1:o.kind=1→∃ q,q<x.lo.length∧Zm x.lo q=o∧mget x.esN (.string o.text)=some (.func (.func 94) #[] #[vsP bp x.bo 0,vsP bp x.bo (q+1)])
 k2:o.kind=2→mget x.esL (.string o.text)=some (.func (.func 96) #[] #[vsP bp x.bo 0])
 k3:o.kind=3→mget x.esL (.string o.text)=some (.func (.func 97) #[] #[])
def ZhL (l:List POp) (es:Array MapEntry) (bp:Nat) (x:NP):Prop:=∀ e,e∈es.toList→x.seen.contains e.born=true→∃ j,j<l.length∧e.val=opV (Zm l j)∧NPDone bp x (Zm l j)
def npR (b1 b2 b3 b4:Nat) (t:List PTok) (esA:List (Value×Value)) (tm:List (Nat×AV)):VS:=⟨tm++[(5,.ptr 1 1 0 0),(2,.ptr 2 2 0 0)],[pOb b1 b2 b3 b4 t 0,some ⟨94,1,1,fun _=>[.ptr 0 6 0 0]⟩,some ⟨70,2,1,fun _=>[.lit (.map (some b1)),.lit (.map (some b2))]⟩],[(b1,⟨151,esA⟩),(b3,⟨9,[]⟩),(b4,⟨9,[]⟩)],0⟩
theorem GI {P:Program} {n:Nat} {base:Fr} {w0 w:World} {hd:Nat→Value} {s:VS} {a:Act} {all:Array Oper} {o:Oper} {rest:List Oper} {Q:Exit→Act→World→Prop} {k:VS→Prop} (h:RelH n base w0 hd s a w) (hP:base.P=P) (hg:o.guard=none) (hv:Z4 P n o s k) (hK:∀ hd' s' a' w',RelH n base w0 hd' s' a' w'→k s'→wpList P all Q rest a' w'):wpList P all Q (o::rest) a w:=by
 unfold wpList
 rw [if_pos (by simp [Region.wanted,hg])]
 exact .inl (Uc h hP hv hK)
theorem Vg {P:Program} {a:Act} {w w':World} {all:Array Oper} {o:Oper} {rest:List Oper} {Q:Exit→Act→World→Prop} {v:Value} (hg:o.guard=none) (hr:(execOp a.eval o).run P w=.ok (.value v) w') (hK:wpList P all Q rest (a.put o.dst v) w'):wpList P all Q (o::rest) a w:=by
 unfold wpList
 rw [if_pos (by simp [Region.wanted,hg])]
 refine .inl ?_
 unfold Oper.wp
 rw [hr]
 exact hK
def ZlL (l:List POp) (t:List PTok) (b1 b2:Nat) (esA:List (Value×Value)) (av:AV) (mem:List (Option Ob)) (maps:List (Nat×Mp)) (N:Nat) (vs:Nat→Value) (as':Nat→AV):Prop:=
 ∃ lo bp bo b3 b4 esN esL,(b1≠b3∧b1≠b4∧b3≠b4)∧av=.ptr 0 6 0 0∧mem=[pOb b1 b2 b3 b4 t 0,none]∧maps=Xc b1 b3 b4 esA esN esL∧N=lo.length+1∧vs=vsP bp bo∧as'=asP lo∧PMaps l lo bp bo esA esN esL
theorem ZlJ {l:List POp} {t:List PTok} {b1 b2 b3 b4 bp bi:Nat} {esA:List (Value×Value)} {x:NP} {w0 w:World} {hd0 hd:Nat→Value} {a:Act} {es:Array MapEntry} {clock:Nat} (hb:b1≠b3∧b1≠b4∧b3≠b4)
  (h:RelH 50 ⟨Tryz.prog,Sh w0 hd0 [] [(b1,⟨151,esA⟩)],hd0,[]⟩ w0 hd { npS b1 b2 b3 b4 bp bi t x with tmps:=(4,.ptr 0 6 0 0)::(npS b1 b2 b3 b4 bp bi t x).tmps } a w) (hes:w.heap[b1]?=some (.map es clock)) (hmi:MapIs Tryz.prog ⟨151,esA⟩ es clock) (hP:PMaps l x.lo bp x.bo esA x.esN x.esL) :
  ∃ v,(results Tryz.f51 a.tmps).run Tryz.prog w=.ok v w∧Bel (Sh w0 hd0 [] [(b1,⟨151,esA⟩)]) w0 w∧∃ hd av mem maps N vs1 as1,(ZlL l t b1 b2 esA av mem maps N vs1 as1∧∀ i,i<N→ZhN (as1 i)∧Rep w (ZE mem hd) hd mem.length (as1 i) (vs1 i))∧PostOk [] [(b1,⟨151,esA⟩)] av mem maps∧
   ((∀ k,k<([]:List (Option Ob)).length→hd k=hd0 k)∧TailEq hd0 hd)∧MemRel (Sh w0 hd0 [] [(b1,⟨151,esA⟩)]) w hd mem∧MapRel Tryz.prog (Sh w0 hd0 [] [(b1,⟨151,esA⟩)]) w maps∧Rep w (ZE mem hd) hd mem.length av v:=by
 have hf:=h.free 1
 have hm:=(h.again_map hes hmi (.inr (.inr (by simp [lkm])))).mp
 have h4:=hf.tm 4
 have t0:=h.told (t:=50) (i:=0) rfl (by omega)
 have f0:=h.freed (k:=1) (ob:=⟨94,1,1,fun _=>[.ptr 0 6 0 0]⟩) rfl (by simp) t0
 refine ⟨a.tmps.getD 4 undef,?_,h.below,hd,.ptr 0 6 0 0,[pOb b1 b2 b3 b4 t 0,none],Xc b1 b3 b4 esA x.esN x.esL,x.lo.length+1,vsP bp x.bo,asP x.lo,⟨⟨x.lo,bp,x.bo,b3,b4,x.esN,x.esL,hb,rfl,rfl,rfl,rfl,rfl,rfl,hP⟩,fun i hi=>?_⟩,⟨by simp,rfl,fun k ob hk i hi c hc=>?_,fun b hb'=>?_⟩,⟨fun k hk=>by simp at hk,h.fix.2.1⟩,hf.me,hm,h4⟩
 ·simp [results,Tryz.results51,go_sem]
 ·cases i with
  |zero=>exact ⟨⟨_,rfl,rfl⟩,f0⟩
  |succ j=>
   refine ⟨⟨_,rfl,rfl⟩,?_⟩
   have tj:=hf.told (t:=50) (i:=j+1) rfl (by omega)
   exact tj
 ·match k,hk with
  |0,hk=>
   simp only [List.getElem?_cons_zero,Option.some.injEq,pOb] at hk
   subst hk
   simp at hc
   rcases hc with rfl|rfl|rfl|rfl|rfl|rfl
   ·exact .inl rfl
   ·exact .inl rfl
   ·exact .inr ⟨⟨_,_,_,rfl⟩,.sl _ _ _ fun i c _ h=>Zs t i c h⟩
   ·exact .inl rfl
   ·exact .inl rfl
   ·exact .inl rfl
  |1,hk=>simp at hk
  |k+2,hk=>simp at hk
 ·simp only [lkm] at hb'
  split at hb'
  ·rename_i e
   subst e
   simp [Xc,lkm]
  ·simp at hb'
end Go.Proofs.YtjdmmhcogmepaaaGreatDoor.V
namespace Go.Proofs.YtjdmmhcogmepaaaGreatDoor.V
open Go.RowKit
theorem Ze1:∀ {es:List (Value×Value)} {x v:Value},mget es x=some v→(x,v)∈es
 |[],x,v,h=>by simp [mget] at h
 |p::r,x,v,h=>by
  simp only [mget] at h
  split at h
  ·rename_i e
   simp only [Option.some.injEq] at h
   subst h;subst e
   exact List.mem_cons_self
  ·exact List.mem_cons_of_mem _ (Ze1 h)
theorem ZkX {a b:POp} (h:opV a=opV b):a=b:=by
 cases a;cases b
 simp [opV] at h
 obtain ⟨rfl,rfl,rfl,rfl⟩:=h
 rfl
theorem ZlK {l:List POp} {es:Array MapEntry} {clock bp:Nat} {x:NP} {esA:List (Value×Value)} (hu:WB l) (hok:∀ j,j<l.length→Yx (Zm l j)=true) (hw:YT l) (hat:H1 l l.length esA) (hmi:MapIs Tryz.prog ⟨151,esA⟩ es clock) (hinv:ZhL l es bp x) (hleft:(leftOf es x.seen).size=0):PMaps l x.lo bp x.bo esA x.esN x.esL:=by
 have done:∀ j,j<l.length→NPDone bp x (Zm l j):=fun j hj=>by
  have h1:=hat.1 j hj
  cases hg:mget esA (WH (Zm l j)) with
  |none=>rw [hg] at h1;simp at h1
  |some v=>
   obtain ⟨j',hj',hp,hv⟩:=hat.2 _ _ hg
   have hmem:=Ze1 hg
   have heq:es.toList.map (fun e=>(e.key,e.val))=esA:=hmi.eq
   rw [←heq,List.mem_map] at hmem
   obtain ⟨e,he,hee⟩:=hmem
   obtain ⟨j'',hj'',hv2,hd⟩:=hinv e he (all_seen es x.seen hleft e he)
   have e1:Zm l j=Zm l j':=by
    simp [WH] at hp
    exact hu j j' hj hj' hp.1 hp.2
   have e2:Zm l j''=Zm l j':=ZkX (by rw [←hv2,←hv];simp at hee;exact hee.2)
   rw [e1,←e2]
   exact hd
 exact ⟨hu,hok,hw,hat,fun j hj hk=>(done j hj).k1 hk,fun j hj hk=>(done j hj).k2 hk,fun j hj hk=>(done j hj).k3 hk⟩
noncomputable def npNext (bp b7:Nat) (x:NP) (o:POp) (born:Nat):NP:=
 ⟨x.lo++[o],fun j=>if j=x.lo.length then b7 else x.bo j,
  if o.kind=1 then mput x.esN (.string o.text) (.func (.func 94) #[] #[.pointer (some ⟨bp,0,none⟩),.pointer (some ⟨b7,0,none⟩)]) else x.esN,
  if o.kind=2 then mput x.esL (.string o.text) (.func (.func 96) #[] #[.pointer (some ⟨bp,0,none⟩)]) else if o.kind=3 then mput x.esL (.string o.text) (.func (.func 97) #[] #[]) else x.esL,x.seen.push born⟩
theorem Gi {l:List POp} {o:POp} {q:Nat} (h:q<l.length):Zm (l++[o]) q=Zm l q:=by
 simp [Zm,List.getD_eq_getElem?_getD,List.getElem?_append_left h]
theorem Gj {l:List POp} {o:POp}:Zm (l++[o]) l.length=o:=by
 simp [Zm,List.getD_eq_getElem?_getD]
theorem ZkY {l:List POp} {es:Array MapEntry} {clock bp b7:Nat} {x:NP} {esA:List (Value×Value)} (hu:WB l) (hmi:MapIs Tryz.prog ⟨151,esA⟩ es clock) (hinv:ZhL l es bp x) {e:MapEntry} (he:e∈es.toList) {j:Nat} (hj:j<l.length) (hv:e.val=opV (Zm l j)):ZhL l es bp (npNext bp b7 x (Zm l j) e.born):=by
 generalize ho:Zm l j=o at *
 intro e' he' hs
 have hcase:x.seen.contains e'.born=true∨e'=e:=by
  simp [npNext] at hs
  rcases hs with hs|hs
  ·exact .inl (by simpa using hs)
  ·refine .inr ?_
   have h1:=find_born e es.toList hmi.born he
   have h2:=find_born e' es.toList hmi.born he'
   rw [←hs,h2] at h1
   simpa using h1
 rcases hcase with hc|rfl
 ·obtain ⟨j1,hj1,hv1,hd⟩:=hinv e' he' hc
  refine ⟨j1,hj1,hv1,?_,?_,?_⟩
  ·intro hk
   obtain ⟨q,hq,hq1,hq2⟩:=hd.k1 hk
   by_cases ho1:o.kind=1
   ·by_cases htx:o.text=(Zm l j1).text
    ·have eo:o=Zm l j1:=by
      rw [←ho]
      exact hu j j1 hj hj1 (by rw [ho];exact htx) (by rw [ho,ho1,hk])
     refine ⟨x.lo.length,by simp [npNext],by simp only [npNext];rw [Gj,eo],?_⟩
     simp only [npNext,if_pos ho1,YD,htx,if_true,vsP]
    ·refine ⟨q,by simp [npNext];omega,by simp only [npNext];rw [Gi hq,hq1],?_⟩
     simp only [npNext,if_pos ho1,YD,vsP,if_neg (show q≠x.lo.length by omega)]
     rw [if_neg (by simpa using htx)]
     exact hq2
   ·refine ⟨q,by simp [npNext];omega,by simp only [npNext];rw [Gi hq,hq1],?_⟩
    simp only [npNext,if_neg ho1,vsP,if_neg (show q≠x.lo.length by omega)]
    exact hq2
  ·intro hk
   have h2:=hd.k2 hk
   by_cases ho2:o.kind=2
   ·simp only [npNext,if_pos ho2,YD,vsP]
    split
    ·rfl
    ·exact h2
   ·by_cases ho3:o.kind=3
    ·simp only [npNext,if_neg ho2,if_pos ho3,YD]
     split
     ·rename_i htx
      exfalso
      simp at htx
      have eo:o=Zm l j1:=by
       rw [←ho]
       exact hu j j1 hj hj1 (by rw [ho];exact htx) (by rw [ho,ho3,hk];rfl)
      rw [←eo] at hk;omega
     ·exact h2
    ·simp only [npNext,if_neg ho2,if_neg ho3];exact h2
  ·intro hk
   have h2:=hd.k3 hk
   by_cases ho2:o.kind=2
   ·simp only [npNext,if_pos ho2,YD]
    split
    ·rename_i htx
     exfalso
     simp at htx
     have eo:o=Zm l j1:=by
      rw [←ho]
      exact hu j j1 hj hj1 (by rw [ho];exact htx) (by rw [ho,ho2,hk];rfl)
     rw [←eo] at hk;omega
    ·exact h2
   ·by_cases ho3:o.kind=3
    ·simp only [npNext,if_neg ho2,if_pos ho3,YD]
     split
     ·rfl
     ·exact h2
    ·simp only [npNext,if_neg ho2,if_neg ho3];exact h2
 ·refine ⟨j,hj,by rw [ho];exact hv,?_⟩
  rw [ho]
  refine ⟨fun hk=>⟨x.lo.length,by simp [npNext],by simp only [npNext];rw [Gj],?_⟩,fun hk=>?_,fun hk=>?_⟩
  ·simp only [npNext,if_pos hk,YD,if_true,vsP]
  ·simp only [npNext,if_pos hk,YD,if_true,vsP]
  ·simp only [npNext,if_pos hk,if_neg (show ¬o.kind=2 by omega),YD,if_true]
open Go.Maps (Keyed)
open Go.ChangeMaps (setBlock)
set_option maxRecDepth 20000 in
theorem ZjM (l:List POp) (t:List PTok) (b1 b2:Nat) (esA:List (Value×Value)) {w:World} {vs:List Value} {hd0:Nat→Value} (hlen:[AV.agg [.lit (.map (some b1)),.lit (.map (some b2))],.sl 3 t.length (Zr t)].length=vs.length)
  (hrep:∀ (j:Nat) a u,[AV.agg [.lit (.map (some b1)),.lit (.map (some b2))],.sl 3 t.length (Zr t)][j]?=some a→vs[j]?=some u→Rep w (ZE [] hd0) hd0 0 a u) (hm:MemRel (fun _=>True) w hd0 []) (hmp:MapRel Tryz.prog (fun _=>True) w [(b1,⟨151,esA⟩)]) (htl:Vf hd0 (Sh w hd0 [] [(b1,⟨151,esA⟩)]))
  (hu:WB l) (hok:∀ j,j<l.length→Yx (Zm l j)=true) (hw:YT l) (hat:H1 l l.length esA)
  (R:Ending→World→Prop) (hR:∀ v w',(Bel (Sh w hd0 [] [(b1,⟨151,esA⟩)]) w w'∧∃ hd av mem maps N vs1 as1,(ZlL l t b1 b2 esA av mem maps N vs1 as1∧∀ i,i<N→ZhN (as1 i)∧Rep w' (ZE mem hd) hd mem.length (as1 i) (vs1 i))∧PostOk [] [(b1,⟨151,esA⟩)] av mem maps∧
   ((∀ k,k<([]:List (Option Ob)).length→hd k=hd0 k)∧TailEq hd0 hd)∧MemRel (Sh w hd0 [] [(b1,⟨151,esA⟩)]) w' hd mem∧MapRel Tryz.prog (Sh w hd0 [] [(b1,⟨151,esA⟩)]) w' maps∧Rep w' (ZE mem hd) hd mem.length av v)→R (.returned v) w'):Calls Tryz.prog 51 vs.toArray w R:=by
 have hrel:=US (P:=Tryz.prog) (fn:=Tryz.f51) (by simp [Tryz.ntmps51]) hlen hrep hm hmp htl
 refine calls_of_wp Tryz.func51 rfl ?_
 refine wp_seq (WE rfl _ hrel (K:=fun e s=>e=.normal∧s=⟨[(4,.lit (.pointer none)),(2,.ptr 0 2 0 0),(0,AV.agg [.lit (.map (some b1)),.lit (.map (some b2))]),(1,.sl 3 t.length (Zr t))],[some ⟨70,2,1,fun _=>[.lit (.map (some b1)),.lit (.map (some b2))]⟩],[(b1,⟨151,esA⟩)],0⟩) ?_ fun x hd' s' a' w' h' hk=>?_)
 ·simp only [Tryz.ntmps51,We]
  simp [go_sem]
 ·obtain ⟨rfl,rfl⟩:=hk
  simp only [VX.out,Exit.then]
  refine wp_seq (WE rfl _ h' (K:=fun e s=>e=.normal∧∃ b3 b4,(b1≠b3∧b1≠b4∧b3≠b4)∧Ent s ⟨[(5,.ptr 1 1 0 0),(2,.ptr 2 2 0 0)],[pOb b1 b2 b3 b4 t 0,some ⟨94,1,1,fun _=>[.ptr 0 6 0 0]⟩,some ⟨70,2,1,fun _=>[.lit (.map (some b1)),.lit (.map (some b2))]⟩],[(b1,⟨151,esA⟩),(b3,⟨9,[]⟩),(b4,⟨9,[]⟩)],0⟩) ?_ fun x hd' s' a' w' h' hk=>?_)
  ·simp [go_sem]
   intro b3 h13 b4 h4
   have h34:b3≠b4:=fun e=>by rw [if_pos e] at h4;simp at h4
   have h14:b1≠b4:=fun e=>by
    by_cases e2:b3=b4
    ·exact h34 e2
    ·rw [if_neg e2,if_pos e] at h4;simp at h4
   refine ⟨b3,b4,⟨h13,h14,h34⟩,Zx [1,2,0] (by simp) (by simp) (by simp) (by simp) ?_ ?_ ?_⟩
   ·simp [YE,lkm,h13,h14,h34,Ne.symm h13,Ne.symm h14,Ne.symm h34]
   ·simp [go_sem]
   ·simp [go_sem,pOb]
    exact fun i c _ h=>Zs t i c h
  ·obtain ⟨rfl,b3,b4,⟨h13,h14,h34⟩,hent⟩:=hk
   obtain ⟨hd1,h1⟩:=hent _ _ _ _ _ _ h'
   simp only [VX.out,Exit.then]
   refine wp_seq (wp_seq (wp_region_list ?_))
   refine GI h1 rfl rfl (k:=fun s=>s=npR b1 b2 b3 b4 t esA [(14,.ptr 2 2 0 0)]) (by simp only [npR,pOb];simp [go_sem]) fun hd2 s2 a2 w2 h2 hk2=>?_
   subst hk2
   refine GI h2 rfl rfl (k:=fun s=>s=npR b1 b2 b3 b4 t esA [(15,.lit (.map (some b1))),(14,.ptr 2 2 0 0)]) (by simp only [npR,pOb];simp [go_sem]) fun hd3 s3 a3 w3 h3 hk3=>?_
   subst hk3
   obtain ⟨hmay1,es,clock,hes,hmi⟩:=h3.mp b1 ⟨151,esA⟩ (by simp [npR,lkm])
   have hr:=run_range_map (P:=Tryz.prog) w3 67 151 133 b1 es clock (by kernel_rfl) hes
   refine Vg (v:=.pointer (some ⟨w3.heap.size,0,none⟩)) (w':=w3.alloc (.mapIter (some b1) clock #[] clock)) rfl ?_ ?_
   ·have e15:a3.eval (.tmp 15)=.map (some b1):=(h3.ev_ (.tmp 15)).val_ rfl
    unfold execOp
    simp only [e15]
    exact Yb hr
   ·simp only [wpList,Exit.then]
    have h4:=(h3.grown (World.grownBy_alloc w3 (.mapIter (some b1) clock #[] clock) none)).put (t:=16) (by rw [Tryz.ntmps51];omega) (.lit (.pointer (some ⟨w3.heap.size,0,none⟩)))
    have hes4:(w3.alloc (.mapIter (some b1) clock #[] clock)).heap[b1]?=some (.map es clock):=(Below.heap_alloc _ _ _ (Array.getElem?_eq_some_iff.1 hes).1).trans hes
    have hit4:(w3.alloc (.mapIter (some b1) clock #[] clock)).heap[w3.heap.size]?=some (.mapIter (some b1) clock #[] clock):=heap_alloc_new _ _
    have hbi:Sh w hd0 [] [(b1,⟨151,esA⟩)] w3.heap.size:=h3.le _ h3.below.size
    have hlt1:b1<w3.heap.size:=(Array.getElem?_eq_some_iff.1 hes).1
    generalize hbi':w3.heap.size=bi at *
    generalize w3.alloc (.mapIter (some b1) clock #[] clock)=w4 at *
    generalize a3.put (some 16) (.pointer (some ⟨bi,0,none⟩))=a4 at *
    obtain ⟨hd5,h5⟩:∃ hd,RelH 50 ⟨Tryz.prog,Sh w hd0 [] [(b1,⟨151,esA⟩)],hd0,[]⟩ w hd ⟨[(5,.ptr 1 1 0 0),(16,.lit (.pointer (some ⟨bi,0,none⟩)))],[pOb b1 b2 b3 b4 t 0,some ⟨94,1,1,fun _=>[.ptr 0 6 0 0]⟩],[(b3,⟨9,[]⟩),(b4,⟨9,[]⟩)],0⟩ a4 w4:=by
     refine (Zx [0,1] (by simp) (by simp [npR]) (by simp) (by simp) ?_ ?_ ?_:Ent _ _) _ _ _ _ _ _ h4
     ·simp [YE,npR,lkm,h13,h14,h34,Ne.symm h13,Ne.symm h14,Ne.symm h34]
     ·simp [go_sem,npR]
     ·simp [go_sem,pOb,npR]
      exact fun i c _ h=>Zs t i c h
    obtain ⟨bp,_,_,hbp,hp5⟩:=Ql (h5.tm 5)
    have h6:RelH 50 ⟨Tryz.prog,Sh w hd0 [] [(b1,⟨151,esA⟩)],hd0,[]⟩ w hd5 (npS b1 b2 b3 b4 bp bi t ⟨[],fun _=>0,[],[],#[]⟩) a4 w4:=h5.tell 50 fun i hi=>by
     have e0:i=0:=by simp at hi;omega
     subst e0
     have:=h5.tm 5
     rw [hp5] at this
     exact this
    refine wp_block (JF (ι:=NP) (fun x a w'=>∃ hd,RelH 50 ⟨Tryz.prog,Sh w hd0 [] [(b1,⟨151,esA⟩)],hd0,[]⟩ w hd (npS b1 b2 b3 b4 bp bi t x) a w'∧w'.heap[b1]?=some (.map es clock)∧(∃ c0,clock≤c0∧w'.heap[bi]?=some (.mapIter (some b1) clock x.seen c0))∧ZhL l es bp x) (fun x=>(leftOf es x.seen).size) (fun x a w' hI=>?_) (i:=⟨[],fun _=>0,[],[],#[]⟩) ⟨hd5,h6,hes4,⟨clock,Nat.le_refl _,hit4⟩,fun e he hs=>by simp at hs⟩)
    obtain ⟨hd7,h7,hes7,⟨c0,hc0,hit7⟩,hinv⟩:=hI
    refine wp_seq (wp_region_list ?_)
    have e16:a.eval (.tmp 16)=.pointer (some ⟨bi,0,none⟩):=(h7.ev_ (.tmp 16)).val_ rfl
    rcases run_next_at (P:=Tryz.prog) w' 0 bi b1 clock c0 x.seen es clock hit7 hes7 hmi.young hc0 with ⟨hleft,hrun⟩|⟨e,he,w8,hw8,hrun⟩
    ·refine Vg (v:=.tuple #[.bool false]) (w':=w') rfl ?_ ?_
     ·unfold execOp
      simp only [e16]
      exact Yb hrun
     ·have h8:=h7.put (t:=17) (by omega) (av:=.tup [.lit (.bool false)]) (v:=.tuple #[.bool false]) (.tup _ [.bool false] rfl fun j a q g1 g2=>by
       rcases j with _|j
       ·simp at g1 g2;subst g1;subst g2;exact .lit _
       ·simp at g1)
      have e17:(a.put (some 17) (.tuple #[.bool false])).eval (.tmp 17)=.tuple #[.bool false]:=by
       show (a.put (some 17) (.tuple #[.bool false])).tmps.getD 17 undef=_
       rw [Ht _ _ _ (by rw [h7.size];omega),if_pos rfl]
      refine Vg (v:=.bool false) (w':=w') rfl (by unfold execOp;simp only [e17];exact Yb (by simp [Instr.extract])) ?_
      have h9:=h8.put (t:=18) (by omega) (av:=.lit (.bool false)) (v:=.bool false) (.lit _)
      simp only [wpList,Exit.then]
      refine wp_seq (wp_cond_false ((h9.ev_ (.tmp 18)).val_ rfl) (wp_exit ?_))
      simp only [Exit.then,Exit.inBlock,if_true]
      refine Zhm h9 rfl (fun b=>b=b1) (fun b hb=>by subst hb;exact (Array.getElem?_eq_some_iff.1 hes7).1) (fun b hb mp=>by subst hb;simp [npS,lkm,Ne.symm h13,Ne.symm h14]) (fun b hb k ob hk=>by subst hb;exact h9.own_ne hes7 (by simp) k ob hk) (K:=fun e s=>e=.ret∧s={ npS b1 b2 b3 b4 bp bi t x with tmps:=(4,.ptr 0 6 0 0)::(49,.ptr 0 6 0 0)::(18,.lit (.bool false))::(17,.tup [.lit (.bool false)])::(npS b1 b2 b3 b4 bp bi t x).tmps }) (by simp only [npS,pOb];simp [go_sem]) fun y hd10 s10 a10 w10 h10 hb10 hk10=>?_
      obtain ⟨rfl,rfl⟩:=hk10
      have h11:RelH 50 ⟨Tryz.prog,Sh w hd0 [] [(b1,⟨151,esA⟩)],hd0,[]⟩ w hd10 { npS b1 b2 b3 b4 bp bi t x with tmps:=(4,.ptr 0 6 0 0)::(npS b1 b2 b3 b4 bp bi t x).tmps } a10 w10:=by
       refine ⟨h10.defers,h10.size,h10.below,h10.le,h10.fixl,h10.fix,h10.mp,fun u=>?_,h10.me⟩
       have:=h10.tm u
       simp only [lk] at this ⊢
       by_cases e4:4=u
       ·rw [if_pos e4] at this ⊢;exact this
       ·rw [if_neg e4] at this ⊢
        by_cases e49:49=u
        ·subst e49;exact .undef _
        ·rw [if_neg e49] at this
         by_cases e18:18=u
         ·subst e18;exact .undef _
         ·rw [if_neg e18] at this
          by_cases e17:17=u
          ·subst e17;exact .undef _
          ·rw [if_neg e17] at this;exact this
      obtain ⟨v,q1,q2⟩:=ZlJ ⟨h13,h14,h34⟩ h11 ((hb10 b1 rfl).trans hes7) hmi (ZlK hu hok hw hat hmi hinv hleft)
      exact ⟨h10.defers,v,q1,hR v w10 q2⟩
    ·obtain ⟨he1,he2⟩:=mem_left he
     obtain ⟨j,hj,hkey,hval⟩:∃ j,j<l.length∧e.key=WH (Zm l j)∧e.val=opV (Zm l j):=by
      have heq:es.toList.map (fun e=>(e.key,e.val))=esA:=hmi.eq
      have hmem:(e.key,e.val)∈esA:=by rw [←heq];exact List.mem_map.2 ⟨e,he1,rfl⟩
      obtain ⟨q,hq⟩:=List.getElem?_of_mem hmem
      have hg:mget esA e.key=some e.val:=ZdD hq (JT hmi.apart hq)
      exact hat.2 _ _ hg
     have hne:b1≠bi:=by omega
     have hinv':=fun b7=>ZkY (b7:=b7) hu hmi hinv he1 hj hval
     have hko:(Zm l j).kind=1∨(Zm l j).kind=2∨(Zm l j).kind=3:=by
      have:=hok j hj
      simp [Yx] at this;omega
     have hzo:(Zm l j).text.size≤maxLen:=hw j hj
     generalize ho:Zm l j=o at *
     have h8:RelH 50 ⟨Tryz.prog,Sh w hd0 [] [(b1,⟨151,esA⟩)],hd0,[]⟩ w hd7 (npS b1 b2 b3 b4 bp bi t x) a w8:=by
      rcases hw8 with rfl|rfl
      ·exact h7
      ·exact h7.grown ⟨rfl,rfl,rfl,Nat.le_refl _,fun _ _ _=>rfl⟩
     have hp8:w8.heap=w'.heap:=by rcases hw8 with rfl|rfl<;>rfl
     have h9:=h8.iterTurn (b:=bi) (o:=.mapIter (some b1) clock x.seen c0) (by rw [hp8];exact hit7) (by simp) (by simp) (fun ad u e hc=>by
      unfold World.cell? at hc
      rw [e,hp8,hit7] at hc
      simp at hc) hbi (.mapIter (some b1) clock (x.seen.push e.born) clock)
     have hes9:(setBlock w8 bi (.mapIter (some b1) clock (x.seen.push e.born) clock)).heap[b1]?=some (.map es clock):=by
      simp only [setBlock]
      rw [Array.getElem?_setIfInBounds_ne (fun e=>hne e.symm),hp8];exact hes7
     have hit9:(setBlock w8 bi (.mapIter (some b1) clock (x.seen.push e.born) clock)).heap[bi]?=some (.mapIter (some b1) clock (x.seen.push e.born) clock):=by
      have:bi<w8.heap.size:=by rw [hp8];exact (Array.getElem?_eq_some_iff.1 hit7).1
      simp [setBlock,this]
     refine Vg (v:=.tuple #[.bool true,e.key,e.val]) (w':=setBlock w8 bi (.mapIter (some b1) clock (x.seen.push e.born) clock)) rfl ?_ ?_
     ·unfold execOp
      simp only [e16]
      exact Yb hrun
     ·generalize setBlock w8 bi (.mapIter (some b1) clock (x.seen.push e.born) clock)=w9 at *
      have h10:=h9.put (t:=17) (by omega) (.undef (.tuple #[.bool true,e.key,e.val]))
      have e17:(a.put (some 17) (.tuple #[.bool true,e.key,e.val])).eval (.tmp 17)=.tuple #[.bool true,e.key,e.val]:=by
       show (a.put (some 17) _).tmps.getD 17 undef=_
       rw [Ht _ _ _ (by rw [h7.size];omega),if_pos rfl]
      refine Vg (v:=.bool true) (w':=w9) rfl (by unfold execOp;simp only [e17];exact Yb (by simp [Instr.extract])) ?_
      have h11:=h10.put (t:=18) (by omega) (av:=.lit (.bool true)) (v:=.bool true) (.lit _)
      simp only [wpList,Exit.then]
      refine wp_seq (wp_cond_true ((h11.ev_ (.tmp 18)).val_ rfl) (wp_skip ?_))
      generalize ((a.put (some 17) (.tuple #[.bool true,e.key,e.val])).put (some 18) (.bool true))=a11 at *
      simp only [Exit.then]
      refine wp_block (wp_seq (wp_region_list ?_))
      have hrun2:=run_entry_at (P:=Tryz.prog) w9 bi b1 clock x.seen es clock e hit9 hes9 he1 hmi.born
      have e16b:a11.eval (.tmp 16)=.pointer (some ⟨bi,0,none⟩):=(h11.ev_ (.tmp 16)).val_ rfl
      refine Vg (v:=.tuple #[e.key,e.val]) (w':=w9) rfl (by unfold execOp;simp only [e16b];exact Yb hrun2) ?_
      have h12:=h11.put (t:=19) (by omega) (.undef (.tuple #[e.key,e.val]))
      have e19:(a11.put (some 19) (.tuple #[e.key,e.val])).eval (.tmp 19)=.tuple #[e.key,e.val]:=by
       show (a11.put (some 19) _).tmps.getD 19 undef=_
       rw [Ht _ _ _ (by rw [h11.size];omega),if_pos rfl]
      refine Vg (v:=e.val) (w':=w9) rfl (by unfold execOp;simp only [e19];exact Yb (by simp [Instr.extract])) ?_
      have h13':=h12.put (t:=20) (by omega) (av:=.agg o.cells) (v:=e.val) (by
       rw [hval]
       exact .agg _ [.string o.text,.int .i64 o.kind,.int .i64 o.level,.int .i64 o.side] rfl fun j a q g1 g2=>by
        rcases j with _ | _ | _ | _|j<;>simp [POp.cells] at g1 g2<;>subst g1<;>subst g2<;>exact .lit _)
      generalize ((a11.put (some 19) (.tuple #[e.key,e.val])).put (some 20) e.val)=a13 at *
      have tail3:∀ {s:VS} {a:Act} {w2:World} {hd:Nat→Value},RelH 50 ⟨Tryz.prog,Sh w hd0 [] [(b1,⟨151,esA⟩)],hd0,[]⟩ w hd s a w2→w2.heap[b1]?=some (.map es clock)→w2.heap[bi]?=some (.mapIter (some b1) clock (x.seen.push e.born) clock)→(∀ mp,lkm s.maps b1≠some mp)→(∀ b,b=b1∨b=bi→b<w2.heap.size)∧(∀ b,b=b1∨b=bi→∀ mp,lkm s.maps b≠some mp)∧(∀ b,b=b1∨b=bi→∀ k ob,s.mem[k]?=some (some ob)→(hd k).ownBlock≠some b):=fun h g1 g2 g3=>by
       refine ⟨fun b hb=>?_,fun b hb mp hq=>?_,fun b hb=>?_⟩
       ·rcases hb with rfl|rfl
        ·exact (Array.getElem?_eq_some_iff.1 g1).1
        ·exact (Array.getElem?_eq_some_iff.1 g2).1
       ·rcases hb with rfl|rfl
        ·exact g3 mp hq
        ·obtain ⟨_,es',clock',h3,_⟩:=h.mp _ mp hq
         rw [g2] at h3;simp at h3
       ·rcases hb with rfl|rfl
        ·exact h.own_ne g1 (by simp)
        ·exact h.own_ne g2 (by simp)
      obtain ⟨p1,p2,p3⟩:=tail3 h13' hes9 hit9 (fun mp=>by simp [npS,lkm,Ne.symm h13,Ne.symm h14])
      refine GJ h13' rfl (fun b=>b=b1∨b=bi) p1 p2 p3 rfl (k:=fun s=>s=⟨(7,.ptr 2 4 0 0)::(20,.agg o.cells)::(19,.undef)::(18,.lit (.bool true))::(17,.undef)::(npS b1 b2 b3 b4 bp bi t x).tmps,(npS b1 b2 b3 b4 bp bi t x).mem++[some ⟨133,4,1,fun _=>ZfV⟩],(npS b1 b2 b3 b4 bp bi t x).maps,0⟩) (by simp only [npS,pOb];simp [go_sem,ZfV]) fun hd14 s14 a14 w14 h14' hb14 hk14=>?_
      subst hk14
      obtain ⟨p4,p5,p6⟩:=tail3 h14' ((hb14 b1 (.inl rfl)).trans hes9) ((hb14 bi (.inr rfl)).trans hit9) (fun mp=>by simp [npS,lkm,Ne.symm h13,Ne.symm h14])
      refine GJ h14' rfl (fun b=>b=b1∨b=bi) p4 p5 p6 rfl (k:=fun s=>s=⟨(7,.ptr 2 4 0 0)::(20,.agg o.cells)::(19,.undef)::(18,.lit (.bool true))::(17,.undef)::(npS b1 b2 b3 b4 bp bi t x).tmps,(npS b1 b2 b3 b4 bp bi t x).mem++[some ⟨133,4,1,fun _=>o.cells⟩],(npS b1 b2 b3 b4 bp bi t x).maps,0⟩) (by simp only [npS,pOb,POp.cells,ZfV];simp [go_sem]) fun hd15 s15 a15 w15 h15 hb15 hk15=>?_
      subst hk15
      simp only [wpList,Exit.then]
      obtain ⟨b7,_,_,hb7,hp7⟩:=Ql (h15.tm 7)
      have hes15:w15.heap[b1]?=some (.map es clock):=((hb15 b1 (.inl rfl)).trans (hb14 b1 (.inl rfl))).trans hes9
      have hit15:w15.heap[bi]?=some (.mapIter (some b1) clock (x.seen.push e.born) clock):=((hb15 bi (.inr rfl)).trans (hb14 bi (.inr rfl))).trans hit9
      have h16:=h15.tell 50 (N:=x.lo.length+2) (vs:=vsP bp fun j=>if j=x.lo.length then b7 else x.bo j) («as»:=fun i=>if i=x.lo.length+1 then .ptr 2 4 0 0 else asN x.lo i) (fun i hi=>by
       by_cases hq:i=x.lo.length+1
       ·subst hq
        have:=h15.tm 7
        rw [hp7] at this
        simp only [if_true,vsP]
        exact this
       ·simp only [if_neg hq]
        have:=h15.told (t:=50) (i:=i) rfl (by omega)
        cases i with
        |zero=>exact this
        |succ j=>simp only [vsP,if_neg (show j≠x.lo.length by omega)];exact this)
      obtain ⟨p7,p8,p9⟩:=tail3 h16 hes15 hit15 (fun mp=>by simp [npS,lkm,Ne.symm h13,Ne.symm h14])
      refine Zhm h16 rfl (fun b=>b=b1∨b=bi) p7 p8 p9 (K:=fun e' s=>e'=.normal∧Ent s ⟨[(50,.fam (x.lo.length+2) (vsP bp fun j=>if j=x.lo.length then b7 else x.bo j) (fun i=>if i=x.lo.length+1 then .ptr 2 4 0 0 else asN x.lo i)),(5,.ptr 1 1 0 0),(16,.lit (.pointer (some ⟨bi,0,none⟩)))],[pOb b1 b2 b3 b4 t 0,some ⟨94,1,1,fun _=>[.ptr 0 6 0 0]⟩,some ⟨133,4,1,fun _=>o.cells⟩],[(b3,⟨9,(npNext bp b7 x o e.born).esN⟩),(b4,⟨9,(npNext bp b7 x o e.born).esL⟩)],0⟩) ?_ fun y hd17 s17 a17 w17 h17 hb17 hk17=>?_
      ·simp only [npS,pOb,POp.cells]
       rcases hko with hk1|hk1|hk1
       ·simp [go_sem,hk1]
        refine Zq [7] (.q 0 <| .q 1 <| .q 2 <| .q 3 <| .q 4 <| .q 5 <| .q 6 <| .or 7 (.done) (.nil)) (by kernel_rfl) ?_
        simp [go_sem]
        refine ZaK [.pointer (some ⟨bp,0,none⟩),.pointer (some ⟨b7,0,none⟩)] ⟨J6 50 0 rfl (by omega) rfl (by simp [asN]) rfl,J6 50 (x.lo.length+1) rfl (by omega) (by simp [vsP]) (by simp) rfl,trivial⟩ ?_
        simp [go_sem,h34]
        refine Xj Y7 (XL hzo) ?_
        simp [go_sem]
        refine Zx [0,1,2] (by simp) (by simp) (by simp) (by simp) ?_ ?_ ?_
        ·simp [YE,lkm,h34,Ne.symm h34,npNext,hk1]
        ·simp [go_sem]
         exact .fam _ _ _ _ fun i hi=>by
          by_cases hq:i=x.lo.length+1
          ·simp only [if_pos hq];exact .ptr 2 4 0 0 (by omega)
          ·simp only [if_neg hq]
           cases i with
           |zero=>exact .ptr 1 1 0 0 (by omega)
           |succ j=>exact .closed _ (.bptr _ fun c hc=>by
             simp [POp.cells] at hc
             rcases hc with rfl|rfl|rfl|rfl<;>exact .lit _)
        ·simp [go_sem]
         exact fun i c _ h=>Zs t i c h
       ·simp [go_sem,hk1]
        refine Zq [7] (.q 0 <| .q 1 <| .q 2 <| .q 3 <| .q 4 <| .q 5 <| .q 6 <| .or 7 (.done) (.nil)) (by kernel_rfl) ?_
        simp [go_sem]
        refine ZaK [.pointer (some ⟨bp,0,none⟩)] ⟨J6 50 0 rfl (by omega) rfl (by simp [asN]) rfl,trivial⟩ ?_
        simp [go_sem,h34,Ne.symm h34]
        refine Xj Y7 (XL hzo) ?_
        simp [go_sem]
        refine Zx [0,1,2] (by simp) (by simp) (by simp) (by simp) ?_ ?_ ?_
        ·simp [YE,lkm,h34,Ne.symm h34,npNext,hk1]
        ·simp [go_sem]
         exact .fam _ _ _ _ fun i hi=>by
          by_cases hq:i=x.lo.length+1
          ·simp only [if_pos hq];exact .ptr 2 4 0 0 (by omega)
          ·simp only [if_neg hq]
           cases i with
           |zero=>exact .ptr 1 1 0 0 (by omega)
           |succ j=>exact .closed _ (.bptr _ fun c hc=>by
             simp [POp.cells] at hc
             rcases hc with rfl|rfl|rfl|rfl<;>exact .lit _)
        ·simp [go_sem]
         exact fun i c _ h=>Zs t i c h
       ·simp [go_sem,hk1]
        refine Zq [6] (.q 0 <| .q 1 <| .q 2 <| .q 3 <| .q 4 <| .q 5 <| .or 6 (.done) (.nil)) (by kernel_rfl) ?_
        simp [go_sem,h34,Ne.symm h34]
        refine Xj Y7 (XL hzo) ?_
        simp [go_sem]
        refine Zx [0,1,2] (by simp) (by simp) (by simp) (by simp) ?_ ?_ ?_
        ·simp [YE,lkm,h34,Ne.symm h34,npNext,hk1]
        ·simp [go_sem]
         exact .fam _ _ _ _ fun i hi=>by
          by_cases hq:i=x.lo.length+1
          ·simp only [if_pos hq];exact .ptr 2 4 0 0 (by omega)
          ·simp only [if_neg hq]
           cases i with
           |zero=>exact .ptr 1 1 0 0 (by omega)
           |succ j=>exact .closed _ (.bptr _ fun c hc=>by
             simp [POp.cells] at hc
             rcases hc with rfl|rfl|rfl|rfl<;>exact .lit _)
        ·simp [go_sem]
         exact fun i c _ h=>Zs t i c h
      ·obtain ⟨rfl,hent⟩:=hk17
       obtain ⟨hd18,h18⟩:=hent _ _ _ _ _ _ h17
       simp only [VX.out,Exit.inBlock,Exit.then]
       have fo:=h18.freed (k:=2) (ob:=⟨133,4,1,fun _=>o.cells⟩) (v:=.pointer (some ⟨b7,0,none⟩)) rfl (by simp) (by
        have:=h18.told (t:=50) (i:=x.lo.length+1) rfl (by omega)
        simp only [if_true,vsP] at this
        exact this)
       have h19:=(h18.free 2).tell 50 (N:=x.lo.length+2) (vs:=vsP bp fun j=>if j=x.lo.length then b7 else x.bo j) («as»:=asN (x.lo++[o])) (fun i hi=>by
        by_cases hq:i=x.lo.length+1
        ·subst hq
         simp only [asN,Gj,vsP,if_true]
         exact fo
        ·have:=(h18.free 2).told (t:=50) (i:=i) rfl (by omega)
         simp only [if_neg hq] at this
         cases i with
         |zero=>exact this
         |succ j=>
          simp only [asN] at this ⊢
          rw [Gi (by omega)];exact this)
       obtain ⟨hd20,h20⟩:∃ hd,RelH 50 ⟨Tryz.prog,Sh w hd0 [] [(b1,⟨151,esA⟩)],hd0,[]⟩ w hd (npS b1 b2 b3 b4 bp bi t (npNext bp b7 x o e.born)) a17 w17:=by
        refine (Zx [0,1] (by simp) (by simp) (by simp) (by simp) ?_ ?_ ?_:Ent _ _) _ _ _ _ _ _ h19
        ·simp [YE,lkm,h34,Ne.symm h34]
        ·simp [go_sem,npNext]
         exact .fam _ _ _ _ fun i hi=>by
          cases i with
          |zero=>exact .ptr 1 1 0 0 (by omega)
          |succ j=>exact .closed _ (.bptr _ fun c hc=>by
            simp [POp.cells] at hc
            rcases hc with rfl|rfl|rfl|rfl<;>exact .lit _)
        ·simp [go_sem,pOb]
         exact fun i c _ h=>Zs t i c h
       exact ⟨npNext bp b7 x o e.born,⟨hd20,h20,(hb17 b1 (.inl rfl)).trans hes15,⟨clock,Nat.le_refl _,(hb17 bi (.inr rfl)).trans hit15⟩,hinv' b7⟩,left_shrinks es x.seen e he⟩
theorem Zfs (l:List POp) (t:List PTok) (b1 b2:Nat) (esA:List (Value×Value)) (hu:WB l) (hok:∀ j,j<l.length→Yx (Zm l j)=true) (hw:YT l) (hat:H1 l l.length esA) :
  VProcT Tryz.prog 51 [.agg [.lit (.map (some b1)),.lit (.map (some b2))],.sl 3 t.length (Zr t)] [] [(b1,⟨151,esA⟩)] (ZlL l t b1 b2 esA):=
 ⟨⟨_,Tryz.func51,by kernel_rfl,rfl⟩,fun w vs hd0 hlen hrep hm hmp htl=>ZjM l t b1 b2 esA hlen hrep hm hmp htl hu hok hw hat _ fun v w' h=>⟨v,rfl,h⟩⟩
end Go.Proofs.YtjdmmhcogmepaaaGreatDoor.V
namespace Go.Proofs.YtjdmmhcogmepaaaGreatDoor.V
open Go.RowKit
open Go.Proofs.YtjdmmhcogmepaaaGreatDoor.Ops (Tr)
def WR (e:PT) (out:List PNode):Prop:=∃ T u,Wx e=.iface T u∧∃ f,Xz Tryz.prog T "loop.example/s0059/impl.nodes"=some f∧VProc Tryz.prog f [.lit u,.own 0] [Zb out] [] (fun av mem maps=>av=.own 1∧mem=[none,Zb (lay e out)]∧maps=[])
theorem Zid:Xz Tryz.prog 193 "loop.example/s0059/impl.nodes"=some 186:=by kernel_rfl
theorem ZgE:Xz Tryz.prog 212 "loop.example/s0059/impl.nodes"=some 189:=by kernel_rfl
theorem Kk:Xz Tryz.prog 164 "loop.example/s0059/impl.nodes"=some 183:=by kernel_rfl
theorem ZgC (b:Int×ByteArray) (out:List PNode) (hl:out.length≤3000000):WR (.leaf b) out:=by
 refine ⟨_,_,rfl,_,Zid,?_⟩
 simp only [Zb]
 refine Zl Tryz.func186 (by kernel_rfl) rfl (by simp [Tryz.ntmps186]) ?_;simp only [Tryz.ntmps186,Tryz.results186];simp [go_sem]
 refine ⟨by omega,by omega,?_⟩
 refine ⟨rfl,[3],[none,Zb (lay (.leaf b) out)],by simp,by simp [go_sem],by simp [go_sem],?_,by simp [go_sem],?_⟩
 ·simp [go_sem,Zb]
  refine Yo (o:=⟨b.2,b.1,0,0⟩) (by simp [lay]) fun j hj=>?_
  exact Yk out ⟨b.2,b.1,0,0⟩ j hj
 ·simp [go_sem,Zb]
theorem ZeW (e:PT) (out:List PNode) (ih:WR e out) (h0:0<(lay e out).length) (hl:(lay e out).length≤3000000):WR (.grp e) out:=by
 refine ⟨_,_,rfl,_,ZgE,?_⟩
 obtain ⟨T,u,hT,f,hm,hc⟩:=ih
 have ew:IntKind.i64.wrap (((lay e out).length:Int)-1)=((lay e out).length:Int)-1:=wrap_i64 (by omega)
 rw [hT]
 simp only [Zb] at hc ⊢
 refine Zl Tryz.func189 (by kernel_rfl) rfl (by simp [Tryz.ntmps189]) ?_;simp only [Tryz.ntmps189,Tryz.results189];simp [go_sem]
 simp [go_sem,hm]
 refine Zd [0] hc (by simp) ?_ ?_ trivial ?_
 ·simp [go_sem]
 ·simp [go_sem]
  exact fun i _=>Zk (Z5 _ i)
 ·rintro av mem maps ⟨rfl,rfl,rfl⟩
  simp [go_sem,ew]
  refine ⟨by omega,by omega,by omega,?_⟩
  refine ⟨rfl,[4],[none,Zb (lay (.grp e) out)],by simp,by simp [go_sem],by simp [go_sem],?_,by simp [go_sem],?_⟩
  ·simp [go_sem,Zb]
   refine Yo (o:=⟨⟨#[]⟩,6,((lay e out).length:Int)-1,0⟩) (by simp [lay]) fun j hj=>?_
   exact Yk (lay e out) ⟨⟨#[]⟩,6,((lay e out).length:Int)-1,0⟩ j hj
  ·simp [go_sem,Zb]
theorem Zh9 (o:POp) (hk:o.kind=1) (e:PT) (out:List PNode) (ih:WR e out) (h0:0<(lay e out).length) (hl:(lay e out).length≤3000000):WR (.pre o e) out:=by
 refine ⟨_,_,rfl,_,Kk,?_⟩
 obtain ⟨T,u,hT,f,hm,hc⟩:=ih
 have ew:IntKind.i64.wrap (((lay e out).length:Int)-1)=((lay e out).length:Int)-1:=wrap_i64 (by omega)
 have ek:IntKind.i64.wrap (o.kind+2)=o.kind+2:=wrap_i64 (by omega)
 rw [hT]
 simp only [Zb] at hc ⊢
 refine Zl Tryz.func183 (by kernel_rfl) rfl (by simp [Tryz.ntmps183]) ?_;simp only [Tryz.ntmps183,Tryz.results183];simp [go_sem]
 simp [go_sem,hm,ek]
 refine Zd [0] hc (by simp) ?_ ?_ trivial ?_
 ·simp [go_sem]
 ·simp [go_sem]
  exact fun i _=>Zk (Z5 _ i)
 ·rintro av mem maps ⟨rfl,rfl,rfl⟩
  simp [go_sem,ew]
  refine ⟨by omega,by omega,by omega,?_⟩
  refine ⟨rfl,[5],[none,Zb (lay (.pre o e) out)],by simp,by simp [go_sem],by simp [go_sem],?_,by simp [go_sem],?_⟩
  ·simp [go_sem,Zb]
   refine Yo (o:=⟨o.text,o.kind+2,((lay e out).length:Int)-1,0⟩) (by simp [lay]) fun j hj=>?_
   exact Yk (lay e out) ⟨o.text,o.kind+2,((lay e out).length:Int)-1,0⟩ j hj
  ·simp [go_sem,Zb]
theorem ZgB (o:POp) (hk:o.kind=3) (e:PT) (out:List PNode) (ih:WR e out) (h0:0<(lay e out).length) (hl:(lay e out).length≤3000000):WR (.post o e) out:=by
 refine ⟨_,_,rfl,_,Kk,?_⟩
 obtain ⟨T,u,hT,f,hm,hc⟩:=ih
 have ew:IntKind.i64.wrap (((lay e out).length:Int)-1)=((lay e out).length:Int)-1:=wrap_i64 (by omega)
 have ek:IntKind.i64.wrap (o.kind+2)=o.kind+2:=wrap_i64 (by omega)
 rw [hT]
 simp only [Zb] at hc ⊢
 refine Zl Tryz.func183 (by kernel_rfl) rfl (by simp [Tryz.ntmps183]) ?_;simp only [Tryz.ntmps183,Tryz.results183];simp [go_sem]
 simp [go_sem,hm,ek]
 refine Zd [0] hc (by simp) ?_ ?_ trivial ?_
 ·simp [go_sem]
 ·simp [go_sem]
  exact fun i _=>Zk (Z5 _ i)
 ·rintro av mem maps ⟨rfl,rfl,rfl⟩
  simp [go_sem,ew]
  refine ⟨by omega,by omega,by omega,?_⟩
  refine ⟨rfl,[5],[none,Zb (lay (.post o e) out)],by simp,by simp [go_sem],by simp [go_sem],?_,by simp [go_sem],?_⟩
  ·simp [go_sem,Zb]
   refine Yo (o:=⟨o.text,o.kind+2,((lay e out).length:Int)-1,0⟩) (by simp [lay]) fun j hj=>?_
   exact Yk (lay e out) ⟨o.text,o.kind+2,((lay e out).length:Int)-1,0⟩ j hj
  ·simp [go_sem,Zb]
theorem Zia (o:POp) (hk:o.kind=2) (x y:PT) (out:List PNode) (ih:WR x out) (ih2:WR y (lay x out)) (h0:0<(lay x out).length) (h1:0<(lay y (lay x out)).length) (hl:(lay x out).length≤3000000) (hl2:(lay y (lay x out)).length≤3000000):WR (.inf o x y) out:=by
 refine ⟨_,_,rfl,_,Kk,?_⟩
 obtain ⟨T,u,hT,f,hm,hc⟩:=ih
 obtain ⟨T',u',hT',f',hm',hc'⟩:=ih2
 have ew:IntKind.i64.wrap (((lay x out).length:Int)-1)=((lay x out).length:Int)-1:=wrap_i64 (by omega)
 have ew':IntKind.i64.wrap (((lay y (lay x out)).length:Int)-1)=((lay y (lay x out)).length:Int)-1:=wrap_i64 (by omega)
 have ek:IntKind.i64.wrap (o.kind+2)=o.kind+2:=wrap_i64 (by omega)
 rw [hT,hT']
 simp only [Zb] at hc hc' ⊢
 refine Zl Tryz.func183 (by kernel_rfl) rfl (by simp [Tryz.ntmps183]) ?_;simp only [Tryz.ntmps183,Tryz.results183];simp [go_sem]
 simp [go_sem,hm,ek]
 refine Zd [0] hc (by simp) ?_ ?_ trivial ?_
 ·simp [go_sem]
 ·simp [go_sem]
  exact fun i _=>Zk (Z5 _ i)
 ·rintro av mem maps ⟨rfl,rfl,rfl⟩
  simp [go_sem,ew,hm']
  refine ⟨by omega,?_⟩
  refine Zd [3] hc' (by simp) ?_ ?_ trivial ?_
  ·simp [go_sem]
  ·simp [go_sem]
   exact fun i _=>Zk (Z5 _ i)
  ·rintro av mem maps ⟨rfl,rfl,rfl⟩
   simp [go_sem,ew']
   refine ⟨by omega,by omega,by omega,?_⟩
   refine ⟨rfl,[6],[none,Zb (lay (.inf o x y) out)],by simp,by simp [go_sem],by simp [go_sem],?_,by simp [go_sem],?_⟩
   ·simp [go_sem,Zb]
    refine Yo (o:=⟨o.text,o.kind+2,((lay x out).length:Int)-1,((lay y (lay x out)).length:Int)-1⟩) (by simp [lay]) fun j hj=>?_
    exact Yk (lay y (lay x out)) ⟨o.text,o.kind+2,((lay x out).length:Int)-1,((lay y (lay x out)).length:Int)-1⟩ j hj
   ·simp [go_sem,Zb]
theorem Z9:∀ (e:PT) (out:List PNode),out.length<(lay e out).length
 | .leaf _,out=>by simp [lay]
 | .grp e,out=>by have:=Z9 e out;simp [lay];omega
 | .pre _ e,out=>by have:=Z9 e out;simp [lay];omega
 | .post _ e,out=>by have:=Z9 e out;simp [lay];omega
 | .inf _ x y,out=>by have:=Z9 x out;have:=Z9 y (lay x out);simp [lay];omega
def Xe:PT→Prop
 | .leaf _=>True
 | .grp e=>Xe e
 | .pre o e=>o.kind=1∧Xe e
 | .post o e=>o.kind=3∧Xe e
 | .inf o x y=>o.kind=2∧Xe x∧Xe y
theorem QO:∀ (e:PT) (out:List PNode),Xe e→(lay e out).length≤3000000→WR e out
 | .leaf b,out,_,hl=>ZgC b out (by have:=Z9 (.leaf b) out;omega)
 | .grp e,out,hk,hl=>by
  have h1:=Z9 e out
  have h2:(lay e out).length<(lay (.grp e) out).length:=by simp [lay]
  exact ZeW e out (QO e out hk (by omega)) (by omega) (by omega)
 | .pre o e,out,hk,hl=>by
  have h1:=Z9 e out
  have h2:(lay e out).length<(lay (.pre o e) out).length:=by simp [lay]
  exact Zh9 o hk.1 e out (QO e out hk.2 (by omega)) (by omega) (by omega)
 | .post o e,out,hk,hl=>by
  have h1:=Z9 e out
  have h2:(lay e out).length<(lay (.post o e) out).length:=by simp [lay]
  exact ZgB o hk.1 e out (QO e out hk.2 (by omega)) (by omega) (by omega)
 | .inf o x y,out,hk,hl=>by
  have h1:=Z9 x out
  have h2:=Z9 y (lay x out)
  have h3:(lay y (lay x out)).length<(lay (.inf o x y) out).length:=by simp [lay]
  exact Zia o hk.1 x y out (QO x out hk.2.1 (by omega)) (QO y (lay x out) hk.2.2 (by omega)) (by omega) (by omega) (by omega) (by omega)
end Go.Proofs.YtjdmmhcogmepaaaGreatDoor.V
namespace Go.Proofs.YtjdmmhcogmepaaaGreatDoor.V
open Go.RowKit
open Go.Proofs.YtjdmmhcogmepaaaGreatDoor.Ops (Tr Tk Lv Res Fit)
theorem Zgk {l:List POp} {t:List PTok} {n:Nat} (hu:WB l) (hn:t.length=n+1) (h:∀ j,j<t.length→0≤ZI l t j (Ye l t j)) (hk7:(Zj t n).kind=7):∀ (m i d:Nat),i+m=n→(d:Int)=ZJ t i→∃ ts:List TkP,Yi l t i ts∧Fit (!Ye l t i) d ts:=by
 intro m
 induction m with
 |zero=>
  intro i d hi hd
  obtain rfl:i=n:=by omega
  have hr:=h i (by omega)
  refine ⟨[],⟨by omega,hk7⟩,?_⟩
  cases hs:Ye l t i with
  |false=>rw [hs] at hr;simp [ZI,hk7] at hr
  |true=>
   rw [hs] at hr
   simp only [ZI,hk7] at hr
   simp at hr
   simp only [Bool.not_true,Fit]
   split at hr
   ·omega
   ·omega
 |succ m ih=>
  intro i d hi hd
  have hr:=h i (by omega)
  have nxt:∀ (st:Bool) (d':Nat),Ye l t (i+1)=st→(d':Int)=ZJ t (i+1)→∃ ts:List TkP,Yi l t (i+1) ts∧Fit (!st) d' ts:=fun st d' h1 h2=>by
   obtain ⟨ts,g1,g2⟩:=ih (i+1) d' (by omega) h2
   rw [h1] at g2
   exact ⟨ts,g1,g2⟩
  cases hs:Ye l t i with
  |false=>
   rw [hs] at hr
   by_cases k12:(Zj t i).kind=1∨(Zj t i).kind=2
   ·obtain ⟨ts,g1,g2⟩:=nxt true d (by rcases k12 with e|e<;>simp [Ye,e]) (by rcases k12 with e|e<;>simp [ZJ,e,hd])
    exact ⟨.leaf ((Zj t i).kind,(Zj t i).text)::ts,⟨⟨k12,rfl⟩,g1⟩,g2⟩
   ·by_cases k4:(Zj t i).kind=4
    ·obtain ⟨ts,g1,g2⟩:=nxt false (d+1) (by simp [Ye,k4]) (by simp [ZJ,k4];omega)
     exact ⟨.opn::ts,⟨k4,g1⟩,g2⟩
    ·simp only [ZI,if_true] at hr
     rw [if_neg (by omega)] at hr
     split at hr
     ·rename_i h3
      obtain ⟨j,hj,e1,e2⟩:=(YU l _ _).1 h3.2
      obtain ⟨ts,g1,g2⟩:=nxt false d (by simp [Ye,h3.1,hs]) (by simp [ZJ,h3.1,hd])
      exact ⟨.pre (Zm l j)::ts,⟨⟨h3.1,e1,e2,j,hj,rfl⟩,g1⟩,g2⟩
     ·omega
  |true=>
   rw [hs] at hr
   simp only [ZI,Bool.true_eq_false,if_false] at hr
   split at hr
   ·rename_i h3
    obtain ⟨j,hj,e1,e2⟩:=(YU l _ _).1 h3.2
    have no3:ZQ l (Zj t i).text 3=false:=by
     cases e:ZQ l (Zj t i).text 3 with
     |false=>rfl
     |true=>
      obtain ⟨j',hj',e1',e2'⟩:=(YU l _ _).1 e
      have:=hu j j' hj hj' (by rw [e1,e1']) (by rw [e2,e2'];rfl)
      rw [this,e2'] at e2;omega
    obtain ⟨ts,g1,g2⟩:=nxt false d (by simp [Ye,h3.1,no3]) (by simp [ZJ,h3.1,hd])
    exact ⟨.inf (Zm l j)::ts,⟨⟨h3.1,e1,e2,j,hj,rfl⟩,g1⟩,g2⟩
   ·split at hr
    ·rename_i h3
     obtain ⟨j,hj,e1,e2⟩:=(YU l _ _).1 h3.2
     obtain ⟨ts,g1,g2⟩:=nxt true d (by simp [Ye,h3.1,hs,h3.2]) (by simp [ZJ,h3.1,hd])
     exact ⟨.post (Zm l j)::ts,⟨⟨h3.1,e1,e2,j,hj,rfl⟩,g1⟩,g2⟩
    ·split at hr
     ·rename_i h5
      obtain ⟨ts,g1,g2⟩:=nxt true (d-1) (by simp [Ye,h5.1]) (by simp [ZJ,h5.1];omega)
      refine ⟨.cls::ts,⟨h5.1,g1⟩,?_⟩
      obtain ⟨d',rfl⟩:∃ d',d=d'+1:=⟨d-1,by omega⟩
      simpa [Fit] using g2
     ·split at hr
      ·rename_i h7
       exfalso;omega
      ·exfalso;omega
theorem ZkL {l:List POp} {t:List PTok} (hu:WB l) (hr:(Z8 l t).2=-1):∃ ts:List TkP,Yi l t 0 ts∧Fit true 0 ts:=by
 unfold Z8 at hr
 split at hr
 ·simp at hr
 ·split at hr
  ·simp at hr
  ·rename_i hb
   split at hr
   ·rename_i he
    simp [VG] at he
    obtain ⟨n,hn⟩:∃ n,t.length=n+1:=⟨t.length-1,by have:t.length≠0:=fun e=>he.1 (List.eq_nil_of_length_eq_zero e);omega⟩
    have h0:∀ j,j<t.length→0≤ZI l t j (Ye l t j):=fun j hj=>by
     unfold U9 at hb
     rw [List.find?_eq_none] at hb
     have:=hb j (by simpa using hj)
     simp at this;exact this
    exact Zgk hu hn h0 (by have:=he.2;rw [hn] at this;simpa using this) n 0 0 (by omega) (by simp [ZJ])
   ·simp at hr
theorem XZ {l:List POp} (h:Yv l=0) (j:Nat) (hj:j<l.length):Yx (Zm l j)=true:=by
 have:=ZcB h
 unfold Wr at this
 rw [List.all_eq_true] at this
 exact this j (by simpa using hj)
def InL (l:List POp) (o:POp):Prop:=∃ j,j<l.length∧Zm l j=o
theorem ZbE {l:List POp} (h:Yv l=0):Ops.Good lvO (InL l):=by
 have hc:Y0 l 4=false:=by
  unfold Yv at h
  cases hh:Y0 l 4
  ·rfl
  ·rw [hh] at h
   split at h
   ·cases h
   ·split at h
    ·cases h
    ·split at h
     ·cases h
     ·simp at h
 have no:∀ i j,i<l.length→j<i→X3 (Zm l i) (Zm l j) 4=true→False:=fun i j hi hj hcl=>by
  have:=(XQ l 4).2 ⟨i,hi,j,hj,hcl⟩
  rw [hc] at this
  cases this
 refine ⟨fun a ⟨j,hj,e⟩=>?_,fun a ⟨j,hj,e⟩=>?_,fun a b ⟨i,hi,e⟩ ⟨j,hj,e2⟩ hl=>?_⟩
 ·have:=XZ h j hj
  rw [e] at this
  exact (V2 this).1
 ·have:=XZ h j hj
  rw [e] at this
  exact (V2 this).2
 ·subst e;subst e2
  have hl':(Zm l i).level=(Zm l j).level:=hl
  show XF (Zm l i)=XF (Zm l j)
  rcases Nat.lt_trichotomy i j with hlt|rfl|hlt
  ·by_cases hs:XF (Zm l i)=XF (Zm l j)
   ·exact hs
   ·exact (no j i hj hlt (by simp [X3,hl',Ne.symm hs])).elim
  ·rfl
  ·by_cases hs:XF (Zm l i)=XF (Zm l j)
   ·exact hs
   ·exact (no i j hi hlt (by simp [X3,hl',hs])).elim
end Go.Proofs.YtjdmmhcogmepaaaGreatDoor.V
namespace Go.Proofs.YtjdmmhcogmepaaaGreatDoor.V
open Go.RowKit
open Go.Maps (Keyed)
def Jt (z:ByteArray) (k:Int) (o:POp):Bool:=decide (o.text=z)&&decide (o.kind=k)
def JX (l:List POp) (z:ByteArray) (k:Int):POp:=(l.find? (Jt z k)).getD noOp
theorem Zk9 {l:List POp} {z:ByteArray} {k:Int}:∀ {i:Nat},i<l.length→Jt z k (Zm l i)=true→(∀ j,j<i→Jt z k (Zm l j)=false)→l.find? (Jt z k)=some (Zm l i):=by
 induction l with
 |nil=>intro i h;simp at h
 |cons a r ih=>
  intro i h h1 h2
  cases i with
  |zero=>
   have e:Zm (a::r) 0=a:=rfl
   rw [e] at h1 ⊢
   simp [List.find?_cons,h1]
  |succ i=>
   have e0:=h2 0 (by omega)
   have e:Zm (a::r) 0=a:=rfl
   have es:∀ j,Zm (a::r) (j+1)=Zm r j:=fun j=>rfl
   rw [e] at e0
   rw [List.find?_cons,e0]
   simp only [es] at h1 ⊢
   exact ih (by simpa using h) h1 fun j hj=>by
    have:=h2 (j+1) (by omega)
    rw [es] at this;exact this
theorem Zhx {l:List POp} {z:ByteArray} {k:Int} {i:Nat} (h:i<l.length) (h1:Jt z k (Zm l i)=true) (h2:∀ j,j<i→Jt z k (Zm l j)=false):JX l z k=Zm l i:=by
 unfold JX;rw [Zk9 h h1 h2];rfl
theorem QN {l:List POp} {z:ByteArray} {k:Int} (h:ZQ l z k=true):∃ i,i<l.length∧JX l z k=Zm l i∧(Zm l i).text=z∧(Zm l i).kind=k:=by
 obtain ⟨j,hj,e1,e2⟩:=(YU l z k).1 h
 have key:∀ n,(∃ j,j<n∧j<l.length∧Jt z k (Zm l j)=true)→∃ i,i<l.length∧Jt z k (Zm l i)=true∧∀ j,j<i→Jt z k (Zm l j)=false:=by
  intro n
  induction n with
  |zero=>rintro ⟨j,hj,_⟩;omega
  |succ n ih=>
   rintro ⟨j,hj,hl,h⟩
   by_cases hx:∃ j,j<n∧j<l.length∧Jt z k (Zm l j)=true
   ·exact ih hx
   ·refine ⟨j,hl,h,fun q hq=>?_⟩
    cases e:Jt z k (Zm l q) with
    |false=>rfl
    |true=>exact absurd ⟨q,by omega,by omega,e⟩ hx
 obtain ⟨i,hi,g1,g2⟩:=key (j+1) ⟨j,by omega,hj,by simp [Jt,e1,e2]⟩
 simp only [Jt,Bool.and_eq_true,decide_eq_true_eq] at g1
 exact ⟨i,hi,Zhx hi (by simp [Jt,g1]) g2,g1.1,g1.2⟩
theorem Gz (l:List POp) (hl:l.length≤9223372036854775807) (z:ByteArray) (kd:Int):VFun Tryz.prog 82 [.agg [.sl 4 l.length (Zg l)],.lit (.string z),.lit (.int .i64 kd)] (fun av obs=>obs=[]∧((av=.lit (.int .i64 (-1))∧ZQ l z kd=false)∨∃ i:Nat,av=.lit (.int .i64 i)∧i<l.length∧ZQ l z kd=true∧JX l z kd=Zm l i)):=by
 have cl:∀ (i:Nat) (c:AV),i<l.length→c∈Zg l i→Closed c:=fun i c _ h=>ZK l i c h
 refine Zi Tryz.func82 (by kernel_rfl) rfl (by simp [Tryz.ntmps82]) ?_;simp only [Tryz.ntmps82,Tryz.results82];simp [go_sem]
 refine Yn (fun i:Nat=>i≤l.length∧∀ j,j<i→¬((Zm l j).text=z∧(Zm l j).kind=kd)) (fun i=>l.length-i) (fun i=>.of [(1,.lit (.string z)),(2,.lit (.int .i64 kd)),(3,.ptr 0 1 0 0),(7,.lit (.int .i64 i))] [some ⟨30,1,1,fun _=>[.sl 4 l.length (Zg l)]⟩]) ⟨0,⟨by omega,by simp⟩,?_⟩ (fun i hi=>?_)
 ·simp [go_sem]
  exact cl
 ·simp [go_sem,ZU,X4]
  have step:¬((Zm l i).text=z∧(Zm l i).kind=kd)→∀ j,j<i+1→¬((Zm l j).text=z∧(Zm l j).kind=kd):=fun e j hj=>by
   rcases Nat.lt_succ_iff_lt_or_eq.mp hj with hj|rfl
   ·exact hi.2 j hj
   ·exact e
  refine ⟨by omega,fun h=>?_,fun h=>?_⟩
  ·have cl2:∀ (i:Nat) (c:AV),i<l.length→c=AV.lit (Value.string (Zm l i).text)∨c=AV.lit (Value.int IntKind.i64 (Zm l i).kind)∨c=AV.lit (Value.int IntKind.i64 (Zm l i).level)∨c=AV.lit (Value.int IntKind.i64 (Zm l i).side)→Closed c:=by
    rintro i c _ (rfl|rfl|rfl|rfl)<;>exact .lit _
   refine ⟨h,fun e1=>⟨h,fun e2=>?_,fun e2=>⟨i+1,⟨by omega,fun j hj e3 e4=>step (fun e5=>e2 e5.2) j hj ⟨e3,e4⟩⟩,by omega,Zn (by omega),cl2⟩⟩,fun e1=>⟨i+1,⟨by omega,fun j hj e3 e4=>step (fun e5=>e1 e5.1) j hj ⟨e3,e4⟩⟩,by omega,Zn (by omega),cl2⟩⟩
   refine ⟨i,rfl,h,(YU l z kd).2 ⟨i,h,e1,e2⟩,Zhx h (by simp [Jt,e1,e2]) fun j hj=>?_⟩
   have:=hi.2 j hj
   simpa [Jt] using this
  ·simp only [ZQ,List.any_eq_false,List.mem_range]
   exact fun j hj=>by
    have:=hi.2 j (by omega)
    simp only [Bool.and_eq_true,decide_eq_true_eq]
    exact this
def ZO (o:PNode):Bool:=decide (3≤o.kind∧o.kind≤5)
def YJ (l:List POp) (n:PNode):POp:=JX l n.text (n.kind-2)
def Uk (l:List POp) (n:PNode):Int:=if ZO n then (YJ l n).level else 1001
def Qo (l:List POp) (t:List PNode) (i:Nat):Bool:=!ZO (Za t i)||(decide (ZH (YJ l (Za t i)) false≤Uk l (Za t (Za t i).a.toNat))&&(decide (Zv (Za t i).kind=1)||decide (ZH (YJ l (Za t i)) true≤Uk l (Za t (Za t i).b.toNat))))
def Kj (l:List POp) (t:List PNode):Bool:=(List.range t.length).all fun i=>!ZO (Za t i)||ZQ l (Za t i).text ((Za t i).kind-2)
def XX (l:List POp) (t:List PNode):Bool:=decide (Yv l=0)&&Xd t&&Kj l t
theorem Gr {t:List PNode} (h:Xd t=true) {i:Nat} (hi:i<t.length):YL (Za t i)=true∧(1≤(Za t i).kind∧(Za t i).kind≤6)∧(Zv (Za t i).kind≠0→0≤(Za t i).a∧(Za t i).a<i)∧(Zv (Za t i).kind=2→0≤(Za t i).b∧(Za t i).b<i):=by
 simp only [Xd,Bool.and_eq_true,decide_eq_true_eq] at h
 obtain ⟨⟨h1,h2⟩,h3⟩:=h
 have hx:=List.all_eq_true.1 h3 i (List.mem_range.2 hi)
 have e1:(t.length:Int)-1=((t.length-1:Nat):Int):=by omega
 rw [e1] at h2
 have h0:=Ji t (t.length-1) i (by omega) (by omega) (by omega)
 rw [YP] at h0
 have hk:1≤(Za t i).kind∧(Za t i).kind≤6:=Decidable.byContradiction fun hn=>by rw [Qi hn] at hx;cases hx
 refine ⟨hx,hk,fun hk0=>?_,fun hk2=>?_⟩
 ·rw [if_neg hk0] at h0
  split at h0
  ·split at h0
   ·omega
   ·rename_i hn
    by_cases hz:i=0
    ·subst hz;rw [Yt t (by omega)] at h0;omega
    ·omega
  ·split at h0
   ·omega
   ·split at h0
    ·omega
    ·rename_i hb hn
     have:=XR t (i:=(i:Int)-1)
     by_cases hz:i=0
     ·subst hz;rw [Yt t (by omega)] at hn;omega
     ·have:=this (by omega)
      omega
 ·rw [if_neg (by omega),if_neg (by omega)] at h0
  split at h0
  ·omega
  ·split at h0
   ·omega
   ·rename_i hb hn
    by_cases hz:i=0
    ·subst hz;rw [Yt t (by omega)] at hn;omega
    ·omega
theorem HA {l:List POp} (hw:YT l) {z:ByteArray} {k:Int} (h:ZQ l z k=true):(JX l z k).wf:=by
 obtain ⟨i,hi,e,_⟩:=QN h
 rw [e];exact hw i hi
theorem VJ (o:PNode):VFun Tryz.prog 81 [.agg o.cells] (fun av obs=>obs=[]∧av=.lit (.bool (ZO o))):=by
 obtain ⟨z,k,x,y⟩:=o
 simp only [PNode.cells]
 refine Zi Tryz.func81 (by kernel_rfl) rfl (by simp [Tryz.ntmps81]) ?_;simp only [Tryz.ntmps81,Tryz.results81];simp [go_sem]
 simp [ZO]
 omega
theorem ZbW (l:List POp) (hl:l.length≤9223372036854775807) (n:PNode) (hk:ZO n=true) (h:ZQ l n.text (n.kind-2)=true):VFun Tryz.prog 83 [.agg [.sl 4 l.length (Zg l)],.agg n.cells] (fun av obs=>obs=[]∧av=.agg (YJ l n).cells):=by
 have cl:∀ (i:Nat) (c:AV),i<l.length→c∈Zg l i→Closed c:=fun i c _ h=>ZK l i c h
 obtain ⟨z,k,x,y⟩:=n
 simp only [ZO,decide_eq_true_eq] at hk
 simp only [PNode.cells] at h ⊢
 have e1:IntKind.i64.wrap (k-2)=k-2:=wrap_i64 (by omega)
 refine Zi Tryz.func83 (by kernel_rfl) rfl (by simp [Tryz.ntmps83]) ?_;simp only [Tryz.ntmps83,Tryz.results83];simp [go_sem]
 refine Zq [11] (.q 0 <| .q 1 <| .q 2 <| .q 3 <| .q 4 <| .q 5 <| .q 6 <| .q 7 <| .or 8 (.q 9 <| .q 10 <| .or 11 (.done) (.nil)) (.nil)) (by kernel_rfl) ?_
 simp [go_sem,e1]
 refine Xv (Gz l hl z (k-2)) ?_ ?_
 ·simp [go_sem]
  exact Ze (by omega) cl
 ·rintro av obs ⟨rfl,⟨rfl,hn⟩|⟨i,rfl,hi,_,he⟩⟩
  ·rw [h] at hn;cases hn
  ·simp [go_sem,ZU]
   refine ⟨hi,?_⟩
   simp [YJ,he,POp.cells]
theorem Gy (l:List POp) (hl:l.length≤9223372036854775807) (n:PNode) (h:ZO n=true→ZQ l n.text (n.kind-2)=true):VFun Tryz.prog 84 [.agg [.sl 4 l.length (Zg l)],.agg n.cells] (fun av obs=>obs=[]∧av=.lit (.int .i64 (Uk l n))):=by
 have cl:∀ (i:Nat) (c:AV),i<l.length→c∈Zg l i→Closed c:=fun i c _ h=>ZK l i c h
 have c1:=VJ n
 have c2:=ZbW l hl n
 simp only [PNode.cells,POp.cells] at c1 c2 ⊢
 refine Zi Tryz.func84 (by kernel_rfl) rfl (by simp [Tryz.ntmps84]) ?_;simp only [Tryz.ntmps84,Tryz.results84];simp [go_sem]
 refine Zc c1 ?_ ?_
 ·simp [go_sem]
 ·cases hk:ZO n with
  |true=>
   simp [go_sem]
   refine Vp (c2 hk (h hk)) ?_ ?_ ?_
   ·simp [go_sem]
    exact Ze (by omega) cl
   ·simp [go_sem]
   ·simp [go_sem,Uk,hk]
  |false=>simp [go_sem,Uk,hk]
theorem ZbY (l:List POp) (hl:l.length≤9223372036854775807) (hw:YT l) (t:List PNode) (ht:t.length≤9223372036854775807) (i:Nat) (hi:i<t.length) (ha:ZO (Za t i)=true→ZQ l (Za t i).text ((Za t i).kind-2)=true∧(0≤(Za t i).a∧(Za t i).a<t.length)∧(ZO (Za t (Za t i).a.toNat)=true→ZQ l (Za t (Za t i).a.toNat).text ((Za t (Za t i).a.toNat).kind-2)=true)∧
  (Zv (Za t i).kind≠1→(0≤(Za t i).b∧(Za t i).b<t.length)∧(ZO (Za t (Za t i).b.toNat)=true→ZQ l (Za t (Za t i).b.toNat).text ((Za t (Za t i).b.toNat).kind-2)=true))) :
  VFun Tryz.prog 41 [.agg [.sl 4 l.length (Zg l)],.sl 4 t.length (Zf t),.lit (.int .i64 i)] (fun av obs=>obs=[]∧av=.lit (.bool (Qo l t i))):=by
 have cl:∀ (i:Nat) (c:AV),i<l.length→c∈Zg l i→Closed c:=fun i c _ h=>ZK l i c h
 have c1:=VJ (Za t i)
 have c2:=ZbW l hl (Za t i)
 simp only [PNode.cells,POp.cells] at c1 c2
 refine Zi Tryz.func41 (by kernel_rfl) rfl (by simp [Tryz.ntmps41]) ?_;simp only [Tryz.ntmps41,Tryz.results41];simp [go_sem]
 simp [go_sem,Zz]
 refine ⟨hi,Zc c1 ?_ ?_⟩
 ·simp [go_sem]
 ·cases hk:ZO (Za t i) with
  |false=>simp [go_sem,Qo,hk]
  |true=>
   obtain ⟨h1,h2,h3,h4⟩:=ha hk
   have howf:(YJ l (Za t i)).wf:=HA hw h1
   simp [go_sem]
   refine Vp (c2 hk h1) ?_ ?_ ?_
   ·simp [go_sem]
    exact Ze (by omega) cl
   ·simp [go_sem]
   ·simp [go_sem]
    refine Zq [] (.q 0 <| .q 1 <| .q 2 <| .q 3 <| .q 4 <| .q 5 <| .q 7 <| .or 6 (.or 8 (.q 9 <| .done) (.nil)) (.nil)) (by kernel_rfl) ?_
    simp [go_sem,Zz]
    have c3:=Gy l hl (Za t (Za t i).a.toNat) h3
    have c4:=ZfB (YJ l (Za t i)) howf
    simp only [PNode.cells,POp.cells] at c3 c4
    refine ⟨h2.1,h2.2,Zu c3 ?_ ?_⟩
    ·simp [go_sem]
     exact Ze (by omega) cl
    ·simp [go_sem]
     refine Zu (c4 false) ?_ ?_
     ·simp [go_sem]
     ·simp [go_sem]
      refine ⟨fun h5=>by simp [Qo,hk];omega,fun h5=>Zq [] (.q 0 <| .q 1 <| .or 2 (.q 3 <| .q 4 <| .q 5 <| .q 6 <| .q 7 <| .q 8 <| .q 9 <| .q 10 <| .q 12 <| .or 11 (.or 13 (.q 14 <| .q 15 <| .q 16 <| .done) (.nil)) (.nil)) (.nil)) (by kernel_rfl) ?_⟩
      simp [go_sem]
      refine Zu (Yh (Za t i).kind) ?_ ?_
      ·simp [go_sem]
      ·by_cases hk1:Zv (Za t i).kind=1
       ·simp [go_sem,hk1,Qo,hk,h5]
       ·obtain ⟨h6,h7⟩:=h4 hk1
        have c5:=Gy l hl (Za t (Za t i).b.toNat) h7
        simp only [PNode.cells] at c5
        simp [go_sem,hk1,Zz]
        refine ⟨h6.1,h6.2,Zu c5 ?_ ?_⟩
        ·simp [go_sem]
         exact Ze (by omega) cl
        ·simp [go_sem]
         refine Zu (c4 true) ?_ ?_
         ·simp [go_sem]
         ·simp [go_sem,Qo,hk,h5,hk1]
theorem ZbV (l:List POp) (hl:l.length≤9223372036854775807) (hw:YT l) (t:List PNode) (ht:t.length≤9223372036854775807) (hwt:∀ i,i<t.length→(Za t i).wf):VFun Tryz.prog 40 [.agg [.sl 4 l.length (Zg l)],.agg [.sl 4 t.length (Zf t)]] (fun av obs=>obs=[]∧av=.lit (.bool (XX l t))):=by
 have cl:∀ (i:Nat) (c:AV),i<l.length→c∈Zg l i→Closed c:=fun i c _ h=>ZK l i c h
 have clt:∀ (i:Nat) (c:AV),i<t.length→c∈Zf t i→Closed c:=fun i c _ h=>ZG t i c h
 refine Zi Tryz.func40 (by kernel_rfl) rfl (by simp [Tryz.ntmps40]) ?_;simp only [Tryz.ntmps40,Tryz.results40];simp [go_sem]
 refine Zc (Va l hl hw) ?_ ?_
 ·simp [go_sem]
  exact Ze (by omega) cl
 ·simp [go_sem]
  refine ⟨fun h0=>?_,fun h0=>by simp [XX,h0]⟩
  refine Zc (Zaa t ht hwt) ?_ ?_
  ·simp [go_sem]
   exact Ze (by omega) clt
  ·simp [go_sem]
   refine ⟨fun h1=>by simp [XX,h1],fun h1=>?_⟩
   refine Yn (fun i:Nat=>i≤t.length∧∀ j,j<i→ZO (Za t j)=true→ZQ l (Za t j).text ((Za t j).kind-2)=true) (fun i=>t.length-i)
    (fun i=>.of [(2,.ptr 0 1 0 0),(3,.ptr 1 1 0 0),(5,.lit (.int .i64 i))] [some ⟨30,1,1,fun _=>[.sl 4 l.length (Zg l)]⟩,some ⟨37,1,1,fun _=>[.sl 4 t.length (Zf t)]⟩]) ⟨0,⟨by omega,by simp⟩,?_⟩ (fun i hi=>?_)
   ·simp [go_sem]
    exact ⟨cl,clt⟩
   ·simp [go_sem,Zz]
    have c1:=VJ (Za t i)
    simp only [PNode.cells] at c1
    have next:i<t.length→(ZO (Za t i)=true→ZQ l (Za t i).text ((Za t i).kind-2)=true)→i+1≤t.length∧∀ j,j<i+1→ZO (Za t j)=true→ZQ l (Za t j).text ((Za t j).kind-2)=true:=fun h e=>⟨by omega,fun j hj=>by
     rcases Nat.lt_succ_iff_lt_or_eq.mp hj with hj|rfl
     ·exact hi.2 j hj
     ·exact e⟩
    refine ⟨by omega,fun h=>⟨h,Zc c1 ?_ ?_⟩,fun h=>?_⟩
    ·simp [go_sem]
    ·cases hk:ZO (Za t i) with
     |false=>
      simp [go_sem]
      exact ⟨i+1,next h (fun e=>by rw [hk] at e;cases e),by omega,Zn (by omega),cl,clt⟩
     |true=>
      have hk':=hk
      simp only [ZO,decide_eq_true_eq] at hk'
      have e1:IntKind.i64.wrap ((Za t i).kind-2)=(Za t i).kind-2:=wrap_i64 (by omega)
      simp [go_sem,e1]
      refine ZR (Gz l hl (Za t i).text ((Za t i).kind-2)) ?_ ?_
      ·simp [go_sem]
       exact Ze (by omega) cl
      ·rintro av obs ⟨rfl,⟨rfl,hn⟩|⟨q,rfl,hq,hp,he⟩⟩
       ·simp [go_sem]
        simp only [XX,Kj,X5 (p:=fun i=>!ZO (Za t i)||ZQ l (Za t i).text ((Za t i).kind-2)) h (by simp [hk,hn]),Bool.and_false]
       ·simp [go_sem,show ¬((q:Int)<0) by omega]
        exact ⟨i+1,next h (fun _=>hp),by omega,Zn (by omega),cl,clt⟩
    ·have hl1:i=t.length:=by omega
     subst hl1
     simp only [XX,Kj,VL (p:=fun i=>!ZO (Za t i)||ZQ l (Za t i).text ((Za t i).kind-2)) (n:=t.length) fun j hj=>by
      cases hk:ZO (Za t j) with
      |false=>rfl
      |true=>simp [hi.2 j hj hk],h0,h1,decide_true,Bool.and_true]
end Go.Proofs.YtjdmmhcogmepaaaGreatDoor.V
namespace Go.Proofs.YtjdmmhcogmepaaaGreatDoor.V
open Go.RowKit
open Go.Proofs.YtjdmmhcogmepaaaGreatDoor.Ops (Tr Tk Lv Res Fit)
theorem Zki (l:List POp) (hl:l.length≤9223372036854775807) (t:List PTok) (ht:t.length≤1048576) (rs:List Int) (i:Nat) (hi:i<t.length) (hr:i<rs.length) (h:ZQ l (Zj t i).text (YO rs i)=true) :
  VFun Tryz.prog 137 [.agg [.sl 4 l.length (Zg l)],.sl 3 t.length (Zr t),.sl 1 rs.length (ZA rs),.lit (.int .i64 i)] (fun av obs=>obs=[]∧av=.agg (JX l (Zj t i).text (YO rs i)).cells):=by
 have cl:∀ (i:Nat) (c:AV),i<l.length→c∈Zg l i→Closed c:=fun i c _ h=>ZK l i c h
 have cf:=Gz l hl (Zj t i).text (YO rs i)
 refine Zi Tryz.func137 (by kernel_rfl) rfl (by simp [Tryz.ntmps137]) ?_;simp only [Tryz.ntmps137,Tryz.results137];simp [go_sem]
 refine Zq [15] (.q 0 <| .q 1 <| .q 2 <| .q 3 <| .q 4 <| .q 5 <| .q 6 <| .q 7 <| .q 8 <| .q 9 <| .q 10 <| .q 11 <| .or 12 (.q 13 <| .q 14 <| .or 15 (.done) (.nil)) (.nil)) (by kernel_rfl) ?_
 simp [go_sem,Zo,Z7,hi,hr]
 refine Xv cf ?_ ?_
 ·simp [go_sem]
  exact Ze (by omega) cl
 ·rintro av obs ⟨rfl,⟨rfl,hn⟩|⟨q,rfl,hq,_,he⟩⟩
  ·rw [h] at hn;cases hn
  ·simp [go_sem,ZU]
   refine ⟨hq,?_⟩
   simp [he,POp.cells]
def XG:TkP→Int
 | .pre _=>1
 | .inf _=>2
 | .post _=>3
 | _=>0
theorem Y5 {l:List POp} {o:POp} {z:ByteArray} (hu:WB l) (h1:o.text=z) (hj:∃ j,j<l.length∧Zm l j=o):ZQ l z o.kind=true∧JX l z o.kind=o:=by
 obtain ⟨j,hj,rfl⟩:=hj
 have hh:ZQ l z (Zm l j).kind=true:=(YU l z _).2 ⟨j,hj,h1,rfl⟩
 obtain ⟨i,hi,e1,e2,e3⟩:=QN hh
 exact ⟨hh,e1.trans (hu i j hi hj (by rw [e2,h1]) (by rw [e3]))⟩
def YW (l:List POp) (t:List PTok) (rs:List Int):Nat→List TkP→Prop
 | _,[]=>True
 |i,tk::r=>Vc l (Zj t i) tk∧YO rs i=XG tk∧YW l t rs (i+1) r
theorem UV {l:List POp} {t:List PTok} {rs:List Int}:∀ {s:List TkP} {i k:Nat} {tk:TkP},YW l t rs i s→s[k]?=some tk→Vc l (Zj t (i+k)) tk∧YO rs (i+k)=XG tk
 |[],i,k,tk,_,h=>by simp at h
 |x::r,i,0,tk,hs,h=>by
  simp at h;subst h
  exact ⟨hs.1,hs.2.1⟩
 |x::r,i,k+1,tk,hs,h=>by
  have:=UV hs.2.2 (by simpa using h)
  rw [show i+(k+1)=i+1+k by omega];exact this
theorem Zjo {l:List POp} {t:List PTok} {rs:List Int} (hu:WB l) {s:List TkP} {i k:Nat} {tk:TkP} {o:POp} (hs:YW l t rs i s) (h:s[k]?=some tk) (ho:tk.op?=some o):ZQ l (Zj t (i+k)).text (YO rs (i+k))=true∧JX l (Zj t (i+k)).text (YO rs (i+k))=o:=by
 obtain ⟨h1,h2⟩:=UV hs h
 rw [h2]
 cases tk with
 |pre o'=>
  simp [Tk.op?] at ho;subst ho
  have:=Y5 hu h1.2.1 h1.2.2.2
  rw [h1.2.2.1] at this;exact this
 |inf o'=>
  simp [Tk.op?] at ho;subst ho
  have:=Y5 hu h1.2.1 h1.2.2.2
  rw [h1.2.2.1] at this;exact this
 |post o'=>
  simp [Tk.op?] at ho;subst ho
  have:=Y5 hu h1.2.1 h1.2.2.2
  rw [h1.2.2.1] at this;exact this
 | _=>simp [Tk.op?] at ho
def Ul (a:Nat):Option (Nat×POp)→Int
 |none=>-1
 |some x=>(a+x.1:Nat)
structure AtRoot (s:List TkP) (i:Nat) (d:Int) (best:Option (Nat×POp)):Prop where
 le:i≤s.length
 dle : -(i:Int)≤d∧d≤i
 run:Ops.root lvO s 0 0 none=Ops.root lvO (s.drop i) i d best
 has:∀ k o,best=some (k,o)→k<i∧∃ tk,s[k]?=some tk∧tk.op?=some o
theorem Zhr (tk:TkP) : -1≤tk.turn∧tk.turn≤1:=by cases tk<;>simp [Tk.turn]
theorem Zb7 {s:List TkP} {i:Nat} {d:Int} {best:Option (Nat×POp)} {tk:TkP} (hk:s[i]?=some tk):Ops.root lvO (s.drop i) i d best=Ops.root lvO (tk::s.drop (i+1)) i d best:=by
 obtain ⟨hl,e⟩:=List.getElem?_eq_some_iff.1 hk
 rw [List.drop_eq_getElem_cons hl,e]
theorem ZfK {s:List TkP} {i:Nat} {d:Int} {best:Option (Nat×POp)} {tk:TkP} (h:AtRoot s i d best) (hk:s[i]?=some tk) (hc:d+tk.turn≠0∨tk.op?=none):AtRoot s (i+1) (d+tk.turn) best:=by
 have hl:=(List.getElem?_eq_some_iff.1 hk).1
 have ht:=Zhr tk
 have hd:=h.dle
 refine ⟨by omega,by omega,?_,fun k o e=>⟨by have:=(h.has k o e).1;omega,(h.has k o e).2⟩⟩
 rw [h.run,Zb7 hk,Ops.root]
 split
 ·rename_i h0
  rcases hc with hc|hc
  ·exact absurd h0 hc
  ·rw [hc]
 ·rfl
theorem ZfJ {s:List TkP} {i:Nat} {d:Int} {best:Option (Nat×POp)} {tk:TkP} {o:POp} (h:AtRoot s i d best) (hk:s[i]?=some tk) (h0:d+tk.turn=0) (ho:tk.op?=some o):AtRoot s (i+1) (d+tk.turn) (Ops.better lvO best (i,o)):=by
 have hl:=(List.getElem?_eq_some_iff.1 hk).1
 have ht:=Zhr tk
 have hd:=h.dle
 refine ⟨by omega,by omega,?_,fun k o' e=>?_⟩
 ·rw [h.run,Zb7 hk,Ops.root,if_pos h0,ho]
 ·have new:∀ {k o'},some (i,o)=some (k,o')→k<i+1∧∃ tk,s[k]?=some tk∧tk.op?=some o':=fun e=>by
   simp at e
   obtain ⟨rfl,rfl⟩:=e
   exact ⟨by omega,tk,hk,ho⟩
  unfold Ops.better at e
  split at e
  ·exact new e
  ·rename_i b
   split at e
   ·exact new e
   ·have:=h.has k o' e
    exact ⟨by omega,this.2⟩
set_option maxRecDepth 100000 in
theorem VI (l:List POp) (hl:l.length≤9223372036854775807) (hu:WB l) (t:List PTok) (ht:t.length≤1048576) (rs:List Int) (hrs:rs.length=t.length) (a b:Nat) (s:List TkP) (hab:a+s.length=b) (hb:b≤t.length) (hs:YW l t rs a s) :
  VFun Tryz.prog 112 [.agg [.sl 4 l.length (Zg l)],.sl 3 t.length (Zr t),.sl 1 rs.length (ZA rs),.lit (.int .i64 a),.lit (.int .i64 b)] (fun av obs=>obs=[]∧av=.lit (.int .i64 (Ul a (Ops.root lvO s 0 0 none)))):=by
 have cl:∀ (i:Nat) (c:AV),i<l.length→c∈Zg l i→Closed c:=fun i c _ h=>ZK l i c h
 have clt:∀ (i:Nat) (c:AV),i<t.length→c∈Zr t i→Closed c:=fun i c _ h=>Zs t i c h
 have cli:∀ (i:Nat) (c:AV),i<rs.length→c∈ZA rs i→Closed c:=fun i c _ h=>Yp rs i c h
 refine Zi Tryz.func112 (by kernel_rfl) rfl (by simp [Tryz.ntmps112]) ?_;simp only [Tryz.ntmps112,Tryz.results112];simp [go_sem]
 refine Yn (fun x:Nat×Int×Option (Nat×POp)=>a≤x.1∧AtRoot s (x.1-a) x.2.1 x.2.2) (fun x=>b-x.1) (fun x=>.of [(1,.sl 3 t.length (Zr t)),(2,.sl 1 rs.length (ZA rs)),(4,.lit (.int .i64 b)),(5,.ptr 0 1 0 0),(11,.lit (.int .i64 (Ul a x.2.2))),(12,.lit (.int .i64 x.2.1)),(13,.lit (.int .i64 x.1))] [some ⟨30,1,1,fun _=>[.sl 4 l.length (Zg l)]⟩]) ⟨(a,0,none),⟨Nat.le_refl _,by simp,by simp,by simp,fun k o h=>by cases h⟩,?_⟩ (fun x hx=>?_)
 ·simp [go_sem,Ul]
  exact ⟨⟨clt,cli⟩,cl⟩
 ·obtain ⟨q,d,best⟩:=x
  obtain ⟨haq,hx⟩:=hx
  simp only at haq hx
  obtain ⟨i,hqi⟩:∃ i,q-a=i:=⟨_,rfl⟩
  rw [hqi] at hx
  have hle:=hx.le
  have hd:=hx.dle
  by_cases hlt:q<b
  ·obtain ⟨tk,htk⟩:∃ tk,s[i]?=some tk:=⟨_,List.getElem?_eq_getElem (by omega)⟩
   obtain ⟨hT,hR⟩:=UV hs htk
   rw [show a+i=q by omega] at hT hR
   have skip:=fun hc=>ZfK hx htk hc
   have take:=fun o h0 ho=>ZfJ (o:=o) hx htk h0 ho
   have hqt:q<t.length:=by omega
   have ew:IntKind.i64.wrap ((q:Int)+1)=((q+1:Nat):Int):=Zn (by omega)
   have clt2:∀ (i:Nat) (c:AV),i<t.length→c=AV.lit (Value.int IntKind.i64 (Zj t i).kind)∨c=AV.lit (Value.string (Zj t i).gap)∨c=AV.lit (Value.string (Zj t i).text)→Closed c:=by
    rintro i c _ (rfl|rfl|rfl)<;>exact .lit _
   have out:∀ {best':Option (Nat×POp)} {d':Int},AtRoot s (i+1) d' best'→a≤q+1∧AtRoot s (q+1-a) d' best':=fun h=>⟨by omega,by rw [show q+1-a=i+1 by omega];exact h⟩
   have hcl:(∃ bb,tk=.leaf bb)∨tk=.opn∨tk=.cls∨∃ o,tk.op?=some o∧tk.turn=0∧(Zj t q).kind=3∧XG tk≠0:=by
    cases tk with
    |leaf bb=>exact .inl ⟨bb,rfl⟩
    |opn=>exact .inr (.inl rfl)
    |cls=>exact .inr (.inr (.inl rfl))
    |pre o=>exact .inr (.inr (.inr ⟨o,rfl,rfl,hT.1,by simp [XG]⟩))
    |inf o=>exact .inr (.inr (.inr ⟨o,rfl,rfl,hT.1,by simp [XG]⟩))
    |post o=>exact .inr (.inr (.inr ⟨o,rfl,rfl,hT.1,by simp [XG]⟩))
   rcases hcl with ⟨bb,rfl⟩|rfl|rfl|⟨o,hop,htu,hk3,hr0⟩
   ·have k4:(Zj t q).kind≠4:=by have:=hT.1;omega
    have k5:(Zj t q).kind≠5:=by have:=hT.1;omega
    simp only [XG] at hR
    have sk:=out (skip (.inr rfl))
    simp only [Tk.turn,Int.add_zero] at sk
    by_cases h0:d=0
    ·subst h0
     simp [go_sem,Zo,Z7,hqt,hlt,k4,k5,hrs,hR]
     exact ⟨q+1,0,best,sk,by omega,⟨clt2,rfl,rfl,ew⟩,cl⟩
    ·simp [go_sem,Zo,Z7,hqt,hlt,k4,k5,h0,hrs,hR]
     exact ⟨q+1,d,best,sk,by omega,⟨clt2,rfl,rfl,ew⟩,cl⟩
   ·have k4:(Zj t q).kind=4:=hT
    simp only [XG] at hR
    have sk:=out (skip (.inr rfl))
    simp only [Tk.turn] at sk
    have wd:IntKind.i64.wrap (d+1)=d+1:=wrap_i64 (by omega)
    by_cases h0:d+1=0
    ·simp [go_sem,Zo,Z7,hqt,hlt,k4,wd,h0,hrs,hR]
     exact ⟨q+1,d+1,best,sk,by omega,⟨clt2,rfl,h0.symm,ew⟩,cl⟩
    ·simp [go_sem,Zo,Z7,hqt,hlt,k4,wd,h0,hrs,hR]
     exact ⟨q+1,d+1,best,sk,by omega,⟨clt2,rfl,rfl,ew⟩,cl⟩
   ·have k5:(Zj t q).kind=5:=hT
    simp only [XG] at hR
    have sk:=out (skip (.inr rfl))
    simp only [Tk.turn] at sk
    have wd:IntKind.i64.wrap (d-1)=d-1:=wrap_i64 (by omega)
    by_cases h0:d-1=0
    ·simp [go_sem,Zo,Z7,hqt,hlt,k5,wd,h0,hrs,hR]
     refine ⟨q+1,d+-1,best,sk,by omega,⟨clt2,rfl,?_,ew⟩,cl⟩
     first|omega|(rw [show IntKind.i64.wrap 0=0 by decide];omega)
    ·simp [go_sem,Zo,Z7,hqt,hlt,k5,wd,h0,hrs,hR]
     refine ⟨q+1,d+-1,best,sk,by omega,⟨clt2,rfl,?_,ew⟩,cl⟩
     first|omega|(rw [show IntKind.i64.wrap 0=0 by decide];omega)
   ·by_cases h0:d=0
    ·subst h0
     have tk1:=out (take o (by omega) hop)
     rw [htu,Int.add_zero] at tk1
     obtain ⟨ho1,ho2⟩:=Zjo hu hs htk hop
     rw [show a+i=q by omega] at ho1 ho2
     have c1:=Zki l hl t ht rs q hqt (by omega) ho1
     rw [ho2] at c1
     have c2:=HT o
     simp only [POp.cells] at c1 c2
     simp [go_sem,Zo,Z7,hqt,hlt,hk3,hrs,hR,hr0]
     refine Vp c1 ?_ ?_ ?_
     ·simp [go_sem,hrs]
      exact ⟨Ze (by omega) cl,Ze (by omega) clt,Ze (by omega) (fun i c hi h=>cli i c (by omega) h)⟩
     ·simp [go_sem]
     ·simp [go_sem]
      refine Zq [] (.q 0 <| .q 1 <| .q 2 <| .q 3 <| .q 4 <| .q 5 <| .q 6 <| .q 7 <| .q 8 <| .or 9 (.q 10 <| .q 11 <| .q 12 <| .q 13 <| .q 14 <| .q 15 <| .q 16 <| .q 17 <| .q 18 <| .q 19 <| .or 20 (.q 21 <| .q 22 <| .q 23 <| .q 24 <| .or 25 (.q 26 <| .q 27 <| .q 28 <| .done) (.nil)) (.nil)) (.nil)) (by kernel_rfl) ?_
      cases best with
      |none=>
       simp [go_sem,Ul]
       exact ⟨q+1,0,some (i,o),tk1,by omega,⟨clt,fun i c hi h=>cli i c (by omega) h,by simp only;omega,rfl,ew⟩,cl⟩
      |some x=>
       obtain ⟨k,ob⟩:=x
       obtain ⟨hk1,tkb,hkb,hob⟩:=hx.has k ob rfl
       obtain ⟨hb1,hb2⟩:=Zjo hu hs hkb hob
       have c3:=Zki l hl t ht rs (a+k) (by omega) (by omega) hb1
       rw [hb2] at c3
       have eb:Ul a (some (k,ob))=((a+k:Nat):Int):=rfl
       rw [eb]
       have hp1:a+k<t.length:=by omega
       generalize hp:a+k=p at *
       simp only [POp.cells] at c3
       have hp0:¬((p:Int)<0):=by omega
       have hp2:(0:Int)≤p:=by omega
       simp [go_sem,hp0,hp2]
       refine JJ c3 ?_ ?_ ?_
       ·simp [go_sem,hrs]
        exact ⟨Ze (by omega) cl,Ze (by omega) clt,Ze (by omega) (fun i c hi h=>cli i c (by omega) h)⟩
       ·simp [go_sem]
       ·have stay:Ops.better lvO (some (k,ob)) (i,o)=some (k,ob)→a≤q+1∧AtRoot s (q+1-a) 0 (some (k,ob)):=fun e=>by rw [e] at tk1;exact tk1
        have turn:Ops.better lvO (some (k,ob)) (i,o)=some (i,o)→a≤q+1∧AtRoot s (q+1-a) 0 (some (i,o)):=fun e=>by rw [e] at tk1;exact tk1
        have eb2:Ul a (some (i,o))=(q:Int):=by show ((a+i:Nat):Int)=_;omega
        have cli2:∀ (i:Nat) (c:AV),i<t.length→c∈ZA rs i→Closed c:=fun i c hi h=>cli i c (by omega) h
        by_cases hll:o.level<ob.level
        ·simp [go_sem,hll]
         exact ⟨q+1,0,some (i,o),turn (by unfold Ops.better;exact if_pos (.inl hll)),by omega,⟨clt,cli2,eb2.symm,rfl,ew⟩,cl⟩
        ·simp [go_sem,hll]
         refine JJ c3 ?_ ?_ ?_
         ·simp [go_sem,hrs]
          exact ⟨Ze (by omega) cl,Ze (by omega) clt,Ze (by omega) cli2⟩
         ·simp [go_sem]
         ·by_cases he:o.level=ob.level
          ·simp [go_sem,he]
           refine Zu c2 ?_ ?_
           ·simp [go_sem,he]
           ·by_cases hs2:XF o=2
            ·simp [go_sem,hs2]
             exact ⟨q+1,0,some (k,ob),stay (by unfold Ops.better;exact if_neg (by rintro (h|⟨_,h⟩);exact hll h;exact h hs2)),by omega,⟨clt,cli2,eb.symm,rfl,ew⟩,cl⟩
            ·simp [go_sem,hs2]
             exact ⟨q+1,0,some (i,o),turn (by unfold Ops.better;exact if_pos (.inr ⟨he,hs2⟩)),by omega,⟨clt,cli2,eb2.symm,rfl,ew⟩,cl⟩
          ·simp [go_sem,he]
           exact ⟨q+1,0,some (k,ob),stay (by unfold Ops.better;exact if_neg (by rintro (h|⟨h,_⟩);exact hll h;exact he h)),by omega,⟨clt,cli2,eb.symm,rfl,ew⟩,cl⟩
    ·have sk:=out (skip (.inl (by rw [htu];omega)))
     rw [htu,Int.add_zero] at sk
     simp [go_sem,Zo,Z7,hqt,hlt,hk3,h0,hrs,hR]
     exact ⟨q+1,d,best,sk,by omega,⟨clt2,rfl,rfl,ew⟩,cl⟩
  ·simp [go_sem,hlt]
   have hi:i=s.length:=by omega
   have:=hx.run
   rw [hi,List.drop_length] at this
   rw [this]
   simp [Ops.root]
theorem ZeN {l:List POp} {t:List PTok} {n i:Nat} (h:i<n):YO (YA l t n) i=ZI l t i (Ye l t i):=by
 simp [YO,YA,List.getD_eq_getElem?_getD,List.getElem?_map,List.getElem?_range h]
theorem Za5 {l:List POp} {t:List PTok} (hu:WB l):∀ (ts:List TkP) (i d:Nat),Yi l t i ts→Fit (!Ye l t i) d ts→(d:Int)=ZJ t i→YW l t (YA l t t.length) i ts
 |[],_,_,_,_,_=>trivial
 |tk::r,i,d,ht,hf,hd=>by
  have hi:i<t.length:=by have:=Y6 ht;simp only [List.length_cons] at this;omega
  obtain ⟨h1,h2⟩:=ht
  have nxt:∀ (st:Bool) (d':Nat),ZI l t i (Ye l t i)=XG tk→Ye l t (i+1)=st→(d':Int)=ZJ t (i+1)→Fit (!st) d' r→YW l t (YA l t t.length) i (tk::r):=fun st d' hr e1 e2 e3=>
   ⟨h1,by rw [ZeN hi];exact hr,Za5 hu r (i+1) d' h2 (by rw [e1];exact e3) e2⟩
  have has:∀ {o:POp},o.text=(Zj t i).text→(∃ j,j<l.length∧Zm l j=o)→ZQ l (Zj t i).text o.kind=true:=fun {o} e ⟨j,hj,e2⟩=>(YU l _ _).2 ⟨j,hj,by rw [e2];exact e,by rw [e2]⟩
  have hasno:∀ {o:POp} {k:Int},o.text=(Zj t i).text→(∃ j,j<l.length∧Zm l j=o)→o.kind≠1→k≠1→o.kind≠k→ZQ l (Zj t i).text k=false:=fun {o k} e ⟨j,hj,e2⟩ n1 n2 n3=>by
   cases hh:ZQ l (Zj t i).text k with
   |false=>rfl
   |true=>
    obtain ⟨j',hj',g1,g2⟩:=(YU l _ _).1 hh
    have:=hu j j' hj hj' (by rw [e2,e,g1]) (by
     rw [e2,g2]
     have a1:(o.kind==1)=false:=by simpa using n1
     have a2:(k==1)=false:=by simpa using n2
     rw [a1,a2])
    rw [e2] at this
    rw [←this] at g2
    exact absurd g2 n3
  cases hs:Ye l t i with
  |false=>
   rw [hs] at hf
   cases tk with
   |leaf b=>
    refine nxt true d ?_ ?_ ?_ (by simpa [Fit] using hf)
    ·rw [hs];rcases h1.1 with e|e<;>simp [ZI,XG,e]
    ·rcases h1.1 with e|e<;>simp [Ye,e]
    ·rcases h1.1 with e|e<;>simp [ZJ,e,hd]
   |opn=>
    have k4:(Zj t i).kind=4:=h1
    exact nxt false (d+1) (by rw [hs];simp [ZI,XG,k4]) (by simp [Ye,k4]) (by simp [ZJ,k4];omega) (by simpa [Fit] using hf)
   |pre o=>
    have hh:=has h1.2.1 h1.2.2.2
    rw [h1.2.2.1] at hh
    exact nxt false d (by rw [hs];simp [ZI,XG,h1.1,hh]) (by simp [Ye,h1.1,hs]) (by simp [ZJ,h1.1,hd]) (by simpa [Fit] using hf)
   |cls=>simp [Fit] at hf
   |inf o=>simp [Fit] at hf
   |post o=>simp [Fit] at hf
  |true=>
   rw [hs] at hf
   cases tk with
   |leaf b=>simp [Fit] at hf
   |opn=>simp [Fit] at hf
   |pre o=>simp [Fit] at hf
   |inf o=>
    have hh:=has h1.2.1 h1.2.2.2
    rw [h1.2.2.1] at hh
    have no:=hasno (k:=3) h1.2.1 h1.2.2.2 (by rw [h1.2.2.1];omega) (by omega) (by rw [h1.2.2.1];omega)
    exact nxt false d (by rw [hs];simp [ZI,XG,h1.1,hh]) (by simp [Ye,h1.1,hs,no]) (by simp [ZJ,h1.1,hd]) (by simpa [Fit] using hf)
   |post o=>
    have hh:=has h1.2.1 h1.2.2.2
    rw [h1.2.2.1] at hh
    have no:=hasno (k:=2) h1.2.1 h1.2.2.2 (by rw [h1.2.2.1];omega) (by omega) (by rw [h1.2.2.1];omega)
    exact nxt true d (by rw [hs];simp [ZI,XG,h1.1,hh,no]) (by simp [Ye,h1.1,hs,hh]) (by simp [ZJ,h1.1,hd]) (by simpa [Fit] using hf)
   |cls=>
    have k5:(Zj t i).kind=5:=h1
    cases d with
    |zero=>simp [Fit] at hf
    |succ d=>
     exact nxt true d (by rw [hs];simp [ZI,XG,k5];omega) (by simp [Ye,k5]) (by simp [ZJ,k5];omega) (by simpa [Fit] using hf)
def YQ:PT→Prop
 | .leaf b=>b.1=1∨b.1=2
 | .grp e=>YQ e
 | .pre _ e=>YQ e
 | .post _ e=>YQ e
 | .inf _ x y=>YQ x∧YQ y
theorem Wo {T:List PNode} {nd:PNode}:Za (T++[nd]) ((T++[nd]).length-1)=nd:=by
 simp [Za,List.getD_eq_getElem?_getD]
theorem ZgI {l:List POp} (hu:WB l) {o:POp} (hj:InL l o) (hk:1≤o.kind∧o.kind≤3) {nd:PNode} (h1:nd.text=o.text) (h2:nd.kind=o.kind+2):Uk l nd=o.level:=by
 obtain ⟨g1,g2⟩:=Y5 hu (z:=nd.text) h1.symm hj
 have e:nd.kind-2=o.kind:=by omega
 unfold Uk
 have hop:ZO nd=true:=by simp [ZO];omega
 rw [if_pos hop,YJ,e,g2]
theorem HF {l:List POp} (hu:WB l) (e:PT) (out:List PNode) (h1:YQ e) (h2:e.All lvO (InL l)) (h3:Xe e):Uk l (Za (lay e out) ((lay e out).length-1))=e.level lvO:=by
 cases e with
 |leaf b=>
  simp only [lay,Wo,Tr.level]
  have:ZO (⟨b.2,b.1,0,0⟩:PNode)=false:=by
   have h1':b.1=1∨b.1=2:=h1
   simp [ZO];omega
  unfold Uk
  rw [if_neg (by rw [this];simp)]
 |grp e=>
  simp only [lay,Wo,Tr.level]
  unfold Uk
  rw [if_neg (by simp [ZO])]
 |pre o e=>
  simp only [lay,Wo,Tr.level]
  exact ZgI hu h2.1 (by have:=h3.1;omega) rfl rfl
 |post o e=>
  simp only [lay,Wo,Tr.level]
  exact ZgI hu h2.1 (by have:=h3.1;omega) rfl rfl
 |inf o x y=>
  simp only [lay,Wo,Tr.level]
  exact ZgI hu h2.1 (by have:=h3.1;omega) rfl rfl
def Xn (m:Nat) (out:List PNode) (r:Option PT) (av:AV) (mem:List (Option Ob)) (maps:List (Nat×Mp)):Prop:=match r with
 |some e=>av=.tup [.own 1,.lit (.bool true)]∧mem=[none,Zb (lay e out)]∧maps=[]
 |none=>∃ T:List PNode,T.length≤out.length+m∧((av=.tup [.own 1,.lit (.bool false)]∧mem=[none,Zb T]∧maps=[])∨(av=.tup [.own 0,.lit (.bool false)]∧mem=[Zb T]∧maps=[]))
theorem Zea (l:List POp) (hl:l.length≤9223372036854775807) (hu:WB l) (t:List PTok) (ht:t.length≤1048576) (rs:List Int) (hrs:rs.length=t.length) (a:Nat) (ha:a+1≤t.length) (b:Int×ByteArray) (hs:YW l t rs a [.leaf b]) (out:List PNode) (ho:out.length≤2000000) :
  VProc Tryz.prog 70 [.agg [.sl 4 l.length (Zg l)],.sl 3 t.length (Zr t),.sl 1 rs.length (ZA rs),.lit (.int .i64 a),.lit (.int .i64 (a+1:Nat)),.own 0] [Zb out] [] (Xn 1 out (some (.leaf b))):=by
 have cl:∀ (i:Nat) (c:AV),i<l.length→c∈Zg l i→Closed c:=fun i c _ h=>ZK l i c h
 have clt:∀ (i:Nat) (c:AV),i<t.length→c∈Zr t i→Closed c:=fun i c _ h=>Zs t i c h
 have cli:∀ (i:Nat) (c:AV),i<rs.length→c∈ZA rs i→Closed c:=fun i c _ h=>Yp rs i c h
 have cr:=VI l hl hu t ht rs hrs a (a+1) [.leaf b] rfl ha hs
 have er:Ops.root lvO ([.leaf b]:List TkP) 0 0 none=none:=by simp [Ops.root,Tk.turn,Tk.op?]
 rw [er] at cr
 simp only [Ul] at cr
 obtain ⟨⟨hk,hb⟩,_,_⟩:=hs
 have hat:a<t.length:=by omega
 refine Zl Tryz.func70 (by kernel_rfl) rfl (by simp [Tryz.ntmps70]) ?_;simp only [Tryz.ntmps70,Tryz.results70];simp [go_sem]
 refine Zc cr ?_ ?_
 ·simp [go_sem]
  exact ⟨Ze (by omega) cl,Ze (by omega) clt,Ze (by omega) cli⟩
 ·have k4:(Zj t a).kind≠4:=by omega
  rcases hk with hk|hk
  ·simp [go_sem,Zo,hat,hk,Zb]
   refine ⟨by omega,by omega,?_⟩
   refine ⟨rfl,[4],[none,Zb (lay (.leaf b) out)],by simp,by simp [go_sem],by simp [go_sem],?_,by simp [go_sem],?_⟩
   ·simp [go_sem,Zb]
    refine Yo (o:=⟨(Zj t a).text,1,0,0⟩) (by rw [hb,hk];simp [lay]) fun j hj=>?_
    exact Yk out ⟨(Zj t a).text,1,0,0⟩ j hj
   ·simp [go_sem,Xn,Zb]
  ·simp [go_sem,Zo,hat,hk,Zb]
   refine ⟨by omega,by omega,?_⟩
   refine ⟨rfl,[4],[none,Zb (lay (.leaf b) out)],by simp,by simp [go_sem],by simp [go_sem],?_,by simp [go_sem],?_⟩
   ·simp [go_sem,Zb]
    refine Yo (o:=⟨(Zj t a).text,2,0,0⟩) (by rw [hb,hk];simp [lay]) fun j hj=>?_
    exact Yk out ⟨(Zj t a).text,2,0,0⟩ j hj
   ·simp [go_sem,Xn,Zb]
theorem ZfC (l:List POp) (hl:l.length≤9223372036854775807) (hu:WB l) (t:List PTok) (ht:t.length≤1048576) (rs:List Int) (hrs:rs.length=t.length) (a b:Nat) (s:List TkP) (hab:a+s.length=b) (hb:b≤t.length) (hs:YW l t rs a s) (u:List TkP) (hsu:s=.opn::(u++[.cls])) (er:Ops.root lvO s 0 0 none=none) (out:List PNode) (ho:out.length≤2000000) (r:Option PT) (hr:∀ e,r=some e→(lay e out).length≤3000000)
  (ih:VProc Tryz.prog 70 [.agg [.sl 4 l.length (Zg l)],.sl 3 t.length (Zr t),.sl 1 rs.length (ZA rs),.lit (.int .i64 (a+1:Nat)),.lit (.int .i64 (b-1:Nat)),.own 0] [Zb out] [] (Xn u.length out r)) :
  VProc Tryz.prog 70 [.agg [.sl 4 l.length (Zg l)],.sl 3 t.length (Zr t),.sl 1 rs.length (ZA rs),.lit (.int .i64 a),.lit (.int .i64 b),.own 0] [Zb out] [] (Xn s.length out (r.map .grp)):=by
 have cl:∀ (i:Nat) (c:AV),i<l.length→c∈Zg l i→Closed c:=fun i c _ h=>ZK l i c h
 have clt:∀ (i:Nat) (c:AV),i<t.length→c∈Zr t i→Closed c:=fun i c _ h=>Zs t i c h
 have cli:∀ (i:Nat) (c:AV),i<rs.length→c∈ZA rs i→Closed c:=fun i c _ h=>Yp rs i c h
 have cr:=VI l hl hu t ht rs hrs a b s hab hb hs
 rw [er] at cr
 simp only [Ul] at cr
 have hlen:2≤s.length:=by rw [hsu];simp
 have hk:(Zj t a).kind=4:=by rw [hsu] at hs;exact hs.1
 have hat:a<t.length:=by omega
 have ew1:IntKind.i64.wrap ((a:Int)+1)=((a+1:Nat):Int):=Zn (by omega)
 have ew2:IntKind.i64.wrap ((b:Int)-1)=((b-1:Nat):Int):=by rw [wrap_i64 (by omega)];omega
 refine Zl Tryz.func70 (by kernel_rfl) rfl (by simp [Tryz.ntmps70]) ?_;simp only [Tryz.ntmps70,Tryz.results70];simp [go_sem]
 refine Zc cr ?_ ?_
 ·simp [go_sem]
  exact ⟨Ze (by omega) cl,Ze (by omega) clt,Ze (by omega) cli⟩
 ·simp [go_sem,Zo,hat,hk,ew1,ew2]
  refine Zd [0] ih (by simp) ?_ ?_ trivial ?_
  ·simp [go_sem]
   exact ⟨cl,clt,cli⟩
  ·simp [go_sem,Zb]
   exact fun i _=>Zk (Z5 _ i)
  ·intro av mem maps hB
   cases r with
   |some e=>
    obtain ⟨rfl,rfl,rfl⟩:=hB
    have h1:=hr e rfl
    have h0:=Z9 e out
    have ew:IntKind.i64.wrap (((lay e out).length:Int)-1)=((lay e out).length:Int)-1:=wrap_i64 (by omega)
    simp [go_sem,Zb,ew]
    refine ⟨by omega,by omega,by omega,?_⟩
    refine ⟨rfl,[4],[none,Zb (lay (.grp e) out)],by simp,by simp [go_sem],by simp [go_sem],?_,by simp [go_sem],?_⟩
    ·simp [go_sem,Zb]
     refine Yo (o:=⟨⟨#[]⟩,6,((lay e out).length:Int)-1,0⟩) (by simp [lay]) fun j hj=>?_
     exact Yk (lay e out) ⟨⟨#[]⟩,6,((lay e out).length:Int)-1,0⟩ j hj
    ·simp [go_sem,Xn,Zb]
   |none=>
    have hsl:s.length=u.length+2:=by rw [hsu];simp
    obtain ⟨T,hT,hB⟩:=hB
    have ew:IntKind.i64.wrap ((T.length:Int)-1)=(T.length:Int)-1:=wrap_i64 (by omega)
    rcases hB with ⟨rfl,rfl,rfl⟩|⟨rfl,rfl,rfl⟩
    ·simp [go_sem,Zb,ew]
     refine ⟨by omega,by omega,by omega,?_⟩
     obtain ⟨T2,hT2⟩:∃ T2,T2=T++[(⟨⟨#[]⟩,6,(T.length:Int)-1,0⟩:PNode)]:=⟨_,rfl⟩
     have hl2:T2.length=T.length+1:=by rw [hT2];simp
     refine ⟨rfl,[4],[none,Zb T2],by simp,by simp [go_sem],by simp [go_sem],?_,by simp [go_sem],?_⟩
     ·simp [go_sem,Zb]
      refine Yo (o:=⟨⟨#[]⟩,6,(T.length:Int)-1,0⟩) hT2 fun j hj=>?_
      exact Yk T ⟨⟨#[]⟩,6,(T.length:Int)-1,0⟩ j hj
     ·simp [go_sem]
      exact ⟨T2,by omega,.inl ⟨rfl,rfl,rfl⟩⟩
    ·simp [go_sem,Zb,ew]
     refine ⟨by omega,by omega,by omega,?_⟩
     obtain ⟨T2,hT2⟩:∃ T2,T2=T++[(⟨⟨#[]⟩,6,(T.length:Int)-1,0⟩:PNode)]:=⟨_,rfl⟩
     have hl2:T2.length=T.length+1:=by rw [hT2];simp
     refine ⟨rfl,[3],[none,Zb T2],by simp,by simp [go_sem],by simp [go_sem],?_,by simp [go_sem],?_⟩
     ·simp [go_sem,Zb]
      refine Yo (o:=⟨⟨#[]⟩,6,(T.length:Int)-1,0⟩) hT2 fun j hj=>?_
      exact Yk T ⟨⟨#[]⟩,6,(T.length:Int)-1,0⟩ j hj
     ·simp [go_sem]
      exact ⟨T2,by omega,.inl ⟨rfl,rfl,rfl⟩⟩
theorem Zad (l:List POp) (hl:l.length≤9223372036854775807) (hu:WB l) (t:List PTok) (ht:t.length≤1048576) (rs:List Int) (hrs:rs.length=t.length) (a b:Nat) (s:List TkP) (hab:a+s.length=b) (hb:b≤t.length) (hs:YW l t rs a s) (k:Nat) (o:POp) (er:Ops.root lvO s 0 0 none=some (k,o)) (tk:TkP) (hk:s[k]?=some tk) (hbad:(tk=.pre o∧k≠0)∨(tk=.post o∧k+1≠s.length)) (out:List PNode) (ho:out.length≤2000000) :
  VProc Tryz.prog 70 [.agg [.sl 4 l.length (Zg l)],.sl 3 t.length (Zr t),.sl 1 rs.length (ZA rs),.lit (.int .i64 a),.lit (.int .i64 b),.own 0] [Zb out] [] (Xn s.length out none):=by
 have cl:∀ (i:Nat) (c:AV),i<l.length→c∈Zg l i→Closed c:=fun i c _ h=>ZK l i c h
 have clt:∀ (i:Nat) (c:AV),i<t.length→c∈Zr t i→Closed c:=fun i c _ h=>Zs t i c h
 have cli:∀ (i:Nat) (c:AV),i<rs.length→c∈ZA rs i→Closed c:=fun i c _ h=>Yp rs i c h
 have cr:=VI l hl hu t ht rs hrs a b s hab hb hs
 rw [er] at cr
 have eb:Ul a (some (k,o))=((a+k:Nat):Int):=rfl
 rw [eb] at cr
 have hlt:=(List.getElem?_eq_some_iff.1 hk).1
 obtain ⟨_,hr⟩:=UV hs hk
 have hp:a+k<t.length:=by omega
 obtain ⟨p,hp'⟩:∃ p,a+k=p:=⟨_,rfl⟩
 rw [hp'] at cr hr hp
 have hp0:¬((p:Int)<0):=by omega
 have hp2:p<rs.length:=by omega
 refine Zl Tryz.func70 (by kernel_rfl) rfl (by simp [Tryz.ntmps70]) ?_;simp only [Tryz.ntmps70,Tryz.results70];simp [go_sem]
 refine Zc cr ?_ ?_
 ·simp [go_sem]
  exact ⟨Ze (by omega) cl,Ze (by omega) clt,Ze (by omega) cli⟩
 ·simp [go_sem,hp0]
  refine Zq [12] (.q 0 <| .q 1 <| .q 2 <| .q 3 <| .q 4 <| .q 5 <| .q 6 <| .q 7 <| .q 8 <| .q 9 <| .q 10 <| .or 11 (.or 12 (.done) (.nil)) (.nil)) (by kernel_rfl) ?_
  rcases hbad with ⟨rfl,hk0⟩|⟨rfl,hk0⟩
  ·have w:IntKind.i64.wrap 3=3:=by decide
   have hne:¬(p:Int)=(a:Int):=by omega
   have hbn:((p:Int) != (a:Int))=true:=by simp;omega
   simp only [XG] at hr
   simp [go_sem,Zo,Z7,hp,hp2,hr,w,hne,hbn,Zb]
   refine ⟨rfl,[],[Zb out],by simp,by simp [go_sem],by simp [go_sem],?_,by simp [go_sem],?_⟩
   ·simp [go_sem,Zb]
    exact Xy rfl fun j _=>rfl
   ·simp [go_sem]
    exact ⟨out,by omega,.inr ⟨rfl,rfl,rfl⟩⟩
  ·have w:IntKind.i64.wrap 5=5:=by decide
   have wb:IntKind.i64.wrap ((b:Int)-1)=(b:Int)-1:=wrap_i64 (by omega)
   have hne:¬(p:Int)=(b:Int)-1:=by omega
   have hbn:((p:Int) != (b:Int)-1)=true:=by simp;omega
   simp only [XG] at hr
   simp [go_sem,Zo,Z7,hp,hp2,hr,w,wb,hne,hbn,Zb]
   refine ⟨rfl,[],[Zb out],by simp,by simp [go_sem],by simp [go_sem],?_,by simp [go_sem],?_⟩
   ·simp [go_sem,Zb]
    exact Xy rfl fun j _=>rfl
   ·simp [go_sem]
    exact ⟨out,by omega,.inr ⟨rfl,rfl,rfl⟩⟩
theorem GB (l:List POp) (hl:l.length≤9223372036854775807) (hu:WB l) (t:List PTok) (ht:t.length≤1048576) (rs:List Int) (hrs:rs.length=t.length) (a b:Nat) (s:List TkP) (hab:a+s.length=b) (hb:b≤t.length) (hs:YW l t rs a s) (o:POp) (er:Ops.root lvO s 0 0 none=some (0,o)) (hk:s[0]?=some (.pre o)) (out:List PNode) (ho:out.length≤2000000)
  (ih:VProc Tryz.prog 70 [.agg [.sl 4 l.length (Zg l)],.sl 3 t.length (Zr t),.sl 1 rs.length (ZA rs),.lit (.int .i64 (a+1:Nat)),.lit (.int .i64 b),.own 0] [Zb out] [] (Xn (s.length-1) out none)) :
  VProc Tryz.prog 70 [.agg [.sl 4 l.length (Zg l)],.sl 3 t.length (Zr t),.sl 1 rs.length (ZA rs),.lit (.int .i64 a),.lit (.int .i64 b),.own 0] [Zb out] [] (Xn s.length out none):=by
 have cl:∀ (i:Nat) (c:AV),i<l.length→c∈Zg l i→Closed c:=fun i c _ h=>ZK l i c h
 have clt:∀ (i:Nat) (c:AV),i<t.length→c∈Zr t i→Closed c:=fun i c _ h=>Zs t i c h
 have cli:∀ (i:Nat) (c:AV),i<rs.length→c∈ZA rs i→Closed c:=fun i c _ h=>Yp rs i c h
 have cr:=VI l hl hu t ht rs hrs a b s hab hb hs
 rw [er] at cr
 have eb:Ul a (some (0,o))=(a:Int):=by simp [Ul]
 rw [eb] at cr
 have hlt:=(List.getElem?_eq_some_iff.1 hk).1
 obtain ⟨_,hr⟩:=UV hs hk
 simp only [Nat.add_zero,XG] at hr
 have hp:a<t.length:=by omega
 have hp0:¬((a:Int)<0):=by omega
 have hp2:a<rs.length:=by omega
 have w:IntKind.i64.wrap 3=3:=by decide
 have ew1:IntKind.i64.wrap ((a:Int)+1)=((a+1:Nat):Int):=Zn (by omega)
 refine Zl Tryz.func70 (by kernel_rfl) rfl (by simp [Tryz.ntmps70]) ?_;simp only [Tryz.ntmps70,Tryz.results70];simp [go_sem]
 refine Zc cr ?_ ?_
 ·simp [go_sem]
  exact ⟨Ze (by omega) cl,Ze (by omega) clt,Ze (by omega) cli⟩
 ·simp [go_sem,hp0]
  refine Zq [12] (.q 0 <| .q 1 <| .q 2 <| .q 3 <| .q 4 <| .q 5 <| .q 6 <| .q 7 <| .q 8 <| .q 9 <| .q 10 <| .or 11 (.or 12 (.done) (.nil)) (.nil)) (by kernel_rfl) ?_
  simp [go_sem,Zo,Z7,hp,hp2,hr,w,ew1,Zb]
  refine Zd [0] ih (by simp) ?_ ?_ trivial ?_
  ·simp [go_sem]
   exact ⟨cl,clt,cli⟩
  ·simp [go_sem,Zb]
   exact fun i _=>Zk (Z5 _ i)
  ·rintro av mem maps ⟨T,hT,hB⟩
   rcases hB with ⟨rfl,rfl,rfl⟩|⟨rfl,rfl,rfl⟩
   ·simp [go_sem,Zb]
    refine ⟨rfl,[3],[none,Zb T],by simp,by simp [go_sem],by simp [go_sem],?_,by simp [go_sem],?_⟩
    ·simp [go_sem,Zb]
     exact Xy rfl fun j _=>rfl
    ·simp [go_sem]
     exact ⟨T,by omega,.inl ⟨rfl,rfl,rfl⟩⟩
   ·simp [go_sem,Zb]
    refine ⟨rfl,[],[Zb T],by simp,by simp [go_sem],by simp [go_sem],?_,by simp [go_sem],?_⟩
    ·simp [go_sem,Zb]
     exact Xy rfl fun j _=>rfl
    ·simp [go_sem]
     exact ⟨T,by omega,.inr ⟨rfl,rfl,rfl⟩⟩
theorem YV {T:List PNode} {nd:PNode} {i:Nat} (h:i<T.length):Za (T++[nd]) i=Za T i:=by
 simp [Za,List.getD_eq_getElem?_getD,List.getElem?_append_left h]
theorem Vr {T:List PNode} {nd:PNode}:Za (T++[nd]) T.length=nd:=by
 simp [Za,List.getD_eq_getElem?_getD]
theorem Zj9 {l:List POp} (hu:WB l) {o:POp} (hj:InL l o) (hok:Yx o=true) (hk:o.kind=1) (e:PT) (out:List PNode) (h1:YQ e) (h2:e.All lvO (InL l)) (h3:Xe e) :
  Qo l (lay e out++[⟨o.text,3,((lay e out).length:Int)-1,0⟩]) (lay e out).length=decide ((lvO o).h2≤e.level lvO):=by
 have hg:=Z9 e out
 have hl:=HF hu e out h1 h2 h3
 obtain ⟨g1,g2⟩:=Y5 hu (z:=o.text) rfl hj
 rw [hk] at g2
 have hn:Za (lay e out++[(⟨o.text,3,((lay e out).length:Int)-1,0⟩:PNode)]) (lay e out).length=⟨o.text,3,((lay e out).length:Int)-1,0⟩:=Vr
 have ha:(((lay e out).length:Int)-1).toNat=(lay e out).length-1:=by omega
 unfold Qo
 rw [hn]
 simp only [ha]
 rw [YV (by omega),hl]
 have hd:YJ l ⟨o.text,3,((lay e out).length:Int)-1,0⟩=o:=by simp only [YJ];exact g2
 rw [hd,HJ hok hk]
 simp [ZO,Zv]
theorem Ziu {l:List POp} (hu:WB l) {o:POp} (hj:InL l o) (hok:Yx o=true) (hk:o.kind=3) (e:PT) (out:List PNode) (h1:YQ e) (h2:e.All lvO (InL l)) (h3:Xe e) :
  Qo l (lay e out++[⟨o.text,5,((lay e out).length:Int)-1,0⟩]) (lay e out).length=decide ((lvO o).h1≤e.level lvO):=by
 have hg:=Z9 e out
 have hl:=HF hu e out h1 h2 h3
 obtain ⟨g1,g2⟩:=Y5 hu (z:=o.text) rfl hj
 rw [hk] at g2
 have hn:Za (lay e out++[(⟨o.text,5,((lay e out).length:Int)-1,0⟩:PNode)]) (lay e out).length=⟨o.text,5,((lay e out).length:Int)-1,0⟩:=Vr
 have ha:(((lay e out).length:Int)-1).toNat=(lay e out).length-1:=by omega
 unfold Qo
 rw [hn]
 simp only [ha]
 rw [YV (by omega),hl]
 have hd:YJ l ⟨o.text,5,((lay e out).length:Int)-1,0⟩=o:=by simp only [YJ];exact g2
 rw [hd,Qn hok (by omega)]
 simp [ZO,Zv]
theorem Ko:∀ (e:PT) (out:List PNode) (i:Nat),i<out.length→Za (lay e out) i=Za out i
 | .leaf b,out,i,h=>by simp only [lay];exact YV h
 | .grp e,out,i,h=>by
  have:=Z9 e out
  simp only [lay];rw [YV (by omega)];exact Ko e out i h
 | .pre o e,out,i,h=>by
  have:=Z9 e out
  simp only [lay];rw [YV (by omega)];exact Ko e out i h
 | .post o e,out,i,h=>by
  have:=Z9 e out
  simp only [lay];rw [YV (by omega)];exact Ko e out i h
 | .inf o x y,out,i,h=>by
  have:=Z9 x out
  have:=Z9 y (lay x out)
  simp only [lay];rw [YV (by omega),Ko y (lay x out) i (by omega)];exact Ko x out i h
theorem Zka {l:List POp} (hu:WB l) {o:POp} (hj:InL l o) (hok:Yx o=true) (hk:o.kind=2) (x y:PT) (out:List PNode) (h1:YQ x) (h2:x.All lvO (InL l)) (h3:Xe x) (q1:YQ y) (q2:y.All lvO (InL l)) (q3:Xe y) :
  Qo l (lay y (lay x out)++[⟨o.text,4,((lay x out).length:Int)-1,((lay y (lay x out)).length:Int)-1⟩]) (lay y (lay x out)).length=decide ((lvO o).h1≤x.level lvO∧(lvO o).h2≤y.level lvO):=by
 have hg:=Z9 x out
 have hg2:=Z9 y (lay x out)
 have hl:=HF hu x out h1 h2 h3
 have hl2:=HF hu y (lay x out) q1 q2 q3
 obtain ⟨g1,g2⟩:=Y5 hu (z:=o.text) rfl hj
 rw [hk] at g2
 have hn:Za (lay y (lay x out)++[(⟨o.text,4,((lay x out).length:Int)-1,((lay y (lay x out)).length:Int)-1⟩:PNode)]) (lay y (lay x out)).length=⟨o.text,4,((lay x out).length:Int)-1,((lay y (lay x out)).length:Int)-1⟩:=Vr
 have ha:(((lay x out).length:Int)-1).toNat=(lay x out).length-1:=by omega
 have hb:(((lay y (lay x out)).length:Int)-1).toNat=(lay y (lay x out)).length-1:=by omega
 unfold Qo
 rw [hn]
 simp only [ha,hb]
 rw [YV (by omega),YV (by omega),hl2,Ko y (lay x out) _ (by omega),hl]
 have hd:YJ l ⟨o.text,4,((lay x out).length:Int)-1,((lay y (lay x out)).length:Int)-1⟩=o:=by simp only [YJ];exact g2
 rw [hd,Qn hok (by omega),QV hok hk]
 simp [ZO,Zv]
end Go.Proofs.YtjdmmhcogmepaaaGreatDoor.V
namespace Go.Proofs.YtjdmmhcogmepaaaGreatDoor.V
open Go.RowKit
open Go.Maps (Keyed)
theorem Zkp (n:PNode) (hn:1≤n.kind∧n.kind≤6):VFun Tryz.prog 90 [.agg n.cells] (fun av obs=>obs=[]∧av=.lit (.int .i64 (if ZO n then n.kind-2 else 0))):=by
 obtain ⟨z,k,x,y⟩:=n
 simp only [PNode.cells] at hn ⊢
 have hk:∀ i:Int,1≤i∧i≤6→∃ l,keyOf Tryz.prog 3 (.int .i64 i)=some l:=fun i h=>ZjZ (by omega)
 refine Zi Tryz.func90 (by kernel_rfl) rfl (by simp [Tryz.ntmps90]) ?_;simp only [Tryz.ntmps90,Tryz.results90];simp [go_sem]
 intro b
 refine Xj U5 (hk 3 (by omega)) ?_
 simp [go_sem]
 refine Xj U5 (hk 4 (by omega)) ?_
 simp [go_sem]
 refine Xj U5 (hk 5 (by omega)) ?_
 simp [go_sem]
 refine Xk U5 (hk k hn) _ Hd ?_
 simp [go_sem]
 have hk:k=1∨k=2∨k=3∨k=4∨k=5∨k=6:=by omega
 rcases hk with rfl|rfl|rfl|rfl|rfl|rfl<;>simp [YD,mget,ZO]
theorem of_eq {l:List POp} (hu:WB l) {z:ByteArray} {k:Int} {o:POp} (h:∃ j,j<l.length∧o=Zm l j∧o.text=z∧o.kind=k) (hh:ZQ l z k=true):o=JX l z k:=by
 obtain ⟨j,hj,rfl,e1,e2⟩:=h
 obtain ⟨i,hi,e3,e4,e5⟩:=QN hh
 rw [e3]
 exact hu j i hj hi (e1.trans e4.symm) (by rw [e2,e5])
def lvN (l:List POp) (t:List PNode) (i j:Nat):Int:=if j<i then Uk l (Za t j) else 0
def QA (l:List POp) (t:List PNode) (i j:Nat):List AV:=[.lit (.int .i64 (lvN l t i j))]
set_option maxRecDepth 100000 in
theorem Zkh (l:List POp) (hu:WB l) (b1 b2:Nat) (es:List (Value×Value)) (hat:H1 l l.length es) (t:List PNode) (ht:t.length≤1048576) (hwt:∀ i,i<t.length→(Za t i).wf) (hk:∀ i,i<t.length→1≤(Za t i).kind∧(Za t i).kind≤6) :
  VProc Tryz.prog 45 [.agg [.lit (.map (some b1)),.lit (.map (some b2))],.agg [.sl 4 t.length (Zf t)]] [] [(b1,⟨151,es⟩)] (fun av mem maps=>(maps=[(b1,⟨151,es⟩)]∨maps=[(b1,⟨151,es⟩),(b1,⟨151,es⟩)])∧((Kj l t=true∧av=.tup [.own 0,.lit (.bool true)]∧mem=[some ⟨3,1,t.length,QA l t t.length⟩])∨(Kj l t=false∧av=.tup [.lit (.slice none 0 0),.lit (.bool false)]∧mem=[]))):=by
 have clt:∀ (i:Nat) (c:AV),i<t.length→c∈Zf t i→Closed c:=fun i c _ h=>ZG t i c h
 refine Zl Tryz.func45 (by kernel_rfl) rfl (by simp [Tryz.ntmps45]) ?_;simp only [Tryz.ntmps45,Tryz.results45];simp [go_sem]
 refine ⟨by omega,by omega,by omega,by omega,?_⟩
 refine Yn (fun i:Nat=>i≤t.length∧∀ j,j<i→ZO (Za t j)=true→ZQ l (Za t j).text ((Za t j).kind-2)=true) (fun i=>t.length-i)
  (fun i=>⟨[(2,.ptr 0 2 0 0),(6,.own 2),(17,.sl 4 t.length (Zf t)),(18,.lit (.int .i64 t.length)),(19,.lit (.int .i64 i))],[some ⟨70,2,1,fun _=>[.lit (.map (some b1)),.lit (.map (some b2))]⟩,none,some ⟨3,1,t.length,QA l t i⟩],[(b1,⟨151,es⟩)],0⟩) ⟨0,⟨by omega,by simp⟩,?_⟩ (fun i hi=>?_)
 ·simp [go_sem,QA,lvN]
  exact clt
 ·simp [go_sem,Zz]
  have c1:=Zkp (Za t i)
  simp only [PNode.cells] at c1
  have next:i<t.length→(ZO (Za t i)=true→ZQ l (Za t i).text ((Za t i).kind-2)=true)→i+1≤t.length∧∀ j,j<i+1→ZO (Za t j)=true→ZQ l (Za t j).text ((Za t j).kind-2)=true:=fun h e=>⟨by omega,fun j hj=>by
   rcases Nat.lt_succ_iff_lt_or_eq.mp hj with hj|rfl
   ·exact hi.2 j hj
   ·exact e⟩
  have fill:∀ (h:i<t.length) (v:Int) (f:Nat→List AV),v=Uk l (Za t i)→(∀ j,j<t.length→j≠i→f j=QA l t i j)→(f i).length=1→∀ j,j<t.length→ZaR t.length f i 0 [AV.lit (.int .i64 v)] j=QA l t (i+1) j∧∀ c,c∈QA l t (i+1) j→Bd 3 c:=fun h v f hv hf hl j hj=>by
   refine ⟨?_,fun c hc=>by simp only [QA,List.mem_singleton] at hc;subst hc;exact .closed _ (.lit _)⟩
   rw [Uv h hj]
   by_cases hji:j=i
   ·subst hji
    match hfi:f j,hl with
    |[x],_=>simp [Wt,QA,lvN,hv]
   ·rw [if_neg hji,hf j hj hji]
    simp only [QA,lvN]
    by_cases h2:j<i
    ·rw [if_pos h2,if_pos (by omega)]
    ·rw [if_neg h2,if_neg (by omega)]
  refine ⟨fun h=>⟨h,Zc (c1 (hk i h)) ?_ ?_⟩,fun h=>?_⟩
  ·simp [go_sem]
  ·cases hop:ZO (Za t i) with
   |false=>
    simp [go_sem]
    refine ⟨i+1,next h (fun e=>by rw [hop] at e;cases e),by omega,⟨clt,Zn (by omega)⟩,?_⟩
    exact fill h 1001 _ (by simp [Uk,hop]) (fun j _ _=>rfl) rfl
   |true=>
    have hop':=hop
    simp only [ZO,decide_eq_true_eq] at hop'
    simp [go_sem,show (2:Int)<(Za t i).kind by omega]
    refine Zd [] (ZgV l hu b1 b2 es hat (Za t i).text (hwt i h) ((Za t i).kind-2)) (by simp) ?_ ?_ ?_ ?_
    ·simp [go_sem]
    ·simp [go_sem]
    ·simp [go_sem]
    ·rintro av mem maps ⟨⟨o,rfl,ho⟩,rfl,rfl⟩
     cases hh:ZQ l (Za t i).text ((Za t i).kind-2) with
     |false=>
      simp [go_sem,POp.cells]
      refine ⟨rfl,[],[],by simp,by simp,by simp [go_sem],by simp [go_sem],by simp [go_sem],?_⟩
      have hno:Kj l t=false:=X5 (p:=fun i=>!ZO (Za t i)||ZQ l (Za t i).text ((Za t i).kind-2)) h (by simp [hop,hh])
      simp [go_sem,hno]
     |true=>
      have he:=of_eq hu (ho hh) hh
      simp [go_sem,POp.cells]
      refine ⟨h,i+1,next h (fun _=>hh),by omega,⟨clt,Zn (by omega)⟩,?_⟩
      refine fill h _ _ (by simp [Uk,hop,YJ,he]) (fun j hj hji=>?_) ?_
      ·rw [Uv h hj,if_neg hji]
      ·rw [Uv h h,if_pos rfl];rfl
  ·have hl1:i=t.length:=by omega
   subst hl1
   have hall:Kj l t=true:=by
    refine List.all_eq_true.2 fun j hj=>?_
    cases hk:ZO (Za t j) with
    |false=>rfl
    |true=>simp [hi.2 j (List.mem_range.1 hj) hk]
   refine ⟨rfl,[2],[some ⟨3,1,t.length,QA l t t.length⟩],by simp,by simp,by simp [go_sem],?_,by simp [go_sem],?_⟩
   ·simp [go_sem]
    exact ZC (fun _ _=>rfl) (fun _ _=>rfl)
   ·simp [go_sem,hall]
end Go.Proofs.YtjdmmhcogmepaaaGreatDoor.V
namespace Go.Proofs.YtjdmmhcogmepaaaGreatDoor.V
open Go.RowKit
def KP (t:List PNode):Prop:=∀ i,i<t.length→(Za t i).wf
def erT (t:List PNode):Nat→List PNode×List Int
 |0=>([],[])
 |i+1=>if (Za t i).kind=6 then ((erT t i).1,(erT t i).2++[(erT t i).2.getD (Za t i).a.toNat 0])
   else ((erT t i).1++[⟨(Za t i).text,(Za t i).kind,if Zv (Za t i).kind=0 then 0 else (erT t i).2.getD (Za t i).a.toNat 0,if Zv (Za t i).kind=2 then (erT t i).2.getD (Za t i).b.toNat 0 else 0⟩],(erT t i).2++[((erT t i).1.length:Int)])
def toN (t:List PNode) (j:Nat):Int:=(erT t (j+1)).2.getD j 0
theorem J5 (t:List PNode):∀ i,(erT t i).2.length=i
 |0=>rfl
 |i+1=>by simp only [erT];split<;>simp [J5 t i]
theorem ZdX (t:List PNode):∀ i,(erT t i).1.length≤i
 |0=>by simp [erT]
 |i+1=>by
  have:=ZdX t i
  simp only [erT]
  split
  ·simp only;omega
  ·simp;omega
theorem KZ (t:List PNode) (j:Nat):∀ i,j<i→(erT t i).2.getD j 0=toN t j
 |0,h=>by omega
 |i+1,h=>by
  by_cases e:j=i
  ·subst e;rfl
  ·have:=KZ t j i (by omega)
   rw [←this]
   have hl:=J5 t i
   simp only [erT]
   split<;>(simp only [List.getD_eq_getElem?_getD];rw [List.getElem?_append_left (by omega)])
theorem ZcS {l:List Int} {x:Int} {i:Nat} (h:l.length=i):(l++[x]).getD i 0=x:=by
 subst h
 rw [List.getD_eq_getElem?_getD,List.getElem?_append_right (by omega)]
 simp
theorem Hq {t:List PNode}:∀ (i:Nat),i<t.length→0≤ZL t i→1≤(erT t (i+1)).1.length∧toN t i=(erT t (i+1)).1.length-1:=by
 intro i
 induction i using Nat.strongRecOn with
 |ind i ih=>
  intro hi h0
  have hl:=J5 t i
  by_cases h6:(Za t i).kind=6
  ·have k1:Zv (Za t i).kind=1:=by simp [Zv,h6]
   rw [YP,if_neg (by omega),if_pos k1] at h0
   split at h0
   ·omega
   ·rename_i hn
    have hi1:1≤i:=by
     by_cases hz:i=0
     ·subst hz;rw [Yt t (by omega)] at h0;omega
     ·omega
    have e1:(i:Int)-1=((i-1:Nat):Int):=by omega
    rw [e1] at h0
    have:=ih (i-1) (by omega) (by omega) h0
    rw [show i-1+1=i by omega] at this
    have ea:(Za t i).a.toNat=i-1:=by omega
    unfold toN
    simp only [erT,h6,if_true]
    rw [ZcS hl,ea]
    rw [KZ t (i-1) i (by omega)]
    exact this
  ·unfold toN
   simp only [erT,if_neg h6]
   rw [ZcS hl]
   simp
set_option maxRecDepth 100000 in
theorem Zan (t:List PNode) (ht:t.length≤1048576) (hin:∀ i,i<t.length→0≤ZL t i) (i:Nat) (hi:i<t.length)
  (ih:∀ j,j<i→VProc Tryz.prog 99 [.sl 4 t.length (Zf t),.lit (.int .i64 j),.own 0] [Zb (erT t (ZL t j).toNat).1] [] (fun av mem maps=>av=.own 1∧mem=[none,Zb (erT t (j+1)).1]∧maps=[])) :
  VProc Tryz.prog 99 [.sl 4 t.length (Zf t),.lit (.int .i64 i),.own 0] [Zb (erT t (ZL t i).toNat).1] [] (fun av mem maps=>av=.own 1∧mem=[none,Zb (erT t (i+1)).1]∧maps=[]):=by
 have clt:∀ (i:Nat) (c:AV),i<t.length→c∈Zf t i→Closed c:=fun i c _ h=>ZG t i c h
 refine Zl Tryz.func99 (by kernel_rfl) rfl (by simp [Tryz.ntmps99]) ?_;simp only [Tryz.ntmps99,Tryz.results99];simp [go_sem]
 have h0:=hin i hi
 have hlen:=ZdX t
 have hk:=YP t i
 by_cases h6:(Za t i).kind=6
 ·have k1:Zv (Za t i).kind=1:=by simp [Zv,h6]
  rw [if_neg (by omega),if_pos k1] at hk
  split at hk
  ·omega
  ·rename_i hn
   have hi1:1≤i:=by
    by_cases hz:i=0
    ·subst hz;rw [Yt t (i:=((0:Nat):Int)-1) (by omega)] at hk;omega
    ·omega
   have ea:(Za t i).a=((i-1:Nat):Int):=by omega
   have ef:ZL t i=ZL t ((i-1:Nat):Int):=by rw [hk];congr 1;omega
   have e1:=ih (i-1) (by omega)
   rw [←ef,show i-1+1=i by omega] at e1
   simp [go_sem,Zz,Zb,h6]
   refine ⟨hi,?_⟩
   refine Zd [0] e1 (by simp) ?_ ?_ trivial ?_
   ·simp [go_sem,ea]
    exact clt
   ·simp [go_sem,Zb]
    exact fun i _=>Zk rfl
   ·rintro av mem maps ⟨rfl,rfl,rfl⟩
    simp [go_sem,Zb]
    refine ⟨rfl,[2],[none,Zb (erT t (i+1)).1],by simp,by simp [go_sem],by simp [go_sem],?_,by simp [go_sem],?_⟩
    ·simp [go_sem,Zb]
     exact Xy (by simp [erT,h6]) (fun j _=>rfl)
    ·simp [go_sem]
     rfl
 ·have eT:(erT t (i+1)).1=(erT t i).1++[⟨(Za t i).text,(Za t i).kind,if Zv (Za t i).kind=0 then 0 else (erT t i).2.getD (Za t i).a.toNat 0,if Zv (Za t i).kind=2 then (erT t i).2.getD (Za t i).b.toNat 0 else 0⟩]:=by
   simp only [erT,if_neg h6]
  have hli:=hlen i
  by_cases k0:Zv (Za t i).kind=0
  ·rw [if_pos k0] at hk
   split at hk
   ·omega
   ·rename_i hn
    rw [show (ZL t i).toNat=i by omega]
    simp [k0] at eT
    simp [go_sem,Zz,Zb,h6]
    refine ⟨hi,Zc (Yh (Za t i).kind) ?_ ?_⟩
    ·simp [go_sem]
    ·simp [go_sem,k0]
     refine Zc (Yh (Za t i).kind) ?_ ?_
     ·simp [go_sem]
     ·simp [go_sem,k0]
      refine ⟨by omega,by omega,?_⟩
      refine ⟨rfl,[4],[none,Zb (erT t (i+1)).1],by simp,by simp [go_sem],by simp [go_sem],?_,by simp [go_sem],?_⟩
      ·simp [go_sem,Zb]
       exact Yo eT (fun j hj=>Yk (erT t i).1 ⟨(Za t i).text,(Za t i).kind,0,0⟩ j hj)
      ·simp [go_sem]
       rfl
  ·have k0':=k0
   rw [if_neg k0] at hk
   by_cases k1:Zv (Za t i).kind=1
   ·rw [if_pos k1] at hk
    split at hk
    ·omega
    ·rename_i hn
     have hi1:1≤i:=by
      by_cases hz:i=0
      ·subst hz;rw [Yt t (i:=((0:Nat):Int)-1) (by omega)] at hk;omega
      ·omega
     have ea:(Za t i).a=((i-1:Nat):Int):=by omega
     have ef:ZL t i=ZL t ((i-1:Nat):Int):=by rw [hk];congr 1;omega
     have e1:=ih (i-1) (by omega)
     rw [←ef,show i-1+1=i by omega] at e1
     have et:=Hq (i-1) (by omega) (hin (i-1) (by omega))
     rw [show i-1+1=i by omega] at et
     have e2:(erT t i).2.getD (Za t i).a.toNat 0=(erT t i).1.length-1:=by
      rw [ea,Int.toNat_natCast,KZ t (i-1) i (by omega)];exact et.2
     rw [e2] at eT
     have ew:IntKind.i64.wrap (((erT t i).1.length:Int)-1)=((erT t i).1.length:Int)-1:=wrap_i64 (by omega)
     simp [k0,k1] at eT
     simp [go_sem,Zz,Zb,h6]
     refine ⟨hi,Zc (Yh (Za t i).kind) ?_ ?_⟩
     ·simp [go_sem]
     ·simp [go_sem,k1]
      refine Zd [0] e1 (by simp) ?_ ?_ trivial ?_
      ·simp [go_sem,ea]
       exact clt
      ·simp [go_sem,Zb]
       exact fun i _=>Zk (Z5 _ i)
      ·rintro av mem maps ⟨rfl,rfl,rfl⟩
       simp [go_sem,Zb,ew]
       refine ⟨by omega,Zc (Yh (Za t i).kind) ?_ ?_⟩
       ·simp [go_sem]
       ·simp [go_sem,k1]
        refine ⟨by omega,by omega,?_⟩
        refine ⟨rfl,[5],[none,Zb (erT t (i+1)).1],by simp,by simp [go_sem],by simp [go_sem],?_,by simp [go_sem],?_⟩
        ·simp [go_sem,Zb]
         exact Yo eT (fun j hj=>Yk (erT t i).1 ⟨(Za t i).text,(Za t i).kind,((erT t i).1.length:Int)-1,0⟩ j hj)
        ·simp [go_sem]
         rfl
   ·have k2:Zv (Za t i).kind=2:=by rcases KU (Za t i).kind with e|e|e<;>omega
    rw [if_neg k1] at hk
    split at hk
    ·omega
    ·rename_i hb
     split at hk
     ·omega
     ·rename_i hn
      have hi1:1≤i:=by
       by_cases hz:i=0
       ·subst hz;rw [Yt t (i:=((0:Nat):Int)-1) (by omega)] at hn;omega
       ·omega
      have eb:(Za t i).b=((i-1:Nat):Int):=by omega
      have ei:(i:Int)-1=((i-1:Nat):Int):=by omega
      rw [ei] at hk hn
      have hle:=XR t (i:=((i-1:Nat):Int)) (by omega)
      generalize hq:(Za t i).a.toNat=q at *
      have ea:(Za t i).a=(q:Int):=by omega
      have eq1:(ZL t ((i-1:Nat):Int)).toNat=q+1:=by omega
      have ef:ZL t i=ZL t (q:Int):=by rw [hk];congr 1;omega
      have e1:=ih q (by omega)
      rw [←ef] at e1
      have e2:=ih (i-1) (by omega)
      rw [show i-1+1=i by omega,eq1] at e2
      have et1:=Hq q (by omega) (hin q (by omega))
      have et2:=Hq (i-1) (by omega) (hin (i-1) (by omega))
      rw [show i-1+1=i by omega] at et2
      have g1:(erT t i).2.getD q 0=(erT t (q+1)).1.length-1:=by
       rw [KZ t q i (by omega)];exact et1.2
      have g2:(erT t i).2.getD (Za t i).b.toNat 0=(erT t i).1.length-1:=by
       rw [eb,Int.toNat_natCast,KZ t (i-1) i (by omega)];exact et2.2
      rw [g1,g2] at eT
      have hlq:=hlen (q+1)
      have ew1:IntKind.i64.wrap (((erT t (q+1)).1.length:Int)-1)=((erT t (q+1)).1.length:Int)-1:=wrap_i64 (by omega)
      have ew2:IntKind.i64.wrap (((erT t i).1.length:Int)-1)=((erT t i).1.length:Int)-1:=wrap_i64 (by omega)
      simp [k0,k2] at eT
      simp [go_sem,Zz,Zb,h6]
      refine ⟨hi,Zc (Yh (Za t i).kind) ?_ ?_⟩
      ·simp [go_sem]
      ·simp [go_sem,k2]
       refine Zd [0] e1 (by simp) ?_ ?_ trivial ?_
       ·simp [go_sem,ea]
        exact clt
       ·simp [go_sem,Zb]
        exact fun i _=>Zk (Z5 _ i)
       ·rintro av mem maps ⟨rfl,rfl,rfl⟩
        simp [go_sem,Zb,ew1]
        refine ⟨by omega,Zc (Yh (Za t i).kind) ?_ ?_⟩
        ·simp [go_sem]
        ·simp [go_sem,k2]
         refine Zd [3] e2 (by simp) ?_ ?_ trivial ?_
         ·simp [go_sem,eb]
          exact clt
         ·simp [go_sem,Zb]
          exact fun i _=>Zk (Z5 _ i)
         ·rintro av mem maps ⟨rfl,rfl,rfl⟩
          simp [go_sem,Zb,ew2]
          refine ⟨by omega,by omega,by omega,?_⟩
          refine ⟨rfl,[6],[none,Zb (erT t (i+1)).1],by simp,by simp [go_sem],by simp [go_sem],?_,by simp [go_sem],?_⟩
          ·simp [go_sem,Zb]
           exact Yo eT (fun j hj=>Yk (erT t i).1 ⟨(Za t i).text,(Za t i).kind,((erT t (q+1)).1.length:Int)-1,((erT t i).1.length:Int)-1⟩ j hj)
          ·simp [go_sem]
           rfl
theorem Zg0 (t:List PNode) (ht:t.length≤1048576) (hin:∀ i,i<t.length→0≤ZL t i):∀ (i:Nat),i<t.length→VProc Tryz.prog 99 [.sl 4 t.length (Zf t),.lit (.int .i64 i),.own 0] [Zb (erT t (ZL t i).toNat).1] [] (fun av mem maps=>av=.own 1∧mem=[none,Zb (erT t (i+1)).1]∧maps=[]):=by
 intro i
 induction i using Nat.strongRecOn with
 |ind i ih=>exact fun hi=>Zan t ht hin i hi fun j hj=>ih j hj (by omega)
theorem VFun.adoptA {P:Program} {f:FuncId} {args:List AV} {R R':AV→List Ob→Prop} (h:VFun P f args R) (ty sz:Nat) (hsz:0<sz) (g:Nat→List AV)
  (hr:∀ av obs,R av obs→R' av obs∨∃ xs:List Value,av=.tup (.agg [.lit (.slice none 0 0)]::xs.map .lit)∧obs=[]∧R' (.tup (.agg [.own 0]::xs.map .lit)) [⟨ty,sz,0,g⟩]):VFun P f args R':=by
 refine ⟨h.1,fun w vs hl hv=>(h.2 w vs hl hv).mono fun e w' ⟨v,e1,gr,hd,av,obs,r,fl,hlit,hm,hrep⟩=>?_⟩
 rcases hr av obs r with r'|⟨xs,rfl,rfl,r'⟩
 ·exact ⟨v,e1,gr,hd,av,obs,r',fl,hlit,hm,hrep⟩
 ·refine ⟨v,e1,gr,fun _=>.slice none 0 0,_,_,r',?_,fun ob ho i hi=>?_,⟨fun k ob hk b hb=>?_,fun k ob hk=>?_,fun k hk=>⟨none,0,0,rfl⟩,fun k k' o o' hk hk' hne=>.inl rfl⟩,?_⟩
  ·simp [WM,U8,W3]
  ·simp only [List.mem_singleton] at ho
   subst ho
   simp at hi
  ·simp [Value.ownBlock] at hb
  ·cases k with
   |zero=>
    simp only [List.map_cons,List.map_nil,List.getElem?_cons_zero,Option.some.injEq] at hk
    subst hk
    exact ⟨hsz,[],⟨by simp,.inl ⟨rfl,rfl⟩⟩,fun i hi=>by simp at hi⟩
   |succ k=>simp at hk
  ·cases hrep with
   |tup _ us hl2 hr2=>
    match us,hl2 with
    |u1::us,hl2=>
     have q1:=hr2 0 _ u1 rfl rfl
     cases q1 with
     |agg _ ws hl3 hr3=>
      match ws,hl3 with
      |[x],_=>
       have q2:=hr3 0 _ x rfl rfl
       cases q2
       refine .tup _ (.agg #[.slice none 0 0]::us) (by simpa using hl2) fun j a u ha hu=>?_
       cases j with
       |zero=>
        simp only [List.getElem?_cons_zero,Option.some.injEq] at ha hu
        subst ha;subst hu
        refine .agg _ [.slice none 0 0] rfl fun j a u ha hu=>?_
        cases j with
        |zero=>
         simp only [List.getElem?_cons_zero,Option.some.injEq] at ha hu
         subst ha;subst hu
         exact .own (hd:=fun _=>.slice none 0 0) 0 (by simp)
        |succ j=>simp at ha
       |succ j=>
        simp only [List.getElem?_cons_succ] at ha hu
        have:=hr2 (j+1) a u (by simpa using ha) (by simpa using hu)
        rw [List.getElem?_map,Option.map_eq_some_iff] at ha
        obtain ⟨y,hy,rfl⟩:=ha
        cases this
        exact .lit _
theorem Bel.weak {may may':Nat→Prop} {w w':World} (h:Bel may w w') (hh:∀ b,may b→may' b):Bel may' w w':=⟨h.os,h.tape,h.output,h.size,fun k hk hm=>h.block k hk fun e=>hm (hh k e)⟩
theorem VProc.adoptNil {P:Program} {f:FuncId} {u:Value} {maps0:List (Nat×Mp)} {R:AV→List (Option Ob)→List (Nat×Mp)→Prop} {ty sz:Nat} {g:Nat→List AV} (hsz:0<sz)
  (h:VProc P f [.lit u,.own 0] [some ⟨ty,sz,0,g⟩] maps0 R):VProc P f [.lit u,.lit (.slice none 0 0)] [] maps0 R:=by
 refine ⟨h.1,fun w vs hd0 hl hv hm hmp htl=>?_⟩
 obtain ⟨HD,hHD⟩:∃ HD:Nat→Value,HD=fun k=>if k=0 then .slice none 0 0 else hd0 k:=⟨_,rfl⟩
 have h0:HD 0=.slice none 0 0:=by rw [hHD];exact if_pos rfl
 have heqT:TailEq hd0 HD:=⟨1,fun k hk=>by rw [hHD];exact if_neg (by omega)⟩
 have hsh:∀ b,Sh w HD [some ⟨ty,sz,0,g⟩] maps0 b→Sh w hd0 [] maps0 b:=by
  rintro b (q|⟨k,o,hk,hb⟩|q)
  ·exact .inl q
  ·have hkl:=(List.getElem?_eq_some_iff.1 hk).1
   obtain rfl:k=0:=by simpa using hkl
   rw [h0] at hb;simp [Value.ownBlock] at hb
  ·exact .inr (.inr q)
 have htl':Vf HD (Sh w HD [some ⟨ty,sz,0,g⟩] maps0):=by
  obtain ⟨K,hK⟩:=htl
  obtain ⟨M,hM⟩:=heqT
  refine ⟨K+M,fun k hk b hb hs=>?_⟩
  rw [hM k (by omega)] at hb
  exact hK k (by omega) b hb (hsh b hs)
 have hmr:MemRel (fun _=>True) w HD [some ⟨ty,sz,0,g⟩]:=by
  refine ⟨fun _ _ _ _ _=>trivial,fun k ob hk=>?_,fun k hk=>?_,fun k k' o o' hk hk' hne=>?_⟩
  ·have hkl:=(List.getElem?_eq_some_iff.1 hk).1
   obtain rfl:k=0:=by simpa using hkl
   simp only [List.getElem?_cons_zero,Option.some.injEq] at hk
   subst hk
   rw [h0]
   exact ⟨hsz,[],⟨by simp,.inl ⟨rfl,rfl⟩⟩,fun i hi=>by simp at hi⟩
  ·obtain rfl:k=0:=by simpa using hk
   exact ⟨none,0,0,h0⟩
  ·have hkl:=(List.getElem?_eq_some_iff.1 hk).1
   have hkl':=(List.getElem?_eq_some_iff.1 hk').1
   simp at hkl hkl'
   omega
 refine (h.2 w vs HD (by simpa using hl) (fun j a x ha hx=>?_) hmr hmp htl').mono fun e w' ⟨v,e1,bel,hd,av,mm,maps,r,po,hfix,hmr,hmap,hrep⟩=>?_
 ·match j,ha with
  |0,ha=>
   have:=hv 0 (.lit u) x rfl hx
   simp at ha
   subst ha
   cases this
   exact .lit _
  |1,ha=>
   have:=hv 1 (.lit (.slice none 0 0)) x rfl hx
   simp at ha
   subst ha
   cases this
   rw [←h0]
   exact .own 0 (by simp)
  |j+2,ha=>simp at ha
 ·refine ⟨v,e1,bel.weak hsh,hd,av,mm,maps,r,⟨by simp,po.flat,po.cells,po.maps⟩,⟨fun k hk=>by simp at hk,heqT.trans hfix.2⟩,⟨fun k o hk b hb=>hsh b (hmr.alw k o hk b hb),hmr.obs,hmr.hds,hmr.apart⟩,fun b mp hb=>?_,hrep⟩
  obtain ⟨q1,q2⟩:=hmap b mp hb
  exact ⟨hsh b q1,q2⟩
def Ya (t:List PNode):List PNode:=if Xd t then (erT t t.length).1 else []
theorem Gs {t:List PNode} (h:Xd t=true):∀ i,i<t.length→0≤ZL t i:=fun i hi=>by
 simp only [Xd,Bool.and_eq_true,decide_eq_true_eq] at h
 obtain ⟨⟨h1,h2⟩,h3⟩:=h
 have e1:(t.length:Int)-1=((t.length-1:Nat):Int):=by omega
 rw [e1] at h2
 exact Ji t (t.length-1) i (by omega) (by omega) (by omega)
theorem ZbA {t:List PNode} (h:Xd t=true):1≤t.length∧t.length≤20000∧ZL t ((t.length-1:Nat):Int)=0:=by
 simp only [Xd,Bool.and_eq_true,decide_eq_true_eq] at h
 obtain ⟨⟨h1,h2⟩,h3⟩:=h
 have e1:(t.length:Int)-1=((t.length-1:Nat):Int):=by omega
 rw [e1] at h2
 exact ⟨h1.1,h1.2,h2⟩
def erR (t:List PNode) (av:AV) (obs:List Ob):Prop:=(Xd t=true∧av=.tup [.agg [.own 0],.lit (.bool true)]∧obs=[⟨77,4,(Ya t).length,Zf (Ya t)⟩])∨(Xd t=false∧av=.tup [.agg [.lit (.slice none 0 0)],.lit (.bool false)]∧obs=[])
theorem Zld {t:List PNode} {av:AV} {obs:List Ob} (h:erR t av obs):(av=.tup [.agg [.own 0],.lit (.bool (Xd t))]∧obs=[⟨77,4,(Ya t).length,Zf (Ya t)⟩])∨∃ xs:List Value,av=.tup (.agg [.lit (.slice none 0 0)]::xs.map .lit)∧obs=[]∧
  (AV.tup (.agg [.own 0]::xs.map .lit)=.tup [.agg [.own 0],.lit (.bool (Xd t))]∧[(⟨77,4,0,Zf []⟩:Ob)]=[⟨77,4,(Ya t).length,Zf (Ya t)⟩]):=by
 rcases h with ⟨h1,rfl,rfl⟩|⟨h1,rfl,rfl⟩
 ·exact .inl ⟨by rw [h1],rfl⟩
 ·refine .inr ⟨[.bool false],rfl,rfl,?_⟩
  have e:Ya t=[]:=by simp [Ya,h1]
  rw [h1,e]
  exact ⟨rfl,rfl⟩
theorem Zd4 (t:List PNode) (ht:t.length≤1048576) (hwt:KP t):VFun Tryz.prog 55 [.agg [.sl 4 t.length (Zf t)]] (erR t):=by
 have clt:∀ (i:Nat) (c:AV),i<t.length→c∈Zf t i→Closed c:=fun i c _ h=>ZG t i c h
 refine Zi Tryz.func55 (by kernel_rfl) rfl (by simp [Tryz.ntmps55]) ?_;simp only [Tryz.ntmps55,Tryz.results55];simp [go_sem]
 refine Zc (Zaa t (by omega) hwt) ?_ ?_
 ·simp [go_sem]
  exact Ze (by omega) clt
 ·cases h1:Xd t with
  |false=>simp [go_sem,erR,h1]
  |true=>
   obtain ⟨g1,g2,g3⟩:=ZbA h1
   have e1:IntKind.i64.wrap ((t.length:Int)-1)=((t.length-1:Nat):Int):=by rw [wrap_i64 (by omega)];omega
   have c1:=Zg0 t ht (Gs h1) (t.length-1) (by omega)
   rw [g3,show t.length-1+1=t.length by omega] at c1
   simp [go_sem,e1]
   refine ⟨by omega,?_⟩
   refine Zd [2] c1 (by simp) ?_ ?_ trivial ?_
   ·simp [go_sem]
    exact clt
   ·simp [go_sem,Zb,erT]
   ·rintro av mem maps ⟨rfl,rfl,rfl⟩
    simp [go_sem,Zb]
    refine ⟨_,obsSame_one.mpr ⟨⟨77,4,(erT t t.length).1.length,Zf (erT t t.length).1⟩,⟨rfl,rfl,rfl,fun j hj=>⟨rfl,Z5 _ j⟩⟩,rfl⟩,?_⟩
    exact .inl ⟨h1,rfl,by simp [Ya,h1]⟩
theorem G9 (t:List PNode) (ht:t.length≤1048576) (hwt:KP t):VFun Tryz.prog 55 [.agg [.sl 4 t.length (Zf t)]] (fun av obs=>av=.tup [.agg [.own 0],.lit (.bool (Xd t))]∧obs=[⟨77,4,(Ya t).length,Zf (Ya t)⟩]):=
 (Zd4 t ht hwt).adoptA 77 4 (by omega) (Zf []) fun av obs h=>Zld h
theorem Zbz {t:List PNode} {i:Nat} (h0:0≤ZL t i):(Zv (Za t i).kind=0→(Za t i).a=0∧(Za t i).b=0)∧(Zv (Za t i).kind=1→(Za t i).b=0):=by
 rw [YP] at h0
 refine ⟨fun k=>?_,fun k=>?_⟩
 ·rw [if_pos k] at h0
  split at h0
  ·omega
  ·omega
 ·rw [if_neg (by omega),if_pos k] at h0
  split at h0
  ·omega
  ·omega
theorem ZbM (t:List PNode):(Ya t).length≤t.length:=by
 unfold Ya
 split
 ·exact ZdX t _
 ·simp
end Go.Proofs.YtjdmmhcogmepaaaGreatDoor.V
namespace Go.Proofs.YtjdmmhcogmepaaaGreatDoor.V
open Go.Proofs.YtjdmmhcogmepaaaGreatDoor.Ops (Tr)
def XP (l:List POp) (t:List PNode):Nat→List ET
 |0=>[]
 |i+1=>XP l t i++[
  if (Za t i).kind=6 then .grp ((XP l t i).getD (Za t i).a.toNat ET.nil)
  else if (Za t i).kind=3 then .pre (YJ l (Za t i)) ((XP l t i).getD (Za t i).a.toNat ET.nil)
  else if (Za t i).kind=5 then .post (YJ l (Za t i)) ((XP l t i).getD (Za t i).a.toNat ET.nil)
  else if (Za t i).kind=4 then .inf (YJ l (Za t i)) ((XP l t i).getD (Za t i).a.toNat ET.nil) ((XP l t i).getD (Za t i).b.toNat ET.nil)
  else .leaf ((Za t i).kind,(Za t i).text)]
def Yr (l:List POp) (t:List PNode) (i:Nat):ET:=(XP l t (i+1)).getD i ET.nil
theorem KH (l:List POp) (t:List PNode):∀ i,(XP l t i).length=i
 |0=>rfl
 |i+1=>by simp [XP,KH l t i]
theorem VW (l:List POp) (t:List PNode) (j:Nat):∀ i,j<i→(XP l t i).getD j ET.nil=Yr l t j
 |0,h=>by omega
 |i+1,h=>by
  by_cases e:j=i
  ·subst e;rfl
  ·have:=VW l t j i (by omega)
   rw [←this]
   have hl:=KH l t i
   simp only [XP,List.getD_eq_getElem?_getD]
   rw [List.getElem?_append_left (by omega)]
theorem Wj {l:List POp} {t:List PNode} {i:Nat} (h0:0≤ZL t i) (hk:1≤(Za t i).kind∧(Za t i).kind≤6):Yr l t i=
  if (Za t i).kind=6 then .grp (Yr l t (Za t i).a.toNat)
  else if (Za t i).kind=3 then .pre (YJ l (Za t i)) (Yr l t (Za t i).a.toNat)
  else if (Za t i).kind=5 then .post (YJ l (Za t i)) (Yr l t (Za t i).a.toNat)
  else if (Za t i).kind=4 then .inf (YJ l (Za t i)) (Yr l t (Za t i).a.toNat) (Yr l t (Za t i).b.toNat)
  else .leaf ((Za t i).kind,(Za t i).text):=by
 have hl:=KH l t i
 have e:Yr l t i=if (Za t i).kind=6 then .grp ((XP l t i).getD (Za t i).a.toNat ET.nil)
  else if (Za t i).kind=3 then .pre (YJ l (Za t i)) ((XP l t i).getD (Za t i).a.toNat ET.nil)
  else if (Za t i).kind=5 then .post (YJ l (Za t i)) ((XP l t i).getD (Za t i).a.toNat ET.nil)
  else if (Za t i).kind=4 then .inf (YJ l (Za t i)) ((XP l t i).getD (Za t i).a.toNat ET.nil) ((XP l t i).getD (Za t i).b.toNat ET.nil)
  else .leaf ((Za t i).kind,(Za t i).text):=by
  unfold Yr
  simp only [XP,List.getD_eq_getElem?_getD]
  rw [List.getElem?_append_right (by omega),hl]
  simp
 rw [e]
 have hk':Zv (Za t i).kind≠0→0≤(Za t i).a∧(Za t i).a<i:=fun h=>by
  rw [YP,if_neg h] at h0
  have neg:∀ z:Int,z=(i:Int)-1→0≤ZL t z→1≤i:=fun z hz hf=>by
   by_cases hi:i=0
   ·subst hi;rw [Yt t (by omega)] at hf;omega
   ·omega
  split at h0
  ·split at h0
   ·omega
   ·rename_i hn
    have:=neg _ rfl h0
    omega
  ·split at h0
   ·omega
   ·split at h0
    ·omega
    ·rename_i hb hn
     have h1:=neg _ rfl (by omega)
     have:=XR t (i:=(i:Int)-1) (by omega)
     omega
 have hb':(Za t i).kind=4→0≤(Za t i).b∧(Za t i).b<i:=fun h=>by
  have k0:¬Zv (Za t i).kind=0:=by simp [Zv,h]
  have k1:¬Zv (Za t i).kind=1:=by simp [Zv,h]
  rw [YP,if_neg k0,if_neg k1] at h0
  split at h0
  ·omega
  ·split at h0
   ·omega
   ·rename_i hb hn
    have:1≤i:=by
     by_cases hi:i=0
     ·subst hi;rw [Yt t (i:=((0:Nat):Int)-1) (by omega)] at hn;omega
     ·omega
    omega
 split
 ·rename_i h
  have:=hk' (by simp [Zv,h])
  rw [VW l t _ i (by omega)]
 ·split
  ·rename_i h
   have:=hk' (by simp [Zv,h])
   rw [VW l t _ i (by omega)]
  ·split
   ·rename_i h
    have:=hk' (by simp [Zv,h])
    rw [VW l t _ i (by omega)]
   ·split
    ·rename_i h
     have h1:=hk' (by simp [Zv,h])
     have h2:=hb' h
     rw [VW l t _ i (by omega),VW l t _ i (by omega)]
    ·rfl
def ZD:ET→ET
 | .leaf b=>.leaf b
 | .grp e=>ZD e
 | .pre o e=>.pre o (ZD e)
 | .post o e=>.post o (ZD e)
 | .inf o x y=>.inf o (ZD x) (ZD y)
def Zw:ET→Int→ET
 | .leaf b,m=>if 1001<m then .grp (.leaf b) else .leaf b
 | .grp e,m=>if 1001<m then .grp (.grp (Zw e 0)) else .grp (Zw e 0)
 | .pre o e,m=>if o.level<m then .grp (.pre o (Zw e (ZH o false))) else .pre o (Zw e (ZH o false))
 | .post o e,m=>if o.level<m then .grp (.post o (Zw e (ZH o false))) else .post o (Zw e (ZH o false))
 | .inf o x y,m=>if o.level<m then .grp (.inf o (Zw x (ZH o false)) (Zw y (ZH o true))) else .inf o (Zw x (ZH o false)) (Zw y (ZH o true))
def Xh (l:List POp):ET→Prop
 | .leaf b=>b.1=1∨b.1=2
 | .grp e=>Xh l e
 | .pre o e=>o.kind=1∧ZQ l o.text 1=true∧JX l o.text 1=o∧Xh l e
 | .post o e=>o.kind=3∧ZQ l o.text 3=true∧JX l o.text 3=o∧Xh l e
 | .inf o x y=>o.kind=2∧ZQ l o.text 2=true∧JX l o.text 2=o∧Xh l x∧Xh l y
def ZF:ET→Nat
 | .leaf _=>1
 | .grp e=>ZF e+1
 | .pre _ e=>ZF e+1
 | .post _ e=>ZF e+1
 | .inf _ x y=>ZF x+ZF y+1
theorem ZN:∀ (e:ET) (out:List PNode),(lay e out).length=out.length+ZF e
 | .leaf b,out=>by simp [lay,ZF]
 | .grp e,out=>by simp [lay,ZF,ZN e];omega
 | .pre o e,out=>by simp [lay,ZF,ZN e];omega
 | .post o e,out=>by simp [lay,ZF,ZN e];omega
 | .inf o x y,out=>by simp [lay,ZF,ZN x,ZN y];omega
theorem Z1 (e:ET):1≤ZF e:=by cases e<;>simp [ZF]
theorem Uy:∀ (e:ET) (out:List PNode) (j:Nat),j<out.length→Za (lay e out) j=Za out j
 | .leaf b,out,j,h=>by simp only [lay,Za,List.getD_eq_getElem?_getD];rw [List.getElem?_append_left h]
 | .grp e,out,j,h=>by
  have:=Uy e out j h
  have hl:=ZN e out
  simp only [lay,Za,List.getD_eq_getElem?_getD] at this ⊢
  rw [List.getElem?_append_left (by omega)];exact this
 | .pre o e,out,j,h=>by
  have:=Uy e out j h
  have hl:=ZN e out
  simp only [lay,Za,List.getD_eq_getElem?_getD] at this ⊢
  rw [List.getElem?_append_left (by omega)];exact this
 | .post o e,out,j,h=>by
  have:=Uy e out j h
  have hl:=ZN e out
  simp only [lay,Za,List.getD_eq_getElem?_getD] at this ⊢
  rw [List.getElem?_append_left (by omega)];exact this
 | .inf o x y,out,j,h=>by
  have h1:=Uy x out j h
  have hx:=ZN x out
  have h2:=Uy y (lay x out) j (by omega)
  have hy:=ZN y (lay x out)
  simp only [lay,Za,List.getD_eq_getElem?_getD] at h1 h2 ⊢
  rw [List.getElem?_append_left (by omega),h2];exact h1
theorem Wm (l:List PNode) (o:PNode) {i:Nat} (h:i=l.length):Za (l++[o]) i=o:=by
 subst h
 simp [Za,List.getD_eq_getElem?_getD]
theorem Zbr {l:List POp} {t:List PNode}:∀ (e:ET) (out:List PNode),Xh l e→(∀ j,j<(lay e out).length→Za t j=Za (lay e out) j)→
  ZL t (((lay e out).length-1:Nat):Int)=out.length∧Yr l t ((lay e out).length-1)=e:=by
 intro e
 induction e with
 |leaf b=>
  intro out hT hn
  have hlen:(lay (.leaf b) out).length=out.length+1:=by simp [lay]
  have hi:=hn out.length (by omega)
  simp only [lay] at hi
  rw [Wm _ _ rfl] at hi
  rw [hlen,show out.length+1-1=out.length by omega]
  have k:(Za t out.length).kind=b.1:=by rw [hi]
  have hk:b.1=1∨b.1=2:=hT
  have k0:Zv (Za t out.length).kind=0:=by rw [k];rcases hk with e|e<;>simp [Zv,e]
  have hf:ZL t ((out.length:Nat):Int)=out.length:=by
   rw [YP,if_pos k0,hi];simp
  refine ⟨hf,?_⟩
  rw [Wj (by omega) (by rw [k];omega),k]
  rw [if_neg (by omega),if_neg (by omega),if_neg (by omega),if_neg (by omega),hi]
 |grp e ih=>
  intro out hT hn
  have hle:=ZN e out
  have hp:=Z1 e
  have hlen:(lay (.grp e) out).length=(lay e out).length+1:=by simp [lay]
  have hi:=hn (lay e out).length (by omega)
  simp only [lay] at hi
  rw [Wm _ _ rfl] at hi
  obtain ⟨g1,g2⟩:=ih out hT fun j hj=>by
   rw [hn j (by omega)]
   simp only [lay,Za,List.getD_eq_getElem?_getD]
   rw [List.getElem?_append_left hj]
  rw [hlen,show (lay e out).length+1-1=(lay e out).length by omega]
  generalize hq:(lay e out).length=q at *
  have ea:(Za t q).a=((q-1:Nat):Int):=by rw [hi];simp only;omega
  have k:(Za t q).kind=6:=by rw [hi]
  have k1:Zv (Za t q).kind=1:=by rw [k];rfl
  have hb:(Za t q).b=0:=by rw [hi]
  have hf:ZL t ((q:Nat):Int)=out.length:=by
   rw [YP,if_neg (by omega),if_pos k1,if_neg (by rw [hb,ea];omega),←g1]
   congr 1;omega
  refine ⟨hf,?_⟩
  rw [Wj (by omega) (by omega),if_pos k,ea,Int.toNat_natCast,g2]
 |pre o e ih=>
  intro out hT hn
  obtain ⟨o1,o2,o3,hT'⟩:=hT
  have hle:=ZN e out
  have hp:=Z1 e
  have hlen:(lay (.pre o e) out).length=(lay e out).length+1:=by simp [lay]
  have hi:=hn (lay e out).length (by omega)
  simp only [lay] at hi
  rw [Wm _ _ rfl] at hi
  obtain ⟨g1,g2⟩:=ih out hT' fun j hj=>by
   rw [hn j (by omega)]
   simp only [lay,Za,List.getD_eq_getElem?_getD]
   rw [List.getElem?_append_left hj]
  rw [hlen,show (lay e out).length+1-1=(lay e out).length by omega]
  generalize hq:(lay e out).length=q at *
  have ea:(Za t q).a=((q-1:Nat):Int):=by rw [hi];simp only;omega
  have k:(Za t q).kind=3:=by rw [hi];simp only;omega
  have k1:Zv (Za t q).kind=1:=by rw [k];rfl
  have hb:(Za t q).b=0:=by rw [hi]
  have hf:ZL t ((q:Nat):Int)=out.length:=by
   rw [YP,if_neg (by omega),if_pos k1,if_neg (by rw [hb,ea];omega),←g1]
   congr 1;omega
  refine ⟨hf,?_⟩
  have hop:YJ l (Za t q)=o:=by
   unfold YJ
   rw [k,hi];exact o3
  rw [Wj (by omega) (by omega),if_neg (by omega),if_pos k,ea,Int.toNat_natCast,g2,hop]
 |post o e ih=>
  intro out hT hn
  obtain ⟨o1,o2,o3,hT'⟩:=hT
  have hle:=ZN e out
  have hp:=Z1 e
  have hlen:(lay (.post o e) out).length=(lay e out).length+1:=by simp [lay]
  have hi:=hn (lay e out).length (by omega)
  simp only [lay] at hi
  rw [Wm _ _ rfl] at hi
  obtain ⟨g1,g2⟩:=ih out hT' fun j hj=>by
   rw [hn j (by omega)]
   simp only [lay,Za,List.getD_eq_getElem?_getD]
   rw [List.getElem?_append_left hj]
  rw [hlen,show (lay e out).length+1-1=(lay e out).length by omega]
  generalize hq:(lay e out).length=q at *
  have ea:(Za t q).a=((q-1:Nat):Int):=by rw [hi];simp only;omega
  have k:(Za t q).kind=5:=by rw [hi];simp only;omega
  have k1:Zv (Za t q).kind=1:=by rw [k];rfl
  have hb:(Za t q).b=0:=by rw [hi]
  have hf:ZL t ((q:Nat):Int)=out.length:=by
   rw [YP,if_neg (by omega),if_pos k1,if_neg (by rw [hb,ea];omega),←g1]
   congr 1;omega
  refine ⟨hf,?_⟩
  have hop:YJ l (Za t q)=o:=by
   unfold YJ
   rw [k,hi];exact o3
  rw [Wj (by omega) (by omega),if_neg (by omega),if_neg (by omega),if_pos k,ea,Int.toNat_natCast,g2,hop]
 |inf o x y ihx ihy=>
  intro out hT hn
  obtain ⟨o1,o2,o3,hTx,hTy⟩:=hT
  have hlx:=ZN x out
  have hpx:=Z1 x
  have hly:=ZN y (lay x out)
  have hpy:=Z1 y
  have hlen:(lay (.inf o x y) out).length=(lay y (lay x out)).length+1:=by simp [lay]
  have hi:=hn (lay y (lay x out)).length (by omega)
  simp only [lay] at hi
  rw [Wm _ _ rfl] at hi
  have hny:∀ j,j<(lay y (lay x out)).length→Za t j=Za (lay y (lay x out)) j:=fun j hj=>by
   rw [hn j (by omega)]
   simp only [lay,Za,List.getD_eq_getElem?_getD]
   rw [List.getElem?_append_left hj]
  obtain ⟨g3,g4⟩:=ihy (lay x out) hTy hny
  obtain ⟨g1,g2⟩:=ihx out hTx fun j hj=>by rw [hny j (by omega),Uy y _ j hj]
  rw [hlen,show (lay y (lay x out)).length+1-1=(lay y (lay x out)).length by omega]
  generalize hq:(lay y (lay x out)).length=q at *
  generalize hr:(lay x out).length=r at *
  have ea:(Za t q).a=((r-1:Nat):Int):=by rw [hi];simp only;omega
  have eb:(Za t q).b=((q-1:Nat):Int):=by rw [hi];simp only;omega
  have k:(Za t q).kind=4:=by rw [hi];simp only;omega
  have k2:Zv (Za t q).kind=2:=by rw [k];rfl
  have e1:((q:Nat):Int)-1=((q-1:Nat):Int):=by omega
  have hf:ZL t ((q:Nat):Int)=out.length:=by
   rw [YP,if_neg (by omega),if_neg (by omega),e1,g3,if_neg (by rw [eb];omega),if_neg (by rw [ea];omega),←g1]
   congr 1;omega
  refine ⟨hf,?_⟩
  have hop:YJ l (Za t q)=o:=by
   unfold YJ
   rw [k,hi];exact o3
  rw [Wj (by omega) (by omega),if_neg (by omega),if_neg (by omega),if_neg (by omega),if_pos k,ea,eb,Int.toNat_natCast,Int.toNat_natCast,g2,g4,hop]
structure NodesOk (l:List POp) (t:List PNode):Prop where
 ord:∀ i,i<t.length→0≤ZL t i
 txt:∀ i,i<t.length→YL (Za t i)=true
 has:∀ i,i<t.length→ZO (Za t i)=true→ZQ l (Za t i).text ((Za t i).kind-2)=true
theorem NodesOk.kind {l:List POp} {t:List PNode} (h:NodesOk l t) {i:Nat} (hi:i<t.length):1≤(Za t i).kind∧(Za t i).kind≤6:=
 Decidable.byContradiction fun hn=>by have:=h.txt i hi;rw [Qi hn] at this;cases this
theorem Zbc {l:List POp} {t:List PNode} (h:XX l t=true):NodesOk l t:=by
 simp only [XX,Bool.and_eq_true,Kj] at h
 obtain ⟨⟨h1,h2⟩,h3⟩:=h
 refine ⟨Gs h2,fun i hi=>(Gr h2 hi).1,fun i hi e=>?_⟩
 have:=List.all_eq_true.1 h3 i (List.mem_range.2 hi)
 simpa [e] using this
theorem HE {l:List POp} {n:PNode} (h:ZQ l n.text (n.kind-2)=true):(YJ l n).text=n.text∧(YJ l n).kind=n.kind-2:=by
 obtain ⟨i,hi,e1,e2,e3⟩:=QN h
 unfold YJ
 rw [e1];exact ⟨e2,e3⟩
theorem Zce {t:List PNode} {i:Nat} (h:i<t.length):t.take (i+1)=t.take i++[Za t i]:=by
 rw [List.take_add_one,List.getElem?_eq_getElem h]
 simp [Za,List.getD_eq_getElem?_getD,h]
theorem QP {a b:PNode} (h1:a.text=b.text) (h2:a.kind=b.kind) (h3:a.a=b.a) (h4:a.b=b.b):a=b:=by
 cases a;cases b;simp_all
theorem Zew {l:List POp} {t:List PNode} (h:NodesOk l t):∀ (i:Nat),i<t.length→t.take (i+1)=lay (Yr l t i) (t.take (ZL t i).toNat)∧Xh l (Yr l t i)∧
  (erT t (i+1)).1=lay (ZD (Yr l t i)) (erT t (ZL t i).toNat).1:=by
 intro i
 induction i using Nat.strongRecOn with
 |ind i ih=>
  intro hi
  have h0:=h.ord i hi
  have hk:=h.kind hi
  have htx:=h.txt i hi
  rw [Zce hi,Wj h0 hk]
  have hz:=Zbz h0
  have hz1:(Za t i).kind=1∨(Za t i).kind=2∨(Za t i).kind=3∨(Za t i).kind=4∨(Za t i).kind=5∨(Za t i).kind=6:=by omega
  have leaf:Zv (Za t i).kind=0→ZL t i=i:=fun k=>by
   rw [YP,if_pos k,if_neg (by have:=hz.1 k;omega)]
  have one:Zv (Za t i).kind=1→1≤i∧(Za t i).a=((i-1:Nat):Int)∧(Za t i).b=0∧ZL t i=ZL t ((i-1:Nat):Int):=fun k=>by
   have h0':=h0
   have hf:=YP t i
   rw [if_neg (by omega),if_pos k] at hf
   split at hf
   ·omega
   ·rename_i hn
    have hi1:1≤i:=by
     by_cases hz:i=0
     ·subst hz;rw [Yt t (i:=((0:Nat):Int)-1) (by omega)] at hf;omega
     ·omega
    refine ⟨hi1,by omega,by omega,?_⟩
    rw [hf];congr 1;omega
  have getd:∀ {i:Nat},i<t.length→1≤i→1≤(erT t i).1.length∧toN t (i-1)=(erT t i).1.length-1:=fun {i} hi h1=>by
   have:=Hq (i-1) (by omega) (h.ord (i-1) (by omega))
   rwa [show i-1+1=i by omega] at this
  have er6:(Za t i).kind=6→(erT t (i+1)).1=(erT t i).1:=fun e=>by simp [erT,e]
  have er:¬(Za t i).kind=6→(erT t (i+1)).1=(erT t i).1++[⟨(Za t i).text,(Za t i).kind,if Zv (Za t i).kind=0 then 0 else (erT t i).2.getD (Za t i).a.toNat 0,if Zv (Za t i).kind=2 then (erT t i).2.getD (Za t i).b.toNat 0 else 0⟩]:=fun e=>by simp only [erT,if_neg e]
  have one':Zv (Za t i).kind=1→¬(Za t i).kind=6→(erT t (i+1)).1=(erT t i).1++[⟨(Za t i).text,(Za t i).kind,(erT t i).1.length-1,0⟩]:=fun k e=>by
   obtain ⟨a1,a2,a3,a4⟩:=one k
   rw [er e,if_neg (by omega),if_neg (by omega),a2,Int.toNat_natCast,KZ t _ i (by omega),(getd hi a1).2]
  have lenl:∀ {q:Nat} (hq:q<t.length) {m:Nat},t.take (q+1)=lay (Yr l t q) (t.take m)→(lay (Yr l t q) (t.take m)).length=q+1:=fun {q} hq {m} e=>by
   rw [←e];simp;omega
  rcases hz1 with e|e|e|e|e|e
  ·have k:Zv (Za t i).kind=0:=by simp [Zv,e]
   have hf:=leaf k
   obtain ⟨z1,z2⟩:=hz.1 k
   rw [er (by omega),if_pos k,if_neg (by omega)]
   simp only [e,if_neg (show ¬(1:Int)=6 by decide),if_neg (show ¬(1:Int)=3 by decide),if_neg (show ¬(1:Int)=5 by decide),if_neg (show ¬(1:Int)=4 by decide)]
   refine ⟨?_,.inl rfl,?_⟩
   ·rw [hf,Int.toNat_natCast]
    simp only [lay]
    rw [QP (a:=Za t i) (b:=⟨(Za t i).text,1,0,0⟩) rfl e z1 z2]
   ·rw [hf,Int.toNat_natCast];rfl
  ·have k:Zv (Za t i).kind=0:=by simp [Zv,e]
   have hf:=leaf k
   obtain ⟨z1,z2⟩:=hz.1 k
   rw [er (by omega),if_pos k,if_neg (by omega)]
   simp only [e,if_neg (show ¬(2:Int)=6 by decide),if_neg (show ¬(2:Int)=3 by decide),if_neg (show ¬(2:Int)=5 by decide),if_neg (show ¬(2:Int)=4 by decide)]
   refine ⟨?_,.inr rfl,?_⟩
   ·rw [hf,Int.toNat_natCast]
    simp only [lay]
    rw [QP (a:=Za t i) (b:=⟨(Za t i).text,2,0,0⟩) rfl e z1 z2]
   ·rw [hf,Int.toNat_natCast];rfl
  ·have k:Zv (Za t i).kind=1:=by simp [Zv,e]
   obtain ⟨a1,a2,a3,a4⟩:=one k
   obtain ⟨g1,g2,g3⟩:=ih (i-1) (by omega) (by omega)
   have hl:=lenl (by omega) g1
   rw [←a4,show i-1+1=i by omega] at g1 g3
   rw [←a4] at hl
   have hh:=h.has i hi (by simp [ZO,e])
   obtain ⟨p1,p2⟩:=HE hh
   rw [e] at p2 hh
   rw [one' k (by omega)]
   simp only [if_neg (show ¬(Za t i).kind=6 by omega),if_pos e,a2,Int.toNat_natCast]
   refine ⟨?_,⟨p2,by rw [p1];exact hh,?_,g2⟩,?_⟩
   ·simp only [lay]
    rw [←g1] at hl ⊢
    exact congrArg (fun x=>t.take i++[x]) (QP (a:=Za t i) (b:=⟨(YJ l (Za t i)).text,(YJ l (Za t i)).kind+2,(t.take i).length-1,0⟩) p1.symm (by simp only;omega) (by simp only;omega) a3)
   ·rw [p1];unfold YJ;rw [e];rfl
   ·simp only [ZD,lay]
    rw [←g3,p1,p2,e];rfl
  ·have k:Zv (Za t i).kind=2:=by simp [Zv,e]
   have hf:=YP t i
   rw [if_neg (by omega),if_neg (by omega)] at hf
   split at hf
   ·omega
   ·rename_i hb
    split at hf
    ·omega
    ·rename_i hn
     have hi1:1≤i:=by
      by_cases hz:i=0
      ·subst hz;rw [Yt t (i:=((0:Nat):Int)-1) (by omega)] at hn;omega
      ·omega
     have eb:(Za t i).b=((i-1:Nat):Int):=by omega
     have ei:(i:Int)-1=((i-1:Nat):Int):=by omega
     rw [ei] at hf hn
     have hle:=XR t (i:=((i-1:Nat):Int)) (by omega)
     obtain ⟨q,hq⟩:∃ q:Nat,(Za t i).a=(q:Int):=⟨(Za t i).a.toNat,by omega⟩
     have eq1:(ZL t ((i-1:Nat):Int)).toNat=q+1:=by omega
     have ef:ZL t i=ZL t (q:Int):=by rw [hf];congr 1;omega
     obtain ⟨g1,g2,g3⟩:=ih q (by omega) (by omega)
     obtain ⟨f1,f2,f3⟩:=ih (i-1) (by omega) (by omega)
     have hl1:=lenl (by omega) g1
     have hl2:=lenl (by omega) f1
     rw [←ef] at g1 g3 hl1
     rw [show i-1+1=i by omega,eq1] at f1 f3
     rw [eq1] at hl2
     have hh:=h.has i hi (by simp [ZO,e])
     obtain ⟨p1,p2⟩:=HE hh
     rw [e] at p2 hh
     have et1:=Hq q (by omega) (h.ord q (by omega))
     have et2:=getd hi hi1
     rw [er (by omega),if_neg (by omega),if_pos k,hq,eb,Int.toNat_natCast,Int.toNat_natCast,KZ t _ i (by omega),KZ t _ i (by omega),et1.2,et2.2]
     simp only [if_neg (show ¬(Za t i).kind=6 by omega),if_neg (show ¬(Za t i).kind=3 by omega),if_neg (show ¬(Za t i).kind=5 by omega),if_pos e]
     refine ⟨?_,⟨p2,by rw [p1];exact hh,?_,g2,f2⟩,?_⟩
     ·simp only [lay]
      rw [←g1] at hl1 ⊢
      rw [←f1] at hl2 ⊢
      exact congrArg (fun x=>t.take i++[x]) (QP (a:=Za t i) (b:=⟨(YJ l (Za t i)).text,(YJ l (Za t i)).kind+2,(t.take (q+1)).length-1,(t.take i).length-1⟩) p1.symm (by simp only;omega) (by simp only;omega) (by simp only;omega))
     ·rw [p1];unfold YJ;rw [e];rfl
     ·simp only [ZD,lay]
      rw [←g3,←f3,p1,p2,e];rfl
  ·have k:Zv (Za t i).kind=1:=by simp [Zv,e]
   obtain ⟨a1,a2,a3,a4⟩:=one k
   obtain ⟨g1,g2,g3⟩:=ih (i-1) (by omega) (by omega)
   have hl:=lenl (by omega) g1
   rw [←a4,show i-1+1=i by omega] at g1 g3
   rw [←a4] at hl
   have hh:=h.has i hi (by simp [ZO,e])
   obtain ⟨p1,p2⟩:=HE hh
   rw [e] at p2 hh
   rw [one' k (by omega)]
   simp only [if_neg (show ¬(Za t i).kind=6 by omega),if_neg (show ¬(Za t i).kind=3 by omega),if_pos e,a2,Int.toNat_natCast]
   refine ⟨?_,⟨p2,by rw [p1];exact hh,?_,g2⟩,?_⟩
   ·simp only [lay]
    rw [←g1] at hl ⊢
    exact congrArg (fun x=>t.take i++[x]) (QP (a:=Za t i) (b:=⟨(YJ l (Za t i)).text,(YJ l (Za t i)).kind+2,(t.take i).length-1,0⟩) p1.symm (by simp only;omega) (by simp only;omega) a3)
   ·rw [p1];unfold YJ;rw [e];rfl
   ·simp only [ZD,lay]
    rw [←g3,p1,p2,e];rfl
  ·have k:Zv (Za t i).kind=1:=by simp [Zv,e]
   obtain ⟨a1,a2,a3,a4⟩:=one k
   obtain ⟨g1,g2,g3⟩:=ih (i-1) (by omega) (by omega)
   have hl:=lenl (by omega) g1
   rw [←a4,show i-1+1=i by omega] at g1 g3
   rw [←a4] at hl
   have hx:(Za t i).text=⟨#[]⟩:=by
    simp only [YL,e] at htx
    simp at htx
    exact htx.2
   rw [er6 e]
   simp only [if_pos e,a2,Int.toNat_natCast]
   refine ⟨?_,g2,?_⟩
   ·simp only [lay]
    rw [←g1] at hl ⊢
    rw [QP (a:=Za t i) (b:=⟨⟨#[]⟩,6,(t.take i).length-1,0⟩) hx e (by simp only;omega) a3]
   ·simp only [ZD];exact g3
end Go.Proofs.YtjdmmhcogmepaaaGreatDoor.V
