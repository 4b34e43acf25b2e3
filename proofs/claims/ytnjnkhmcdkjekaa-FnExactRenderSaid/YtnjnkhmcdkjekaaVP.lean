/- The value machine, part P: functions that are handed objects and maps of the caller's own. -/
import Derived.Test.YtnjnkhmcdkjekaaV8
namespace Go.Proofs.Ytnjnkhmcdkjekaa.V
open Go.RowKit
set_option linter.unusedVariables false
set_option linter.unusedSimpArgs false
section
variable {hd : Nat → Value}
/-- read under other numbers of own objects: number k is what f k was -/
inductive Rn (f : Nat → Nat) (m : Nat) : AV → AV → Prop
  | undef (x : AV) : Rn f m x .undef
  | closed (av : AV) (h : Closed av) : Rn f m av av
  | own (k : Nat) (h : k < m) : Rn f m (.own (f k)) (.own k)
  | sub (k sz lo n : Nat) (h : k < m) : Rn f m (.sub (f k) sz lo n) (.sub k sz lo n)
  | ptr (k sz i j : Nat) (h : k < m) : Rn f m (.ptr (f k) sz i j) (.ptr k sz i j)
  | agg (cs ds : List AV) (hl : cs.length = ds.length) (h : ∀ (j : Nat) a b, cs[j]? = some a → ds[j]? = some b → Rn f m a b) : Rn f m (.agg cs) (.agg ds)
  | tup (cs ds : List AV) (hl : cs.length = ds.length) (h : ∀ (j : Nat) a b, cs[j]? = some a → ds[j]? = some b → Rn f m a b) : Rn f m (.tup cs) (.tup ds)
theorem Rep.rn {w : World} {ok ok' : Nat → Prop} {m m' : Nat} {f : Nat → Nat} {x y : AV} (hb : Rn f m' x y) (hok : ∀ b, ok b → ok' b) : ∀ {v : Value}, Rep w ok hd m x v → Rep w ok' (fun k => hd (f k)) m' y v := by
  induction hb with
  | undef x => intro v _; exact .undef v
  | closed av hc => intro v h; exact Rep.closed hc (fun a u h1 h2 => ⟨h2, hok _ h1⟩) h
  | own k hk => intro v h; cases h; exact .own k hk
  | sub k sz lo n hk => intro v h; cases h with | sub _ _ _ _ A c _ hc ha => exact .sub k sz lo n A c hk hc ha
  | ptr k sz i j hk => intro v h; cases h with | ptr _ _ _ _ b n' c' _ hh => exact .ptr k sz i j b n' c' hk hh
  | agg cs ds hl _ ih => intro v h; cases h with | agg _ vs hl' hr => exact .agg ds vs (by omega) fun j b u h1 h2 => (by
      have hj : j < cs.length := by have := (List.getElem?_eq_some_iff.1 h1).1; omega
      exact ih j _ b (List.getElem?_eq_getElem hj) h1 (hr j _ u (List.getElem?_eq_getElem hj) h2))
  | tup cs ds hl _ ih => intro v h; cases h with | tup _ vs hl' hr => exact .tup ds vs (by omega) fun j b u h1 h2 => (by
      have hj : j < cs.length := by have := (List.getElem?_eq_some_iff.1 h1).1; omega
      exact ih j _ b (List.getElem?_eq_getElem hj) h1 (hr j _ u (List.getElem?_eq_getElem hj) h2))
end

/-- what a call may write: what it was handed, what is new -/
def Sh (w : World) (hd0 : Nat → Value) (mem0 : List (Option Ob)) (maps0 : List (Nat × Mp)) (b : Nat) : Prop :=
  w.heap.size ≤ b ∨ (∃ k ob, mem0[k]? = some (some ob) ∧ (hd0 k).ownBlock = some b) ∨ (lkm maps0 b).isSome = true
structure PostOk (mem0 : List (Option Ob)) (maps0 : List (Nat × Mp)) (av : AV) (mem : List (Option Ob)) (maps : List (Nat × Mp)) : Prop where
  len : mem0.length ≤ mem.length
  flat : flatV av = true
  cells : ∀ (k : Nat) (ob : Ob), mem[k]? = some (some ob) → ∀ i, i < ob.n → (ob.f i).all flat1 = true
  maps : ∀ b, (lkm maps0 b).isSome = true → (lkm maps b).isSome = true
/-- a contract of a function that is handed objects mem0 and maps maps0: what it answers, what they hold then (and what is new behind them) -/
def VProc (P : Program) (f : FuncId) (args : List AV) (mem0 : List (Option Ob)) (maps0 : List (Nat × Mp)) (R : AV → List (Option Ob) → List (Nat × Mp) → Prop) : Prop :=
  FnOk P f ∧ ∀ (w : World) (vs : List Value) (hd0 : Nat → Value), args.length = vs.length →
    (∀ (j : Nat) a u, args[j]? = some a → vs[j]? = some u → Rep w (okOf mem0 hd0) hd0 mem0.length a u) → MemRel (fun _ => True) w hd0 mem0 → MapRel P (fun _ => True) w maps0 →
    Calls P f vs.toArray w (fun e w' => ∃ v, e = .returned v ∧ Bel (Sh w hd0 mem0 maps0) w w' ∧ ∃ hd av mem maps, R av mem maps ∧ PostOk mem0 maps0 av mem maps ∧
      (∀ k, k < mem0.length → hd k = hd0 k) ∧ MemRel (Sh w hd0 mem0 maps0) w' hd mem ∧ MapRel P (Sh w hd0 mem0 maps0) w' maps ∧ Rep w' (okOf mem hd) hd mem.length av v)
theorem VProc.mono {P : Program} {f : FuncId} {args : List AV} {mem0 : List (Option Ob)} {maps0 : List (Nat × Mp)} {R R' : AV → List (Option Ob) → List (Nat × Mp) → Prop} (h : VProc P f args mem0 maps0 R) (hr : ∀ av mem maps, R av mem maps → R' av mem maps) : VProc P f args mem0 maps0 R' :=
  ⟨h.1, fun w vs hd0 hl hv hm hmp => (h.2 w vs hd0 hl hv hm hmp).mono fun e w' ⟨v, e1, g, hd, av, mem, maps, r, rest⟩ => ⟨v, e1, g, hd, av, mem, maps, hr _ _ _ r, rest⟩⟩

def CellsRn (f : Nat → Nat) (m : Nat) : List AV → List AV → Prop
  | [], [] => True
  | a :: r, b :: r' => Rn f m a b ∧ CellsRn f m r r'
  | _, _ => False
theorem cellsRn_get {f : Nat → Nat} {m : Nat} : ∀ {l l' : List AV}, CellsRn f m l l' → l.length = l'.length ∧ ∀ (j : Nat) a b, l[j]? = some a → l'[j]? = some b → Rn f m a b
  | [], [], _ => ⟨rfl, fun j a b h => by simp at h⟩
  | a :: r, b :: r', h => by
    obtain ⟨h1, h2⟩ := cellsRn_get h.2
    refine ⟨by simp [h1], fun j x y hx hy => ?_⟩
    cases j with
    | zero =>
      simp only [List.getElem?_cons_zero, Option.some.injEq] at hx hy
      subst hx; subst hy; exact h.1
    | succ j => exact h2 j x y (by simpa using hx) (by simpa using hy)
  | [], _ :: _, h => h.elim
  | _ :: _, [], h => h.elim
def ShOb (f : Nat → Nat) (m : Nat) (ob ob' : Ob) : Prop := ob.ty = ob'.ty ∧ ob.sz = ob'.sz ∧ ob.n = ob'.n ∧ ∀ i, i < ob'.n → CellsRn f m (ob.f i) (ob'.f i)
def ShAt (f : Nat → Nat) (m : Nat) (ob' : Ob) : Option (Option Ob) → Prop
  | some (some ob) => ShOb f m ob ob'
  | _ => False
def ShMem (f : Nat → Nat) (m : Nat) (mem : List (Option Ob)) : List Nat → List (Option Ob) → Prop
  | [], [] => True
  | k :: ks, some ob' :: r => ShAt f m ob' (mem[k]?) ∧ ShMem f m mem ks r
  | _, _ => False
theorem shMem_get {f : Nat → Nat} {m : Nat} {mem : List (Option Ob)} : ∀ {ks : List Nat} {mem0 : List (Option Ob)}, ShMem f m mem ks mem0 → mem0.length = ks.length ∧ ∀ (j k : Nat), ks[j]? = some k → ∃ ob ob', mem0[j]? = some (some ob') ∧ mem[k]? = some (some ob) ∧ ShOb f m ob ob'
  | [], [], _ => ⟨rfl, fun j k h => by simp at h⟩
  | k :: ks, some ob' :: r, h => by
    obtain ⟨h1, h2⟩ := shMem_get h.2
    refine ⟨by simp [h1], fun j q hq => ?_⟩
    cases j with
    | zero =>
      simp only [List.getElem?_cons_zero, Option.some.injEq] at hq
      subst hq
      have h3 := h.1
      generalize mem[k]? = y at h3
      match y, h3 with
      | some (some o), h3 => exact ⟨o, ob', rfl, rfl, h3⟩
    | succ j => exact h2 j q (by simpa using hq)
  | [], _ :: _, h => h.elim
  | _ :: _, [], h => h.elim
  | _ :: _, none :: _, h => h.elim

/-- the numbers that the callee's objects have behind the call -/
def backN (ks : List Nat) (m j : Nat) : Nat := if j < ks.length then ks.getD j 0 else m + (j - ks.length)
def renOb (g : Nat → Nat) (ob : Ob) : Ob := { ob with f := fun i => (ob.f i).map (ren1 g) }
def setAll (m : List (Option Ob)) : List Nat → List (Option Ob) → List (Option Ob)
  | k :: ks, o :: os => setAll (m.set k o) ks os
  | _, _ => m
def mergeM (mem : List (Option Ob)) (ks : List Nat) (mem' : List (Option Ob)) : List (Option Ob) :=
  setAll mem ks ((mem'.take ks.length).map (Option.map (renOb (backN ks mem.length)))) ++ (mem'.drop ks.length).map (Option.map (renOb (backN ks mem.length)))
theorem setAll_len : ∀ (ks : List Nat) (m os : List (Option Ob)), (setAll m ks os).length = m.length
  | [], m, os => by simp [setAll]
  | _ :: _, m, [] => by simp [setAll]
  | k :: ks, m, o :: os => by simp [setAll, setAll_len ks]
theorem setAll_not : ∀ (ks : List Nat) (m os : List (Option Ob)) (k : Nat), k ∉ ks → (setAll m ks os)[k]? = m[k]?
  | [], m, os, k, _ => by simp [setAll]
  | _ :: _, m, [], k, _ => by simp [setAll]
  | q :: ks, m, o :: os, k, h => by
    simp only [List.mem_cons, not_or] at h
    simp only [setAll]
    rw [setAll_not ks _ os k h.2, List.getElem?_set_ne (fun e => h.1 e.symm)]
theorem setAll_at : ∀ (ks : List Nat) (m os : List (Option Ob)), ks.Nodup → ks.length = os.length → (∀ k, k ∈ ks → k < m.length) → ∀ (j k : Nat), ks[j]? = some k → (setAll m ks os)[k]? = os[j]?
  | [], m, os, _, _, _, j, k, h => by simp at h
  | _ :: _, m, [], _, hl, _, j, k, h => by simp at hl
  | q :: ks, m, o :: os, hnd, hl, hlt, j, k, h => by
    simp only [List.nodup_cons] at hnd
    simp only [setAll]
    cases j with
    | zero =>
      simp only [List.getElem?_cons_zero, Option.some.injEq] at h
      subst h
      rw [setAll_not ks _ os q hnd.1, List.getElem?_set_self (hlt q (by simp))]
      rfl
    | succ j =>
      rw [setAll_at ks _ os hnd.2 (by simpa using hl) (fun k hk => by simpa using hlt k (by simp [hk])) j k (by simpa using h)]
      simp
theorem merge_len (mem : List (Option Ob)) (ks : List Nat) (mem' : List (Option Ob)) : (mergeM mem ks mem').length = mem.length + (mem'.length - ks.length) := by
  simp [mergeM, setAll_len]
theorem merge_get {mem : List (Option Ob)} {ks : List Nat} {mem' : List (Option Ob)} (hnd : ks.Nodup) (hl : ks.length ≤ mem'.length) (hlt : ∀ k, k ∈ ks → k < mem.length) {k : Nat} {ob : Ob} (h : (mergeM mem ks mem')[k]? = some (some ob)) :
    (k < mem.length ∧ k ∉ ks ∧ mem[k]? = some (some ob)) ∨ ∃ j ob0, j < mem'.length ∧ k = backN ks mem.length j ∧ mem'[j]? = some (some ob0) ∧ ob = renOb (backN ks mem.length) ob0 := by
  have mapd : ∀ (x : Option (Option Ob)), x.map (Option.map (renOb (backN ks mem.length))) = some (some ob) → ∃ ob0, x = some (some ob0) ∧ ob = renOb (backN ks mem.length) ob0 := by
    intro x hx
    cases x with
    | none => simp at hx
    | some y => cases y with
      | none => simp at hx
      | some y => simp at hx; exact ⟨y, rfl, hx.symm⟩
  unfold mergeM at h
  rw [List.getElem?_append, setAll_len] at h
  split at h
  · rename_i hk
    by_cases hm : k ∈ ks
    · obtain ⟨j, hj⟩ := List.getElem?_of_mem hm
      have hjl : j < ks.length := (List.getElem?_eq_some_iff.1 hj).1
      rw [setAll_at ks mem _ hnd (by simp; omega) hlt j k hj, List.getElem?_map, List.getElem?_take, if_pos hjl] at h
      obtain ⟨ob0, h1, h2⟩ := mapd _ h
      refine .inr ⟨j, ob0, by omega, ?_, h1, h2⟩
      unfold backN
      rw [if_pos hjl, List.getD_eq_getElem?_getD, hj]; rfl
    · rw [setAll_not ks mem _ k hm] at h
      exact .inl ⟨hk, hm, h⟩
  · rename_i hk
    rw [List.getElem?_map, List.getElem?_drop] at h
    obtain ⟨ob0, h1, h2⟩ := mapd _ h
    have hjl := (List.getElem?_eq_some_iff.1 h1).1
    refine .inr ⟨ks.length + (k - mem.length), ob0, hjl, ?_, h1, h2⟩
    unfold backN
    rw [if_neg (by omega)]; omega
theorem lkm_app : ∀ (l l' : List (Nat × Mp)) (b : Nat), lkm (l ++ l') b = match lkm l b with | some mp => some mp | none => lkm l' b
  | [], l', b => rfl
  | (u, v) :: r, l', b => by
    simp only [List.cons_append, lkm]
    split
    · rfl
    · exact lkm_app r l' b
theorem own_same {w w' : World} {B e size m : Nat} {v : Value} {xs : List Value} (h : w.ownsRow B e size v m xs) (hs : ∀ b, v.ownBlock = some b → w'.heap[b]? = w.heap[b]?) : w'.ownsRow B e size v m xs := by
  refine ⟨h.1, ?_⟩
  rcases h.2 with h0 | ⟨g, cap, cur, e, h1, h2, r⟩
  · exact .inl h0
  · exact .inr ⟨g, cap, cur, e, h1, (hs g (by rw [e]; rfl)).trans h2, r⟩
theorem lkm_mem : ∀ {l : List (Nat × Mp)} {b : Nat} {mp : Mp}, lkm l b = some mp → (b, mp) ∈ l
  | [], _, _, h => by simp [lkm] at h
  | (u, v) :: r, b, mp, h => by
    simp only [lkm] at h
    split at h
    · rename_i e
      simp only [Option.some.injEq] at h
      subst e; subst h; simp
    · simp [lkm_mem h]

def callOf : Op → Option (FuncId × List Operand)
  | .call c => match c.callee with
    | .value (.func f) => some (f, c.args.toList)
    | _ => none
  | _ => none

def putO (n : Nat) (dst : Option Tmp) (av : AV) (s : VS) (k : VS → Prop) : Prop :=
  match dst with
  | none => k s
  | some t => t < n ∧ k { s with tmps := (t, av) :: s.tmps }
/-- a call that hands over objects of the caller's own (numbers ks) and maps -/
def vcallS0 (P : Program) (f : FuncId) (avs : List AV) (s : VS) (k : AV → VS → Prop) : Prop :=
  ∃ ks args' mem0 maps0, ks.Nodup ∧ CellsRn (fun j => ks.getD j 0) ks.length avs args' ∧ ShMem (fun j => ks.getD j 0) ks.length s.mem ks mem0 ∧ (∀ p, p ∈ maps0 → lkm s.maps p.1 = some p.2) ∧
    VProc P f args' mem0 maps0 (fun av mem' maps' => k (ren (backN ks s.mem.length) av) { s with mem := mergeM s.mem ks mem', maps := maps' ++ s.maps })
/-- a function of the library that gives its one argument back -/
def sameX (P : Program) (f : FuncId) : Prop := ∃ fn, P.funcs[f]? = some fn ∧ (fn.name == "runtime.NumGoroutine") = false ∧ fn.body.isNone = true ∧ Extern.findNext fn = none ∧ Extern.find fn = some Extern.AbiNoEscape.same
def vcallX (P : Program) (f : FuncId) (avs : List AV) (s : VS) (k : AV → VS → Prop) : Prop := sameX P f ∧ ∃ av, avs = [av] ∧ k av s
def vcallS (P : Program) (f : FuncId) (avs : List AV) (s : VS) (k : AV → VS → Prop) : Prop := vcallS0 P f avs s k ∨ vcallX P f avs s k
def vcall (P : Program) (f : FuncId) (xs : List Operand) (s : VS) (k : AV → VS → Prop) : Prop :=
  (∃ args', ArgsOk s.mem (xs.map (ev s)) args' ∧ VFun P f args' (fun av obs => k (ren (· + s.mem.length) av) { s with mem := s.mem ++ obs.map some })) ∨ vcallS P f (xs.map (ev s)) s k
def vstep (P : Program) (n : Nat) (o : Oper) (s : VS) (k : VS → Prop) : Prop :=
  match callOf o.op with
  | some (f, xs) => vcall P f xs s (fun av s' => putO n o.dst av s' k)
  | none => vop4 P o.op s (fun av s' => putO n o.dst av s' k)
def slotOf (all : List Oper) (g : Nat) : Option Tmp := (all[g]?).bind (·.dst)
def vops (P : Program) (n : Nat) (all : List Oper) : List Oper → VS → (VS → Prop) → Prop
  | [], s, k => k s
  | o :: r, s, k =>
    match o.guard with
    | none => vstep P n o s (fun s' => vops P n all r s' k)
    | some (g, b) => match slotOf all g with
      | some t => match lk s.tmps t with
        | .lit (.bool c) => (c = b → vstep P n o { s with tmps := (t, .lit (.bool b)) :: s.tmps } (fun s' => vops P n all r s' k)) ∧
            (c = !b → putO n o.dst (.lit undef) { s with tmps := (t, .lit (.bool (!b))) :: s.tmps } (fun s' => vops P n all r s' k))
        | .lit (.tuple _) => putO n o.dst (.lit undef) s (fun s' => vops P n all r s' k)
        | _ => False
      | none => False


section
variable {P : Program} {n : Nat} {base : Fr} {w0 w : World} {hd : Nat → Value} {s : VS} {a : Act} {k : AV → VS → Prop}
theorem cells_not_map (h : RelH n base w0 hd s a w) {b : Nat} {mp : Mp} (hm : lkm s.maps b = some mp) : (∀ (ad : Addr) u, ad.block = b → w.cell? ad ≠ some u) ∧ ∀ (q : Nat) (ob : Ob), s.mem[q]? = some (some ob) → (hd q).ownBlock ≠ some b := by
  obtain ⟨_, es, clock, hb, _⟩ := h.mp b mp hm
  refine ⟨fun ad u e hc => ?_, fun q ob hq e => ?_⟩
  · unfold World.cell? at hc
    rw [e, hb] at hc; simp at hc
  · obtain ⟨_, vals, ho, _⟩ := h.me.obs q ob hq
    rcases ho.2 with ⟨e2, _⟩ | ⟨g, cap, cur, e2, _, hh, _⟩
    · rw [e2] at e; simp [Value.ownBlock] at e
    · rw [e2] at e
      simp only [Value.ownBlock, Option.some.injEq] at e
      rw [e, hb] at hh; simp at hh

theorem RelH.importS (h : RelH n base w0 hd s a w) (hP : base.P = P) {ks : List Nat} {mem0 : List (Option Ob)} {maps0 : List (Nat × Mp)} (hnd : ks.Nodup) (hsh : ShMem (fun j => ks.getD j 0) ks.length s.mem ks mem0) (hmaps : ∀ p, p ∈ maps0 → lkm s.maps p.1 = some p.2)
    {w' : World} {hdc : Nat → Value} {av : AV} {mem' : List (Option Ob)} {maps' : List (Nat × Mp)} (hb : Bel (Sh w (fun j => hd (ks.getD j 0)) mem0 maps0) w w') (hpo : PostOk mem0 maps0 av mem' maps') (hhd : ∀ k, k < mem0.length → hdc k = hd (ks.getD k 0))
    (hm : MemRel (Sh w (fun j => hd (ks.getD j 0)) mem0 maps0) w' hdc mem') (hmp : MapRel P (Sh w (fun j => hd (ks.getD j 0)) mem0 maps0) w' maps') :
    RelH n base w0 (fun k => if k < s.mem.length then hd k else hdc (k - s.mem.length + ks.length)) { s with mem := mergeM s.mem ks mem', maps := maps' ++ s.maps } a w' ∧
      ∀ j, j < mem'.length → backN ks s.mem.length j < (mergeM s.mem ks mem').length ∧ (fun k => if k < s.mem.length then hd k else hdc (k - s.mem.length + ks.length)) (backN ks s.mem.length j) = hdc j := by
  obtain ⟨f0, f1⟩ := shMem_get hsh
  have hl : ks.length ≤ mem'.length := by have := hpo.len; omega
  have f2 : ∀ k, k ∈ ks → k < s.mem.length := by
    intro k hk
    obtain ⟨j, hj⟩ := List.getElem?_of_mem hk
    obtain ⟨ob, ob', _, h2, _⟩ := f1 j k hj
    exact (List.getElem?_eq_some_iff.1 h2).1
  have fk : ∀ j, j < ks.length → ks.getD j 0 ∈ ks ∧ ks[j]? = some (ks.getD j 0) := by
    intro j hj
    rw [List.getD_eq_getElem?_getD, List.getElem?_eq_getElem hj]
    exact ⟨List.getElem_mem hj, rfl⟩
  obtain ⟨HD, hHD⟩ : ∃ HD : Nat → Value, HD = fun k => if k < s.mem.length then hd k else hdc (k - s.mem.length + ks.length) := ⟨_, rfl⟩
  rw [← hHD]
  have hlow : ∀ k, k < s.mem.length → HD k = hd k := fun k hk => by rw [hHD]; exact if_pos hk
  have f3 : ∀ j, j < mem'.length → backN ks s.mem.length j < (mergeM s.mem ks mem').length ∧ HD (backN ks s.mem.length j) = hdc j := by
    intro j hj
    rw [merge_len]
    unfold backN
    by_cases h1 : j < ks.length
    · rw [if_pos h1]
      have h2 := f2 _ (fk j h1).1
      exact ⟨by omega, by rw [hlow _ h2, hhd j (by omega)]⟩
    · rw [if_neg h1]
      refine ⟨by omega, ?_⟩
      rw [hHD]
      show (if s.mem.length + (j - ks.length) < s.mem.length then _ else _) = _
      rw [if_neg (by omega)]
      congr 1; omega
  refine ⟨?_, f3⟩
  have shMay : ∀ b, Sh w (fun j => hd (ks.getD j 0)) mem0 maps0 b → base.may b := by
    rintro b (h1 | ⟨j, ob', h1, h2⟩ | h1)
    · exact h.le _ (Nat.le_trans h.below.size h1)
    · have hj : j < ks.length := by have := (List.getElem?_eq_some_iff.1 h1).1; omega
      obtain ⟨ob, _, _, h4, _⟩ := f1 j _ (fk j hj).2
      exact h.me.alw _ ob h4 b h2
    · cases hq : lkm maps0 b with
      | none => rw [hq] at h1; simp at h1
      | some mp => exact (h.mp b mp (hmaps _ (lkm_mem hq))).1
  have notSh : ∀ b, b < w.heap.size → (∀ k ob, k ∈ ks → s.mem[k]? = some (some ob) → (hd k).ownBlock ≠ some b) → (∀ mp, lkm s.maps b = some mp → lkm maps0 b = none) → ¬ Sh w (fun j => hd (ks.getD j 0)) mem0 maps0 b := by
    rintro b hlt hrow hmap (h1 | ⟨j, ob', h1, h2⟩ | h1)
    · omega
    · have hj : j < ks.length := by have := (List.getElem?_eq_some_iff.1 h1).1; omega
      obtain ⟨ob, _, _, h4, _⟩ := f1 j _ (fk j hj).2
      exact hrow _ ob (fk j hj).1 h4 h2
    · cases hq : lkm maps0 b with
      | none => rw [hq] at h1; simp at h1
      | some mp => rw [hmap mp (hmaps _ (lkm_mem hq))] at hq; cases hq
  have okSh : ∀ ad u, okOf s.mem hd ad.block → w.cell? ad = some u → ¬ Sh w (fun j => hd (ks.getD j 0)) mem0 maps0 ad.block := by
    intro ad u ho hc
    refine notSh _ (World.block_lt_of_cell? w _ hc) (fun k ob _ hk => ho k ob hk) fun mp hq => ?_
    exact absurd hc ((cells_not_map h hq).1 ad u rfl)
  have ownSh : ∀ k ob b, k ∉ ks → s.mem[k]? = some (some ob) → (hd k).ownBlock = some b → ¬ Sh w (fun j => hd (ks.getD j 0)) mem0 maps0 b := by
    intro k ob b hk hob hbk
    obtain ⟨_, vals, ho, _⟩ := h.me.obs k ob hob
    refine notSh b (own_lt ho hbk).1 (fun q oq hq hoq e => ?_) fun mp hq => ?_
    · rcases h.me.apart k q ob oq hob hoq (fun e' => hk (e' ▸ hq)) with h1 | h1
      · rw [hbk] at h1; cases h1
      · exact h1 (by rw [hbk, e])
    · exact absurd hbk ((cells_not_map h hq).2 k ob hob)
  have live : ∀ k ob, (mergeM s.mem ks mem')[k]? = some (some ob) → (k < s.mem.length ∧ k ∉ ks ∧ s.mem[k]? = some (some ob)) ∨ ∃ j ob0, j < mem'.length ∧ k = backN ks s.mem.length j ∧ mem'[j]? = some (some ob0) ∧ ob = renOb (backN ks s.mem.length) ob0 :=
    fun k ob hk => merge_get hnd hl f2 hk
  have hok : ∀ ad u, okOf s.mem hd ad.block → w.cell? ad = some u → w'.cell? ad = some u ∧ okOf (mergeM s.mem ks mem') HD ad.block := by
    intro ad u ho hc
    have hns := okSh ad u ho hc
    refine ⟨cell_same (hb.block _ (World.block_lt_of_cell? w _ hc) hns) hc, fun k ob hk e => ?_⟩
    rcases live k ob hk with ⟨h1, _, h2⟩ | ⟨j, ob0, h1, rfl, h2, _⟩
    · rw [hlow k h1] at e; exact ho k ob h2 e
    · rw [(f3 j h1).2] at e; exact hns (hm.alw j ob0 h2 _ e)
  have hlen : s.mem.length ≤ (mergeM s.mem ks mem').length := by rw [merge_len]; omega
  refine ⟨h.defers, h.size, ⟨hb.os.trans h.below.os, hb.tape.trans h.below.tape, hb.output.trans h.below.output, Nat.le_trans h.below.size hb.size, fun k hk hk2 => ?_⟩, h.le, Nat.le_trans h.fixl hlen, fun k hk => ?_, fun b mp hq => ?_, fun t => (h.tm t).mono hok hlow hlen, ⟨fun k ob hk b hbk => ?_, fun k ob hk => ?_, fun k hk => ?_, fun k k' ob ob' hk hk' hne => ?_⟩⟩
  · exact (hb.block k (Nat.lt_of_lt_of_le hk h.below.size) (fun e => hk2 (shMay k e))).trans (h.below.block k hk hk2)
  · have := h.fixl
    have hk' : k < s.fix := hk
    rw [hlow k (by omega)]; exact h.fix k hk'
  · have hq' : lkm (maps' ++ s.maps) b = some mp := hq
    rw [lkm_app] at hq'
    cases hq2 : lkm maps' b with
    | some mq =>
      rw [hq2] at hq'
      simp only [Option.some.injEq] at hq'
      subst hq'
      obtain ⟨h1, es, clock, h2, h3⟩ := hmp b mq hq2
      exact ⟨shMay b h1, es, clock, h2, by rw [hP]; exact h3⟩
    | none =>
      rw [hq2] at hq'
      simp only at hq'
      obtain ⟨h1, es, clock, h2, h3⟩ := h.mp b mp hq'
      refine ⟨h1, es, clock, (hb.block b (Array.getElem?_eq_some_iff.1 h2).1 (notSh b (Array.getElem?_eq_some_iff.1 h2).1 (fun k ob _ hk => (cells_not_map h hq').2 k ob hk) fun _ _ => ?_)).trans h2, h3⟩
      cases hq3 : lkm maps0 b with
      | none => rfl
      | some mr =>
        have := hpo.maps b (by rw [hq3]; rfl)
        rw [hq2] at this; simp at this
  · rcases live k ob hk with ⟨h1, _, h2⟩ | ⟨j, ob0, h1, rfl, h2, _⟩
    · rw [hlow k h1] at hbk; exact h.me.alw k ob h2 b hbk
    · rw [(f3 j h1).2] at hbk; exact shMay b (hm.alw j ob0 h2 b hbk)
  · rcases live k ob hk with ⟨h1, h1', h2⟩ | ⟨j, ob0, h1, rfl, h2, rfl⟩
    · obtain ⟨hs, vals, ho, hr⟩ := h.me.obs k ob h2
      rw [hlow k h1]
      refine ⟨hs, vals, own_same ho fun b hbk => hb.block b (own_lt ho hbk).1 (ownSh k ob b h1' h2 hbk), fun i hi => ⟨(hr i hi).1, fun j av hj => ?_⟩⟩
      obtain ⟨u, g1, g2, g3⟩ := (hr i hi).2 j av hj
      exact ⟨u, g1, g2, g3.mono hok hlow hlen⟩
    · obtain ⟨hs, vals, ho, hr⟩ := hm.obs j ob0 h2
      rw [(f3 j h1).2]
      refine ⟨hs, vals, ho, fun i hi => ⟨by simpa [renOb] using (hr i hi).1, fun c av hc => ?_⟩⟩
      simp only [renOb] at hc
      rw [List.getElem?_map, Option.map_eq_some_iff] at hc
      obtain ⟨a0, hc, rfl⟩ := hc
      obtain ⟨u, g1, g2, g3⟩ := (hr i hi).2 c a0 hc
      have hf := List.all_eq_true.1 (hpo.cells j ob0 h2 i hi) a0 (List.mem_of_getElem? hc)
      exact ⟨u, g1, g2, g3.ren1_ hf fun q _ hq => f3 q hq⟩
  · have hk' : k < (mergeM s.mem ks mem').length := hk
    rw [merge_len] at hk'
    by_cases h1 : k < s.mem.length
    · rw [hlow k h1]; exact h.me.hds k h1
    · have : HD k = hdc (k - s.mem.length + ks.length) := by rw [hHD]; exact if_neg h1
      rw [this]
      exact hm.hds _ (by omega)
  · have cross : ∀ k ob j ob0, k ∉ ks → s.mem[k]? = some (some ob) → mem'[j]? = some (some ob0) → (hd k).ownBlock = none ∨ (hd k).ownBlock ≠ (hdc j).ownBlock := by
      intro k ob j ob0 hk hob hj
      cases hbk : (hd k).ownBlock with
      | none => exact .inl rfl
      | some b => exact .inr fun e => ownSh k ob b hk hob hbk (hm.alw j ob0 hj b e.symm)
    rcases live k ob hk with ⟨h1, h1', h2⟩ | ⟨j, ob0, h1, rfl, h2, _⟩
    · rw [hlow k h1]
      rcases live k' ob' hk' with ⟨g1, g1', g2⟩ | ⟨j', ob1, g1, rfl, g2, _⟩
      · rw [hlow k' g1]; exact h.me.apart k k' ob ob' h2 g2 hne
      · rw [(f3 j' g1).2]; exact cross k ob j' ob1 h1' h2 g2
    · rw [(f3 j h1).2]
      rcases live k' ob' hk' with ⟨g1, g1', g2⟩ | ⟨j', ob1, g1, rfl, g2, _⟩
      · rw [hlow k' g1]
        rcases cross k' ob' j ob0 g1' g2 h2 with e | e
        · cases hbj : (hdc j).ownBlock with
          | none => exact .inl rfl
          | some b => rw [e]; exact .inr (by simp)
        · exact .inr fun e' => e e'.symm
      · rw [(f3 j' g1).2]
        exact hm.apart j j' ob0 ob1 h2 g2 (fun e => hne (by rw [e]))
end
end Go.Proofs.Ytnjnkhmcdkjekaa.V
