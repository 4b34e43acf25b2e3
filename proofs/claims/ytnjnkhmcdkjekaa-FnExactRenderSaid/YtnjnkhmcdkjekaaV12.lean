/- The value machine, part 12: the other rules of reckoning, and how calls and loops are met. -/
import Derived.Test.YtnjnkhmcdkjekaaV11
namespace Go.Proofs.Ytnjnkhmcdkjekaa.V
open Go.RowKit
set_option linter.unusedVariables false
set_option linter.unusedSimpArgs false
section
variable {P : Program} {n : Nat} {s : VS} {K : VX → VS → Prop} {k : VS → Prop} {all r : List Oper} {d : Option Tmp} {ty : TypeId} {ps : String} {af : Array Edge} {g : Option (Nat × Bool)}

def vix (s : VS) (k : AV → VS → Prop) (T : Option TypeDesc) (x ix : Option Value) : Prop := match T, x, ix with
  | some .string, some (.string z), some (.int q i) => 0 ≤ i ∧ i < z.size ∧ k (.lit (.int .u8 (byteAt z i.toNat))) s
  | _, _, _ => False
@[go_sem] theorem vs_ix {T : TypeId} {x ix : Operand} : vstep P n ⟨d, .index T x ix, ty, ps, af, g⟩ s k = vix s (Kput n d k) (P.underlying T) (toVal (ev s x)) (toVal (ev s ix)) := _root_.id rfl
@[go_sem] theorem vix_s {k : AV → VS → Prop} {z : ByteArray} {q : IntKind} {i : Int} : vix s k (some .string) (some (.string z)) (some (.int q i)) = (0 ≤ i ∧ i < z.size ∧ k (.lit (.int .u8 (byteAt z i.toNat))) s) := _root_.id rfl

def vsl (P : Program) (s : VS) (k : AV → VS → Prop) (lo hi : Option Operand) (T : Option TypeDesc) (av : AV) : Prop := match T, av, optInt s 0 lo with
  | some .string, .lit (.string z), some l => match optInt s z.size hi with
    | some h => 0 ≤ l ∧ l ≤ h ∧ h ≤ z.size ∧ k (.lit (.string (z.extract l.toNat h.toNat))) s
    | none => False
  | some (.slice e), .sl sz n f, some l => match optInt s n hi with
    | some h => tsz P e = some sz ∧ 0 ≤ l ∧ l ≤ h ∧ h ≤ n ∧ k (.sl sz (h.toNat - l.toNat) (fun i => f (l.toNat + i))) s
    | none => False
  | some (.slice e), .own j, some l => match s.mem[j]? with
    | some (some ob) => match optInt s ob.n hi with
      | some h => tsz P e = some ob.sz ∧ 0 ≤ l ∧ l ≤ h ∧ h ≤ ob.n ∧ k (.sub j ob.sz l.toNat (h.toNat - l.toNat)) s
      | none => False
    | _ => False
  | _, _, _ => False
@[go_sem] theorem vs_sl {T : TypeId} {x : Operand} {lo hi : Option Operand} : vstep P n ⟨d, .slice T x lo hi none, ty, ps, af, g⟩ s k = vsl P s (Kput n d k) lo hi (P.underlying T) (ev s x) := _root_.id rfl
def vsl1 (P : Program) (s : VS) (k : AV → VS → Prop) : AV → Option TypeDesc → Option Int → Option Int → Prop
  | .lit (.string z), some .string, some l, some h => 0 ≤ l ∧ l ≤ h ∧ h ≤ z.size ∧ k (.lit (.string (z.extract l.toNat h.toNat))) s
  | .sl sz n f, some (.slice e), some l, some h => tsz P e = some sz ∧ 0 ≤ l ∧ l ≤ h ∧ h ≤ n ∧ k (.sl sz (h.toNat - l.toNat) (fun i => f (l.toNat + i))) s
  | _, _, _, _ => False
def vslO (P : Program) (s : VS) (k : AV → VS → Prop) (j : Nat) (hi : Option Operand) : Option (Option Ob) → Option TypeDesc → Option Int → Prop
  | some (some ob), some (.slice e), some l => match optInt s ob.n hi with
    | some h => tsz P e = some ob.sz ∧ 0 ≤ l ∧ l ≤ h ∧ h ≤ ob.n ∧ k (.sub j ob.sz l.toNat (h.toNat - l.toNat)) s
    | none => False
  | _, _, _ => False
@[go_sem] theorem vsl_str {k : AV → VS → Prop} {lo hi : Option Operand} {z : ByteArray} : vsl P s k lo hi (some .string) (.lit (.string z)) = vsl1 P s k (.lit (.string z)) (some .string) (optInt s 0 lo) (optInt s z.size hi) := by
  cases h1 : optInt s 0 lo <;> cases h2 : optInt s z.size hi <;> simp only [vsl, vsl1, h1, h2]
@[go_sem] theorem vsl_sl {k : AV → VS → Prop} {lo hi : Option Operand} {e : TypeId} {sz m : Nat} {f : Nat → List AV} : vsl P s k lo hi (some (.slice e)) (.sl sz m f) = vsl1 P s k (.sl sz m f) (some (.slice e)) (optInt s 0 lo) (optInt s m hi) := by
  cases h1 : optInt s 0 lo <;> cases h2 : optInt s m hi <;> simp only [vsl, vsl1, h1, h2]
@[go_sem] theorem vsl_o {k : AV → VS → Prop} {lo hi : Option Operand} {e : TypeId} {j : Nat} : vsl P s k lo hi (some (.slice e)) (.own j) = vslO P s k j hi (s.mem[j]?) (some (.slice e)) (optInt s 0 lo) := by
  cases h1 : optInt s 0 lo <;> cases h2 : s.mem[j]? <;> simp only [vsl, vslO, h1, h2] <;> rename_i y <;> cases y <;> simp only
@[go_sem] theorem vsl1_str {k : AV → VS → Prop} {z : ByteArray} {l h : Int} : vsl1 P s k (.lit (.string z)) (some .string) (some l) (some h) = (0 ≤ l ∧ l ≤ h ∧ h ≤ z.size ∧ k (.lit (.string (z.extract l.toNat h.toNat))) s) := _root_.id rfl
@[go_sem] theorem vsl1_sl {k : AV → VS → Prop} {e : TypeId} {sz m : Nat} {f : Nat → List AV} {l h : Int} : vsl1 P s k (.sl sz m f) (some (.slice e)) (some l) (some h) = (tsz P e = some sz ∧ 0 ≤ l ∧ l ≤ h ∧ h ≤ m ∧ k (.sl sz (h.toNat - l.toNat) (fun i => f (l.toNat + i))) s) := _root_.id rfl
def vslH (P : Program) (s : VS) (k : AV → VS → Prop) (j : Nat) (ob : Ob) (e : TypeId) (l : Int) : Option Int → Prop
  | some h => tsz P e = some ob.sz ∧ 0 ≤ l ∧ l ≤ h ∧ h ≤ ob.n ∧ k (.sub j ob.sz l.toNat (h.toNat - l.toNat)) s
  | none => False
@[go_sem] theorem vslO_s {k : AV → VS → Prop} {j : Nat} {hi : Option Operand} {ob : Ob} {e : TypeId} {l : Int} : vslO P s k j hi (some (some ob)) (some (.slice e)) (some l) = vslH P s k j ob e l (optInt s ob.n hi) := by
  cases h : optInt s ob.n hi <;> simp only [vslO, vslH, h]
@[go_sem] theorem vslH_s {k : AV → VS → Prop} {j : Nat} {ob : Ob} {e : TypeId} {l h : Int} : vslH P s k j ob e l (some h) = (tsz P e = some ob.sz ∧ 0 ≤ l ∧ l ≤ h ∧ h ≤ ob.n ∧ k (.sub j ob.sz l.toNat (h.toNat - l.toNat)) s) := _root_.id rfl
def optVal : Option Value → Option Int
  | some (.int _ n) => some n
  | _ => none
@[go_sem] theorem optInt_n {e : Int} : optInt s e none = some e := _root_.id rfl
@[go_sem] theorem optInt_s {e : Int} {x : Operand} : optInt s e (some x) = optVal (toVal (ev s x)) := by
  simp only [optInt]
  generalize toVal (ev s x) = y
  cases y with
  | none => rfl
  | some y => cases y <;> rfl
@[go_sem] theorem optVal_i {q : IntKind} {i : Int} : optVal (some (.int q i)) = some i := _root_.id rfl

def vfield (P : Program) (s : VS) (k : AV → VS → Prop) : Option (TypeId × Nat) → AV → Prop
  | some (ft, off), .agg cs => vrd s k (tagg P ft) (tsz P ft) cs off
  | _, _ => False
@[go_sem] theorem vs_field {T : TypeId} {x : Operand} {f : Nat} : vstep P n ⟨d, .field T x f, ty, ps, af, g⟩ s k = vfield P s (Kput n d k) (fieldOff P T f) (ev s x) := by
  show vop P (.field T x f) s (Kput n d k) = _
  simp only [vop]
  generalize ev s x = v
  generalize fieldOff P T f = o
  cases o <;> cases v <;> rfl
@[go_sem] theorem vfield_s {k : AV → VS → Prop} {ft off : Nat} {cs : List AV} : vfield P s k (some (ft, off)) (.agg cs) = vrd s k (tagg P ft) (tsz P ft) cs off := _root_.id rfl

def vbin (P : Program) (s : VS) (k : AV → VS → Prop) (b : BinOp) (T : TypeId) (x y : Operand) : Option Value → Option Value → Prop
  | some vx, some vy => ∃ v, (∀ w, (do eqGuard b T x y vx vy; binOp b T vx vy : Sem Value).run P w = .ok v w) ∧ k (.lit v) s
  | _, _ => False
def vbinA (P : Program) (s : VS) (k : AV → VS → Prop) (b : BinOp) (T : TypeId) (x y : Operand) : AV → AV → Prop
  | .ptr k0 sz i j, ay => vpeq P b T s k k0 sz i j ay
  | ax, ay => vbin P s k b T x y (toVal ax) (toVal ay)
@[go_sem] theorem vs_bin {b : BinOp} {T T2 : TypeId} {x y : Operand} : vstep P n ⟨d, .binOp b T x y T2, ty, ps, af, g⟩ s k = vbinA P s (Kput n d k) b T x y (ev s x) (ev s y) := by
  have h0 : vop3 P (.binOp b T x y T2) s (Kput n d k) = vbin P s (Kput n d k) b T x y (toVal (ev s x)) (toVal (ev s y)) := by
    show vop P (.binOp b T x y T2) s (Kput n d k) = _
    simp only [vop]
    generalize toVal (ev s x) = u
    generalize toVal (ev s y) = v
    cases u <;> cases v <;> rfl
  show vop4 P (.binOp b T x y T2) s (Kput n d k) = _
  simp only [vop4, h0]
  generalize ev s x = u
  cases u <;> rfl
@[go_sem] theorem vbinA_lit {k : AV → VS → Prop} {b : BinOp} {T : TypeId} {x y : Operand} {v : Value} {ay : AV} : vbinA P s k b T x y (.lit v) ay = vbin P s k b T x y (some v) (toVal ay) := _root_.id rfl
@[go_sem] theorem vbinA_agg {k : AV → VS → Prop} {b : BinOp} {T : TypeId} {x y : Operand} {cs : List AV} {ay : AV} : vbinA P s k b T x y (.agg cs) ay = vbin P s k b T x y (toVal (.agg cs)) (toVal ay) := _root_.id rfl
@[go_sem] theorem vbinA_ptr {k : AV → VS → Prop} {b : BinOp} {T : TypeId} {x y : Operand} {k0 sz i j : Nat} {ay : AV} : vbinA P s k b T x y (.ptr k0 sz i j) ay = vpeq P b T s k k0 sz i j ay := _root_.id rfl
@[go_sem] theorem vpeq_nil {k : AV → VS → Prop} {b : BinOp} {T : TypeId} {k0 sz i j : Nat} : vpeq P b T s k k0 sz i j (.lit (.pointer none)) = (isPtrT P T = true ∧ vpres b false s k) := _root_.id rfl
@[go_sem] theorem vpeq_ptr {k : AV → VS → Prop} {b : BinOp} {T : TypeId} {k0 sz i j k1 sz1 i1 j1 : Nat} : vpeq P b T s k k0 sz i j (.ptr k1 sz1 i1 j1) = (k1 = k0 ∧ i1 * sz1 + j1 = i * sz + j ∧ isPtrT P T = true ∧ vpres b true s k) := _root_.id rfl
@[go_sem] theorem vpres_e {k : AV → VS → Prop} {r : Bool} : vpres .eql r s k = k (.lit (.bool r)) s := _root_.id rfl
@[go_sem] theorem vpres_n {k : AV → VS → Prop} {r : Bool} : vpres .neq r s k = k (.lit (.bool !r)) s := _root_.id rfl
@[go_sem] theorem run_eql_nils {T e : TypeId} {w : World} (hp : P.underlying T = some (.pointer e)) : (binOp .eql T (.pointer none) (.pointer none)).run P w = .ok (.bool true) w := by
  have h : ∀ d : Nat, (Op.equalIn (d + 1) T (.pointer none) (.pointer none)).run P w = .ok true w := fun d => by
    simp [Op.equalIn, run_underlying hp]
  simp only [binOp]
  simp [Op.equal, Op.maxDepth, h 9999]
@[go_sem] theorem vbin_s {k : AV → VS → Prop} {b : BinOp} {T : TypeId} {x y : Operand} {vx vy : Value} : vbin P s k b T x y (some vx) (some vy) = ∃ v, (∀ w, (do eqGuard b T x y vx vy; binOp b T vx vy : Sem Value).run P w = .ok v w) ∧ k (.lit v) s := _root_.id rfl
def vun (P : Program) (s : VS) (k : AV → VS → Prop) (b : UnOp) : Option Value → Prop
  | some vx => ∃ v, (∀ w, (Op.unary b vx).run P w = .ok v w) ∧ k (.lit v) s
  | _ => False
@[go_sem] theorem vs_un {b : UnOp} {T : TypeId} {x : Operand} : vstep P n ⟨d, .unOp b T x, ty, ps, af, g⟩ s k = vun P s (Kput n d k) b (toVal (ev s x)) := by
  show vop P (.unOp b T x) s (Kput n d k) = _
  simp only [vop]
  generalize toVal (ev s x) = u
  cases u <;> rfl
@[go_sem] theorem vun_s {k : AV → VS → Prop} {b : UnOp} {vx : Value} : vun P s k b (some vx) = ∃ v, (∀ w, (Op.unary b vx).run P w = .ok v w) ∧ k (.lit v) s := _root_.id rfl
def vconv (P : Program) (s : VS) (k : AV → VS → Prop) (a b : TypeId) : Option Value → Prop
  | some vx => ∃ v, (∀ w, (convert a b vx).run P w = .ok v w) ∧ k (.lit v) s
  | _ => False
def vconvU (P : Program) (s : VS) (k : AV → VS → Prop) (a b : TypeId) (av : AV) : Option TypeDesc → Option TypeDesc → Prop
  | some .string, some (.slice e) => vconvS P e s k av
  | some (.slice e), some .string => vconvB P e s k av
  | _, _ => vconv P s k a b (toVal av)
def vconvA (P : Program) (s : VS) (k : AV → VS → Prop) (a b : TypeId) : AV → Prop
  | .ptr k0 sz i j => vpconv P a b s k k0 sz i j
  | av => vconvU P s k a b av (P.underlying a) (P.underlying b)
@[go_sem] theorem vs_conv {a b : TypeId} {x : Operand} : vstep P n ⟨d, .convert a b x, ty, ps, af, g⟩ s k = vconvA P s (Kput n d k) a b (ev s x) := by
  have h0 : vop2 P (.convert a b x) s (Kput n d k) = vconv P s (Kput n d k) a b (toVal (ev s x)) := by
    show vop P (.convert a b x) s (Kput n d k) = _
    simp only [vop]
    generalize toVal (ev s x) = u
    cases u <;> rfl
  have h1 : vop3 P (.convert a b x) s (Kput n d k) = vconvU P s (Kput n d k) a b (ev s x) (P.underlying a) (P.underlying b) := by
    simp only [vop3, h0]
    generalize P.underlying a = u
    generalize P.underlying b = v
    cases u with
    | none => rfl
    | some u => cases v with
      | none => cases u <;> rfl
      | some v => cases u <;> cases v <;> rfl
  show vop4 P (.convert a b x) s (Kput n d k) = _
  simp only [vop4, h1]
  generalize ev s x = u
  cases u <;> rfl
@[go_sem] theorem vconvA_lit {k : AV → VS → Prop} {a b : TypeId} {v : Value} : vconvA P s k a b (.lit v) = vconvU P s k a b (.lit v) (P.underlying a) (P.underlying b) := _root_.id rfl
@[go_sem] theorem vconvA_own {k : AV → VS → Prop} {a b : TypeId} {j : Nat} : vconvA P s k a b (.own j) = vconvU P s k a b (.own j) (P.underlying a) (P.underlying b) := _root_.id rfl
@[go_sem] theorem vconvA_sub {k : AV → VS → Prop} {a b : TypeId} {j sz lo l : Nat} : vconvA P s k a b (.sub j sz lo l) = vconvU P s k a b (.sub j sz lo l) (P.underlying a) (P.underlying b) := _root_.id rfl
@[go_sem] theorem vconvA_sl {k : AV → VS → Prop} {a b : TypeId} {sz l : Nat} {f : Nat → List AV} : vconvA P s k a b (.sl sz l f) = vconvU P s k a b (.sl sz l f) (P.underlying a) (P.underlying b) := _root_.id rfl
@[go_sem] theorem vconvA_ptr {k : AV → VS → Prop} {a b : TypeId} {k0 sz i j : Nat} : vconvA P s k a b (.ptr k0 sz i j) = vpconv P a b s k k0 sz i j := _root_.id rfl
def vpconvT (P : Program) (s : VS) (k : AV → VS → Prop) (k0 sz i j : Nat) (ob : Ob) : Option TypeDesc → Option TypeDesc → Prop
  | some (.pointer t), some .unsafePointer => (∃ z q by_, tinfo P t = some (z, q, by_) ∧ q ≠ 0) ∧ k (.ptr k0 sz i j) s
  | some .unsafePointer, some (.pointer t) => t = ob.ty ∧ j = 0 ∧ 0 < P.depth ∧ P.cellsOf t = sz ∧ (tinfo P t).isSome = true ∧ k (.ptr k0 sz i j) s
  | _, _ => False
def vpconvO (P : Program) (a b : TypeId) (s : VS) (k : AV → VS → Prop) (k0 sz i j : Nat) : Option (Option Ob) → Prop
  | some (some ob) => sz = ob.sz ∧ i < ob.n ∧ j < sz ∧ vpconvT P s k k0 sz i j ob (P.underlying a) (P.underlying b)
  | _ => False
@[go_sem] theorem vpconv_eq {k : AV → VS → Prop} {a b : TypeId} {k0 sz i j : Nat} : vpconv P a b s k k0 sz i j = vpconvO P a b s k k0 sz i j (s.mem[k0]?) := by
  unfold vpconv
  cases s.mem[k0]? with
  | none => rfl
  | some o => cases o with
    | none => rfl
    | some ob =>
      simp only [vpconvO]
      cases P.underlying a with
      | none => rfl
      | some u => cases P.underlying b with
        | none => cases u <;> rfl
        | some v => cases u <;> cases v <;> rfl
@[go_sem] theorem vpconvO_s {k : AV → VS → Prop} {a b : TypeId} {k0 sz i j : Nat} {ob : Ob} : vpconvO P a b s k k0 sz i j (some (some ob)) = (sz = ob.sz ∧ i < ob.n ∧ j < sz ∧ vpconvT P s k k0 sz i j ob (P.underlying a) (P.underlying b)) := _root_.id rfl
@[go_sem] theorem vpconvT_to {k : AV → VS → Prop} {k0 sz i j : Nat} {ob : Ob} {t : TypeId} : vpconvT P s k k0 sz i j ob (some (.pointer t)) (some .unsafePointer) = ((∃ z q by_, tinfo P t = some (z, q, by_) ∧ q ≠ 0) ∧ k (.ptr k0 sz i j) s) := _root_.id rfl
@[go_sem] theorem vpconvT_of {k : AV → VS → Prop} {k0 sz i j : Nat} {ob : Ob} {t : TypeId} : vpconvT P s k k0 sz i j ob (some .unsafePointer) (some (.pointer t)) = (t = ob.ty ∧ j = 0 ∧ 0 < P.depth ∧ P.cellsOf t = sz ∧ (tinfo P t).isSome = true ∧ k (.ptr k0 sz i j) s) := _root_.id rfl
@[go_sem] theorem vconvU_i {k : AV → VS → Prop} {a b : TypeId} {v : Value} {q q' : IntKind} : vconvU P s k a b (.lit v) (some (.int q)) (some (.int q')) = vconv P s k a b (some v) := _root_.id rfl
@[go_sem] theorem vconvU_is {k : AV → VS → Prop} {a b : TypeId} {v : Value} {q : IntKind} : vconvU P s k a b (.lit v) (some (.int q)) (some .string) = vconv P s k a b (some v) := _root_.id rfl
@[go_sem] theorem vconvU_ss {k : AV → VS → Prop} {a b : TypeId} {v : Value} : vconvU P s k a b (.lit v) (some .string) (some .string) = vconv P s k a b (some v) := _root_.id rfl
@[go_sem] theorem vconvU_sb {k : AV → VS → Prop} {a b e : TypeId} {z : ByteArray} : vconvU P s k a b (.lit (.string z)) (some .string) (some (.slice e)) = (P.underlying e = some (.int .u8) ∧ z.size ≤ 9223372036854775807 ∧ k (.sl 1 z.size (byteCells z)) s) := _root_.id rfl
@[go_sem] theorem vconvU_bs {k : AV → VS → Prop} {a b e : TypeId} {av : AV} : vconvU P s k a b av (some (.slice e)) (some .string) = vconvB P e s k av := _root_.id rfl
def vconvC (P : Program) (e : TypeId) (s : VS) (k : AV → VS → Prop) : Option (Nat × (Nat → List AV)) → Prop
  | some (n, f) => P.underlying e = some (.int .u8) ∧ ∃ z : ByteArray, z.size = n ∧ (∀ i, i < n → f i = byteCells z i) ∧ k (.lit (.string z)) s
  | none => False
@[go_sem] theorem vconvB_ {k : AV → VS → Prop} {e : TypeId} {av : AV} : vconvB P e s k av = vconvC P e s k (contents s.mem 1 av) := by
  unfold vconvB vconvC
  cases contents s.mem 1 av <;> rfl
@[go_sem] theorem vconvC_s {k : AV → VS → Prop} {e : TypeId} {m : Nat} {f : Nat → List AV} : vconvC P e s k (some (m, f)) = (P.underlying e = some (.int .u8) ∧ ∃ z : ByteArray, z.size = m ∧ (∀ i, i < m → f i = byteCells z i) ∧ k (.lit (.string z)) s) := _root_.id rfl
def vmakeK (s : VS) (k : AV → VS → Prop) (e : TypeId) : Option (Value × Nat × Nat) → Option Value → Option Value → Prop
  | some (z, sz, by_), some (.int _ l), some (.int _ c) => l ≤ c ∧ 0 ≤ l ∧ z.cells.size = sz ∧ 0 < sz ∧ (z.cells.toList.all fun v => v.oneCell') = true ∧ (by_ : Int) * c ≤ 281474976710656 ∧ c ≤ 9223372036854775807 ∧
        k (.own s.mem.length) { s with mem := s.mem ++ [some ⟨e, sz, l.toNat, fun _ => z.cells.toList.map .lit⟩] }
  | _, _, _ => False
def vmakeU (P : Program) (s : VS) (k : AV → VS → Prop) (x y : Option Value) : Option TypeDesc → Prop
  | some (.slice e) => vmakeK s k e (tinfo P e) x y
  | _ => False
@[go_sem] theorem vs_make {t : TypeId} {x y : Operand} : vstep P n ⟨d, .makeSlice t x y, ty, ps, af, g⟩ s k = vmakeU P s (Kput n d k) (toVal (ev s x)) (toVal (ev s y)) (P.underlying t) := by
  show vmake P t x y s (Kput n d k) = _
  unfold vmake
  generalize toVal (ev s x) = u
  generalize toVal (ev s y) = v
  cases P.underlying t with
  | none => rfl
  | some D =>
    cases D <;> rfl
@[go_sem] theorem vmakeU_s {k : AV → VS → Prop} {x y : Option Value} {e : TypeId} : vmakeU P s k x y (some (.slice e)) = vmakeK s k e (tinfo P e) x y := _root_.id rfl
@[go_sem] theorem vmakeK_s {k : AV → VS → Prop} {e : TypeId} {z : Value} {sz by_ : Nat} {q q' : IntKind} {l c : Int} : vmakeK s k e (some (z, sz, by_)) (some (.int q l)) (some (.int q' c)) = (l ≤ c ∧ 0 ≤ l ∧ z.cells.size = sz ∧ 0 < sz ∧ (z.cells.toList.all fun v => v.oneCell') = true ∧ (by_ : Int) * c ≤ 281474976710656 ∧ c ≤ 9223372036854775807 ∧
        k (.own s.mem.length) { s with mem := s.mem ++ [some ⟨e, sz, l.toNat, fun _ => z.cells.toList.map .lit⟩] }) := _root_.id rfl
@[go_sem] theorem vconv_s {k : AV → VS → Prop} {a b : TypeId} {vx : Value} : vconv P s k a b (some vx) = ∃ v, (∀ w, (convert a b vx).run P w = .ok v w) ∧ k (.lit v) s := _root_.id rfl
def vext (s : VS) (k : AV → VS → Prop) (i : Nat) : AV → Prop
  | .tup vs => i < vs.length ∧ k (vs.getD i .undef) s
  | _ => False
@[go_sem] theorem vs_ext {x : Operand} {i : Nat} : vstep P n ⟨d, .extract x i, ty, ps, af, g⟩ s k = vext s (Kput n d k) i (ev s x) := by
  show vop P (.extract x i) s (Kput n d k) = _
  simp only [vop]
  generalize ev s x = u
  cases u <;> rfl
@[go_sem] theorem vext_s {k : AV → VS → Prop} {i : Nat} {vs : List AV} : vext s k i (.tup vs) = (i < vs.length ∧ k (vs.getD i .undef) s) := _root_.id rfl
def vnil (s : VS) (k : AV → VS → Prop) : AV → Prop
  | .ptr j sz i c => k (.ptr j sz i c) s
  | .bptr cs => k (.bptr cs) s
  | _ => False
@[go_sem] theorem vs_nil {x : Operand} : vstep P n ⟨d, .nilCheck x, ty, ps, af, g⟩ s k = vnil s (Kput n d k) (ev s x) := by
  show vop P (.nilCheck x) s (Kput n d k) = _
  simp only [vop]
  generalize ev s x = u
  cases u <;> rfl
@[go_sem] theorem vnil_p {k : AV → VS → Prop} {j sz i c : Nat} : vnil s k (.ptr j sz i c) = k (.ptr j sz i c) s := _root_.id rfl
@[go_sem] theorem vnil_b {k : AV → VS → Prop} {cs : List AV} : vnil s k (.bptr cs) = k (.bptr cs) s := _root_.id rfl

def vlenK (P : Program) (s : VS) (k : AV → VS → Prop) (av : AV) : Option Nat → Option TypeDesc → Prop
  | some n, some .string => (∃ z, av = .lit (.string z)) ∧ k (.lit (.int .i64 n)) s
  | some n, some (.slice _) => (∀ z, av ≠ .lit (.string z)) ∧ n ≤ 9223372036854775807 ∧ k (.lit (.int .i64 n)) s
  | _, _ => False
theorem vlen_eq {x : Operand} {t : TypeId} {k : AV → VS → Prop} : (match avLen s.mem (ev s x), P.underlying t with
  | some n, some .string => (∃ z, ev s x = .lit (.string z)) ∧ k (.lit (.int .i64 n)) s
  | some n, some (.slice _) => (∀ z, ev s x ≠ .lit (.string z)) ∧ n ≤ 9223372036854775807 ∧ k (.lit (.int .i64 n)) s
  | _, _ => False) = vlenK P s k (ev s x) (avLen s.mem (ev s x)) (P.underlying t) := by
  generalize avLen s.mem (ev s x) = u
  generalize P.underlying t = v
  cases u <;> cases v <;> first | rfl | (rename_i y; cases y <;> rfl)
def vlenB (P : Program) (t : TypeId) (s : VS) (k : AV → VS → Prop) (av : AV) : Bool → Prop
  | true => vmlen P t s k av
  | false => vlenK P s k av (avLen s.mem av) (P.underlying t)
@[go_sem] theorem vs_len {x : Operand} {t : TypeId} : vstep P n ⟨d, .call { callee := .builtin .len, args := #[x], argTypes := #[t] }, ty, ps, af, g⟩ s k = vlenB P t s (Kput n d k) (ev s x) (isMapT P t) := by
  show ((isMapT P t = true ∧ vmlen P t s (Kput n d k) (ev s x)) ∨ (isMapT P t = false ∧ vlen P x t s (Kput n d k))) = _
  cases isMapT P t with
  | true => simp [vlenB]
  | false => simp [vlenB]; unfold vlen; exact Iff.of_eq (vlen_eq)
@[go_sem] theorem vlenB_t {t : TypeId} {k : AV → VS → Prop} {av : AV} : vlenB P t s k av true = vmlen P t s k av := _root_.id rfl
@[go_sem] theorem vlenB_f {t : TypeId} {k : AV → VS → Prop} {av : AV} : vlenB P t s k av false = vlenK P s k av (avLen s.mem av) (P.underlying t) := _root_.id rfl
@[go_sem] theorem vlenK_str {k : AV → VS → Prop} {m : Nat} {z : ByteArray} : vlenK P s k (.lit (.string z)) (some m) (some .string) = k (.lit (.int .i64 m)) s := by
  simp [vlenK]
@[go_sem] theorem vlenK_sl {k : AV → VS → Prop} {m sz l : Nat} {f : Nat → List AV} {e : TypeId} : vlenK P s k (.sl sz l f) (some m) (some (.slice e)) = (m ≤ 9223372036854775807 ∧ k (.lit (.int .i64 m)) s) := by
  simp [vlenK]
@[go_sem] theorem vlenK_own {k : AV → VS → Prop} {m j : Nat} {e : TypeId} : vlenK P s k (.own j) (some m) (some (.slice e)) = (m ≤ 9223372036854775807 ∧ k (.lit (.int .i64 m)) s) := by
  simp [vlenK]
@[go_sem] theorem vlenK_sub {k : AV → VS → Prop} {m j sz lo l : Nat} {e : TypeId} : vlenK P s k (.sub j sz lo l) (some m) (some (.slice e)) = (m ≤ 9223372036854775807 ∧ k (.lit (.int .i64 m)) s) := by
  simp [vlenK]
@[go_sem] theorem vlenK_nil {k : AV → VS → Prop} {m c : Nat} {A : Option Addr} {e : TypeId} : vlenK P s k (.lit (.slice A c c)) (some m) (some (.slice e)) = (m ≤ 9223372036854775807 ∧ k (.lit (.int .i64 m)) s) := by
  simp [vlenK]

def vappK (s : VS) (k : AV → VS → Prop) (e : TypeId) (z : Value) (sz by_ : Nat) (x y : AV) : Option (List (Option Ob) × Nat × (Nat → List AV)) → Option (Nat × (Nat → List AV)) → Prop
  | some (mem, n, f), some (m, g) => y ≠ x ∧ (∀ i, i < m → (g i).all oneAV = true) ∧ n + m ≤ 9223372036854775807 ∧ (n + m) * by_ ≤ 140737488355328 ∧ k (.own s.mem.length) { s with mem := mem ++ [some ⟨e, sz, n + m, joinF n f g⟩] }
  | _, _ => False
def vappT (P : Program) (s : VS) (k : AV → VS → Prop) (e : TypeId) (x y : AV) : Option (Value × Nat × Nat) → Prop
  | some (z, sz, by_) => z.cells.size = sz ∧ 0 < sz ∧ vappK s k e z sz by_ x y (ownOf s.mem e sz x) (contents s.mem sz y)
  | none => False
def vappU (P : Program) (s : VS) (k : AV → VS → Prop) (x y : AV) : Option TypeDesc → Prop
  | some (.slice e) => vappT P s k e x y (tinfo P e)
  | _ => False
@[go_sem] theorem vs_min {x y : Operand} {t t' : TypeId} : vstep P n ⟨d, .call { callee := .builtin .min, args := #[x, y], argTypes := #[t, t'] }, ty, ps, af, g⟩ s k = vmin s (Kput n d k) (ev s x) (ev s y) := _root_.id rfl
@[go_sem] theorem vmin_i {k : AV → VS → Prop} {q q' : IntKind} {i j : Int} : vmin s k (.lit (.int q i)) (.lit (.int q' j)) = k (.lit (.int q (if j < i then j else i))) s := _root_.id rfl
def vappG (P : Program) (s : VS) (k : AV → VS → Prop) (x : Operand) (t t' : TypeId) (ax : AV) : AV → Prop
  | .lit (.string z) => vapps P x z t t' s k
  | ay => t = t' ∧ vappU P s k ax ay (P.underlying t)
@[go_sem] theorem vs_app {x y : Operand} {t t' : TypeId} : vstep P n ⟨d, .call { callee := .builtin .append, args := #[x, y], argTypes := #[t, t'] }, ty, ps, af, g⟩ s k = vappG P s (Kput n d k) x t t' (ev s x) (ev s y) := by
  have h0 : vop3 P (.call { callee := .builtin .append, args := #[x, y], argTypes := #[t, t'] }) s (Kput n d k) = (t = t' ∧ vappU P s (Kput n d k) (ev s x) (ev s y) (P.underlying t)) := by
    show vapp P x y t t' s (Kput n d k) = _
    unfold vapp
    generalize ev s x = u
    generalize ev s y = v
    cases P.underlying t with
    | none => rfl
    | some D =>
      cases D <;> rfl
  show vop4 P (.call { callee := .builtin .append, args := #[x, y], argTypes := #[t, t'] }) s (Kput n d k) = _
  simp only [vop4, h0]
  generalize ev s y = u
  cases u with
  | lit v => cases v <;> rfl
  | _ => rfl
@[go_sem] theorem vappG_str {k : AV → VS → Prop} {x : Operand} {t t' : TypeId} {ax : AV} {z : ByteArray} : vappG P s k x t t' ax (.lit (.string z)) = vapps P x z t t' s k := _root_.id rfl
@[go_sem] theorem vappG_own {k : AV → VS → Prop} {x : Operand} {t t' : TypeId} {ax : AV} {j : Nat} : vappG P s k x t t' ax (.own j) = (t = t' ∧ vappU P s k ax (.own j) (P.underlying t)) := _root_.id rfl
@[go_sem] theorem vappG_sub {k : AV → VS → Prop} {x : Operand} {t t' : TypeId} {ax : AV} {j sz lo l : Nat} : vappG P s k x t t' ax (.sub j sz lo l) = (t = t' ∧ vappU P s k ax (.sub j sz lo l) (P.underlying t)) := _root_.id rfl
@[go_sem] theorem vappG_sl {k : AV → VS → Prop} {x : Operand} {t t' : TypeId} {ax : AV} {sz l : Nat} {f : Nat → List AV} : vappG P s k x t t' ax (.sl sz l f) = (t = t' ∧ vappU P s k ax (.sl sz l f) (P.underlying t)) := _root_.id rfl
@[go_sem] theorem vappG_nil {k : AV → VS → Prop} {x : Operand} {t t' : TypeId} {ax : AV} {A : Option Addr} {m c : Nat} : vappG P s k x t t' ax (.lit (.slice A m c)) = (t = t' ∧ vappU P s k ax (.lit (.slice A m c)) (P.underlying t)) := _root_.id rfl
def vappsO (s : VS) (k : AV → VS → Prop) (e : TypeId) (z : ByteArray) : Option (Value × Nat × Nat) → Option (List (Option Ob) × Nat × (Nat → List AV)) → Prop
  | some (u, q, by_), some (mem, m, f) => u = .int .u8 0 ∧ q = 1 ∧ by_ = 1 ∧ m + z.size ≤ 140737488355328 ∧ k (.own s.mem.length) { s with mem := mem ++ [some ⟨e, 1, m + z.size, joinF m f (byteCells z)⟩] }
  | _, _ => False
def vappsU (P : Program) (s : VS) (k : AV → VS → Prop) (ax : AV) (z : ByteArray) : Option TypeDesc → Option TypeDesc → Prop
  | some (.slice e), some .string => vappsO s k e z (tinfo P e) (ownOf s.mem e 1 ax)
  | _, _ => False
@[go_sem] theorem vapps_eq {k : AV → VS → Prop} {x : Operand} {z : ByteArray} {t t' : TypeId} : vapps P x z t t' s k = vappsU P s k (ev s x) z (P.underlying t) (P.underlying t') := by
  unfold vapps
  generalize ev s x = ax
  cases P.underlying t with
  | none => rfl
  | some u => cases P.underlying t' with
    | none => cases u <;> rfl
    | some v =>
      cases u <;> cases v <;> try rfl
      rename_i e
      simp only [vappsU]
      cases tinfo P e with
      | none => simp [vappsO]
      | some ti =>
        obtain ⟨u, q, by_⟩ := ti
        cases ownOf s.mem e 1 ax with
        | none => simp [vappsO]
        | some mm =>
          obtain ⟨mem, m, f⟩ := mm
          simp only [vappsO, Option.some.injEq, Prod.mk.injEq, eq_iff_iff]
          constructor
          · rintro ⟨⟨h1, h2, h3⟩, _, _, _, ⟨rfl, rfl, rfl⟩, h4, h5⟩
            exact ⟨h1, h2, h3, h4, h5⟩
          · rintro ⟨h1, h2, h3, h4, h5⟩
            exact ⟨⟨h1, h2, h3⟩, _, _, _, ⟨rfl, rfl, rfl⟩, h4, h5⟩
@[go_sem] theorem vappsU_s {k : AV → VS → Prop} {ax : AV} {z : ByteArray} {e : TypeId} : vappsU P s k ax z (some (.slice e)) (some .string) = vappsO s k e z (tinfo P e) (ownOf s.mem e 1 ax) := _root_.id rfl
@[go_sem] theorem vappsO_s {k : AV → VS → Prop} {e : TypeId} {z : ByteArray} {u : Value} {q by_ m : Nat} {mem : List (Option Ob)} {f : Nat → List AV} : vappsO s k e z (some (u, q, by_)) (some (mem, m, f)) = (u = .int .u8 0 ∧ q = 1 ∧ by_ = 1 ∧ m + z.size ≤ 140737488355328 ∧ k (.own s.mem.length) { s with mem := mem ++ [some ⟨e, 1, m + z.size, joinF m f (byteCells z)⟩] }) := _root_.id rfl
@[go_sem] theorem vappU_s {k : AV → VS → Prop} {x y : AV} {e : TypeId} : vappU P s k x y (some (.slice e)) = vappT P s k e x y (tinfo P e) := _root_.id rfl
@[go_sem] theorem vappT_s {k : AV → VS → Prop} {x y : AV} {e : TypeId} {z : Value} {sz by_ : Nat} : vappT P s k e x y (some (z, sz, by_)) = (z.cells.size = sz ∧ 0 < sz ∧ vappK s k e z sz by_ x y (ownOf s.mem e sz x) (contents s.mem sz y)) := _root_.id rfl
@[go_sem] theorem vappK_s {k : AV → VS → Prop} {x y : AV} {e : TypeId} {z : Value} {sz by_ : Nat} {mem : List (Option Ob)} {l m : Nat} {f h : Nat → List AV} : vappK s k e z sz by_ x y (some (mem, l, f)) (some (m, h)) = (y ≠ x ∧ (∀ i, i < m → (h i).all oneAV = true) ∧ l + m ≤ 9223372036854775807 ∧ (l + m) * by_ ≤ 140737488355328 ∧ k (.own s.mem.length) { s with mem := mem ++ [some ⟨e, sz, l + m, joinF l f h⟩] }) := _root_.id rfl

def vlitK (s : VS) (k : AV → VS → Prop) (e : TypeId) (len : Nat) : Option (Value × Nat × Nat) → Option (List (List AV)) → Prop
  | some (z, sz, _), some css => z.cells.size = sz ∧ 0 < sz ∧ css.length = len ∧ len * sz ≤ 16777216 ∧ (∀ c ∈ css, c.length = sz ∧ c.all oneAV = true) ∧ k (.own s.mem.length) { s with mem := s.mem ++ [some ⟨e, sz, len, fun i => css.getD i []⟩] }
  | _, _ => False
def vlitU (P : Program) (s : VS) (k : AV → VS → Prop) (len : Nat) (css : Option (List (List AV))) : Option TypeDesc → Prop
  | some (.slice e) => vlitK s k e len (tinfo P e) css
  | _ => False
@[go_sem] theorem vs_lit {t : TypeId} {len : Nat} {l : List (Nat × Operand)} : vstep P n ⟨d, .buildSlice t len l.toArray, ty, ps, af, g⟩ s k = vlitU P s (Kput n d k) len (partsCells s l 0) (P.underlying t) := by
  show vlitS P t len l s (Kput n d k) = _
  unfold vlitS
  generalize partsCells s l 0 = q
  cases P.underlying t with
  | none => rfl
  | some D =>
    cases D <;> rfl
@[go_sem] theorem vlitU_s {k : AV → VS → Prop} {len : Nat} {css : Option (List (List AV))} {e : TypeId} : vlitU P s k len css (some (.slice e)) = vlitK s k e len (tinfo P e) css := _root_.id rfl
@[go_sem] theorem vlitK_s {k : AV → VS → Prop} {e : TypeId} {len : Nat} {z : Value} {sz b : Nat} {css : List (List AV)} : vlitK s k e len (some (z, sz, b)) (some css) = (z.cells.size = sz ∧ 0 < sz ∧ css.length = len ∧ len * sz ≤ 16777216 ∧ (∀ c ∈ css, c.length = sz ∧ c.all oneAV = true) ∧ k (.own s.mem.length) { s with mem := s.mem ++ [some ⟨e, sz, len, fun i => css.getD i []⟩] }) := _root_.id rfl

def vbuildK (s : VS) (k : AV → VS → Prop) : Option (List AV) → Prop
  | some cells => k (.agg cells) s
  | none => False
def vbuildT (P : Program) (s : VS) (k : AV → VS → Prop) (fs : Array Field) (l : List (Nat × Operand)) : Option (Value × Nat × Nat) → Prop
  | some (z, _, _) => fieldsOk P fs.toList = true ∧ vbuildK s k (vbuildL P fs s l (z.cells.toList.map .lit))
  | none => False
def vbuildU (P : Program) (s : VS) (k : AV → VS → Prop) (l : List (Nat × Operand)) (ti : Option (Value × Nat × Nat)) : Option TypeDesc → Prop
  | some (.struct fs) => vbuildT P s k fs l ti
  | _ => False
@[go_sem] theorem vs_build {t : TypeId} {l : List (Nat × Operand)} : vstep P n ⟨d, .build t l.toArray, ty, ps, af, g⟩ s k = vbuildU P s (Kput n d k) l (tinfo P t) (P.underlying t) := by
  show vbuild P t l s (Kput n d k) = _
  unfold vbuild
  cases P.underlying t with
  | none => rfl
  | some D =>
    cases D <;> rfl
@[go_sem] theorem vbuildU_s {k : AV → VS → Prop} {l : List (Nat × Operand)} {ti : Option (Value × Nat × Nat)} {fs : Array Field} : vbuildU P s k l ti (some (.struct fs)) = vbuildT P s k fs l ti := _root_.id rfl
@[go_sem] theorem vbuildT_s {k : AV → VS → Prop} {l : List (Nat × Operand)} {fs : Array Field} {z : Value} {sz b : Nat} : vbuildT P s k fs l (some (z, sz, b)) = (fieldsOk P fs.toList = true ∧ vbuildK s k (vbuildL P fs s l (z.cells.toList.map .lit))) := _root_.id rfl
@[go_sem] theorem vbuildK_s {k : AV → VS → Prop} {cells : List AV} : vbuildK s k (some cells) = k (.agg cells) s := _root_.id rfl

/-! calls -/
def vcallV (P : Program) (f : FuncId) (avs : List AV) (s : VS) (k : AV → VS → Prop) : Prop := ∃ args', ArgsOk s.mem avs args' ∧ VFun P f args' (Kcall s k)
def vcallP (P : Program) (f : FuncId) (avs : List AV) (s : VS) (k : AV → VS → Prop) : Prop := vcallV P f avs s k ∨ vcallS P f avs s k
@[go_sem] theorem vs_call {f : FuncId} {args : List Operand} {tys : Array TypeId} : vstep P n ⟨d, .call { callee := .value (.func f), args := args.toArray, argTypes := tys }, ty, ps, af, g⟩ s k = vcallP P f (args.map (ev s)) s (Kput n d k) := _root_.id rfl
theorem vcall_use {f : FuncId} {avs args' : List AV} {k : AV → VS → Prop} {R : AV → List Ob → Prop} (h : VFun P f args' R) (ha : ArgsOk s.mem avs args') (hk : ∀ av obs, R av obs → Kcall s k av obs) : vcallP P f avs s k :=
  .inl ⟨args', ha, h.mono hk⟩
theorem vcallV_use {f : FuncId} {avs args' : List AV} {k : AV → VS → Prop} {R : AV → List Ob → Prop} (h : VFun P f args' R) (ha : ArgsOk s.mem avs args') (hk : ∀ av obs, R av obs → Kcall s k av obs) : vcallV P f avs s k :=
  ⟨args', ha, h.mono hk⟩
@[go_sem] theorem Kcall_ {k : AV → VS → Prop} {av : AV} {obs : List Ob} : Kcall s k av obs = k (ren (· + s.mem.length) av) { s with mem := s.mem ++ obs.map some } := _root_.id rfl

/-- the arguments' cells, one by one -/
def ArgL (mem : List (Option Ob)) : List AV → List AV → Prop
  | [], [] => True
  | a :: r, b :: r' => ArgOk1 mem a b ∧ ArgL mem r r'
  | _, _ => False
theorem argL_iff {mem : List (Option Ob)} : ∀ {cs cs' : List AV}, ArgL mem cs cs' ↔ (cs.length = cs'.length ∧ ∀ (j : Nat) c c', cs[j]? = some c → cs'[j]? = some c' → ArgOk1 mem c c')
  | [], [] => by simp [ArgL]
  | [], _ :: _ => by simp [ArgL]
  | _ :: _, [] => by simp [ArgL]
  | a :: r, b :: r' => by
    have ih := argL_iff (mem := mem) (cs := r) (cs' := r')
    simp only [ArgL, ih]
    constructor
    · rintro ⟨h, h1, h2⟩
      refine ⟨by simp [h1], fun j c c' hc hc' => ?_⟩
      cases j with
      | zero => simp at hc hc'; subst hc; subst hc'; exact h
      | succ j => exact h2 j c c' (by simpa using hc) (by simpa using hc')
    · rintro ⟨h1, h2⟩
      exact ⟨h2 0 a b rfl rfl, by simpa using h1, fun j c c' hc hc' => h2 (j + 1) c c' (by simpa using hc) (by simpa using hc')⟩
@[go_sem] theorem argOk_agg {mem : List (Option Ob)} {cs cs' : List AV} : ArgOk mem (.agg cs) (.agg cs') = ArgL mem cs cs' := by
  refine propext ⟨fun ⟨cs0, e, h1, h2⟩ => argL_iff.mpr ?_, fun h => ⟨cs, rfl, argL_iff.mp h⟩⟩
  cases e
  exact ⟨h1, h2⟩
@[go_sem] theorem argOk_lit {mem : List (Option Ob)} {a : AV} {v : Value} : ArgOk mem a (.lit v) = (a = .lit v) := _root_.id rfl
@[go_sem] theorem argOk_sl {mem : List (Option Ob)} {a : AV} {sz n : Nat} {f : Nat → List AV} : ArgOk mem a (.sl sz n f) = ArgSl mem a sz n f := _root_.id rfl
/-- a call that answers with one plain value -/
theorem vcall_pure {f : FuncId} {avs args' : List AV} {k : AV → VS → Prop} {v : Value} (h : VFun P f args' (fun av obs => obs = [] ∧ av = .lit v)) (ha : ArgsOk s.mem avs args') (hk : k (.lit v) s) : vcallP P f avs s k :=
  vcall_use h ha (by rintro av obs ⟨rfl, rfl⟩; simpa [Kcall, ren, ren1, ren2] using hk)
theorem vcallV_pure {f : FuncId} {avs args' : List AV} {k : AV → VS → Prop} {v : Value} (h : VFun P f args' (fun av obs => obs = [] ∧ av = .lit v)) (ha : ArgsOk s.mem avs args') (hk : k (.lit v) s) : vcallV P f avs s k :=
  vcallV_use h ha (by rintro av obs ⟨rfl, rfl⟩; simpa [Kcall, ren, ren1, ren2] using hk)
theorem vcall_val {P : Program} {s : VS} {f : FuncId} {avs args' : List AV} {k : AV → VS → Prop} {x : AV} (h : VFun P f args' (fun av obs => obs = [] ∧ av = x)) (ha : ArgsOk s.mem avs args') (hr : ren (· + s.mem.length) x = x) (hk : k x s) : vcallP P f avs s k :=
  vcall_use h ha (by rintro av obs ⟨rfl, rfl⟩; simpa [Kcall, hr] using hk)
theorem vcallV_val {P : Program} {s : VS} {f : FuncId} {avs args' : List AV} {k : AV → VS → Prop} {x : AV} (h : VFun P f args' (fun av obs => obs = [] ∧ av = x)) (ha : ArgsOk s.mem avs args') (hr : ren (· + s.mem.length) x = x) (hk : k x s) : vcallV P f avs s k :=
  vcallV_use h ha (by rintro av obs ⟨rfl, rfl⟩; simpa [Kcall, hr] using hk)

/-! the end -/
@[go_sem] theorem obsSame_nil {x : List Ob} : ObsSame [] x = (x = []) := by cases x <;> simp [ObsSame]
def vend (R : AV → List Ob → Prop) (s : VS) (av : AV) : Prop := flatV av = true ∧ (ownsV av).Nodup ∧ ∃ obs obs', exports s.mem (ownsV av) = some obs ∧ ObsSame obs obs' ∧ R (ren (fun k => (ownsV av).idxOf k) av) obs'
def vresA (P : Program) (R : AV → List Ob → Prop) (s : VS) : List ResultVar → List AV → Prop
  | [], acc => vend R s (joined acc.reverse)
  | .tmp t :: r, acc => vresA P R s r (lk s.tmps t :: acc)
  | .cell t T :: r, acc => vload P T s (fun av _ => vresA P R s r (av :: acc)) (lk s.tmps t)
def Kres (P : Program) (R : AV → List Ob → Prop) (s : VS) (r : List ResultVar) (acc : List AV) (av : AV) (_ : VS) : Prop := vresA P R s r (av :: acc)
theorem vres_eq {R : AV → List Ob → Prop} : ∀ (rs : List ResultVar) (acc : List AV), vresL P s rs (fun l => vend R s (joined (acc.reverse ++ l))) = vresA P R s rs acc
  | [], acc => by simp [vresL, vresA]
  | .tmp t :: r, acc => by
    have := vres_eq (R := R) r (lk s.tmps t :: acc)
    simpa [vresL, vresA] using this
  | .cell t T :: r, acc => by
    have h : ∀ av, vresL P s r (fun l => vend R s (joined (acc.reverse ++ (av :: l)))) = vresA P R s r (av :: acc) := fun av => by
      have := vres_eq (R := R) r (av :: acc)
      simpa using this
    simp only [vresL, vresA, h]
    generalize hk : (fun (av : AV) (_ : VS) => vresA P R s r (av :: acc)) = k
    show vop P (.load T (.tmp t)) s k = _
    simp only [vop, ev]
    generalize lk s.tmps t = v
    cases v <;> rfl
@[go_sem] theorem vret_eq {rs : List ResultVar} {R : AV → List Ob → Prop} : vret P rs R s = vresA P R s rs [] := vres_eq (R := R) rs []
@[go_sem] theorem vresA_nil {R : AV → List Ob → Prop} {acc : List AV} : vresA P R s [] acc = vend R s (joined acc.reverse) := _root_.id rfl
@[go_sem] theorem vresA_tmp {R : AV → List Ob → Prop} {r : List ResultVar} {acc : List AV} {t : Tmp} : vresA P R s (.tmp t :: r) acc = vresA P R s r (lk s.tmps t :: acc) := _root_.id rfl
@[go_sem] theorem vresA_cell {R : AV → List Ob → Prop} {r : List ResultVar} {acc : List AV} {t : Tmp} {T : TypeId} : vresA P R s (.cell t T :: r) acc = vload P T s (Kres P R s r acc) (lk s.tmps t) := _root_.id rfl
@[go_sem] theorem Kres_ {R : AV → List Ob → Prop} {s' : VS} {r : List ResultVar} {acc : List AV} {av : AV} : Kres P R s r acc av s' = vresA P R s r (av :: acc) := _root_.id rfl
@[go_sem] theorem vend_lit {R : AV → List Ob → Prop} {v : Value} : vend R s (.lit v) = R (.lit v) [] := by
  simp [vend, flatV, flat2, flat1, ownsV, owns2, owns1, exports, obsSame_nil, ren, ren2, ren1]
@[go_sem] theorem vend_own {R : AV → List Ob → Prop} {j : Nat} : vend R s (.own j) = (flatV (.own j) = true ∧ (ownsV (.own j)).Nodup ∧ ∃ obs obs', exports s.mem (ownsV (.own j)) = some obs ∧ ObsSame obs obs' ∧ R (ren (fun k => (ownsV (.own j)).idxOf k) (.own j)) obs') := _root_.id rfl
@[go_sem] theorem vend_ptr {R : AV → List Ob → Prop} {j a b c : Nat} : vend R s (.ptr j a b c) = (flatV (.ptr j a b c) = true ∧ (ownsV (.ptr j a b c)).Nodup ∧ ∃ obs obs', exports s.mem (ownsV (.ptr j a b c)) = some obs ∧ ObsSame obs obs' ∧ R (ren (fun k => (ownsV (.ptr j a b c)).idxOf k) (.ptr j a b c)) obs') := _root_.id rfl
@[go_sem] theorem vend_agg {R : AV → List Ob → Prop} {cs : List AV} : vend R s (.agg cs) = (flatV (.agg cs) = true ∧ (ownsV (.agg cs)).Nodup ∧ ∃ obs obs', exports s.mem (ownsV (.agg cs)) = some obs ∧ ObsSame obs obs' ∧ R (ren (fun k => (ownsV (.agg cs)).idxOf k) (.agg cs)) obs') := _root_.id rfl
@[go_sem] theorem vend_tup {R : AV → List Ob → Prop} {cs : List AV} : vend R s (.tup cs) = (flatV (.tup cs) = true ∧ (ownsV (.tup cs)).Nodup ∧ ∃ obs obs', exports s.mem (ownsV (.tup cs)) = some obs ∧ ObsSame obs obs' ∧ R (ren (fun k => (ownsV (.tup cs)).idxOf k) (.tup cs)) obs') := _root_.id rfl

/-! writing into a row -/
def updF (m : Nat) (f : Nat → List AV) (i c : Nat) (cells : List AV) (j : Nat) : List AV := if m = 1 then splice (f 0) c cells else if j = i then splice (f i) c cells else f j
@[go_sem 2000] theorem upd_one {T sz : Nat} {f : Nat → List AV} {i c : Nat} {cells : List AV} : upd ⟨T, sz, 1, f⟩ i c cells = ⟨T, sz, 1, fun _ => splice (f 0) c cells⟩ := by simp [upd]
@[go_sem] theorem upd_mk {T sz m : Nat} {f : Nat → List AV} {i c : Nat} {cells : List AV} : upd ⟨T, sz, m, f⟩ i c cells = ⟨T, sz, m, updF m f i c cells⟩ := by
  unfold upd updF
  by_cases h : m = 1 <;> simp [h]
theorem updF_at {m : Nat} {f : Nat → List AV} {i c : Nat} {cells : List AV} {j : Nat} (hi : i < m) (hj : j < m) : updF m f i c cells j = if j = i then splice (f i) c cells else f j := by
  unfold updF
  by_cases h : m = 1
  · have : i = 0 := by omega
    have : j = 0 := by omega
    subst_vars
    simp
  · simp [h]

/-! states -/
theorem le_of (s s' : VS) (h1 : ∀ p, p ∈ s'.tmps → lk s.tmps p.1 = p.2 ∧ Bd s'.mem.length p.2) (h2 : s'.mem.length ≤ s.mem.length) (h3 : ∀ (k : Nat) (ob' : Ob), s'.mem[k]? = some (some ob') → ∃ ob, s.mem[k]? = some (some ob) ∧ ObEq s'.mem.length ob ob') (h4 : s'.fix = s.fix ∧ s'.fix ≤ s'.mem.length) (h5 : ∀ p, p ∈ s'.maps → lkm s.maps p.1 = some p.2) : Le s s' := ⟨h4, h5, h1, h2, h3⟩
def MapsLe (l : List (Nat × Mp)) : List (Nat × Mp) → Prop
  | [] => True
  | (b, mp) :: r => lkm l b = some mp ∧ MapsLe l r
theorem mapsLe_get {l : List (Nat × Mp)} : ∀ {l' : List (Nat × Mp)}, MapsLe l l' → ∀ p, p ∈ l' → lkm l p.1 = some p.2
  | [], _, p, hp => by simp at hp
  | (t, av) :: r, h, p, hp => by
    simp only [List.mem_cons] at hp
    rcases hp with rfl | hp
    · exact h.1
    · exact mapsLe_get h.2 p hp
theorem mapsLe_of {l : List (Nat × Mp)} : ∀ {l' : List (Nat × Mp)}, (∀ p, p ∈ l' → lkm l p.1 = some p.2) → MapsLe l l'
  | [], _ => trivial
  | (t, av) :: r, h => ⟨h (t, av) (by simp), mapsLe_of fun p hp => h p (by simp [hp])⟩
def MemLe (m : Nat) : List (Option Ob) → List (Option Ob) → Prop
  | _, [] => True
  | o :: r, none :: r' => MemLe m r r'
  | some ob :: r, some ob' :: r' => ObEq m ob ob' ∧ MemLe m r r'
  | _, _ => False
theorem memLe_get {m : Nat} : ∀ {l l' : List (Option Ob)}, MemLe m l l' → l'.length ≤ l.length ∧ ∀ (k : Nat) (ob' : Ob), l'[k]? = some (some ob') → ∃ ob, l[k]? = some (some ob) ∧ ObEq m ob ob'
  | l, [], _ => ⟨by simp, fun k ob' hk => by simp at hk⟩
  | o :: r, none :: r', h => by
    obtain ⟨h1, h2⟩ := memLe_get (l := r) (l' := r') (by cases o <;> exact h)
    refine ⟨by simp; omega, fun k ob' hk => ?_⟩
    cases k with
    | zero => simp at hk
    | succ k => exact h2 k ob' (by simpa using hk)
  | some ob :: r, some ob2 :: r', h => by
    obtain ⟨h1, h2⟩ := memLe_get (l := r) (l' := r') h.2
    refine ⟨by simp; omega, fun k ob' hk => ?_⟩
    cases k with
    | zero =>
      simp only [List.getElem?_cons_zero, Option.some.injEq] at hk
      subst hk
      exact ⟨ob, rfl, h.1⟩
    | succ k => exact h2 k ob' (by simpa using hk)
  | [], none :: _, h => h.elim
  | [], some _ :: _, h => h.elim
  | none :: _, some _ :: _, h => h.elim
def TmpsLe (m : Nat) (l : List (Nat × AV)) : List (Nat × AV) → Prop
  | [] => True
  | (t, av) :: r => lk l t = av ∧ Bd m av ∧ TmpsLe m l r
theorem tmpsLe_get {m : Nat} {l : List (Nat × AV)} : ∀ {l' : List (Nat × AV)}, TmpsLe m l l' → ∀ p, p ∈ l' → lk l p.1 = p.2 ∧ Bd m p.2
  | [], _, p, hp => by simp at hp
  | (t, av) :: r, h, p, hp => by
    simp only [List.mem_cons] at hp
    rcases hp with rfl | hp
    · exact ⟨h.1, h.2.1⟩
    · exact tmpsLe_get h.2.2 p hp
theorem le_intro {t t' : List (Nat × AV)} {m m' : List (Option Ob)} {M M' : List (Nat × Mp)} {x x' : Nat} (h : (x' = x ∧ x' ≤ m'.length) ∧ MapsLe M M' ∧ TmpsLe m'.length t t' ∧ MemLe m'.length m m') : Le ⟨t, m, M, x⟩ ⟨t', m', M', x'⟩ :=
  ⟨h.1, mapsLe_get h.2.1, tmpsLe_get h.2.2.1, (memLe_get h.2.2.2).1, (memLe_get h.2.2.2).2⟩
theorem tmpsLe_of {m : Nat} {l : List (Nat × AV)} : ∀ {l' : List (Nat × AV)}, (∀ p, p ∈ l' → lk l p.1 = p.2 ∧ Bd m p.2) → TmpsLe m l l'
  | [], _ => trivial
  | (t, av) :: r, h => ⟨(h (t, av) (by simp)).1, (h (t, av) (by simp)).2, tmpsLe_of fun p hp => h p (by simp [hp])⟩
theorem memLe_of {m : Nat} : ∀ {l l' : List (Option Ob)}, l'.length ≤ l.length → (∀ (k : Nat) (ob' : Ob), l'[k]? = some (some ob') → ∃ ob, l[k]? = some (some ob) ∧ ObEq m ob ob') → MemLe m l l'
  | l, [], _, _ => by cases l with
    | nil => trivial
    | cons a _ => cases a <;> trivial
  | [], _ :: _, h, _ => by simp at h
  | o :: r, none :: r', h1, h2 => by
    have := memLe_of (m := m) (l := r) (l' := r') (by simpa using h1) fun k ob' hk => by simpa using h2 (k + 1) ob' (by simpa using hk)
    cases o <;> exact this
  | none :: r, some ob :: r', h1, h2 => by
    obtain ⟨o, e, _⟩ := h2 0 ob (by simp)
    simp at e
  | some o :: r, some ob :: r', h1, h2 => by
    have := memLe_of (m := m) (l := r) (l' := r') (by simpa using h1) fun k ob' hk => by simpa using h2 (k + 1) ob' (by simpa using hk)
    obtain ⟨o', e, h⟩ := h2 0 ob (by simp)
    simp at e
    subst e
    exact ⟨h, this⟩
@[go_sem] theorem le_iff (t t' : List (Nat × AV)) (m m' : List (Option Ob)) (M M' : List (Nat × Mp)) (x x' : Nat) : Le ⟨t, m, M, x⟩ ⟨t', m', M', x'⟩ = ((x' = x ∧ x' ≤ m'.length) ∧ MapsLe M M' ∧ TmpsLe m'.length t t' ∧ MemLe m'.length m m') :=
  propext ⟨fun h => ⟨h.fix, mapsLe_of h.maps, tmpsLe_of h.tmps, memLe_of h.len h.mem⟩, le_intro⟩
theorem obsSame_one {a : Ob} {x : List Ob} : ObsSame [a] x ↔ ∃ b, ObSame a b ∧ x = [b] := by
  constructor
  · cases x with
    | nil => intro h; exact h.elim
    | cons b r => cases r with
      | nil => exact fun h => ⟨b, h.1, rfl⟩
      | cons _ _ => exact fun h => h.2.elim
  · rintro ⟨b, h, rfl⟩; exact ⟨h, trivial⟩
/-! states under other numbers -/
def TmpsR (f : Nat → Nat) (m : Nat) (l : List (Nat × AV)) : List (Nat × AV) → Prop
  | [] => True
  | (t, av) :: r => Rn f m (lk l t) av ∧ TmpsR f m l r
def MemAt (f : Nat → Nat) (m : Nat) (ob' : Ob) : Option (Option Ob) → Prop
  | some (some ob) => ObRn f m ob ob'
  | _ => False
def MemR (f : Nat → Nat) (m : Nat) (mem : List (Option Ob)) : Nat → List (Option Ob) → Prop
  | _, [] => True
  | k, none :: r => MemR f m mem (k + 1) r
  | k, some ob' :: r => MemAt f m ob' (mem[f k]?) ∧ MemR f m mem (k + 1) r
theorem tmpsR_get {f : Nat → Nat} {m : Nat} {l : List (Nat × AV)} : ∀ {l' : List (Nat × AV)}, TmpsR f m l l' → ∀ p, p ∈ l' → Rn f m (lk l p.1) p.2
  | [], _, p, hp => by simp at hp
  | (t, av) :: r, h, p, hp => by
    simp only [List.mem_cons] at hp
    rcases hp with rfl | hp
    · exact h.1
    · exact tmpsR_get h.2 p hp
theorem memR_get {f : Nat → Nat} {m : Nat} {mem : List (Option Ob)} : ∀ {l : List (Option Ob)} {k0 : Nat}, MemR f m mem k0 l → ∀ (k : Nat) (ob' : Ob), l[k]? = some (some ob') → ∃ ob, mem[f (k0 + k)]? = some (some ob) ∧ ObRn f m ob ob'
  | [], _, _, k, ob', hk => by simp at hk
  | none :: r, k0, h, k, ob', hk => by
    cases k with
    | zero => simp at hk
    | succ k =>
      have := memR_get (k0 := k0 + 1) (l := r) h k ob' (by simpa using hk)
      rwa [Nat.add_right_comm] at this
  | some ob :: r, k0, h, k, ob', hk => by
    cases k with
    | zero =>
      simp only [List.getElem?_cons_zero, Option.some.injEq] at hk
      subst hk
      have h1 := h.1
      rw [Nat.add_zero]
      generalize mem[f k0]? = y at h1
      match y, h1 with
      | some (some o), h1 => exact ⟨o, rfl, h1⟩
    | succ k =>
      have := memR_get (k0 := k0 + 1) (l := r) h.2 k ob' (by simpa using hk)
      rwa [Nat.add_right_comm] at this
theorem leR_intro {f : Nat → Nat} {t t' : List (Nat × AV)} {m m' : List (Option Ob)} {M M' : List (Nat × Mp)} {x : Nat} (hx : x ≤ m'.length) (hf : ∀ k, k < x → f k = k) (hM : MapsLe M M') (h1 : TmpsR f m'.length t t') (h2 : ∀ k, k < m'.length → f k < m.length) (h3 : ∀ k k', k < m'.length → k' < m'.length → f k = f k' → k = k') (h4 : MemR f m'.length m 0 m') : LeR f ⟨t, m, M, x⟩ ⟨t', m', M', x⟩ :=
  ⟨⟨rfl, hx, hf⟩, mapsLe_get hM, tmpsR_get h1, h2, h3, fun k ob' hk => by have := memR_get h4 k ob' hk; rwa [Nat.zero_add] at this⟩
/-- one own object, wherever it came from -/
theorem leR_one {K : Nat} {t t' : List (Nat × AV)} {m : List (Option Ob)} {M : List (Nat × Mp)} {ob' : Ob} (h1 : TmpsR (fun _ => K) 1 t t') (h2 : K < m.length) (h4 : MemAt (fun _ => K) 1 ob' (m[K]?)) : LeR (fun _ => K) ⟨t, m, M, 0⟩ ⟨t', [some ob'], [], 0⟩ :=
  leR_intro (Nat.zero_le _) (fun k hk => by omega) trivial h1 (fun k _ => h2) (fun k k' h h' _ => by simp at h h'; omega) ⟨h4, trivial⟩
@[go_sem] theorem memAt_s {f : Nat → Nat} {m : Nat} {ob ob' : Ob} : MemAt f m ob' (some (some ob)) = ObRn f m ob ob' := _root_.id rfl
@[go_sem] theorem rn_undef {f : Nat → Nat} {m : Nat} {x : AV} : Rn f m x .undef = True := eq_true (.undef x)
@[go_sem] theorem rn_lit {f : Nat → Nat} {m : Nat} {x : AV} {v : Value} : Rn f m x (.lit v) = (x = .lit v) := propext ⟨fun h => by cases h; rfl, fun h => by rw [h]; exact .closed _ (.lit v)⟩
@[go_sem] theorem rn_own {f : Nat → Nat} {m : Nat} {x : AV} {k : Nat} : Rn f m x (.own k) = (k < m ∧ x = .own (f k)) := propext ⟨fun h => by cases h with
  | own _ h => exact ⟨h, rfl⟩
  | closed _ h => (cases h), fun h => by rw [h.2]; exact .own k h.1⟩
@[go_sem] theorem rn_sl {f : Nat → Nat} {m : Nat} {x : AV} {sz n : Nat} {g : Nat → List AV} : Rn f m x (.sl sz n g) = (Closed (.sl sz n g) ∧ x = .sl sz n g) := propext ⟨fun h => by cases h with
  | closed _ h => (exact ⟨h, rfl⟩), fun h => by rw [h.2]; exact .closed _ h.1⟩
@[go_sem] theorem bd_lit {m : Nat} {v : Value} : Bd m (.lit v) = True := eq_true (.closed _ (.lit v))
@[go_sem] theorem bd_own {m k : Nat} : Bd m (.own k) = (k < m) := propext ⟨fun h => by cases h with | own _ h => exact h | closed _ h => (cases h), fun h => .own k h⟩
@[go_sem] theorem bd_ptr {m k sz i j : Nat} : Bd m (.ptr k sz i j) = (k < m) := propext ⟨fun h => by cases h with | ptr _ _ _ _ h => exact h | closed _ h => (cases h), fun h => .ptr k sz i j h⟩
@[go_sem] theorem bd_sub {m k sz i j : Nat} : Bd m (.sub k sz i j) = (k < m) := propext ⟨fun h => by cases h with | sub _ _ _ _ h => exact h | closed _ h => (cases h), fun h => .sub k sz i j h⟩
@[go_sem] theorem bd_undef {m : Nat} : Bd m .undef = True := eq_true .undef
@[go_sem] theorem bd_sl {m sz l : Nat} {f : Nat → List AV} : Bd m (.sl sz l f) = Closed (.sl sz l f) := propext ⟨fun h => by cases h with | closed _ h => (exact h), fun h => .closed _ h⟩
@[go_sem] theorem bd_bptr {m : Nat} {cs : List AV} : Bd m (.bptr cs) = Closed (.bptr cs) := propext ⟨fun h => by cases h with | closed _ h => (exact h), fun h => .closed _ h⟩
@[go_sem] theorem bd_agg {m : Nat} {cs : List AV} : Bd m (.agg cs) = ∀ c, c ∈ cs → Bd m c := propext ⟨fun h c hc => by cases h with | agg _ h => exact h c hc | closed _ h => cases h with | agg _ h => exact .closed _ (h c hc), fun h => .agg cs h⟩
@[go_sem] theorem bd_tup {m : Nat} {cs : List AV} : Bd m (.tup cs) = ∀ c, c ∈ cs → Bd m c := propext ⟨fun h c hc => by cases h with | tup _ h => exact h c hc | closed _ h => (cases h), fun h => .tup cs h⟩
@[go_sem] theorem closed_lit {v : Value} : Closed (.lit v) = True := eq_true (.lit v)
@[go_sem] theorem closed_sl {sz l : Nat} {f : Nat → List AV} : Closed (.sl sz l f) = ∀ (i : Nat) c, i < l → c ∈ f i → Closed c := propext ⟨fun h => by cases h with | sl _ _ _ h => exact h, fun h => .sl sz l f h⟩
@[go_sem] theorem closed_agg {cs : List AV} : Closed (.agg cs) = ∀ c, c ∈ cs → Closed c := propext ⟨fun h => by cases h with | agg _ h => exact h, fun h => .agg cs h⟩
@[go_sem] theorem closed_bptr {cs : List AV} : Closed (.bptr cs) = ∀ c, c ∈ cs → Closed c := propext ⟨fun h => by cases h with | bptr _ h => exact h, fun h => .bptr cs h⟩
end
attribute [go_sem] ArgL valloc vbuildL toVal litsOf avCells oneAV fieldOff contents avLen ownOf partsCells ArgsOk ArgOk1 splice joined exports flat1 flat2 flatV owns1 owns2 ownsV ren1 ren2 ren fieldsOk Value.cells Value.oneCell' isLit esz start MemLe TmpsLe ObSame ObEq TmpsR MemR ObRn VS.of MapsLe lkm
end Go.Proofs.Ytnjnkhmcdkjekaa.V
