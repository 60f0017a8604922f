/- Floats up to the bits of a NaN: canonical bits, the operations on them, and the walk's rules for an operation that may draw a NaN. -/
import Derived.WalkKit
import Derived.WalkLawsBesides
import Derived.Deep.Draws
import Derived.Lib.Hide
namespace Go.Proofs.Ytfehhbmmdbpdpaa
open Go Go.RowKit

/-! ## reading what was written -/
theorem isNaN_iff {d : Ieee.Datum} : d.isNaN = true ↔ ∃ s t, d = .nan s t := by
  cases d <;> simp [Ieee.Datum.isNaN]

theorem read_word_le (f : Ieee.Format) (neg : Bool) (rung : Nat) (h : rung ≤ f.infRung) : (f.read (f.word neg rung)).isNaN = false := by
  have hlt := f.infRung_lt
  have hs : 0 < f.signWeight := by unfold Ieee.Format.signWeight; exact Nat.two_pow_pos _
  have hm : f.word neg rung % f.signWeight = rung := by
    unfold Ieee.Format.word
    split
    · rw [Nat.add_mod_left]; exact Nat.mod_eq_of_lt (by omega)
    · exact Nat.mod_eq_of_lt (by omega)
  unfold Ieee.Format.read
  simp only [hm]
  split
  · rfl
  · split
    · rfl
    · split
      · rfl
      · omega

theorem read_write_nearest (f : Ieee.Format) (s : Bool) (m : Nat) (p : Int) : (f.read (f.nearest s m p)).isNaN = false := by
  unfold Ieee.Format.nearest
  dsimp only
  split
  · exact read_word_le f s 0 (Nat.zero_le _)
  · exact read_word_le f s _ (Nat.min_le_right ..)

theorem read_write (f : Ieee.Format) {d : Ieee.Datum} (h : d.isNaN = false) : (f.read (f.write d)).isNaN = false := by
  cases d with
  | number s m p => exact read_write_nearest f s m p
  | infinity s => exact read_word_le f s _ (Nat.le_refl _)
  | nan s t => simp [Ieee.Datum.isNaN] at h

/-! ## canonical bits -/
def qn : FloatKind → Nat
  | .f32 => 0x7fc00000
  | .f64 => 0x7ff8000000000000

def isN (k : FloatKind) (b : Nat) : Bool := (k.decode b).isNaN

def cn (k : FloatKind) (b : Nat) : Nat := if isN k b then qn k else b

theorem isN_qn (k : FloatKind) : isN k (qn k) = true := by cases k <;> decide
theorem isN_cn (k : FloatKind) (b : Nat) : isN k (cn k b) = isN k b := by
  unfold cn; split
  · rename_i h; rw [isN_qn, h]
  · rfl
theorem cn_of_not {k : FloatKind} {b : Nat} (h : isN k b = false) : cn k b = b := by simp [cn, h]
theorem cn_of {k : FloatKind} {b : Nat} (h : isN k b = true) : cn k b = qn k := by simp [cn, h]
theorem cn_cn (k : FloatKind) (b : Nat) : cn k (cn k b) = cn k b := by
  by_cases h : isN k b = true
  · rw [cn_of h, cn_of (isN_qn k)]
  · have h' : isN k b = false := by simpa using h
    rw [cn_of_not h', cn_of_not h']

/-- the operations on canonical bits -/
def fop (op : BinOp) (k : FloatKind) (x y : Nat) : Nat := (floatBits op k x y).getD (qn k)

theorem floatBits_nan_left {op : BinOp} {k : FloatKind} {x y : Nat} (h : isN k x = true) : floatBits op k x y = none := by
  obtain ⟨s, t, e⟩ := isNaN_iff.1 h
  have e' : k.format.read x = .nan s t := e
  cases op <;> simp [floatBits, Ieee.Format.add, Ieee.Format.sub, Ieee.Format.mul, Ieee.Format.div, e', Ieee.Datum.sum, Ieee.Datum.product, Ieee.Datum.quotient]
theorem floatBits_nan_right {op : BinOp} {k : FloatKind} {x y : Nat} (h : isN k y = true) : floatBits op k x y = none := by
  obtain ⟨s, t, e⟩ := isNaN_iff.1 h
  have e' : k.format.read y = .nan s t := e
  cases op <;> simp only [floatBits, Ieee.Format.add, Ieee.Format.sub, Ieee.Format.mul, Ieee.Format.div, e', Ieee.Datum.opposite] <;>
    cases k.format.read x <;> simp [Ieee.Datum.sum, Ieee.Datum.product, Ieee.Datum.quotient]

theorem floatBits_cn (op : BinOp) (k : FloatKind) (x y : Nat) : floatBits op k (cn k x) (cn k y) = floatBits op k x y := by
  by_cases hx : isN k x = true
  · rw [floatBits_nan_left hx, floatBits_nan_left (by rw [isN_cn]; exact hx)]
  · have hx' : isN k x = false := by simpa using hx
    rw [cn_of_not hx']
    by_cases hy : isN k y = true
    · rw [floatBits_nan_right hy, floatBits_nan_right (by rw [isN_cn]; exact hy)]
    · rw [cn_of_not (by simpa using hy)]

theorem order_cn (k : FloatKind) (x y : Nat) : k.format.order (cn k x) (cn k y) = k.format.order x y := by
  have hl : ∀ a b, isN k a = true → k.format.order a b = none := by
    intro a b h
    obtain ⟨s, t, e⟩ := isNaN_iff.1 h
    have e' : k.format.read a = .nan s t := e
    simp [Ieee.Format.order, e', Ieee.Datum.order]
  have hr : ∀ a b, isN k b = true → k.format.order a b = none := by
    intro a b h
    obtain ⟨s, t, e⟩ := isNaN_iff.1 h
    have e' : k.format.read b = .nan s t := e
    simp only [Ieee.Format.order, e']
    cases k.format.read a <;> simp [Ieee.Datum.order]
  by_cases hx : isN k x = true
  · rw [hl _ _ hx, hl _ _ (by rw [isN_cn]; exact hx)]
  · rw [cn_of_not (by simpa using hx)]
    by_cases hy : isN k y = true
    · rw [hr _ _ hy, hr _ _ (by rw [isN_cn]; exact hy)]
    · rw [cn_of_not (by simpa using hy)]

theorem floatBits_not {op : BinOp} {k : FloatKind} {x y r : Nat} (h : floatBits op k x y = some r) : isN k r = false := by
  have key : ∀ o : Option Ieee.Datum, (∀ d, o = some d → d.isNaN = false) → o.map k.format.write = some r → isN k r = false := by
    intro o ho h
    cases o with
    | none => cases h
    | some d => cases h; exact read_write k.format (ho d rfl)
  have hsum : ∀ a b d, Ieee.Datum.sum a b = some d → d.isNaN = false := by
    intro a b d h
    cases a <;> cases b <;> simp [Ieee.Datum.sum] at h <;> first | (subst h; rfl) | (obtain ⟨_, h⟩ := h; subst h; rfl)
  have hprod : ∀ a b d, Ieee.Datum.product a b = some d → d.isNaN = false := by
    intro a b d h
    cases a <;> cases b <;> simp [Ieee.Datum.product] at h <;> first | (subst h; rfl) | (obtain ⟨_, h⟩ := h; subst h; rfl)
  have hquo : ∀ n a b d, Ieee.Datum.quotient n a b = some d → d.isNaN = false := by
    intro n a b d h
    cases a <;> cases b <;> simp [Ieee.Datum.quotient] at h
    · split at h
      · split at h
        · cases h
        · cases h; rfl
      · cases h; rfl
    · subst h; rfl
    · subst h; rfl
  unfold floatBits at h
  split at h
  · exact key _ (hsum _ _) h
  · exact key _ (hsum _ _) h
  · exact key _ (hprod _ _) h
  · exact key _ (hquo _ _ _) h
  · cases h

theorem read_isNaN (f : Ieee.Format) (b : Nat) (hb : f.binade ≤ f.infRung) : (f.read b).isNaN = decide (f.infRung < b % f.signWeight) := by
  unfold Ieee.Format.read
  dsimp only
  by_cases h1 : b % f.signWeight < f.binade
  · rw [if_pos h1]; simp [Ieee.Datum.isNaN]; omega
  · rw [if_neg h1]
    by_cases h2 : b % f.signWeight < f.infRung
    · rw [if_pos h2]; simp [Ieee.Datum.isNaN]; omega
    · rw [if_neg h2]
      by_cases h3 : b % f.signWeight = f.infRung
      · rw [if_pos h3]; simp [Ieee.Datum.isNaN]; omega
      · rw [if_neg h3]; simp [Ieee.Datum.isNaN]; omega
theorem isN32 (b : Nat) : isN .f32 b = decide (0x7f800000 < b % 2147483648) := read_isNaN Ieee.single b (by decide)
theorem isN64 (b : Nat) : isN .f64 b = decide (0x7ff0000000000000 < b % 9223372036854775808) := read_isNaN Ieee.double b (by decide)
theorem isN_of_choice32 (t : Nat) : isN .f32 ((t % 2) * 2 ^ 31 + 0x7f800000 + 1 + (t / 2) % (2 ^ 23 - 1)) = true := by
  have h2 : t % 2 = 0 ∨ t % 2 = 1 := by omega
  have h3 : (t / 2) % (2 ^ 23 - 1) < 2 ^ 23 - 1 := Nat.mod_lt _ (by decide)
  rw [isN32]
  generalize (t / 2) % (2 ^ 23 - 1) = c at *
  generalize t % 2 = s at *
  simp only [decide_eq_true_eq]
  omega
theorem isN_of_choice64 (t : Nat) : isN .f64 ((t % 2) * 2 ^ 63 + 0x7ff0000000000000 + 1 + (t / 2) % (2 ^ 52 - 1)) = true := by
  have h2 : t % 2 = 0 ∨ t % 2 = 1 := by omega
  have h3 : (t / 2) % (2 ^ 52 - 1) < 2 ^ 52 - 1 := Nat.mod_lt _ (by decide)
  rw [isN64]
  generalize (t / 2) % (2 ^ 52 - 1) = c at *
  generalize t % 2 = s at *
  simp only [decide_eq_true_eq]
  omega
theorem isN_choice (k : FloatKind) (x y t : Nat) : isN k ((Question.nanBits k x y).cut t) = true := by
  cases k
  · exact isN_of_choice32 t
  · exact isN_of_choice64 t
theorem isN_choice_conv (k : FloatKind) (x t : Nat) : isN k ((Question.nanConv k x).cut t) = true := by
  cases k
  · exact isN_of_choice32 t
  · exact isN_of_choice64 t

/-! ## the runs -/
/-- what a float operation may leave: canonical bits as told -/
def FR (k : FloatKind) (r : Nat) (v : Nat) : Prop := cn k r = v

theorem run_float (P : Program) (op : BinOp) (hop : op = .add ∨ op = .sub ∨ op = .mul ∨ op = .quo) (t : TypeId) (k : FloatKind) (x y : Nat) (w : World) :
    ∃ r n, (binOp op t (.float k x) (.float k y)).run P w = .ok (.float k r) (w.drewN n) ∧ FR k r (fop op k (cn k x) (cn k y)) := by
  cases h : floatBits op k x y with
  | some r =>
    refine ⟨r, 0, run_float_arith w op t k x y r h, ?_⟩
    unfold FR fop
    rw [floatBits_cn, h, cn_of_not (floatBits_not h)]; rfl
  | none =>
    refine ⟨(Question.nanBits k x y).cut (w.tape w.drawn (.nanBits k x y)), 1, ?_, ?_⟩
    · rw [← World.drew_is_drewN]
      unfold floatBits at h
      rcases hop with rfl | rfl | rfl | rfl <;> simp only at h <;> simp [binOp, Op.floatArith, h, Question.forced]
    · unfold FR fop
      rw [floatBits_cn, h, cn_of (isN_choice k x y _)]; rfl

theorem run_float_eqGuard (P : Program) (op : BinOp) (hop : op = .add ∨ op = .sub ∨ op = .mul ∨ op = .quo) (t : TypeId) (x y : Operand) (a b : Value) (w : World) :
    (eqGuard op t x y a b).run P w = .ok () w := by
  rcases hop with rfl | rfl | rfl | rfl <;> simp [eqGuard]

/-- THE WALK's RULE at '+ - * /' of floats -/
theorem wpList_float {P : Program} {ops : Array Oper} {rest : List Oper} {o : Oper} {a : Act} {w : World} {Q : Exit → Act → World → Prop} (hgd : Region.wanted o (yielded ops a.tmps) = true)
    (op : BinOp) (t t' : TypeId) (x y : Operand) (ho : o.op = .binOp op t x y t') (hop : op = .add ∨ op = .sub ∨ op = .mul ∨ op = .quo)
    (k : FloatKind) (X Y : Nat) (hx : a.eval x = .float k X) (hy : a.eval y = .float k Y)
    (h : ∀ r n, FR k r (fop op k (cn k X) (cn k Y)) → wpList P ops Q rest (a.put o.dst (.float k r)) (w.drewN n)) : wpList P ops Q (o :: rest) a w := by
  refine wpList_step fun K hK => ?_
  rw [if_pos hgd]
  obtain ⟨r, n, hrun, hr⟩ := run_float P op hop t k X Y w
  unfold Oper.wp execOp
  simp only [ho, hx, hy, Sem.run_bind, Sem.run_pure, Result.andThen_ok, run_float_eqGuard P op hop, hrun]
  exact hK _ _ (h r n hr)

/-! ## comparisons -/
/-- a comparison of canonical bits -/
def fcmp (op : BinOp) (k : FloatKind) (x y : Nat) : Bool :=
  match op with
  | .eql => k.format.order x y == some .eq
  | .neq => k.format.order x y != some .eq
  | .lss => k.format.order x y == some .lt
  | .leq => k.format.order x y == some .lt || k.format.order x y == some .eq
  | .gtr => k.format.order x y == some .gt
  | .geq => k.format.order x y == some .gt || k.format.order x y == some .eq
  | _ => false
def isCmp (op : BinOp) : Bool :=
  match op with
  | .eql | .neq | .lss | .leq | .gtr | .geq => true
  | _ => false
theorem run_fcmp (P : Program) (op : BinOp) (hop : isCmp op = true) (t : TypeId) (k : FloatKind) (x y : Nat) (w : World) :
    (binOp op t (.float k x) (.float k y)).run P w = .ok (.bool (fcmp op k (cn k x) (cn k y))) w := by
  unfold fcmp
  rw [order_cn]
  cases op <;> simp [isCmp] at hop <;> simp [binOp, Op.floatCmp]
theorem run_fcmp_eqGuard (P : Program) (op : BinOp) (t : TypeId) (x y : Operand) (k : FloatKind) (a b : Nat) (w : World) :
    (eqGuard op t x y (.float k a) (.float k b)).run P w = .ok () w := by
  unfold eqGuard
  split <;> simp
theorem wpList_fcmp {P : Program} {ops : Array Oper} {rest : List Oper} {o : Oper} {a : Act} {w : World} {Q : Exit → Act → World → Prop} (hgd : Region.wanted o (yielded ops a.tmps) = true)
    (op : BinOp) (t t' : TypeId) (x y : Operand) (ho : o.op = .binOp op t x y t') (hop : isCmp op = true)
    (k : FloatKind) (X Y : Nat) (hx : a.eval x = .float k X) (hy : a.eval y = .float k Y)
    (b : Bool) (hb : fcmp op k (cn k X) (cn k Y) = b) (h : wpList P ops Q rest (a.put o.dst (.bool b)) w) : wpList P ops Q (o :: rest) a w := by
  subst hb
  refine wpList_step fun K hK => ?_
  rw [if_pos hgd]
  unfold Oper.wp execOp
  simp only [ho, hx, hy, Sem.run_bind, Sem.run_pure, Result.andThen_ok, run_fcmp_eqGuard, run_fcmp P op hop]
  exact hK _ _ h

/-! ## negation -/
def signBit (k : FloatKind) : Nat := 2 ^ (k.format.exponentBits + k.format.fractionBits)
def fneg (k : FloatKind) (x : Nat) : Nat := if isN k x then qn k else x ^^^ signBit k
theorem xor_mod_two_pow (b n : Nat) : (b ^^^ 2 ^ n) % 2 ^ n = b % 2 ^ n := by
  apply Nat.eq_of_testBit_eq
  intro i
  rw [Nat.testBit_mod_two_pow, Nat.testBit_mod_two_pow]
  by_cases h : i < n
  · simp only [h, decide_true, Bool.true_and, Nat.testBit_xor, Nat.testBit_two_pow]
    have : decide (n = i) = false := by simp; omega
    simp [this]
  · simp [h]
theorem isN_neg (k : FloatKind) (b : Nat) : isN k (Op.negFloat k b) = isN k b := by
  have h : ∀ f : Ieee.Format, f.binade ≤ f.infRung → (f.read (b ^^^ 2 ^ (f.exponentBits + f.fractionBits))).isNaN = (f.read b).isNaN := by
    intro f hf
    rw [read_isNaN f _ hf, read_isNaN f _ hf]
    unfold Ieee.Format.signWeight
    rw [xor_mod_two_pow]
  cases k
  · exact h Ieee.single (by decide)
  · exact h Ieee.double (by decide)
theorem FR_neg (k : FloatKind) (b : Nat) : FR k (Op.negFloat k b) (fneg k (cn k b)) := by
  unfold FR fneg
  rw [isN_cn]
  by_cases h : isN k b = true
  · rw [if_pos h, cn_of (by rw [isN_neg]; exact h)]
  · have h' : isN k b = false := by simpa using h
    rw [if_neg h, cn_of_not (by rw [isN_neg]; exact h'), cn_of_not h']
    rfl
theorem wpList_fneg {P : Program} {ops : Array Oper} {rest : List Oper} {o : Oper} {a : Act} {w : World} {Q : Exit → Act → World → Prop} (hgd : Region.wanted o (yielded ops a.tmps) = true)
    (t : TypeId) (x : Operand) (ho : o.op = .unOp .neg t x) (k : FloatKind) (X : Nat) (hx : a.eval x = .float k X)
    (h : ∀ r, FR k r (fneg k (cn k X)) → wpList P ops Q rest (a.put o.dst (.float k r)) w) : wpList P ops Q (o :: rest) a w := by
  refine wpList_step fun K hK => ?_
  rw [if_pos hgd]
  unfold Oper.wp execOp
  simp only [ho, hx, Op.unary, Sem.run_bind, Sem.run_pure, Result.andThen_ok]
  exact hK _ _ (h _ (FR_neg k X))

/-! ## conversions between the kinds -/
/-- does the narrowing leave the finite numbers? (then the language fixes no value) -/
def ovf (src : FloatKind) (x : Nat) (dst : FloatKind) : Bool :=
  match src.decode x with
  | .number s m e => (dst.decode (dst.encode (.number s m e))).isInfinity
  | _ => false
/-- a conversion of canonical bits -/
def fconv (src : FloatKind) (x : Nat) (dst : FloatKind) : Nat :=
  if src = dst then x else
  match src.decode x with
  | .nan _ _ => qn dst
  | d => dst.encode d
theorem run_fconv (P : Program) (s d : TypeId) (src dst : FloatKind) (hs : (P.underlying s).isSome = true) (hd : P.underlying d = some (.float dst)) (x : Nat) (hov : src ≠ dst → ovf src (cn src x) dst = false) (w : World) :
    ∃ r n, (convert s d (.float src x)).run P w = .ok (.float dst r) (w.drewN n) ∧ FR dst r (fconv src (cn src x) dst) := by
  obtain ⟨u, hs'⟩ := Option.isSome_iff_exists.1 hs
  have hc : (convert s d (.float src x)).run P w = (Conv.floatToFloat src x dst).run P w := by
    cases u <;> simp [convert, run_underlying hs', run_underlying hd]
  rw [hc]
  by_cases he : src = dst
  · subst he
    refine ⟨x, 0, by simp [Conv.floatToFloat, World.drewN_zero], ?_⟩
    unfold FR fconv
    rw [if_pos rfl]
  · by_cases hn : isN src x = true
    · obtain ⟨s', t', e⟩ := isNaN_iff.1 hn
      refine ⟨(Question.nanConv dst x).cut (w.tape w.drawn (.nanConv dst x)), 1, ?_, ?_⟩
      · rw [← World.drew_is_drewN]
        simp [Conv.floatToFloat, he, e, Question.forced]
      · obtain ⟨s2, t2, e2⟩ := isNaN_iff.1 (isN_qn src)
        unfold FR fconv
        rw [if_neg he, cn_of hn, e2, cn_of (isN_choice_conv dst x _)]
    · have hn' : isN src x = false := by simpa using hn
      have hov' := hov he
      rw [cn_of_not hn'] at hov' ⊢
      cases e : src.decode x with
      | nan s' t' => rw [isN, e] at hn'; simp [Ieee.Datum.isNaN] at hn'
      | infinity s' =>
        refine ⟨dst.encode (.infinity s'), 0, by simp [Conv.floatToFloat, he, e, World.drewN_zero], ?_⟩
        unfold FR fconv
        rw [if_neg he, e, cn_of_not]
        exact read_write dst.format (d := .infinity s') rfl
      | number s' m' e' =>
        have ho : (dst.decode (dst.encode (.number s' m' e'))).isInfinity = false := by simpa [ovf, e] using hov'
        refine ⟨dst.encode (.number s' m' e'), 0, by simp [Conv.floatToFloat, he, e, ho, World.drewN_zero], ?_⟩
        unfold FR fconv
        rw [if_neg he, e, cn_of_not]
        exact read_write dst.format (d := .number s' m' e') rfl
theorem wpList_fconv {P : Program} {ops : Array Oper} {rest : List Oper} {o : Oper} {a : Act} {w : World} {Q : Exit → Act → World → Prop} (hgd : Region.wanted o (yielded ops a.tmps) = true)
    (s d : TypeId) (x : Operand) (ho : o.op = .convert s d x) (src dst : FloatKind) (hs : (P.underlying s).isSome = true) (hd : P.underlying d = some (.float dst)) (X : Nat) (hx : a.eval x = .float src X)
    (hov : src ≠ dst → ovf src (cn src X) dst = false)
    (h : ∀ r n, FR dst r (fconv src (cn src X) dst) → wpList P ops Q rest (a.put o.dst (.float dst r)) (w.drewN n)) : wpList P ops Q (o :: rest) a w := by
  refine wpList_step fun K hK => ?_
  rw [if_pos hgd]
  obtain ⟨r, n, hrun, hr⟩ := run_fconv P s d src dst hs hd X hov w
  unfold Oper.wp execOp
  simp only [ho, hx, Sem.run_bind, Sem.run_pure, Result.andThen_ok, hrun]
  exact hK _ _ (h r n hr)
/-- 'float32(x)' of a float32 -/
theorem wpList_fsame {P : Program} {ops : Array Oper} {rest : List Oper} {o : Oper} {a : Act} {w : World} {Q : Exit → Act → World → Prop} (hgd : Region.wanted o (yielded ops a.tmps) = true)
    (s d : TypeId) (x : Operand) (ho : o.op = .convert s d x) (k : FloatKind) (hs : (P.underlying s).isSome = true) (hd : P.underlying d = some (.float k)) (X : Nat) (hx : a.eval x = .float k X)
    (h : wpList P ops Q rest (a.put o.dst (.float k X)) w) : wpList P ops Q (o :: rest) a w := by
  refine wpList_step fun K hK => ?_
  rw [if_pos hgd]
  have hrun := run_convert_float_float (P := P) w s d k k X X hs hd (by simp [floatToFloatBits])
  unfold Oper.wp execOp
  simp only [ho, hx, Sem.run_bind, Sem.run_pure, Result.andThen_ok, hrun]
  exact hK _ _ h

theorem run_store_float (P : Program) (w : World) (a : Addr) (m : Mode) (k : FloatKind) (b : Nat) : (store a (.float k b) m).run P w = stored P w a (.float k b) m := run_store P w a _ m rfl
end Go.Proofs.Ytfehhbmmdbpdpaa
/- Bounds on rounded floats: a number of size at most 2^e is rounded to a number of size at most 2^e. -/
namespace Go.Proofs.Ytfehhbmmdbpdpaa
open Go Ieee

/-- 'm * 2 ^ p ≤ 2 ^ e' -/
def mle (m : Nat) (p e : Int) : Prop := m = 0 ∨ (p ≤ e ∧ m ≤ 2 ^ (e - p).toNat)

theorem mle.mono {m : Nat} {p e e' : Int} (h : mle m p e) (he : e ≤ e') : mle m p e' := by
  rcases h with h | ⟨h1, h2⟩
  · exact .inl h
  · exact .inr ⟨by omega, Nat.le_trans h2 (Nat.pow_le_pow_right (by decide) (by omega))⟩

theorem pow_split {a b c : Int} (h1 : b ≤ a) (h2 : c ≤ b) : (2 : Nat) ^ (a - c).toNat = 2 ^ (a - b).toNat * 2 ^ (b - c).toNat := by
  rw [← Nat.pow_add]; congr 1; omega

theorem cut_even_le {s : Bool} {n drop g : Nat} (h : n ≤ g * 2 ^ drop) : Toward.even.cut s n drop ≤ g := by
  unfold Toward.cut
  dsimp only
  have hgap : (1 <<< min drop (n.log2 + 2)) = 2 ^ min drop (n.log2 + 2) := by rw [Nat.shiftLeft_eq]; omega
  rw [hgap]
  by_cases hd : drop ≤ n.log2 + 2
  · rw [Nat.min_eq_left hd]
    have hp : 0 < 2 ^ drop := Nat.two_pow_pos _
    have hq : n / 2 ^ drop ≤ g := Nat.div_le_of_le_mul (by rw [Nat.mul_comm]; exact h)
    rcases Nat.lt_or_ge (n / 2 ^ drop) g with hlt | hge
    · have : ∀ b : Bool, b.toNat ≤ 1 := fun b => by cases b <;> decide
      have := this (decide (2 ^ drop < 2 * (n % 2 ^ drop)) || (2 ^ drop == 2 * (n % 2 ^ drop) && n / 2 ^ drop % 2 == 1))
      omega
    · have he : n / 2 ^ drop = g := by omega
      have hr : n % 2 ^ drop = 0 := by
        have := Nat.div_add_mod n (2 ^ drop)
        rw [he, Nat.mul_comm] at this
        omega
      rw [hr, he]
      have h1 : decide (2 ^ drop < 2 * 0) = false := by simp
      have h2 : (2 ^ drop == 2 * 0) = false := by simp
      simp only [h1, h2, Bool.false_and, Bool.or_false, Bool.toNat_false]
      omega
  · rw [Nat.min_eq_right (by omega)]
    by_cases hn : n = 0
    · subst hn; simp
    · have hlt : n < 2 ^ (n.log2 + 1) := Nat.lt_log2_self
      have h4 : 2 ^ (n.log2 + 2) = 2 * 2 ^ (n.log2 + 1) := by rw [Nat.pow_succ]; omega
      have hz : n / 2 ^ (n.log2 + 2) = 0 := Nat.div_eq_of_lt (by omega)
      have hm : n % 2 ^ (n.log2 + 2) = n := Nat.mod_eq_of_lt (by omega)
      have h1 : decide (2 ^ (n.log2 + 2) < 2 * n) = false := by simp; omega
      have h2 : (2 ^ (n.log2 + 2) == 2 * n) = false := by rw [beq_eq_false_iff_ne]; omega
      rw [hz, hm, h1, h2]
      simp

/-- the words that Ieee reads back as numbers -/
theorem read_word (f : Format) (s : Bool) (q kept : Nat) (hk : kept ≤ 2 * f.binade) (hq : kept < f.binade → q = 0) (hr : q * f.binade + kept < f.infRung) :
    ∃ m' p', f.read (f.word s (q * f.binade + kept)) = .number s m' p' ∧ ((kept < 2 * f.binade ∧ m' = kept ∧ p' = f.leastPlace + q) ∨ (kept = 2 * f.binade ∧ m' = f.binade ∧ p' = f.leastPlace + q + 1)) := by
  have hb : 0 < f.binade := Nat.two_pow_pos _
  have hlt := f.infRung_lt
  have hs : 0 < f.signWeight := by unfold Format.signWeight; exact Nat.two_pow_pos _
  have hm : f.word s (q * f.binade + kept) % f.signWeight = q * f.binade + kept := by
    unfold Format.word
    split
    · rw [Nat.add_mod_left]; exact Nat.mod_eq_of_lt (by omega)
    · exact Nat.mod_eq_of_lt (by omega)
  have hn : (f.word s (q * f.binade + kept) / f.signWeight % 2 == 1) = s := by
    unfold Format.word
    split
    · rename_i h
      rw [Nat.add_div_left _ hs, Nat.div_eq_of_lt (by omega)]; simp [h]
    · rename_i h
      rw [Nat.div_eq_of_lt (by omega)]; simpa using h
  unfold Format.read
  simp only [hm, hn]
  by_cases h1 : kept < f.binade
  · have h0 := hq h1
    subst h0
    refine ⟨kept, f.leastPlace, ?_, .inl ⟨by omega, rfl, by simp⟩⟩
    rw [if_pos (by simpa using h1)]; simp
  · rw [if_neg (by
      have : 0 ≤ q * f.binade := Nat.zero_le _
      omega), if_pos hr]
    rcases Nat.lt_or_ge kept (2 * f.binade) with h2 | h2
    · have hdiv : (q * f.binade + kept) / f.binade = q + 1 := by
        rw [Nat.add_comm, Nat.add_mul_div_right _ _ hb]
        have : kept / f.binade = 1 := by
          rw [Nat.div_eq_iff hb]; omega
        omega
      have hmod : (q * f.binade + kept) % f.binade = kept - f.binade := by
        rw [Nat.add_comm, Nat.add_mul_mod_self_right, Nat.mod_eq_sub_mod (by omega), Nat.mod_eq_of_lt (by omega)]
      refine ⟨kept, f.leastPlace + q, ?_, .inl ⟨h2, rfl, rfl⟩⟩
      rw [hdiv, hmod]
      congr 1
      omega
    · have he : kept = 2 * f.binade := by omega
      subst he
      have hdiv : (q * f.binade + 2 * f.binade) / f.binade = q + 2 := by
        rw [← Nat.add_mul, Nat.mul_div_cancel _ hb]
      have hmod : (q * f.binade + 2 * f.binade) % f.binade = 0 := by
        rw [← Nat.add_mul, Nat.mul_mod_left]
      refine ⟨f.binade, f.leastPlace + q + 1, ?_, .inr ⟨rfl, rfl, rfl⟩⟩
      rw [hdiv, hmod]
      simp only [Nat.add_zero]
      congr 1
      omega

/-- the greatest place of a finite number's power -/
def Format.topPlace (f : Format) : Int := f.leastPlace + (2 ^ f.exponentBits - 3 : Nat) + f.fractionBits

theorem log2_le {m g : Nat} (h : m ≤ 2 ^ g) : m.log2 ≤ g := by
  by_cases hm : m = 0
  · subst hm; simp
  · by_cases hc : m.log2 ≤ g
    · exact hc
    · have h1 : 2 ^ (g + 1) ≤ 2 ^ m.log2 := Nat.pow_le_pow_right (by decide) (by omega)
      have h2 := Nat.log2_self_le hm
      have h3 : 2 ^ (g + 1) = 2 * 2 ^ g := by rw [Nat.pow_succ]; omega
      have h4 : 0 < 2 ^ g := Nat.two_pow_pos _
      omega

theorem nearest_mle (f : Format) (hf : 3 ≤ 2 ^ f.exponentBits) (s : Bool) (m : Nat) (p e : Int) (h : mle m p e) (hlo : f.leastPlace ≤ e) (hhi : e ≤ Format.topPlace f) :
    ∃ m' p', f.read (f.nearest s m p) = .number s m' p' ∧ mle m' p' e := by
  have hb : 0 < f.binade := Nat.two_pow_pos _
  have hinf : 3 * f.binade ≤ f.infRung + f.binade := by
    unfold Format.infRung
    rw [← Nat.succ_mul]
    exact Nat.mul_le_mul_right _ (by omega)
  unfold Format.nearest
  by_cases hm : m = 0
  · rw [if_pos hm]
    obtain ⟨m', p', hr, hc⟩ := read_word f s 0 0 (by omega) (fun _ => rfl) (by omega)
    rw [Nat.zero_mul, Nat.zero_add] at hr
    refine ⟨m', p', hr, .inl ?_⟩
    rcases hc with ⟨_, h, _⟩ | ⟨h, _⟩
    · exact h
    · omega
  · rw [if_neg hm]
    dsimp only
    rcases h with h | ⟨hpe, hme⟩
    · exact absurd h hm
    · have hlog : m.log2 ≤ (e - p).toNat := log2_le hme
      generalize hlast : max (p + (m.log2 : Int) - (f.fractionBits : Int)) f.leastPlace = last
      have hl1 : f.leastPlace ≤ last := by omega
      have hl2 : last ≤ e := by omega
      have hl3 : p + (m.log2 : Int) - (f.fractionBits : Int) ≤ last := by omega
      -- what is kept is at most 2^(e - last)
      have hkept : Toward.even.cut s (m <<< (p - last).toNat) (last - p).toNat ≤ 2 ^ (e - last).toNat := by
        refine cut_even_le ?_
        rw [Nat.shiftLeft_eq]
        rcases Int.le_total p last with hc | hc
        · rw [show (p - last).toNat = 0 by omega, Nat.pow_zero, Nat.mul_one, ← pow_split hl2 hc]
          exact hme
        · rw [show (last - p).toNat = 0 by omega, Nat.pow_zero, Nat.mul_one, pow_split hpe hc]
          exact Nat.mul_le_mul_right _ hme
      -- and at most two binades
      have hkept2 : Toward.even.cut s (m <<< (p - last).toNat) (last - p).toNat ≤ 2 * f.binade := by
        refine cut_even_le ?_
        rw [Nat.shiftLeft_eq]
        have hml : m < 2 ^ (m.log2 + 1) := Nat.lt_log2_self
        have hb2 : 2 * f.binade = 2 ^ (f.fractionBits + 1) := by unfold Format.binade; rw [Nat.pow_succ]; omega
        rw [hb2]
        rcases Int.le_total p last with hc | hc
        · rw [show (p - last).toNat = 0 by omega, Nat.pow_zero, Nat.mul_one, ← Nat.pow_add]
          exact Nat.le_trans (Nat.le_of_lt hml) (Nat.pow_le_pow_right (by decide) (by omega))
        · rw [show (last - p).toNat = 0 by omega, Nat.pow_zero, Nat.mul_one]
          have : m * 2 ^ (p - last).toNat ≤ 2 ^ (m.log2 + 1) * 2 ^ (p - last).toNat := Nat.mul_le_mul_right _ (Nat.le_of_lt hml)
          rw [← Nat.pow_add] at this
          exact Nat.le_trans this (Nat.pow_le_pow_right (by decide) (by omega))
      -- a number below one binade has the least place
      have hlow : Toward.even.cut s (m <<< (p - last).toNat) (last - p).toNat < f.binade → (last - f.leastPlace).toNat = 0 := by
        intro hk
        rcases Int.lt_or_le f.leastPlace last with hc | hc
        · exfalso
          have hle : last = p + (m.log2 : Int) - (f.fractionBits : Int) := by omega
          have hml := Nat.log2_self_le hm
          -- m / 2^(last-p) is at least 2^fractionBits
          have hge : f.binade ≤ (m <<< (p - last).toNat) / 2 ^ (last - p).toNat := by
            rw [Nat.le_div_iff_mul_le (Nat.two_pow_pos _), Nat.shiftLeft_eq]
            unfold Format.binade
            rw [← Nat.pow_add]
            have : 2 ^ m.log2 * 2 ^ (p - last).toNat ≤ m * 2 ^ (p - last).toNat := Nat.mul_le_mul_right _ hml
            rw [← Nat.pow_add] at this
            exact Nat.le_trans (Nat.pow_le_pow_right (by decide) (by omega)) this
          have hcut : (m <<< (p - last).toNat) / 2 ^ (last - p).toNat ≤ Toward.even.cut s (m <<< (p - last).toNat) (last - p).toNat := by
            unfold Toward.cut
            dsimp only
            rw [Nat.shiftLeft_eq 1, Nat.one_mul]
            refine Nat.le_trans ?_ (Nat.le_add_right _ _)
            refine Nat.div_le_div_left (Nat.pow_le_pow_right (by decide) (Nat.min_le_left _ _)) (Nat.two_pow_pos _)
          omega
        · omega
      generalize hk : Toward.even.cut s (m <<< (p - last).toNat) (last - p).toNat = kept at *
      generalize hq : (last - f.leastPlace).toNat = q at *
      have hqi : (q : Int) = last - f.leastPlace := by omega
      -- no overflow
      have hover : q * f.binade + kept < f.infRung := by
        -- kept * 2^last ≤ 2^e ≤ 2^top
        unfold Format.topPlace at hhi
        have hE : f.infRung = (2 ^ f.exponentBits - 1) * f.binade := rfl
        generalize 2 ^ f.exponentBits = E at *
        rcases Int.lt_or_le (last + f.fractionBits) (f.leastPlace + (E - 3 : Nat) + f.fractionBits + 1) with hc | hc
        · have hq3 : q ≤ E - 3 := by omega
          rcases Nat.lt_or_ge q (E - 3) with hq4 | hq4
          · have : (q + 2) * f.binade + 1 ≤ (E - 1) * f.binade := by
              have h1 : (q + 3) * f.binade ≤ (E - 1) * f.binade := Nat.mul_le_mul_right _ (by omega)
              rw [Nat.add_mul] at h1 ⊢
              omega
            rw [hE]
            rw [Nat.add_mul] at this
            omega
          · have hq5 : q = E - 3 := by omega
            have hk1 : kept ≤ f.binade := by
              unfold Format.binade
              exact Nat.le_trans hkept (Nat.pow_le_pow_right (by decide) (by omega))
            have h1 : (q + 2) * f.binade ≤ (E - 1) * f.binade := Nat.mul_le_mul_right _ (by omega)
            rw [Nat.add_mul] at h1
            rw [hE]
            omega
        · omega
      rw [Nat.min_eq_left (Nat.le_of_lt hover)]
      obtain ⟨m', p', hr, hc⟩ := read_word f s q kept hkept2 hlow hover
      refine ⟨m', p', hr, .inr ?_⟩
      rcases hc with ⟨_, rfl, rfl⟩ | ⟨hkk, rfl, rfl⟩
      · refine ⟨by omega, ?_⟩
        rw [show e - (f.leastPlace + (q : Int)) = e - last by omega]
        exact hkept
      · rcases Int.lt_or_le last e with hle | hle
        · refine ⟨by omega, ?_⟩
          have h1 : (2 : Nat) ^ (e - last).toNat = 2 * 2 ^ (e - (f.leastPlace + (q : Int) + 1)).toNat := by
            rw [show (e - last).toNat = (e - (f.leastPlace + (q : Int) + 1)).toNat + 1 by omega, Nat.pow_succ]; omega
          omega
        · exfalso
          have h1 : (2 : Nat) ^ (e - last).toNat = 1 := by rw [show (e - last).toNat = 0 by omega]
          omega

/-- what a word stands for is below 2^(top + 1) -/
theorem read_mle (f : Format) (w : Nat) {s : Bool} {m : Nat} {p : Int} (h : f.read w = .number s m p) : f.leastPlace ≤ p ∧ m < 2 * f.binade ∧ mle m p (Format.topPlace f + 1) := by
  have hb : 0 < f.binade := Nat.two_pow_pos _
  have hs : 0 < f.signWeight := by unfold Format.signWeight; exact Nat.two_pow_pos _
  have hb2 : 2 * f.binade = 2 ^ (f.fractionBits + 1) := by unfold Format.binade; rw [Nat.pow_succ]; omega
  have hE : f.infRung = (2 ^ f.exponentBits - 1) * f.binade := rfl
  unfold Format.read at h
  dsimp only at h
  generalize w % f.signWeight = rung at h
  by_cases h1 : rung < f.binade
  · rw [if_pos h1] at h
    injection h with _ h3 h4
    subst h3; subst h4
    refine ⟨Int.le_refl _, by omega, .inr ⟨by unfold Format.topPlace; omega, ?_⟩⟩
    have h5 : rung ≤ 2 ^ (f.fractionBits + 1) := by omega
    exact Nat.le_trans h5 (Nat.pow_le_pow_right (by decide) (by unfold Format.topPlace; omega))
  · rw [if_neg h1] at h
    by_cases h2 : rung < f.infRung
    · rw [if_pos h2] at h
      injection h with _ h3 h4
      have hmod : rung % f.binade < f.binade := Nat.mod_lt _ hb
      have hq1 : 1 ≤ rung / f.binade := by rw [Nat.le_div_iff_mul_le hb]; omega
      have hq2 : rung / f.binade < 2 ^ f.exponentBits - 1 := by rw [Nat.div_lt_iff_lt_mul hb, ← hE]; exact h2
      have hp : p = f.leastPlace + ((rung / f.binade - 1 : Nat) : Int) := h4.symm
      refine ⟨by omega, by omega, .inr ⟨by unfold Format.topPlace; omega, ?_⟩⟩
      have h5 : m ≤ 2 ^ (f.fractionBits + 1) := by omega
      exact Nat.le_trans h5 (Nat.pow_le_pow_right (by decide) (by unfold Format.topPlace; omega))
    · rw [if_neg h2] at h
      split at h <;> cases h

theorem ovf_widen (x : Nat) : ovf .f32 x .f64 = false := by
  unfold ovf
  cases e : FloatKind.f32.decode x with
  | number s m p =>
    obtain ⟨_, _, h3⟩ := read_mle single x e
    obtain ⟨m', p', hr, _⟩ := nearest_mle double (by decide) s m p _ h3 (by decide) (by decide)
    have : FloatKind.f64.decode (FloatKind.f64.encode (.number s m p)) = .number s m' p' := hr
    simp only [this]; rfl
  | infinity s => rfl
  | nan s t => rfl

/-- narrowing what is not above 2^127 -/
theorem ovf_narrow (x : Nat) (h : ∀ s m p, FloatKind.f64.decode x = .number s m p → mle m p 127) : ovf .f64 x .f32 = false := by
  unfold ovf
  cases e : FloatKind.f64.decode x with
  | number s m p =>
    obtain ⟨m', p', hr, _⟩ := nearest_mle single (by decide) s m p 127 (h s m p e) (by decide) (by decide)
    have : FloatKind.f32.decode (FloatKind.f32.encode (.number s m p)) = .number s m' p' := hr
    simp only [this]; rfl
  | infinity s => rfl
  | nan s t => rfl

/-! ## a number and itself -/
theorem order_self (k : FloatKind) (x : Nat) (h : isN k x = false) : k.format.order x x = some .eq := by
  unfold Format.order
  cases e : k.format.read x with
  | number s m p =>
    simp only [Datum.order]
    congr 1
    simp [compare, compareOfLessAndEq]
  | infinity s =>
    simp only [Datum.order]
    congr 1
    cases s <;> decide
  | nan s t =>
    have : isN k x = true := isNaN_iff.2 ⟨s, t, e⟩
    rw [h] at this; cases this
theorem order_nan (k : FloatKind) (x y : Nat) (h : isN k x = true) : k.format.order x y = none := by
  obtain ⟨s, t, e⟩ := isNaN_iff.1 h
  have e' : k.format.read x = .nan s t := e
  simp [Format.order, e', Datum.order]
theorem fcmp_neq_self (k : FloatKind) (x : Nat) : fcmp .neq k x x = isN k x := by
  unfold fcmp
  cases h : isN k x
  · simp [order_self k x h]
  · simp [order_nan k x x h]
theorem fcmp_eql_self (k : FloatKind) (x : Nat) : fcmp .eql k x x = !isN k x := by
  unfold fcmp
  cases h : isN k x
  · simp [order_self k x h]
  · simp [order_nan k x x h]
end Go.Proofs.Ytfehhbmmdbpdpaa
/- Memory: vectors of three floats in cells, slices of them, what a call leaves. -/
namespace Go.Proofs.Ytfehhbmmdbpdpaa
open Go Go.RowKit
set_option linter.unusedVariables false

/-- three canonical numbers -/
abbrev V3 := Nat × Nat × Nat
def cv (x y z : Nat) : V3 := (cn .f32 x, cn .f32 y, cn .f32 z)

/-- at block b, from o on, lie three floats that are c -/
def VAt (w : World) (b o : Nat) (c : V3) : Prop :=
  ∃ x y z, w.cell? ⟨b, o, none⟩ = some (.float .f32 x) ∧ w.cell? ⟨b, o + 1, none⟩ = some (.float .f32 y) ∧ w.cell? ⟨b, o + 2, none⟩ = some (.float .f32 z) ∧ cv x y z = c

/-- a slice's cells are vectors -/
def VS (w : World) (A : Option Addr) (cs : List V3) : Prop :=
  0 < cs.length → ∃ b o, A = some ⟨b, o, none⟩ ∧ b < w.heap.size ∧ ∀ i, i < cs.length → VAt w b (o + i * 3) (cs.getD i (0, 0, 0))

/-- .. and they may be written, and lie in blocks from B on -/
def VO (w : World) (B : Nat) (A : Option Addr) (cs : List V3) : Prop :=
  0 < cs.length → ∃ b o, A = some ⟨b, o, none⟩ ∧ B ≤ b ∧ b < w.heap.size ∧ (∀ j, w.frozen? ⟨b, j, none⟩ = false) ∧ ∀ i, i < cs.length → VAt w b (o + i * 3) (cs.getD i (0, 0, 0))

abbrev Ext (w w' : World) : Prop := Below w.heap.size w w'
theorem Ext.trans {a b c : World} (h : Ext a b) (k : Ext b c) : Ext a c := Below.trans h (k.mono h.size)
theorem Ext.rfl' (w : World) : Ext w w := Below.refl _ _
theorem Ext.drewN {a b : World} (h : Ext a b) (n : Nat) : Ext a (b.drewN n) := below_drewN h n

theorem Ext.setCell_at {a b : World} (h : Ext a b) (g o : Nat) (u : Value) (hg : a.heap.size ≤ g) : Ext a (b.setCell ⟨g, o, none⟩ u) := Below.setCell h (p := ⟨g, o, none⟩) hg u
theorem Ext.drew' {a b : World} (h : Ext a b) : Ext a b.drew := Below.drew h
theorem Ext.alloc' {a b : World} (h : Ext a b) (o : Obj) : Ext a (b.alloc o) := Below.alloc h h.size o
theorem bcell {W w1 : World} (hb : Ext W w1) : (∀ b o, b < W.heap.size → w1.cell? ⟨b, o, none⟩ = W.cell? ⟨b, o, none⟩) ∧ (∀ b o, b < W.heap.size → w1.frozen? ⟨b, o, none⟩ = W.frozen? ⟨b, o, none⟩) :=
  ⟨fun b o h => hb.cell (p := ⟨b, o, none⟩) h, fun b o h => hb.frozen (p := ⟨b, o, none⟩) h⟩
theorem VAt.ext {w w' : World} {b o : Nat} {c : V3} (h : VAt w b o c) (hb : b < w.heap.size) (he : Ext w w') : VAt w' b o c := by
  obtain ⟨x, y, z, h1, h2, h3, h4⟩ := h
  exact ⟨x, y, z, (he.cell (p := ⟨b, o, none⟩) hb).trans h1, (he.cell (p := ⟨b, o + 1, none⟩) hb).trans h2, (he.cell (p := ⟨b, o + 2, none⟩) hb).trans h3, h4⟩
theorem VS.ext {w w' : World} {A : Option Addr} {cs : List V3} (h : VS w A cs) (he : Ext w w') : VS w' A cs := fun hp => by
  obtain ⟨b, o, hA, hb, hc⟩ := h hp
  exact ⟨b, o, hA, Nat.lt_of_lt_of_le hb he.size, fun i hi => (hc i hi).ext hb he⟩
theorem VO.ext {w w' : World} {B : Nat} {A : Option Addr} {cs : List V3} (h : VO w B A cs) (he : Ext w w') : VO w' B A cs := fun hp => by
  obtain ⟨b, o, hA, hB, hb, hf, hc⟩ := h hp
  exact ⟨b, o, hA, hB, Nat.lt_of_lt_of_le hb he.size, fun j => (he.frozen (p := ⟨b, j, none⟩) hb).trans (hf j), fun i hi => (hc i hi).ext hb he⟩
theorem VO.vs {w : World} {B : Nat} {A : Option Addr} {cs : List V3} (h : VO w B A cs) : VS w A cs := fun hp => by
  obtain ⟨b, o, hA, _, hb, _, hc⟩ := h hp
  exact ⟨b, o, hA, hb, hc⟩
theorem VS.drewN {w : World} {A : Option Addr} {cs : List V3} (h : VS w A cs) (n : Nat) : VS (w.drewN n) A cs := h
theorem VS.nil (w : World) (A : Option Addr) : VS w A [] := fun h => absurd h (Nat.lt_irrefl 0)

theorem run_make_rowN {P : Program} (t e : TypeId) (i : TypeInfo) (z : Value) (ht : P.underlying t = some (.slice e)) (hi : P.info? e = some i) (hz : i.zero = some z)
    (kl kc : IntKind) (n c : Nat) (hnc : n ≤ c) (hbytes : i.bytes * c ≤ 281474976710656) (h63 : c ≤ 9223372036854775807) (w : World) :
    (Instr.makeSlice t (.int kl (n : Int)) (.int kc (c : Int))).run P w = .ok (.slice (some ⟨w.heap.size, 0, none⟩) n c) (w.alloc (.cells (madeCells z.cells (c * i.size)) e)) := by
  have hb : (i.bytes : Int) * (c : Int) ≤ 281474976710656 := by
    have h : ((i.bytes * c : Nat) : Int) ≤ 281474976710656 := by omega
    rwa [Int.natCast_mul] at h
  have hr := run_make (P := P) w t e i z ht hi hz kl kc n c (by omega) (by omega) hb (by omega)
  simp only [Int.toNat_natCast] at hr
  exact hr

/-- 'make([]T, n)' with T three floats -/
theorem run_make_v3 {P : Program} (t e : TypeId) (ht : P.underlying t = some (.slice e)) (hi : (P.info? e).map (fun i => (i.zero, i.size, i.bytes)) = some (some (.agg #[.float .f32 0, .float .f32 0, .float .f32 0]), 3, 12))
    (n : Nat) (hn : n ≤ 1048576) (w : World) :
    (Instr.makeSlice t (.int .i64 (n : Int)) (.int .i64 (n : Int))).run P w = .ok (.slice (some ⟨w.heap.size, 0, none⟩) n n) (w.alloc (.cells (madeCells #[.float .f32 0, .float .f32 0, .float .f32 0] (n * 3)) e)) := by
  obtain ⟨i, h1, h2, h3, h4⟩ := info_parts hi
  have := run_make_rowN (P := P) t e i _ ht h1 h2 .i64 .i64 n n (Nat.le_refl _) (by rw [h4]; omega) (by omega) w
  rw [h3] at this
  exact this

theorem ret_bool {a b : Bool} (h : a = b) : Ending.returned (.bool a) = .returned (.bool b) := by rw [h]
theorem ret_int {k : IntKind} {a b : Int} (h : a = b) : Ending.returned (.int k a) = .returned (.int k b) := by rw [h]

/-! ## a block known whole -/
def Blk (w : World) (g : Nat) (t : TypeId) (cs : Array Value) : Prop := w.heap[g]? = some (.cells cs t (0, 0))
section
variable {w w' : World} {g : Nat} {t : TypeId} {cs : Array Value}
theorem Blk.lt (h : Blk w g t cs) : g < w.heap.size := by
  rcases Nat.lt_or_ge g w.heap.size with hlt | hge
  · exact hlt
  · unfold Blk at h; rw [Array.getElem?_eq_none hge] at h; cases h
theorem Blk.cell (h : Blk w g t cs) (i : Nat) : w.cell? ⟨g, i, none⟩ = cs[i]? := cell_of_row w g i cs t (0, 0) h
theorem Blk.frozen (h : Blk w g t cs) (i : Nat) : w.frozen? ⟨g, i, none⟩ = false := by
  unfold Blk at h
  simp [World.frozen?, h]
theorem Blk.new (w : World) (t : TypeId) (cs : Array Value) : Blk (w.alloc (.cells cs t)) w.heap.size t cs := heap_alloc_new w _
theorem Blk.set_ (h : Blk w g t cs) (i : Nat) (u : Value) : Blk (w.setCell ⟨g, i, none⟩ u) g t (cs.setIfInBounds i u) := by
  unfold Blk at h ⊢
  simp [World.setCell, Array.getElem?_modify, h]
theorem Blk.ext (h : Blk w g t cs) (hb : Ext w w') : Blk w' g t cs := (hb.block g h.lt).trans h
end

/-- three cells of a block, and that they may be written: for the walk -/
theorem Blk.three {w : World} {g : Nat} {t : TypeId} {arr : Array Value} (h : Blk w g t arr) {n k : Nat} (hs : arr.size = n * 3) (hk : k < n) :
    ∃ v0 v1 v2, w.cell? ⟨g, k * 3, none⟩ = some v0 ∧ w.cell? ⟨g, k * 3 + 1, none⟩ = some v1 ∧ w.cell? ⟨g, k * 3 + 2, none⟩ = some v2 ∧
      w.frozen? ⟨g, k * 3, none⟩ = false ∧ w.frozen? ⟨g, k * 3 + 1, none⟩ = false ∧ w.frozen? ⟨g, k * 3 + 2, none⟩ = false := by
  refine ⟨arr[k * 3]'(by omega), arr[k * 3 + 1]'(by omega), arr[k * 3 + 2]'(by omega), ?_, ?_, ?_, h.frozen _, h.frozen _, h.frozen _⟩
  · rw [h.cell]; exact Array.getElem?_eq_getElem _
  · rw [h.cell]; exact Array.getElem?_eq_getElem _
  · rw [h.cell]; exact Array.getElem?_eq_getElem _
theorem Blk.set3 {w : World} {g : Nat} {t : TypeId} {arr : Array Value} (h : Blk w g t arr) (i : Nat) (x y z : Value) :
    Blk (((w.setCell ⟨g, i, none⟩ x).setCell ⟨g, i + 1, none⟩ y).setCell ⟨g, i + 2, none⟩ z) g t (((arr.setIfInBounds i x).setIfInBounds (i + 1) y).setIfInBounds (i + 2) z) :=
  ((h.set_ i x).set_ (i + 1) y).set_ (i + 2) z
/-- in an array of cells the i-th vector is c -/
def AVec (arr : Array Value) (i : Nat) (c : V3) : Prop :=
  ∃ x y z, arr[i * 3]? = some (.float .f32 x) ∧ arr[i * 3 + 1]? = some (.float .f32 y) ∧ arr[i * 3 + 2]? = some (.float .f32 z) ∧ cv x y z = c

theorem AVec.set_here {arr : Array Value} {k n : Nat} (hs : arr.size = n * 3) (hk : k < n) (x y z : Nat) :
    AVec (((arr.setIfInBounds (k * 3) (.float .f32 x)).setIfInBounds (k * 3 + 1) (.float .f32 y)).setIfInBounds (k * 3 + 2) (.float .f32 z)) k (cv x y z) := by
  refine ⟨x, y, z, ?_, ?_, ?_, rfl⟩ <;> simp [Array.getElem?_setIfInBounds] <;> omega
theorem AVec.set_far {arr : Array Value} {k i : Nat} {c : V3} (h : AVec arr i c) (hne : i ≠ k) (x y z : Value) :
    AVec (((arr.setIfInBounds (k * 3) x).setIfInBounds (k * 3 + 1) y).setIfInBounds (k * 3 + 2) z) i c := by
  obtain ⟨a, b, d, h1, h2, h3, h4⟩ := h
  refine ⟨a, b, d, ?_, ?_, ?_, h4⟩
  · rw [Array.getElem?_setIfInBounds_ne (by omega), Array.getElem?_setIfInBounds_ne (by omega), Array.getElem?_setIfInBounds_ne (by omega)]; exact h1
  · rw [Array.getElem?_setIfInBounds_ne (by omega), Array.getElem?_setIfInBounds_ne (by omega), Array.getElem?_setIfInBounds_ne (by omega)]; exact h2
  · rw [Array.getElem?_setIfInBounds_ne (by omega), Array.getElem?_setIfInBounds_ne (by omega), Array.getElem?_setIfInBounds_ne (by omega)]; exact h3
theorem Blk.vo {w : World} {g : Nat} {t : TypeId} {arr : Array Value} {cs : List V3} {B : Nat} (h : Blk w g t arr) (hB : B ≤ g) (hv : ∀ i, i < cs.length → AVec arr i (cs.getD i (0, 0, 0))) : VO w B (some ⟨g, 0, none⟩) cs := fun _ => by
  refine ⟨g, 0, rfl, hB, h.lt, fun j => h.frozen j, fun i hi => ?_⟩
  obtain ⟨x, y, z, h1, h2, h3, h4⟩ := hv i hi
  refine ⟨x, y, z, ?_, ?_, ?_, h4⟩
  · rw [h.cell, Nat.zero_add]; exact h1
  · rw [h.cell, Nat.zero_add]; exact h2
  · rw [h.cell, Nat.zero_add]; exact h3
theorem made_some {z : Array Value} {n i : Nat} (h : i < n) : ∃ v, (madeCells z n)[i]? = some v := ⟨(madeCells z n)[i]'(by rw [size_madeCells]; exact h), Array.getElem?_eq_getElem _⟩

theorem VO.mono {w : World} {B B' : Nat} {A : Option Addr} {cs : List V3} (h : VO w B A cs) (hB : B' ≤ B) : VO w B' A cs := fun hp => by
  obtain ⟨b, o, hA, hb, r⟩ := h hp
  exact ⟨b, o, hA, Nat.le_trans hB hb, r⟩

/-! ## marks: the numbers that a law writes into a slice -/
def mark (m : Int) : Value := .float .f32 (floatOfInt .f32 m)
/-- three cells an element hold k, k + 1, .. -/
def Marked (w : World) (A : Option Addr) (n : Nat) (k : Int) : Prop :=
  0 < n → ∃ b o, A = some ⟨b, o, none⟩ ∧ b < w.heap.size ∧ ∀ j, j < n * 3 → w.cell? ⟨b, o + j, none⟩ = some (mark (k + j))
theorem Marked.ext {w w' : World} {A : Option Addr} {n : Nat} {k : Int} (h : Marked w A n k) (he : Ext w w') : Marked w' A n k := fun hp => by
  obtain ⟨b, o, hA, hb, hc⟩ := h hp
  exact ⟨b, o, hA, Nat.lt_of_lt_of_le hb he.size, fun j hj => (he.cell (p := ⟨b, o + j, none⟩) hb).trans (hc j hj)⟩

/-- the first m cells of n are marked, all may be written -/
structure Marking (w : World) (b o n m : Nat) (k : Int) : Prop where
  done : ∀ j, j < m → w.cell? ⟨b, o + j, none⟩ = some (mark (k + j))
  all : ∀ j, j < n → ∃ v, w.cell? ⟨b, o + j, none⟩ = some v
  free : ∀ j, w.frozen? ⟨b, j, none⟩ = false
theorem VO.marking {w : World} {b o : Nat} {cs : List V3} (hf : ∀ j, w.frozen? ⟨b, j, none⟩ = false) (hc : ∀ i, i < cs.length → VAt w b (o + i * 3) (cs.getD i (0, 0, 0))) (k : Int) : Marking w b o (cs.length * 3) 0 k := by
  refine ⟨fun j hj => absurd hj (Nat.not_lt_zero j), fun j hj => ?_, hf⟩
  obtain ⟨x, y, z, h0, h1, h2, _⟩ := hc (j / 3) (by omega)
  have hj3 : j % 3 < 3 := Nat.mod_lt _ (by decide)
  have hd := Nat.div_add_mod j 3
  rcases (by omega : j % 3 = 0 ∨ j % 3 = 1 ∨ j % 3 = 2) with e | e | e
  · exact ⟨_, by rw [show o + j = o + j / 3 * 3 by omega]; exact h0⟩
  · exact ⟨_, by rw [show o + j = o + j / 3 * 3 + 1 by omega]; exact h1⟩
  · exact ⟨_, by rw [show o + j = o + j / 3 * 3 + 2 by omega]; exact h2⟩
theorem frozen_setCell (w : World) (a p : Addr) (v : Value) : (w.setCell a v).frozen? p = w.frozen? p := by simp [go_sem]
theorem Marking.step {w : World} {b o n m : Nat} {k : Int} (h : Marking w b o n m k) (hm : m < n) : Marking (w.setCell ⟨b, o + m, none⟩ (mark (k + m))) b o n (m + 1) k := by
  refine ⟨fun j hj => ?_, fun j hj => ?_, fun j => by rw [frozen_setCell]; exact h.free j⟩
  · by_cases e : j = m
    · subst e
      obtain ⟨v, hv⟩ := h.all j hm
      exact World.cell?_setCell_same w _ _ hv
    · rw [World.cell?_setCell_other w _ _ _ (by simp only [ne_eq, Addr.mk.injEq, not_and]; omega)]
      exact h.done j (by omega)
  · by_cases e : j = m
    · subst e
      obtain ⟨v, hv⟩ := h.all j hm
      exact ⟨_, World.cell?_setCell_same w _ _ hv⟩
    · rw [World.cell?_setCell_other w _ _ _ (by simp only [ne_eq, Addr.mk.injEq, not_and]; omega)]
      exact h.all j hj

/-- only block g, and what is new, has turned -/
theorem only_setCell {a w : World} {g : Nat} (h : a.grownBy w (some g)) {p : Addr} (hp : p.block = g) (u : Value) : a.grownBy (w.setCell p u) (some g) :=
  ⟨h.os, h.tape, h.output, by simpa [World.setCell] using h.size, fun i hi hne => (Below.heap_setCell w p u i (by
    rintro rfl
    exact hne (by rw [hp]))).trans (h.block i hi hne)⟩
theorem only_refl (w : World) (row : Option Nat) : w.grownBy w row := ⟨rfl, rfl, rfl, Nat.le_refl _, fun _ _ _ => rfl⟩
/-- what lies elsewhere is as it was -/
theorem VS.only {w w' : World} {A : Option Addr} {cs : List V3} {row : Option Nat} (h : VS w A cs) (hg : w.grownBy w' row) (hne : ∀ b o, A = some ⟨b, o, none⟩ → some b ≠ row) : VS w' A cs := fun hp => by
  obtain ⟨b, o, hA, hb, hc⟩ := h hp
  have hbl := hg.block b hb (hne b o hA)
  refine ⟨b, o, hA, Nat.lt_of_lt_of_le hb hg.size, fun i hi => ?_⟩
  obtain ⟨x, y, z, h0, h1, h2, h3⟩ := hc i hi
  exact ⟨x, y, z, (World.cell?_of_block (w := w) hbl).trans h0, (World.cell?_of_block (w := w) hbl).trans h1, (World.cell?_of_block (w := w) hbl).trans h2, h3⟩
theorem VO.only {w w' : World} {B : Nat} {A : Option Addr} {cs : List V3} {row : Option Nat} (h : VO w B A cs) (hg : w.grownBy w' row) (hne : ∀ b o, A = some ⟨b, o, none⟩ → some b ≠ row) : VO w' B A cs := fun hp => by
  obtain ⟨b, o, hA, hB, hb, hf, hc⟩ := h hp
  have hbl := hg.block b hb (hne b o hA)
  refine ⟨b, o, hA, hB, Nat.lt_of_lt_of_le hb hg.size, fun j => (World.frozen?_of_block (w := w) hbl).trans (hf j), fun i hi => ?_⟩
  obtain ⟨x, y, z, h0, h1, h2, h3⟩ := hc i hi
  exact ⟨x, y, z, (World.cell?_of_block (w := w) hbl).trans h0, (World.cell?_of_block (w := w) hbl).trans h1, (World.cell?_of_block (w := w) hbl).trans h2, h3⟩

theorem VO.set_lt {w : World} {B : Nat} {A : Option Addr} {cs : List V3} (h : VO w B A cs) (g i : Nat) (u : Value) (hg : g < B) : VO (w.setCell ⟨g, i, none⟩ u) B A cs := fun hp => by
  obtain ⟨b, o, hA, hB, hb, hf, hc⟩ := h hp
  refine ⟨b, o, hA, hB, by simpa [World.setCell] using hb, fun j => by rw [frozen_setCell]; exact hf j, fun k hk => ?_⟩
  obtain ⟨x, y, z, h0, h1, h2, h3⟩ := hc k hk
  have hne : ∀ q, (⟨g, i, none⟩ : Addr) ≠ ⟨b, q, none⟩ := fun q e => by injection e with e; omega
  exact ⟨x, y, z, (World.cell?_setCell_other w _ _ _ (hne _)).trans h0, (World.cell?_setCell_other w _ _ _ (hne _)).trans h1, (World.cell?_setCell_other w _ _ _ (hne _)).trans h2, h3⟩

theorem Marking.step3 {w : World} {b o n m : Nat} {k : Int} (h : Marking w b o n (m * 3) k) (hm : m * 3 + 3 ≤ n) :
    Marking (((w.setCell ⟨b, o + m * 3, none⟩ (.float .f32 (floatOfInt .f32 (k + m * 3)))).setCell ⟨b, o + m * 3 + 1, none⟩ (.float .f32 (floatOfInt .f32 (k + m * 3 + 1)))).setCell ⟨b, o + m * 3 + 2, none⟩ (.float .f32 (floatOfInt .f32 (k + m * 3 + 1 + 1)))) b o n ((m + 1) * 3) k := by
  have h1 := (h.step (by omega)).step (by omega) |>.step (m := m * 3 + 1 + 1) (by omega)
  have e : (m + 1) * 3 = m * 3 + 1 + 1 + 1 := by omega
  rw [e]
  have e1 : (k + ((m * 3 : Nat) : Int)) = k + m * 3 := by omega
  have e2 : (k + ((m * 3 + 1 : Nat) : Int)) = k + m * 3 + 1 := by omega
  have e3 : (k + ((m * 3 + 1 + 1 : Nat) : Int)) = k + m * 3 + 1 + 1 := by omega
  rw [e1, e2, e3] at h1
  exact h1

/-! ## slices of floats -/
def FS (w : World) (A : Option Addr) (xs : List Nat) : Prop :=
  0 < xs.length → ∃ b o, A = some ⟨b, o, none⟩ ∧ b < w.heap.size ∧ ∀ i, i < xs.length → ∃ x, w.cell? ⟨b, o + i, none⟩ = some (.float .f32 x) ∧ cn .f32 x = xs.getD i 0
theorem FS.ext {w w' : World} {A : Option Addr} {xs : List Nat} (h : FS w A xs) (he : Ext w w') : FS w' A xs := fun hp => by
  obtain ⟨b, o, hA, hb, hc⟩ := h hp
  refine ⟨b, o, hA, Nat.lt_of_lt_of_le hb he.size, fun i hi => ?_⟩
  obtain ⟨x, h1, h2⟩ := hc i hi
  exact ⟨x, (he.cell (p := ⟨b, o + i, none⟩) hb).trans h1, h2⟩
theorem any_take_succ {α : Type} (p : α → Bool) (xs : List α) (d : α) (k : Nat) (h : k < xs.length) : (xs.take (k + 1)).any p = ((xs.take k).any p || p (xs.getD k d)) := by
  rw [List.take_succ_eq_append_getElem h, List.any_append]
  simp [h]

/-- a block of three floats just made -/
theorem FS.three (w : World) (t : TypeId) (x y z : Nat) (g : Nat) (hg : g = w.heap.size) : FS (w.alloc (.cells #[.float .f32 x, .float .f32 y, .float .f32 z] t)) (some ⟨g, 0, none⟩) [cn .f32 x, cn .f32 y, cn .f32 z] := fun _ => by
  subst hg
  have h := Blk.new w t #[.float .f32 x, .float .f32 y, .float .f32 z]
  refine ⟨w.heap.size, 0, rfl, h.lt, fun i hi => ?_⟩
  match i, hi with
  | 0, _ => exact ⟨x, by rw [h.cell]; rfl, rfl⟩
  | 1, _ => exact ⟨y, by rw [h.cell]; rfl, rfl⟩
  | 2, _ => exact ⟨z, by rw [h.cell]; rfl, rfl⟩
theorem FS.one (w : World) (t : TypeId) (x : Nat) (g : Nat) (hg : g = w.heap.size) : FS (w.alloc (.cells #[.float .f32 x] t)) (some ⟨g, 0, none⟩) [cn .f32 x] := fun _ => by
  subst hg
  have h := Blk.new w t #[.float .f32 x]
  refine ⟨w.heap.size, 0, rfl, h.lt, fun i hi => ?_⟩
  match i, hi with
  | 0, _ => exact ⟨x, by rw [h.cell]; rfl, rfl⟩
theorem FS.two (w : World) (t : TypeId) (x y : Nat) (g : Nat) (hg : g = w.heap.size) : FS (w.alloc (.cells #[.float .f32 x, .float .f32 y] t)) (some ⟨g, 0, none⟩) [cn .f32 x, cn .f32 y] := fun _ => by
  subst hg
  have h := Blk.new w t #[.float .f32 x, .float .f32 y]
  refine ⟨w.heap.size, 0, rfl, h.lt, fun i hi => ?_⟩
  match i, hi with
  | 0, _ => exact ⟨x, by rw [h.cell]; rfl, rfl⟩
  | 1, _ => exact ⟨y, by rw [h.cell]; rfl, rfl⟩

theorem Blk.at_ (w : World) (t : TypeId) (cs : Array Value) (g : Nat) (hg : g = w.heap.size) : Blk (w.alloc (.cells cs t)) g t cs := by subst hg; exact Blk.new w t cs
theorem Blk.alloc {w : World} {g : Nat} {t : TypeId} {cs : Array Value} (h : Blk w g t cs) (o : Obj) : Blk (w.alloc o) g t cs := (Below.heap_alloc w o g h.lt).trans h
theorem Blk.below {B : Nat} {w w' : World} {g : Nat} {t : TypeId} {cs : Array Value} (h : Blk w g t cs) (hb : Below B w w') (hg : g < B) : Blk w' g t cs := (hb.block g hg).trans h
theorem Blk.set3v {w : World} {g : Nat} {t : TypeId} {a b c : Value} (h : Blk w g t #[a, b, c]) (x y z : Value) :
    Blk (((w.setCell ⟨g, 0, none⟩ x).setCell ⟨g, 1, none⟩ y).setCell ⟨g, 2, none⟩ z) g t #[x, y, z] := by
  have := h.set3 0 x y z
  simpa using this
theorem VS.below {B : Nat} {w w' : World} {A : Option Addr} {cs : List V3} (h : VS w A cs) (hb : Below B w w') (hB : w.heap.size ≤ B) : VS w' A cs := h.ext (hb.mono hB)
theorem bcellD {W w1 : World} (hb : Ext W.drew w1) : (∀ b o, b < W.heap.size → w1.cell? ⟨b, o, none⟩ = W.cell? ⟨b, o, none⟩) ∧ (∀ b o, b < W.heap.size → w1.frozen? ⟨b, o, none⟩ = W.frozen? ⟨b, o, none⟩) := @bcell W.drew w1 hb
theorem bcellN {W w1 : World} {n : Nat} (hb : Ext (W.drewN n) w1) : (∀ b o, b < W.heap.size → w1.cell? ⟨b, o, none⟩ = W.cell? ⟨b, o, none⟩) ∧ (∀ b o, b < W.heap.size → w1.frozen? ⟨b, o, none⟩ = W.frozen? ⟨b, o, none⟩) := @bcell (W.drewN n) w1 hb
end Go.Proofs.Ytfehhbmmdbpdpaa
/- What the program computes, on canonical numbers: vectors of float32 and threads. No Go in sight. -/
namespace Go.Proofs.Ytfehhbmmdbpdpaa
open Go

def finF (x : Nat) : Bool := fcmp .eql .f32 (fop .sub .f32 x x) 0
def vfin (c : V3) : Bool := finF c.1 && finF c.2.1 && finF c.2.2
def vadd (a b : V3) : V3 := (fop .add .f32 a.1 b.1, fop .add .f32 a.2.1 b.2.1, fop .add .f32 a.2.2 b.2.2)
def vsub (a b : V3) : V3 := (fop .sub .f32 a.1 b.1, fop .sub .f32 a.2.1 b.2.1, fop .sub .f32 a.2.2 b.2.2)
def vscale (a : V3) (s : Nat) : V3 := (fop .mul .f32 a.1 s, fop .mul .f32 a.2.1 s, fop .mul .f32 a.2.2 s)
def vinner (a b : V3) : Nat := fop .add .f32 (fop .add .f32 (fop .mul .f32 a.1 b.1) (fop .mul .f32 a.2.1 b.2.1)) (fop .mul .f32 a.2.2 b.2.2)
def fcross (a b c d : Nat) : Nat := fop .sub .f32 (fop .mul .f32 a b) (fop .mul .f32 c d)
def vcross (a b : V3) : V3 := (fcross a.2.1 b.2.2 a.2.2 b.2.1, fcross a.2.2 b.1 a.1 b.2.2, fcross a.1 b.2.1 a.2.1 b.1)
/-- a right thread -/
def isTh (cs : List V3) (sp : Nat) : Bool := decide (3 ≤ cs.length) && decide (cs.length ≤ 32) && cs.all vfin && finF sp

theorem cn_zero32 : cn .f32 0 = 0 := by decide
theorem cn_zero64 : cn .f64 0 = 0 := by decide

/-- a told vector: itself where it is finite -/
def toldV (c : V3) : Bool × V3 := if vfin c then (true, c) else (false, (0, 0, 0))
def one32 : Nat := 1065353216
def vsum (cs : List V3) : V3 := cs.foldl vadd (0, 0, 0)
/-- the middle of a thread -/
def midP (cs : List V3) (sp : Nat) : Bool × V3 := if isTh cs sp then toldV (vscale (vsum cs) (fop .quo .f32 one32 (floatOfInt .f32 cs.length))) else (false, (0, 0, 0))
theorem vsum_succ (cs : List V3) (k : Nat) (h : k < cs.length) : vsum (cs.take (k + 1)) = vadd (vsum (cs.take k)) (cs.getD k (0, 0, 0)) := by
  unfold vsum
  rw [List.take_succ_eq_append_getElem h, List.foldl_append]
  simp [h]
theorem cv_zero : cv 0 0 0 = (0, 0, 0) := by decide
theorem cn_ofInt (m : Int) : cn .f32 (floatOfInt .f32 m) = floatOfInt .f32 m := cn_of_not (read_write_nearest Ieee.single _ _ _)
theorem cn_one32 : cn .f32 1065353216 = one32 := by decide
theorem midP_of (cs : List V3) (sp r1 : Nat) (r s t r' s' t' : Nat) (hi : isTh cs sp = true) (hv : cv r s t = vsum (cs.take cs.length)) (hq1 : FR .f32 r1 (fop .quo .f32 (cn .f32 1065353216) (cn .f32 (floatOfInt .f32 cs.length)))) (hq : cv r' s' t' = vscale (cv r s t) (cn .f32 r1)) :
    midP cs sp = toldV (cv r' s' t') := by
  unfold midP
  rw [if_pos hi, hq, hv, List.take_length]
  unfold FR at hq1
  rw [hq1, cn_one32, cn_ofInt]
end Go.Proofs.Ytfehhbmmdbpdpaa
/- Bounds on float64 operations: add, subtract, multiply. -/
namespace Go.Proofs.Ytfehhbmmdbpdpaa
open Go Ieee

/-- a float64 that is a number of size at most 2^e -/
def bnd (x : Nat) (e : Int) : Prop := ∃ s m p, FloatKind.f64.decode x = .number s m p ∧ mle m p e
theorem bnd.mono {x : Nat} {e e' : Int} (h : bnd x e) (he : e ≤ e') : bnd x e' := by
  obtain ⟨s, m, p, h1, h2⟩ := h
  exact ⟨s, m, p, h1, h2.mono he⟩
theorem bnd_of_write {x : Nat} {s : Bool} {m : Nat} {p e : Int} (hx : x = FloatKind.f64.format.write (.number s m p)) (h : mle m p e) (h1 : -1074 ≤ e) (h2 : e ≤ 1023) : bnd x e := by
  obtain ⟨m', p', hr, h3⟩ := nearest_mle Ieee.double (by decide) s m p e h (by rw [show Ieee.double.leastPlace = -1074 from by decide]; exact h1) (by rw [show Format.topPlace Ieee.double = 1023 from by decide]; exact h2)
  exact ⟨s, m', p', by rw [hx]; exact hr, h3⟩
theorem bnd_mul {x y : Nat} {a b : Int} (hx : bnd x a) (hy : bnd y b) (h1 : -1074 ≤ a + b) (h2 : a + b ≤ 1023) : bnd (fop .mul .f64 x y) (a + b) := by
  obtain ⟨s, m, i, e1, q1⟩ := hx
  obtain ⟨t, n, j, e2, q2⟩ := hy
  have hf : fop .mul .f64 x y = FloatKind.f64.format.write (.number (s ^^ t) (m * n) (i + j)) := by
    unfold fop floatBits Format.mul
    rw [show FloatKind.f64.format.read x = _ from e1, show FloatKind.f64.format.read y = _ from e2]
    rfl
  refine bnd_of_write hf ?_ h1 h2
  rcases q1 with q1 | ⟨u1, v1⟩
  · exact .inl (by rw [q1, Nat.zero_mul])
  · rcases q2 with q2 | ⟨u2, v2⟩
    · exact .inl (by rw [q2, Nat.mul_zero])
    · refine .inr ⟨by omega, ?_⟩
      rw [show (a + b - (i + j)).toNat = (a - i).toNat + (b - j).toNat by omega, Nat.pow_add]
      exact Nat.mul_le_mul v1 v2
theorem shl_le {m : Nat} {i base e : Int} (h : mle m i e) (hb : base ≤ i) (he : base ≤ e) : m <<< (i - base).toNat ≤ 2 ^ (e - base).toNat := by
  rw [Nat.shiftLeft_eq]
  rcases h with h | ⟨h1, h2⟩
  · rw [h, Nat.zero_mul]; exact Nat.zero_le _
  · rw [show (e - base).toNat = (e - i).toNat + (i - base).toNat by omega, Nat.pow_add]
    exact Nat.mul_le_mul_right _ h2
theorem sum_mle {s t : Bool} {m n : Nat} {i j e : Int} (h1 : mle m i e) (h2 : mle n j e) (hi : min i j ≤ e) : mle (signed s m (i - min i j).toNat + signed t n (j - min i j).toNat).natAbs (min i j) (e + 1) := by
  have a1 := shl_le h1 (Int.min_le_left i j) hi
  have a2 := shl_le h2 (Int.min_le_right i j) hi
  have hp : 2 ^ (e + 1 - min i j).toNat = 2 * 2 ^ (e - min i j).toNat := by
    rw [show (e + 1 - min i j).toNat = (e - min i j).toNat + 1 by omega, Nat.pow_succ]; omega
  refine .inr ⟨by omega, ?_⟩
  rw [hp]
  unfold signed
  generalize 2 ^ (e - min i j).toNat = g at *
  generalize m <<< (i - min i j).toNat = u at *
  generalize n <<< (j - min i j).toNat = v at *
  cases s <;> cases t <;> simp only [if_true, if_false, Bool.false_eq_true] <;> omega
theorem mle_anchor {m : Nat} {i e : Int} (h : mle m i e) (hm : m ≠ 0) : i ≤ e := by
  rcases h with h | h
  · exact absurd h hm
  · exact h.1
theorem sum_mle' {s t : Bool} {m n : Nat} {i j e : Int} (h1 : mle m i e) (h2 : mle n j e) : mle (signed s m (i - min i j).toNat + signed t n (j - min i j).toNat).natAbs (min i j) (e + 1) := by
  by_cases hm : m = 0
  · by_cases hn : n = 0
    · refine .inl ?_
      subst hm; subst hn
      simp [signed]
    · exact sum_mle h1 h2 (by have := mle_anchor h2 hn; omega)
  · exact sum_mle h1 h2 (by have := mle_anchor h1 hm; omega)
theorem bnd_sum {x : Nat} {s t : Bool} {m n : Nat} {i j e : Int} (hx : some x = ((Datum.number s m i).sum (.number t n j)).map FloatKind.f64.format.write) (h1 : mle m i e) (h2 : mle n j e) (hl : -1074 ≤ e + 1) (hh : e + 1 ≤ 1023) : bnd x (e + 1) := by
  simp only [Datum.sum, Option.map_some, Option.some.injEq] at hx
  exact bnd_of_write hx (sum_mle' h1 h2) hl hh
theorem bnd_add {x y : Nat} {e : Int} (hx : bnd x e) (hy : bnd y e) (hl : -1074 ≤ e + 1) (hh : e + 1 ≤ 1023) : bnd (fop .add .f64 x y) (e + 1) := by
  obtain ⟨s, m, i, e1, q1⟩ := hx
  obtain ⟨t, n, j, e2, q2⟩ := hy
  refine bnd_sum (s := s) (t := t) (m := m) (n := n) (i := i) (j := j) ?_ q1 q2 hl hh
  unfold fop floatBits Format.add
  rw [show FloatKind.f64.format.read x = _ from e1, show FloatKind.f64.format.read y = _ from e2]
  rfl
theorem bnd_sub {x y : Nat} {e : Int} (hx : bnd x e) (hy : bnd y e) (hl : -1074 ≤ e + 1) (hh : e + 1 ≤ 1023) : bnd (fop .sub .f64 x y) (e + 1) := by
  obtain ⟨s, m, i, e1, q1⟩ := hx
  obtain ⟨t, n, j, e2, q2⟩ := hy
  refine bnd_sum (s := s) (t := !t) (m := m) (n := n) (i := i) (j := j) ?_ q1 q2 hl hh
  unfold fop floatBits Format.sub
  rw [show FloatKind.f64.format.read x = _ from e1, show FloatKind.f64.format.read y = _ from e2]
  rfl
/-- a quotient by a number that is at least 1 -/
theorem quot_mle {m n : Nat} {i j e : Int} (h : mle m i e) (hm : m ≠ 0) (hj : j ≤ 0) (hn : 2 ^ (-j).toNat ≤ n) (more : Nat) (hmore : n ≤ m <<< more) :
    mle (2 * (m <<< more / n) + ((m <<< more) % n != 0).toNat) (i - j - more - 1) (e + 1) := by
  rcases h with h | ⟨h1, h2⟩
  · exact absurd h hm
  have hnp : 0 < n := Nat.lt_of_lt_of_le (Nat.two_pow_pos _) hn
  have hq1 : 1 ≤ m <<< more / n := (Nat.le_div_iff_mul_le hnp).2 (by omega)
  have hD : m <<< more ≤ 2 ^ ((e - i).toNat + more) := by
    rw [Nat.shiftLeft_eq, Nat.pow_add]
    exact Nat.mul_le_mul_right _ h2
  have hqn : m <<< more / n * 2 ^ (-j).toNat ≤ 2 ^ ((e - i).toNat + more) :=
    Nat.le_trans (Nat.le_trans (Nat.mul_le_mul_left _ hn) (Nat.div_mul_le_self _ _)) hD
  have hb : ((m <<< more) % n != 0).toNat ≤ 1 := by cases ((m <<< more) % n != 0) <;> decide
  generalize m <<< more / n = q at *
  generalize ((m <<< more) % n != 0).toNat = b at *
  have hJT : (-j).toNat ≤ (e - i).toNat + more := by
    refine (Nat.pow_le_pow_iff_right (show 1 < 2 by decide)).1 (Nat.le_trans ?_ hqn)
    exact Nat.le_mul_of_pos_left _ hq1
  have hq : q ≤ 2 ^ ((e - i).toNat + more - (-j).toNat) := by
    have hs : 2 ^ ((e - i).toNat + more) = 2 ^ ((e - i).toNat + more - (-j).toNat) * 2 ^ (-j).toNat := by rw [← Nat.pow_add]; congr 1; omega
    rw [hs] at hqn
    exact Nat.le_of_mul_le_mul_right hqn (Nat.two_pow_pos _)
  refine .inr ⟨by omega, ?_⟩
  have hE : (e + 1 - (i - j - more - 1)).toNat = (e - i).toNat + more - (-j).toNat + 2 := by omega
  rw [hE, Nat.pow_add]
  have : 0 < 2 ^ ((e - i).toNat + more - (-j).toNat) := Nat.two_pow_pos _
  generalize 2 ^ ((e - i).toNat + more - (-j).toNat) = g at *
  have : g * 2 ^ 2 = g * 4 := rfl
  omega
/-- a float64 that is a number, and at least 1 -/
def one_le (y : Nat) : Prop := ∃ n j, FloatKind.f64.decode y = .number false n j ∧ j ≤ 0 ∧ 2 ^ (-j).toNat ≤ n
theorem bnd_quo {x y : Nat} {e : Int} (hx : bnd x e) (hy : one_le y) (hl : -1074 ≤ e + 1) (hh : e + 1 ≤ 1023) : bnd (fop .quo .f64 x y) (e + 1) := by
  obtain ⟨s, m, i, e1, q1⟩ := hx
  obtain ⟨n, j, e2, hj, hn⟩ := hy
  have hnp : 0 < n := Nat.lt_of_lt_of_le (Nat.two_pow_pos _) hn
  have hf : fop .quo .f64 x y = (((Datum.number s m i).quotient (FloatKind.f64.format.fractionBits + 2) (.number false n j)).map FloatKind.f64.format.write).getD (qn .f64) := by
    unfold fop floatBits Format.div
    rw [show FloatKind.f64.format.read x = _ from e1, show FloatKind.f64.format.read y = _ from e2]
  simp only [Datum.quotient, if_neg (show ¬ n = 0 by omega), Option.map_some, Option.getD_some] at hf
  refine bnd_of_write hf ?_ hl hh
  by_cases hm : m = 0
  · subst hm
    refine .inl ?_
    simp
  · refine quot_mle q1 hm hj hn _ ?_
    have h1 := Nat.log2_self_le hm
    have h2 : n < 2 ^ (n.log2 + 1) := Nat.lt_log2_self
    rw [Nat.shiftLeft_eq]
    have h3 : 2 ^ (n.log2 + 1) ≤ 2 ^ m.log2 * 2 ^ (FloatKind.f64.format.fractionBits + 2 + n.log2 - m.log2) := by
      rw [← Nat.pow_add]
      exact Nat.pow_le_pow_right (by decide) (by omega)
    have h4 := Nat.mul_le_mul_right (2 ^ (FloatKind.f64.format.fractionBits + 2 + n.log2 - m.log2)) h1
    omega
end Go.Proofs.Ytfehhbmmdbpdpaa
/- Numbers that a float64 has are written back as they were read. -/
namespace Go.Proofs.Ytfehhbmmdbpdpaa
open Go Ieee

theorem cut_exact (s : Bool) (m k : Nat) : Toward.even.cut s (m <<< k) k = m := by
  unfold Toward.cut
  dsimp only
  rw [Nat.shiftLeft_eq, Nat.shiftLeft_eq, Nat.one_mul]
  by_cases hm : m = 0
  · subst hm
    have h1 : 0 < 2 ^ min k (Nat.log2 (0 * 2 ^ k) + 2) := Nat.two_pow_pos _
    generalize 2 ^ min k (Nat.log2 (0 * 2 ^ k) + 2) = g at *
    simp
  · have hl : k ≤ (m * 2 ^ k).log2 + 2 := by
      have h1 : 2 ^ k ≤ m * 2 ^ k := Nat.le_mul_of_pos_left _ (by omega)
      have h2 : (m * 2 ^ k) < 2 ^ ((m * 2 ^ k).log2 + 1) := Nat.lt_log2_self
      have h3 := (Nat.pow_lt_pow_iff_right (show 1 < 2 by decide)).1 (Nat.lt_of_le_of_lt h1 h2)
      omega
    rw [Nat.min_eq_left hl, Nat.mul_div_cancel _ (Nat.two_pow_pos _), Nat.mul_mod_left]
    have h1 : decide (2 ^ k < 2 * 0) = false := by simp
    have h2 : (2 ^ k == 2 * 0) = false := by
      have := Nat.two_pow_pos k
      rw [beq_eq_false_iff_ne]; omega
    simp only [h1, h2, Bool.false_and, Bool.or_false, Bool.toNat_false, Nat.add_zero]
theorem log2_eq {m g : Nat} (h1 : 2 ^ g ≤ m) (h2 : m < 2 ^ (g + 1)) : m.log2 = g := by
  have hm : m ≠ 0 := by have := Nat.two_pow_pos g; omega
  have a := Nat.log2_self_le hm
  have b : m < 2 ^ (m.log2 + 1) := Nat.lt_log2_self
  have c := (Nat.pow_lt_pow_iff_right (show 1 < 2 by decide)).1 (Nat.lt_of_le_of_lt h1 b)
  have d := (Nat.pow_lt_pow_iff_right (show 1 < 2 by decide)).1 (Nat.lt_of_le_of_lt a h2)
  omega
theorem log2_shl {m k : Nat} (hm : m ≠ 0) : (m <<< k).log2 = m.log2 + k := by
  rw [Nat.shiftLeft_eq]
  refine log2_eq ?_ ?_
  · rw [Nat.pow_add]; exact Nat.mul_le_mul_right _ (Nat.log2_self_le hm)
  · rw [show m.log2 + k + 1 = m.log2 + 1 + k by omega, Nat.pow_add]
    exact Nat.mul_lt_mul_of_pos_right Nat.lt_log2_self (Nat.two_pow_pos _)
/-- what a format has is written as the word it was read from -/
theorem nearest_exact (f : Format) (hinf : f.binade ≤ f.infRung) (y : Nat) (hy : y < 2 * f.signWeight) {s : Bool} {m : Nat} {p : Int} (h : f.read y = .number s m p) (k : Nat) : f.nearest s (m <<< k) (p - k) = y := by
  have hb : 0 < f.binade := Nat.two_pow_pos _
  have hs : 0 < f.signWeight := by unfold Format.signWeight; exact Nat.two_pow_pos _
  have hsy : f.word (y / f.signWeight % 2 == 1) (y % f.signWeight) = y := by
    have hd := Nat.div_add_mod y f.signWeight
    have hq : y / f.signWeight < 2 := (Nat.div_lt_iff_lt_mul hs).2 hy
    generalize y / f.signWeight = qq at *
    unfold Format.word
    rcases (by omega : qq = 0 ∨ qq = 1) with e | e
    · rw [e, Nat.mul_zero, Nat.zero_add] at hd
      rw [e, show ((0 : Nat) % 2 == 1) = false from rfl, if_neg (by decide)]
      exact hd
    · rw [e, Nat.mul_one] at hd
      rw [e, show ((1 : Nat) % 2 == 1) = true from rfl, if_pos rfl]
      exact hd
  unfold Format.read at h
  dsimp only at h
  generalize hr : y % f.signWeight = rung at *
  generalize hng : (y / f.signWeight % 2 == 1) = ng at *
  by_cases h1 : rung < f.binade
  · rw [if_pos h1] at h
    injection h with h2 h3 h4
    subst h2; subst h3; subst h4
    unfold Format.nearest
    by_cases hm : rung = 0
    · rw [if_pos (by rw [hm]; simp)]
      rw [hm] at hsy; exact hsy
    · have hne : rung <<< k ≠ 0 := by rw [Nat.shiftLeft_eq]; have := Nat.two_pow_pos k; exact Nat.mul_ne_zero hm (by omega)
      rw [if_neg hne]
      dsimp only
      have hl : rung.log2 < f.fractionBits := by
        have a := Nat.log2_self_le hm
        exact (Nat.pow_lt_pow_iff_right (show 1 < 2 by decide)).1 (Nat.lt_of_le_of_lt a h1)
      have hlast : max (f.leastPlace - (k : Int) + ((rung <<< k).log2 : Int) - (f.fractionBits : Int)) f.leastPlace = f.leastPlace := by rw [log2_shl hm]; omega
      rw [hlast]
      rw [show (f.leastPlace - (k : Int) - f.leastPlace).toNat = 0 by omega, show (f.leastPlace - (f.leastPlace - (k : Int))).toNat = k by omega, show (f.leastPlace - f.leastPlace).toNat = 0 by omega]
      rw [Nat.shiftLeft_zero, cut_exact, Nat.zero_mul, Nat.zero_add]
      rw [Nat.min_eq_left (by omega)]; exact hsy
  · rw [if_neg h1] at h
    by_cases h2 : rung < f.infRung
    · rw [if_pos h2] at h
      injection h with h3 h4 h5
      subst h3; subst h4; subst h5
      have hmod : rung % f.binade < f.binade := Nat.mod_lt _ hb
      have hm : f.binade + rung % f.binade ≠ 0 := by omega
      have hlog : (f.binade + rung % f.binade).log2 = f.fractionBits := by
        refine log2_eq (show f.binade ≤ _ by omega) ?_
        rw [Nat.pow_succ]
        show _ < f.binade * 2
        omega
      unfold Format.nearest
      have hne : (f.binade + rung % f.binade) <<< k ≠ 0 := by rw [Nat.shiftLeft_eq]; have := Nat.two_pow_pos k; exact Nat.mul_ne_zero hm (by omega)
      rw [if_neg hne]
      dsimp only
      generalize hq : rung / f.binade - 1 = q
      have hlast : max (f.leastPlace + (q : Int) - (k : Int) + (((f.binade + rung % f.binade) <<< k).log2 : Int) - (f.fractionBits : Int)) f.leastPlace = f.leastPlace + (q : Int) := by rw [log2_shl hm, hlog]; omega
      rw [hlast]
      rw [show (f.leastPlace + (q : Int) - (k : Int) - (f.leastPlace + (q : Int))).toNat = 0 by omega, show (f.leastPlace + (q : Int) - (f.leastPlace + (q : Int) - (k : Int))).toNat = k by omega, show (f.leastPlace + (q : Int) - f.leastPlace).toNat = q by omega]
      rw [Nat.shiftLeft_zero, cut_exact]
      have htot : q * f.binade + (f.binade + rung % f.binade) = rung := by
        have hd := Nat.div_add_mod rung f.binade
        have hq1 : 1 ≤ rung / f.binade := (Nat.le_div_iff_mul_le hb).2 (by omega)
        have : rung / f.binade = q + 1 := by omega
        rw [this, Nat.mul_add, Nat.mul_one, Nat.mul_comm] at hd
        omega
      rw [htot, Nat.min_eq_left (Nat.le_of_lt h2)]
      exact hsy
    · rw [if_neg h2] at h
      split at h <;> cases h
end Go.Proofs.Ytfehhbmmdbpdpaa
/- A float64 and its whole part. -/
namespace Go.Proofs.Ytfehhbmmdbpdpaa
open Go Ieee

theorem read_lp (f : Format) (y : Nat) {s : Bool} {m : Nat} {p : Int} (h : f.read y = .number s m p) : f.leastPlace ≤ p := (read_mle f y h).1
/-- nothing taken away -/
theorem sub_zero64 (y : Nat) (hy : y < 18446744073709551616) {s : Bool} {m : Nat} {p : Int} (h : FloatKind.f64.decode y = .number s m p) : fop .sub .f64 y 0 = y := by
  have hlp := read_lp Ieee.double y h
  obtain ⟨k, hk⟩ : ∃ k : Nat, p - Ieee.double.leastPlace = k := ⟨(p - Ieee.double.leastPlace).toNat, by omega⟩
  have hx := nearest_exact Ieee.double (by decide) y (by have : Ieee.double.signWeight = 9223372036854775808 := by decide
                                                         omega) h k
  unfold fop floatBits Format.sub
  rw [show FloatKind.f64.format.read y = _ from h, show FloatKind.f64.format.read 0 = .number false 0 Ieee.double.leastPlace from by decide]
  simp only [Datum.opposite, Datum.sum, Option.map_some, Option.getD_some]
  rw [show min p Ieee.double.leastPlace = Ieee.double.leastPlace by omega, show (p - Ieee.double.leastPlace).toNat = k by omega]
  show Ieee.double.nearest _ _ _ = y
  rw [show Ieee.double.leastPlace = p - (k : Int) by omega]
  have h0 : signed (!false) 0 (p - (k : Int) - (p - (k : Int))).toNat = 0 := by simp [signed]
  rw [h0, Int.add_zero]
  unfold signed
  generalize m <<< k = M at *
  cases s with
  | false =>
    simp only [Bool.false_eq_true, if_false]
    by_cases hz : (M : Int) = 0
    · rw [if_pos hz]
      simpa using hx
    · rw [if_neg hz, show decide ((M : Int) < 0) = false from decide_eq_false (by omega)]
      simpa using hx
  | true =>
    simp only [if_true]
    by_cases hz : -(M : Int) = 0
    · rw [if_pos hz]
      simpa using hx
    · rw [if_neg hz, show decide (-(M : Int) < 0) = true from decide_eq_true (by omega)]
      simpa using hx
end Go.Proofs.Ytfehhbmmdbpdpaa
/- A float64's whole part, by the reference's way and by the program's. -/
namespace Go.Proofs.Ytfehhbmmdbpdpaa
open Go Ieee

theorem cut_zero (s : Bool) (n drop : Nat) : Toward.zero.cut s n drop = n / 2 ^ drop := by
  unfold Toward.cut
  dsimp only
  rw [Nat.shiftLeft_eq, Nat.one_mul]
  simp only [Bool.toNat_false, Nat.add_zero]
  by_cases hd : drop ≤ n.log2 + 2
  · rw [Nat.min_eq_left hd]
  · rw [Nat.min_eq_right (by omega)]
    by_cases hn : n = 0
    · subst hn; simp
    · have hlt : n < 2 ^ (n.log2 + 1) := Nat.lt_log2_self
      have h1 : 2 ^ (n.log2 + 1) ≤ 2 ^ (n.log2 + 2) := Nat.pow_le_pow_right (by decide) (by omega)
      have h2 : 2 ^ (n.log2 + 1) ≤ 2 ^ drop := Nat.pow_le_pow_right (by decide) (by omega)
      rw [Nat.div_eq_of_lt (by omega), Nat.div_eq_of_lt (by omega)]
/-- the size of the whole part -/
def wholeM (m : Nat) (p : Int) : Nat := (m <<< p.toNat) / 2 ^ (-p).toNat
theorem floatOfInt_whole (s : Bool) (T : Nat) (hT : T ≠ 0) : floatOfInt .f64 (signed s T 0) = FloatKind.f64.format.write (.number s T 0) := by
  show Ieee.double.nearest (decide (signed s T 0 < 0)) (signed s T 0).natAbs 0 = Ieee.double.nearest s T 0
  unfold signed
  rw [Nat.shiftLeft_zero]
  cases s with
  | false =>
    simp only [Bool.false_eq_true, if_false]
    rw [show decide ((T : Int) < 0) = false from decide_eq_false (by omega)]
    simp
  | true =>
    simp only [if_true]
    rw [show decide (-(T : Int) < 0) = true from decide_eq_true (by omega)]
    simp
theorem floatOfInt_zero (s : Bool) : floatOfInt .f64 (signed s 0 0) = 0 := by
  cases s <;> decide
end Go.Proofs.Ytfehhbmmdbpdpaa
/- What is left of a float64 when its whole part is taken away is at most 1. -/
namespace Go.Proofs.Ytfehhbmmdbpdpaa
open Go Ieee

/-- a small whole number, written and read -/
theorem read_whole (s : Bool) (T : Nat) (h0 : T ≠ 0) (h1 : T < 2 ^ 53) : FloatKind.f64.decode (FloatKind.f64.format.write (.number s T 0)) = .number s (T <<< (52 - T.log2)) ((T.log2 : Int) - 52) := by
  have hg : T.log2 ≤ 52 := by
    have a := Nat.log2_self_le h0
    have := (Nat.pow_lt_pow_iff_right (show 1 < 2 by decide)).1 (Nat.lt_of_le_of_lt a h1)
    omega
  have ha := Nat.log2_self_le h0
  have hb : T < 2 ^ (T.log2 + 1) := Nat.lt_log2_self
  show Ieee.double.read (Ieee.double.nearest s T 0) = _
  unfold Format.nearest
  rw [if_neg h0]
  dsimp only
  have hlp : Ieee.double.leastPlace = -1074 := by decide
  have hfb : Ieee.double.fractionBits = 52 := rfl
  have hlast : max (0 + (T.log2 : Int) - (Ieee.double.fractionBits : Int)) Ieee.double.leastPlace = (T.log2 : Int) - 52 := by rw [hlp, hfb]; omega
  rw [hlast, show (0 - ((T.log2 : Int) - 52)).toNat = 52 - T.log2 by omega, show ((T.log2 : Int) - 52 - 0).toNat = 0 by omega]
  have hcut : Toward.even.cut s (T <<< (52 - T.log2)) 0 = T <<< (52 - T.log2) := by
    have := cut_exact s (T <<< (52 - T.log2)) 0
    simpa using this
  rw [hcut]
  have hk1 : 2 ^ 52 ≤ T <<< (52 - T.log2) := by
    rw [Nat.shiftLeft_eq, show (2 : Nat) ^ 52 = 2 ^ T.log2 * 2 ^ (52 - T.log2) by rw [← Nat.pow_add]; congr 1; omega]
    exact Nat.mul_le_mul_right _ ha
  have hk2 : T <<< (52 - T.log2) < 2 ^ 53 := by
    rw [Nat.shiftLeft_eq, show (2 : Nat) ^ 53 = 2 ^ (T.log2 + 1) * 2 ^ (52 - T.log2) by rw [← Nat.pow_add]; congr 1; omega]
    exact Nat.mul_lt_mul_of_pos_right hb (Nat.two_pow_pos _)
  generalize hkk : T <<< (52 - T.log2) = kept at *
  have hbin : Ieee.double.binade = 4503599627370496 := by decide
  have hinf : Ieee.double.infRung = 9218868437227405312 := by rfl
  have hq : ((T.log2 : Int) - 52 - Ieee.double.leastPlace).toNat = T.log2 + 1022 := by rw [hlp]; omega
  have e52 : (2 : Nat) ^ 52 = 4503599627370496 := by decide
  have e53 : (2 : Nat) ^ 53 = 9007199254740992 := by decide
  rw [e52] at hk1
  rw [e53] at hk2
  have hle : (T.log2 + 1022) * Ieee.double.binade + kept < Ieee.double.infRung := by rw [hbin, hinf]; omega
  rw [hq, Nat.min_eq_left (Nat.le_of_lt hle)]
  obtain ⟨m', p', hr, hc⟩ := read_word Ieee.double s (T.log2 + 1022) kept (by rw [hbin]; omega) (fun h => by rw [hbin] at h; omega) hle
  rw [hr]
  rcases hc with ⟨-, hm', hp'⟩ | ⟨h, -⟩
  · have hpp : p' = (T.log2 : Int) - 52 := by rw [hp', hlp]; omega
    rw [hm', hpp]
  · rw [hbin] at h; omega
end Go.Proofs.Ytfehhbmmdbpdpaa
/- What is left of a float64 when its whole part is taken away is at most 1. -/
namespace Go.Proofs.Ytfehhbmmdbpdpaa
open Go Ieee

theorem whole_rest (m : Nat) (p : Int) (b : Nat) (hb : (-p).toNat ≤ b) : wholeM m p * 2 ^ b ≤ m * 2 ^ (p + b).toNat ∧ m * 2 ^ (p + b).toNat - wholeM m p * 2 ^ b ≤ 2 ^ b := by
  unfold wholeM
  rw [Nat.shiftLeft_eq]
  rcases Int.le_total 0 p with hp | hp
  · rw [show (-p).toNat = 0 by omega, Nat.pow_zero, Nat.div_one, show (p + b).toNat = p.toNat + b by omega, Nat.pow_add, ← Nat.mul_assoc]
    exact ⟨Nat.le_refl _, by rw [Nat.sub_self]; exact Nat.zero_le _⟩
  · generalize hd : (-p).toNat = d at *
    rw [show p.toNat = 0 by omega, Nat.pow_zero, Nat.mul_one, show (p + b).toNat = b - d by omega]
    have hs : 2 ^ b = 2 ^ d * 2 ^ (b - d) := by rw [← Nat.pow_add]; congr 1; omega
    have hdm := Nat.div_add_mod m (2 ^ d)
    have hml : m % 2 ^ d < 2 ^ d := Nat.mod_lt _ (Nat.two_pow_pos _)
    have he : m * 2 ^ (b - d) = m / 2 ^ d * 2 ^ b + m % 2 ^ d * 2 ^ (b - d) := by
      rw [hs, ← Nat.mul_assoc, ← Nat.add_mul, Nat.mul_comm (m / 2 ^ d), hdm]
    rw [he]
    refine ⟨Nat.le_add_right _ _, ?_⟩
    rw [Nat.add_sub_cancel_left, hs]
    exact Nat.mul_le_mul_right _ (Nat.le_of_lt hml)
theorem frac_bnd (y : Nat) {s : Bool} {m : Nat} {p : Int} (h : FloatKind.f64.decode y = .number s m p) (hT : wholeM m p ≠ 0) (hT2 : wholeM m p < 2 ^ 53) : bnd (fop .sub .f64 y (floatOfInt .f64 (signed s (wholeM m p) 0))) 0 := by
  have hg : (wholeM m p).log2 ≤ 52 := by
    have a := Nat.log2_self_le hT
    have := (Nat.pow_lt_pow_iff_right (show 1 < 2 by decide)).1 (Nat.lt_of_le_of_lt a hT2)
    omega
  rw [floatOfInt_whole s _ hT]
  have hr := read_whole s _ hT hT2
  generalize hw : FloatKind.f64.format.write (.number s (wholeM m p) 0) = wd at *
  have hf : fop .sub .f64 y wd = (((Datum.number s m p).sum (.number (!s) (wholeM m p <<< (52 - (wholeM m p).log2)) (((wholeM m p).log2 : Int) - 52))).map FloatKind.f64.format.write).getD (qn .f64) := by
    unfold fop floatBits Format.sub
    rw [show FloatKind.f64.format.read y = _ from h, show FloatKind.f64.format.read wd = _ from hr]
    rfl
  simp only [Datum.sum, Option.map_some, Option.getD_some] at hf
  refine bnd_of_write hf ?_ (by decide) (by decide)
  generalize hgg : (wholeM m p).log2 = g at *
  generalize hbs : min p ((g : Int) - 52) = base at *
  have hb0 : base ≤ 0 := by omega
  obtain ⟨b, hb⟩ : ∃ b : Nat, base = -(b : Int) := ⟨(-base).toNat, by omega⟩
  obtain ⟨r1, r2⟩ := whole_rest m p b (by omega)
  have e1 : m <<< (p - base).toNat = m * 2 ^ (p + b).toNat := by rw [Nat.shiftLeft_eq]; congr 2; omega
  have e2 : (wholeM m p <<< (52 - g)) <<< ((g : Int) - 52 - base).toNat = wholeM m p * 2 ^ b := by
    rw [Nat.shiftLeft_eq, Nat.shiftLeft_eq, Nat.mul_assoc, ← Nat.pow_add]
    congr 2; omega
  refine .inr ⟨hb0, ?_⟩
  rw [show (0 - base).toNat = b by omega]
  unfold signed
  rw [e1, e2]
  generalize m * 2 ^ (p + b).toNat = u at *
  generalize wholeM m p * 2 ^ b = v at *
  generalize 2 ^ b = c at *
  cases s <;> simp only [Bool.not_true, Bool.not_false, if_true, if_false, Bool.false_eq_true] <;> omega
end Go.Proofs.Ytfehhbmmdbpdpaa
/- The sine of a number of turns: what is computed, and that it is small. -/
namespace Go.Proofs.Ytfehhbmmdbpdpaa
open Go Ieee

def one64 : Nat := 4607182418800017408
def half64 : Nat := 4602678819172646912
def quart64 : Nat := 4598175219545276416
def turn64 : Nat := 4618760256179416344
def big64 : Nat := 4841369599423283200
def nbig64 : Nat := 14064741636278059008

theorem bnd_one : bnd one64 0 := ⟨false, 4503599627370496, -52, by decide, .inr ⟨by decide, by decide⟩⟩
theorem bnd_half : bnd half64 0 := ⟨false, 4503599627370496, -53, by decide, .inr ⟨by decide, by decide⟩⟩
theorem bnd_turn : bnd turn64 3 := ⟨false, 7074237752028440, -50, by decide, .inr ⟨by decide, by decide⟩⟩

/-- a number less its whole part -/
def fracP (y : Nat) : Nat :=
  match FloatKind.f64.decode y with
  | .number s m p => if wholeM m p = 0 then y else fop .sub .f64 y (floatOfInt .f64 (signed s (wholeM m p) 0))
  | _ => y
def upP (f : Nat) : Nat := if fcmp .lss .f64 f 0 then fop .add .f64 f one64 else f
def isBelow (f : Nat) : Bool := fcmp .geq .f64 f half64
def downP (f : Nat) : Nat := if isBelow f then fop .sub .f64 f half64 else f
def foldP (f : Nat) : Nat := if fcmp .gtr .f64 f quart64 then fop .sub .f64 half64 f else f
def roundP (u p k : Nat) : Nat := fop .sub .f64 one64 (fop .quo .f64 (fop .mul .f64 u p) (floatOfInt .f64 ((2 * k * (2 * k + 1) : Nat) : Int)))
/-- so many rounds, from 8 downwards -/
def polyP (u : Nat) : Nat → Nat
  | 0 => one64
  | n + 1 => roundP u (polyP u n) (8 - n)
def tailZ (f : Nat) : Nat := fop .mul .f64 (foldP (downP f)) turn64
def tailR (f : Nat) : Nat := fop .mul .f64 (tailZ f) (polyP (fop .mul .f64 (tailZ f) (tailZ f)) 8)
def tailP (f : Nat) : Nat := if isBelow f then fneg .f64 (tailR f) else tailR f
def sinW (y : Nat) : Nat := tailP (upP (fracP y))
def isBig (y : Nat) : Bool := fcmp .geq .f64 y big64 || fcmp .leq .f64 y nbig64

theorem one_le_int {T : Nat} (h0 : T ≠ 0) (h1 : T < 2 ^ 53) : one_le (floatOfInt .f64 (T : Int)) := by
  have hw := floatOfInt_whole false T h0
  rw [show signed false T 0 = (T : Int) by simp [signed]] at hw
  rw [hw]
  have hr := read_whole false T h0 h1
  have hg : T.log2 ≤ 52 := by
    have a := Nat.log2_self_le h0
    have := (Nat.pow_lt_pow_iff_right (show 1 < 2 by decide)).1 (Nat.lt_of_le_of_lt a h1)
    omega
  refine ⟨_, _, hr, by omega, ?_⟩
  rw [show (-((T.log2 : Int) - 52)).toNat = 52 - T.log2 by omega, Nat.shiftLeft_eq]
  exact Nat.le_mul_of_pos_left _ (by omega)
theorem bnd_up {f : Nat} (h : bnd f 0) : bnd (upP f) 1 := by
  unfold upP
  split
  · exact bnd_add h bnd_one (by decide) (by decide)
  · exact h.mono (by decide)
theorem bnd_down {f : Nat} (h : bnd f 1) : bnd (downP f) 2 := by
  unfold downP
  split
  · exact bnd_sub h (bnd_half.mono (by decide)) (by decide) (by decide)
  · exact h.mono (by decide)
theorem bnd_fold {f : Nat} (h : bnd f 2) : bnd (foldP f) 3 := by
  unfold foldP
  split
  · exact bnd_sub (bnd_half.mono (by decide)) h (by decide) (by decide)
  · exact h.mono (by decide)
theorem bnd_round {u p k : Nat} {e : Int} (hu : bnd u 12) (hp : bnd p e) (h0 : 0 ≤ e) (h1 : e ≤ 900) (hk : 1 ≤ k) (hk8 : k ≤ 8) : bnd (roundP u p k) (e + 14) := by
  have hT : 2 * k * (2 * k + 1) ≠ 0 := Nat.mul_ne_zero (by omega) (by omega)
  have hT2 : 2 * k * (2 * k + 1) < 2 ^ 53 := by
    have : 2 * k * (2 * k + 1) ≤ 16 * 17 := Nat.mul_le_mul (by omega) (by omega)
    omega
  have a := bnd_mul hu hp (by omega) (by omega)
  have b := bnd_quo a (one_le_int hT hT2) (by omega) (by omega)
  have c := bnd_sub (bnd_one.mono (show (0 : Int) ≤ 12 + e + 1 by omega)) b (by omega) (by omega)
  exact c.mono (by omega)
theorem bnd_poly {u : Nat} (hu : bnd u 12) : ∀ n : Nat, n ≤ 8 → bnd (polyP u n) (14 * n)
  | 0, _ => bnd_one.mono (by decide)
  | n + 1, h => (bnd_round hu (bnd_poly hu n (by omega)) (by omega) (by omega) (by omega) (by omega)).mono (by omega)
/-- the sign changes no size -/
theorem read_sign (f : Format) {a b : Nat} (h : a % f.signWeight = b % f.signWeight) {s : Bool} {m : Nat} {p : Int} (hb : f.read b = .number s m p) : f.read a = .number (a / f.signWeight % 2 == 1) m p := by
  unfold Format.read at hb ⊢
  dsimp only at hb ⊢
  rw [h]
  by_cases h1 : b % f.signWeight < f.binade
  · rw [if_pos h1] at hb ⊢
    injection hb with h2 h3 h4
    rw [h3, h4]
  · rw [if_neg h1] at hb ⊢
    by_cases h2 : b % f.signWeight < f.infRung
    · rw [if_pos h2] at hb ⊢
      injection hb with h3 h4 h5
      rw [h4, h5]
    · rw [if_neg h2] at hb
      split at hb <;> cases hb
theorem bnd_neg {x : Nat} {e : Int} (h : bnd x e) : bnd (fneg .f64 x) e := by
  obtain ⟨s, m, p, h1, h2⟩ := h
  have hn : isN .f64 x = false := by unfold isN; rw [h1]; rfl
  unfold fneg
  rw [hn, if_neg (by decide)]
  have hr : (x ^^^ signBit .f64) % Ieee.double.signWeight = x % Ieee.double.signWeight := xor_mod_two_pow x 63
  exact ⟨_, m, p, read_sign Ieee.double hr h1, h2⟩
theorem bnd_tail {f : Nat} (h : bnd f 1) : bnd (tailP f) 118 := by
  have hz : bnd (tailZ f) 6 := (bnd_mul (bnd_fold (bnd_down h)) bnd_turn (by decide) (by decide)).mono (by decide)
  have hu : bnd (fop .mul .f64 (tailZ f) (tailZ f)) 12 := (bnd_mul hz hz (by decide) (by decide)).mono (by decide)
  have hr : bnd (tailR f) 118 := (bnd_mul hz (bnd_poly hu 8 (by decide)) (by decide) (by decide)).mono (by decide)
  unfold tailP
  split
  · exact bnd_neg hr
  · exact hr

theorem cmp_lt {a b : Int} (h : (some (compare a b) == some Ordering.gt || some (compare a b) == some Ordering.eq) = false) : a < b := by
  by_cases h1 : a < b
  · exact h1
  · by_cases h2 : a = b
    · subst h2; simp [compare, compareOfLessAndEq] at h
    · simp [compare, compareOfLessAndEq, h1, h2] at h
theorem cmp_gt {a b : Int} (h : (some (compare a b) == some Ordering.lt || some (compare a b) == some Ordering.eq) = false) : b < a := by
  by_cases h1 : a < b
  · simp [compare, compareOfLessAndEq, h1] at h
  · by_cases h2 : a = b
    · subst h2; simp [compare, compareOfLessAndEq] at h
    · omega
theorem whole_lt {y : Nat} {s : Bool} {m : Nat} {p : Int} (h : FloatKind.f64.decode y = .number s m p) (hb : isBig y = false) : wholeM m p < 2 ^ 52 := by
  unfold isBig at hb
  rw [Bool.or_eq_false_iff] at hb
  obtain ⟨h1, h2⟩ := hb
  unfold fcmp Format.order at h1 h2
  rw [show FloatKind.f64.format.read y = _ from h] at h1 h2
  rw [show FloatKind.f64.format.read big64 = .number false 4503599627370496 0 from by decide] at h1
  rw [show FloatKind.f64.format.read nbig64 = .number true 4503599627370496 0 from by decide] at h2
  simp only [Datum.order] at h1 h2
  have a := cmp_lt h1
  have b := cmp_gt h2
  rw [show (p - min p 0).toNat = p.toNat by omega, show (0 - min p 0).toNat = (-p).toNat by omega] at a b
  unfold wholeM
  rw [Nat.div_lt_iff_lt_mul (Nat.two_pow_pos _)]
  unfold signed at a b
  rw [Nat.shiftLeft_eq 4503599627370496] at a b
  have e52 : (2 : Nat) ^ 52 = 4503599627370496 := by decide
  rw [e52]
  generalize m <<< p.toNat = u at *
  generalize 4503599627370496 * 2 ^ (-p).toNat = v at *
  cases s <;> simp only [if_true, if_false, Bool.false_eq_true] at a b <;> omega
theorem bnd_frac {y : Nat} {s : Bool} {m : Nat} {p : Int} (h : FloatKind.f64.decode y = .number s m p) (hb : isBig y = false) : bnd (fracP y) 0 := by
  have hw := whole_lt h hb
  unfold fracP
  rw [h]
  dsimp only
  split
  · rename_i hT
    refine ⟨s, m, p, h, ?_⟩
    unfold wholeM at hT
    rw [Nat.shiftLeft_eq] at hT
    have hlt := Nat.lt_of_div_eq_zero (Nat.two_pow_pos _) hT
    rcases Int.le_total 0 p with hp | hp
    · rw [show (-p).toNat = 0 by omega] at hlt
      refine .inl ?_
      have : 0 < 2 ^ p.toNat := Nat.two_pow_pos _
      rcases Nat.eq_zero_or_pos m with hm | hm
      · exact hm
      · have := Nat.mul_pos hm this; omega
    · rw [show p.toNat = 0 by omega] at hlt
      refine .inr ⟨hp, ?_⟩
      rw [show (0 - p).toNat = (-p).toNat by omega]
      omega
  · rename_i hT
    exact frac_bnd y h hT (Nat.lt_trans hw (by decide))
theorem bnd_sinW {y : Nat} {s : Bool} {m : Nat} {p : Int} (h : FloatKind.f64.decode y = .number s m p) (hb : isBig y = false) : bnd (sinW y) 118 := bnd_tail (bnd_up (bnd_frac h hb))
theorem ovf_bnd {x : Nat} {e : Int} (h : bnd x e) (he : e ≤ 127) : ovf .f64 x .f32 = false := by
  obtain ⟨s, m, p, h1, h2⟩ := h
  refine ovf_narrow x fun s' m' p' h' => ?_
  rw [h1] at h'
  cases h'
  exact h2.mono he
/-! the two ways to the whole part -/
theorem integral_zero (s : Bool) (m : Nat) (p : Int) : (Datum.number s m p).integral .zero = .number s (wholeM m p) 0 := by
  unfold Datum.integral wholeM
  dsimp only
  rw [cut_zero]
theorem toInt_whole {y : Nat} {s : Bool} {m : Nat} {p : Int} (h : FloatKind.f64.decode y = .number s m p) (hb : isBig y = false) : floatToIntVal .f64 y .i64 = some (signed s (wholeM m p) 0) := by
  have hw := whole_lt h hb
  have hi : (FloatKind.f64.decode y).toInt .zero = some (signed s (wholeM m p) 0) := by
    rw [h]; unfold Datum.toInt; rw [integral_zero]
  unfold floatToIntVal
  rw [hi]
  dsimp only
  rw [if_pos]
  have e1 : IntKind.i64.min = -9223372036854775808 := by decide
  have e2 : IntKind.i64.max = 9223372036854775807 := by decide
  have e52 : (2 : Nat) ^ 52 = 4503599627370496 := by decide
  rw [e1, e2]
  unfold signed
  rw [Nat.shiftLeft_zero]
  generalize wholeM m p = T at *
  cases s <;> simp only [if_true, if_false, Bool.false_eq_true] <;> omega
theorem spec_frac {y : Nat} (hy : y < 18446744073709551616) {s : Bool} {m : Nat} {p : Int} (h : FloatKind.f64.decode y = .number s m p) : fop .sub .f64 y (floatOfInt .f64 (signed s (wholeM m p) 0)) = fracP y := by
  unfold fracP
  rw [h]
  dsimp only
  split
  · rename_i hT
    rw [hT, floatOfInt_zero]
    exact sub_zero64 y hy h
  · rfl
theorem whole_neq {s : Bool} {T : Nat} (h1 : T < 2 ^ 53) : fcmp .neq .f64 (FloatKind.f64.format.write (.number s T 0)) 0 = decide (T ≠ 0) := by
  by_cases h0 : T = 0
  · subst h0
    cases s <;> decide
  · rw [decide_eq_true h0]
    unfold fcmp Format.order
    rw [show FloatKind.f64.format.read (FloatKind.f64.format.write (.number s T 0)) = _ from read_whole s T h0 h1, show FloatKind.f64.format.read 0 = .number false 0 Ieee.double.leastPlace from by decide]
    simp only [Datum.order]
    generalize ((T.log2 : Int) - 52 - min ((T.log2 : Int) - 52) Ieee.double.leastPlace).toNat = k
    have hne : (T <<< (52 - T.log2)) <<< k ≠ 0 := by
      rw [Nat.shiftLeft_eq, Nat.shiftLeft_eq]
      exact Nat.mul_ne_zero (Nat.mul_ne_zero h0 (Nat.ne_of_gt (Nat.two_pow_pos _))) (Nat.ne_of_gt (Nat.two_pow_pos _))
    unfold signed
    generalize (T <<< (52 - T.log2)) <<< k = M at *
    rw [show ∀ q, (0 : Nat) <<< q = 0 from fun q => by rw [Nat.shiftLeft_eq, Nat.zero_mul]]
    cases s <;> simp only [if_true, if_false, Bool.false_eq_true] <;> simp only [compare, compareOfLessAndEq] <;> split <;> first | rfl | (split <;> first | rfl | (exfalso; omega))
theorem impl_frac {y : Nat} {s : Bool} {m : Nat} {p : Int} (h : FloatKind.f64.decode y = .number s m p) (hT : wholeM m p ≠ 0) : fop .sub .f64 y (FloatKind.f64.format.write (.number s (wholeM m p) 0)) = fracP y := by
  unfold fracP
  rw [h]
  dsimp only
  rw [if_neg hT, floatOfInt_whole s _ hT]
theorem impl_frac0 {y : Nat} {s : Bool} {m : Nat} {p : Int} (h : FloatKind.f64.decode y = .number s m p) (hT : wholeM m p = 0) : y = fracP y := by
  unfold fracP
  rw [h]
  dsimp only
  rw [if_pos hT]

/-! numbers less themselves -/
theorem self_sub (k : FloatKind) (x : Nat) : ((∃ s m p, k.decode x = .number s m p) ∧ fop .sub k x x = 0) ∨ ((∀ s m p, k.decode x ≠ .number s m p) ∧ fop .sub k x x = qn k) := by
  unfold fop floatBits Format.sub
  cases e : k.decode x with
  | number s m p =>
    refine .inl ⟨⟨s, m, p, rfl⟩, ?_⟩
    rw [show k.format.read x = _ from e]
    simp only [Datum.opposite, Datum.sum, Option.map_some, Option.getD_some]
    have h0 : signed s m (p - min p p).toNat + signed (!s) m (p - min p p).toNat = 0 := by
      unfold signed
      generalize m <<< (p - min p p).toNat = u
      cases s <;> simp only [Bool.not_true, Bool.not_false, if_true, if_false, Bool.false_eq_true] <;> omega
    rw [h0, if_pos rfl]
    have hs : (s && !s) = false := by cases s <;> rfl
    rw [hs]
    show k.format.nearest false _ _ = 0
    unfold Format.nearest
    rw [if_pos (by rfl)]
    rfl
  | infinity s =>
    refine .inr ⟨(fun _ _ _ h => by cases h), ?_⟩
    rw [show k.format.read x = _ from e]
    cases s <;> rfl
  | nan s t =>
    refine .inr ⟨(fun _ _ _ h => by cases h), ?_⟩
    rw [show k.format.read x = _ from e]
    rfl
end Go.Proofs.Ytfehhbmmdbpdpaa
