/- Floats up to the bits of a NaN: canonical bits, the operations on them, and the walk's rules for an operation that may draw a NaN. -/
import Derived.WalkKit
import Derived.WalkLawsBesides
import Derived.Deep.Draws
import Derived.Lib.Hide
namespace Go.Proofs.Ytfehhbmmdbpdpaa
open Go Go.RowKit

/-! ## reading what was written -/
theorem isNaN_iff {d : Ieee.Datum} : d.isNaN = true ↔ ∃ s t, d = .nan s t := by
  cases d <;> simp [Ieee.Datum.isNaN]

theorem read_word_le (f : Ieee.Format) (neg : Bool) (rung : Nat) (h : rung ≤ f.infRung) : (f.read (f.word neg rung)).isNaN = false := by
  have hlt := f.infRung_lt
  have hs : 0 < f.signWeight := by unfold Ieee.Format.signWeight; exact Nat.two_pow_pos _
  have hm : f.word neg rung % f.signWeight = rung := by
    unfold Ieee.Format.word
    split
    · rw [Nat.add_mod_left]; exact Nat.mod_eq_of_lt (by omega)
    · exact Nat.mod_eq_of_lt (by omega)
  unfold Ieee.Format.read
  simp only [hm]
  split
  · rfl
  · split
    · rfl
    · split
      · rfl
      · omega

theorem read_write_nearest (f : Ieee.Format) (s : Bool) (m : Nat) (p : Int) : (f.read (f.nearest s m p)).isNaN = false := by
  unfold Ieee.Format.nearest
  dsimp only
  split
  · exact read_word_le f s 0 (Nat.zero_le _)
  · exact read_word_le f s _ (Nat.min_le_right ..)

theorem read_write (f : Ieee.Format) {d : Ieee.Datum} (h : d.isNaN = false) : (f.read (f.write d)).isNaN = false := by
  cases d with
  | number s m p => exact read_write_nearest f s m p
  | infinity s => exact read_word_le f s _ (Nat.le_refl _)
  | nan s t => simp [Ieee.Datum.isNaN] at h

/-! ## canonical bits -/
def qn : FloatKind → Nat
  | .f32 => 0x7fc00000
  | .f64 => 0x7ff8000000000000

def isN (k : FloatKind) (b : Nat) : Bool := (k.decode b).isNaN

def cn (k : FloatKind) (b : Nat) : Nat := if isN k b then qn k else b

theorem isN_qn (k : FloatKind) : isN k (qn k) = true := by cases k <;> decide
theorem isN_cn (k : FloatKind) (b : Nat) : isN k (cn k b) = isN k b := by
  unfold cn; split
  · rename_i h; rw [isN_qn, h]
  · rfl
theorem cn_of_not {k : FloatKind} {b : Nat} (h : isN k b = false) : cn k b = b := by simp [cn, h]
theorem cn_of {k : FloatKind} {b : Nat} (h : isN k b = true) : cn k b = qn k := by simp [cn, h]
theorem cn_cn (k : FloatKind) (b : Nat) : cn k (cn k b) = cn k b := by
  by_cases h : isN k b = true
  · rw [cn_of h, cn_of (isN_qn k)]
  · have h' : isN k b = false := by simpa using h
    rw [cn_of_not h', cn_of_not h']

/-- the operations on canonical bits -/
def fop (op : BinOp) (k : FloatKind) (x y : Nat) : Nat := (floatBits op k x y).getD (qn k)

theorem floatBits_nan_left {op : BinOp} {k : FloatKind} {x y : Nat} (h : isN k x = true) : floatBits op k x y = none := by
  obtain ⟨s, t, e⟩ := isNaN_iff.1 h
  have e' : k.format.read x = .nan s t := e
  cases op <;> simp [floatBits, Ieee.Format.add, Ieee.Format.sub, Ieee.Format.mul, Ieee.Format.div, e', Ieee.Datum.sum, Ieee.Datum.product, Ieee.Datum.quotient]
theorem floatBits_nan_right {op : BinOp} {k : FloatKind} {x y : Nat} (h : isN k y = true) : floatBits op k x y = none := by
  obtain ⟨s, t, e⟩ := isNaN_iff.1 h
  have e' : k.format.read y = .nan s t := e
  cases op <;> simp only [floatBits, Ieee.Format.add, Ieee.Format.sub, Ieee.Format.mul, Ieee.Format.div, e', Ieee.Datum.opposite] <;>
    cases k.format.read x <;> simp [Ieee.Datum.sum, Ieee.Datum.product, Ieee.Datum.quotient]

theorem floatBits_cn (op : BinOp) (k : FloatKind) (x y : Nat) : floatBits op k (cn k x) (cn k y) = floatBits op k x y := by
  by_cases hx : isN k x = true
  · rw [floatBits_nan_left hx, floatBits_nan_left (by rw [isN_cn]; exact hx)]
  · have hx' : isN k x = false := by simpa using hx
    rw [cn_of_not hx']
    by_cases hy : isN k y = true
    · rw [floatBits_nan_right hy, floatBits_nan_right (by rw [isN_cn]; exact hy)]
    · rw [cn_of_not (by simpa using hy)]

theorem order_cn (k : FloatKind) (x y : Nat) : k.format.order (cn k x) (cn k y) = k.format.order x y := by
  have hl : ∀ a b, isN k a = true → k.format.order a b = none := by
    intro a b h
    obtain ⟨s, t, e⟩ := isNaN_iff.1 h
    have e' : k.format.read a = .nan s t := e
    simp [Ieee.Format.order, e', Ieee.Datum.order]
  have hr : ∀ a b, isN k b = true → k.format.order a b = none := by
    intro a b h
    obtain ⟨s, t, e⟩ := isNaN_iff.1 h
    have e' : k.format.read b = .nan s t := e
    simp only [Ieee.Format.order, e']
    cases k.format.read a <;> simp [Ieee.Datum.order]
  by_cases hx : isN k x = true
  · rw [hl _ _ hx, hl _ _ (by rw [isN_cn]; exact hx)]
  · rw [cn_of_not (by simpa using hx)]
    by_cases hy : isN k y = true
    · rw [hr _ _ hy, hr _ _ (by rw [isN_cn]; exact hy)]
    · rw [cn_of_not (by simpa using hy)]

theorem floatBits_not {op : BinOp} {k : FloatKind} {x y r : Nat} (h : floatBits op k x y = some r) : isN k r = false := by
  have key : ∀ o : Option Ieee.Datum, (∀ d, o = some d → d.isNaN = false) → o.map k.format.write = some r → isN k r = false := by
    intro o ho h
    cases o with
    | none => cases h
    | some d => cases h; exact read_write k.format (ho d rfl)
  have hsum : ∀ a b d, Ieee.Datum.sum a b = some d → d.isNaN = false := by
    intro a b d h
    cases a <;> cases b <;> simp [Ieee.Datum.sum] at h <;> first | (subst h; rfl) | (obtain ⟨_, h⟩ := h; subst h; rfl)
  have hprod : ∀ a b d, Ieee.Datum.product a b = some d → d.isNaN = false := by
    intro a b d h
    cases a <;> cases b <;> simp [Ieee.Datum.product] at h <;> first | (subst h; rfl) | (obtain ⟨_, h⟩ := h; subst h; rfl)
  have hquo : ∀ n a b d, Ieee.Datum.quotient n a b = some d → d.isNaN = false := by
    intro n a b d h
    cases a <;> cases b <;> simp [Ieee.Datum.quotient] at h
    · split at h
      · split at h
        · cases h
        · cases h; rfl
      · cases h; rfl
    · subst h; rfl
    · subst h; rfl
  unfold floatBits at h
  split at h
  · exact key _ (hsum _ _) h
  · exact key _ (hsum _ _) h
  · exact key _ (hprod _ _) h
  · exact key _ (hquo _ _ _) h
  · cases h

theorem read_isNaN (f : Ieee.Format) (b : Nat) (hb : f.binade ≤ f.infRung) : (f.read b).isNaN = decide (f.infRung < b % f.signWeight) := by
  unfold Ieee.Format.read
  dsimp only
  by_cases h1 : b % f.signWeight < f.binade
  · rw [if_pos h1]; simp [Ieee.Datum.isNaN]; omega
  · rw [if_neg h1]
    by_cases h2 : b % f.signWeight < f.infRung
    · rw [if_pos h2]; simp [Ieee.Datum.isNaN]; omega
    · rw [if_neg h2]
      by_cases h3 : b % f.signWeight = f.infRung
      · rw [if_pos h3]; simp [Ieee.Datum.isNaN]; omega
      · rw [if_neg h3]; simp [Ieee.Datum.isNaN]; omega
theorem isN32 (b : Nat) : isN .f32 b = decide (0x7f800000 < b % 2147483648) := read_isNaN Ieee.single b (by decide)
theorem isN64 (b : Nat) : isN .f64 b = decide (0x7ff0000000000000 < b % 9223372036854775808) := read_isNaN Ieee.double b (by decide)
theorem isN_of_choice32 (t : Nat) : isN .f32 ((t % 2) * 2 ^ 31 + 0x7f800000 + 1 + (t / 2) % (2 ^ 23 - 1)) = true := by
  have h2 : t % 2 = 0 ∨ t % 2 = 1 := by omega
  have h3 : (t / 2) % (2 ^ 23 - 1) < 2 ^ 23 - 1 := Nat.mod_lt _ (by decide)
  rw [isN32]
  generalize (t / 2) % (2 ^ 23 - 1) = c at *
  generalize t % 2 = s at *
  simp only [decide_eq_true_eq]
  omega
theorem isN_of_choice64 (t : Nat) : isN .f64 ((t % 2) * 2 ^ 63 + 0x7ff0000000000000 + 1 + (t / 2) % (2 ^ 52 - 1)) = true := by
  have h2 : t % 2 = 0 ∨ t % 2 = 1 := by omega
  have h3 : (t / 2) % (2 ^ 52 - 1) < 2 ^ 52 - 1 := Nat.mod_lt _ (by decide)
  rw [isN64]
  generalize (t / 2) % (2 ^ 52 - 1) = c at *
  generalize t % 2 = s at *
  simp only [decide_eq_true_eq]
  omega
theorem isN_choice (k : FloatKind) (x y t : Nat) : isN k ((Question.nanBits k x y).cut t) = true := by
  cases k
  · exact isN_of_choice32 t
  · exact isN_of_choice64 t
theorem isN_choice_conv (k : FloatKind) (x t : Nat) : isN k ((Question.nanConv k x).cut t) = true := by
  cases k
  · exact isN_of_choice32 t
  · exact isN_of_choice64 t

/-! ## the runs -/
/-- what a float operation may leave: canonical bits as told -/
def FR (k : FloatKind) (r : Nat) (v : Nat) : Prop := cn k r = v

theorem run_float (P : Program) (op : BinOp) (hop : op = .add ∨ op = .sub ∨ op = .mul ∨ op = .quo) (t : TypeId) (k : FloatKind) (x y : Nat) (w : World) :
    ∃ r n, (binOp op t (.float k x) (.float k y)).run P w = .ok (.float k r) (w.drewN n) ∧ FR k r (fop op k (cn k x) (cn k y)) := by
  cases h : floatBits op k x y with
  | some r =>
    refine ⟨r, 0, run_float_arith w op t k x y r h, ?_⟩
    unfold FR fop
    rw [floatBits_cn, h, cn_of_not (floatBits_not h)]; rfl
  | none =>
    refine ⟨(Question.nanBits k x y).cut (w.tape w.drawn (.nanBits k x y)), 1, ?_, ?_⟩
    · rw [← World.drew_is_drewN]
      unfold floatBits at h
      rcases hop with rfl | rfl | rfl | rfl <;> simp only at h <;> simp [binOp, Op.floatArith, h, Question.forced]
    · unfold FR fop
      rw [floatBits_cn, h, cn_of (isN_choice k x y _)]; rfl

theorem run_float_eqGuard (P : Program) (op : BinOp) (hop : op = .add ∨ op = .sub ∨ op = .mul ∨ op = .quo) (t : TypeId) (x y : Operand) (a b : Value) (w : World) :
    (eqGuard op t x y a b).run P w = .ok () w := by
  rcases hop with rfl | rfl | rfl | rfl <;> simp [eqGuard]

/-- THE WALK's RULE at '+ - * /' of floats -/
theorem wpList_float {P : Program} {ops : Array Oper} {rest : List Oper} {o : Oper} {a : Act} {w : World} {Q : Exit → Act → World → Prop} (hgd : Region.wanted o (yielded ops a.tmps) = true)
    (op : BinOp) (t t' : TypeId) (x y : Operand) (ho : o.op = .binOp op t x y t') (hop : op = .add ∨ op = .sub ∨ op = .mul ∨ op = .quo)
    (k : FloatKind) (X Y : Nat) (hx : a.eval x = .float k X) (hy : a.eval y = .float k Y)
    (h : ∀ r n, FR k r (fop op k (cn k X) (cn k Y)) → wpList P ops Q rest (a.put o.dst (.float k r)) (w.drewN n)) : wpList P ops Q (o :: rest) a w := by
  refine wpList_step fun K hK => ?_
  rw [if_pos hgd]
  obtain ⟨r, n, hrun, hr⟩ := run_float P op hop t k X Y w
  unfold Oper.wp execOp
  simp only [ho, hx, hy, Sem.run_bind, Sem.run_pure, Result.andThen_ok, run_float_eqGuard P op hop, hrun]
  exact hK _ _ (h r n hr)

/-! ## comparisons -/
/-- a comparison of canonical bits -/
def fcmp (op : BinOp) (k : FloatKind) (x y : Nat) : Bool :=
  match op with
  | .eql => k.format.order x y == some .eq
  | .neq => k.format.order x y != some .eq
  | .lss => k.format.order x y == some .lt
  | .leq => k.format.order x y == some .lt || k.format.order x y == some .eq
  | .gtr => k.format.order x y == some .gt
  | .geq => k.format.order x y == some .gt || k.format.order x y == some .eq
  | _ => false
def isCmp (op : BinOp) : Bool :=
  match op with
  | .eql | .neq | .lss | .leq | .gtr | .geq => true
  | _ => false
theorem run_fcmp (P : Program) (op : BinOp) (hop : isCmp op = true) (t : TypeId) (k : FloatKind) (x y : Nat) (w : World) :
    (binOp op t (.float k x) (.float k y)).run P w = .ok (.bool (fcmp op k (cn k x) (cn k y))) w := by
  unfold fcmp
  rw [order_cn]
  cases op <;> simp [isCmp] at hop <;> simp [binOp, Op.floatCmp]
theorem run_fcmp_eqGuard (P : Program) (op : BinOp) (t : TypeId) (x y : Operand) (k : FloatKind) (a b : Nat) (w : World) :
    (eqGuard op t x y (.float k a) (.float k b)).run P w = .ok () w := by
  unfold eqGuard
  split <;> simp
theorem wpList_fcmp {P : Program} {ops : Array Oper} {rest : List Oper} {o : Oper} {a : Act} {w : World} {Q : Exit → Act → World → Prop} (hgd : Region.wanted o (yielded ops a.tmps) = true)
    (op : BinOp) (t t' : TypeId) (x y : Operand) (ho : o.op = .binOp op t x y t') (hop : isCmp op = true)
    (k : FloatKind) (X Y : Nat) (hx : a.eval x = .float k X) (hy : a.eval y = .float k Y)
    (b : Bool) (hb : fcmp op k (cn k X) (cn k Y) = b) (h : wpList P ops Q rest (a.put o.dst (.bool b)) w) : wpList P ops Q (o :: rest) a w := by
  subst hb
  refine wpList_step fun K hK => ?_
  rw [if_pos hgd]
  unfold Oper.wp execOp
  simp only [ho, hx, hy, Sem.run_bind, Sem.run_pure, Result.andThen_ok, run_fcmp_eqGuard, run_fcmp P op hop]
  exact hK _ _ h

/-! ## negation -/
def signBit (k : FloatKind) : Nat := 2 ^ (k.format.exponentBits + k.format.fractionBits)
def fneg (k : FloatKind) (x : Nat) : Nat := if isN k x then qn k else x ^^^ signBit k
theorem xor_mod_two_pow (b n : Nat) : (b ^^^ 2 ^ n) % 2 ^ n = b % 2 ^ n := by
  apply Nat.eq_of_testBit_eq
  intro i
  rw [Nat.testBit_mod_two_pow, Nat.testBit_mod_two_pow]
  by_cases h : i < n
  · simp only [h, decide_true, Bool.true_and, Nat.testBit_xor, Nat.testBit_two_pow]
    have : decide (n = i) = false := by simp; omega
    simp [this]
  · simp [h]
theorem isN_neg (k : FloatKind) (b : Nat) : isN k (Op.negFloat k b) = isN k b := by
  have h : ∀ f : Ieee.Format, f.binade ≤ f.infRung → (f.read (b ^^^ 2 ^ (f.exponentBits + f.fractionBits))).isNaN = (f.read b).isNaN := by
    intro f hf
    rw [read_isNaN f _ hf, read_isNaN f _ hf]
    unfold Ieee.Format.signWeight
    rw [xor_mod_two_pow]
  cases k
  · exact h Ieee.single (by decide)
  · exact h Ieee.double (by decide)
theorem FR_neg (k : FloatKind) (b : Nat) : FR k (Op.negFloat k b) (fneg k (cn k b)) := by
  unfold FR fneg
  rw [isN_cn]
  by_cases h : isN k b = true
  · rw [if_pos h, cn_of (by rw [isN_neg]; exact h)]
  · have h' : isN k b = false := by simpa using h
    rw [if_neg h, cn_of_not (by rw [isN_neg]; exact h'), cn_of_not h']
    rfl
theorem wpList_fneg {P : Program} {ops : Array Oper} {rest : List Oper} {o : Oper} {a : Act} {w : World} {Q : Exit → Act → World → Prop} (hgd : Region.wanted o (yielded ops a.tmps) = true)
    (t : TypeId) (x : Operand) (ho : o.op = .unOp .neg t x) (k : FloatKind) (X : Nat) (hx : a.eval x = .float k X)
    (h : ∀ r, FR k r (fneg k (cn k X)) → wpList P ops Q rest (a.put o.dst (.float k r)) w) : wpList P ops Q (o :: rest) a w := by
  refine wpList_step fun K hK => ?_
  rw [if_pos hgd]
  unfold Oper.wp execOp
  simp only [ho, hx, Op.unary, Sem.run_bind, Sem.run_pure, Result.andThen_ok]
  exact hK _ _ (h _ (FR_neg k X))

/-! ## conversions between the kinds -/
/-- does the narrowing leave the finite numbers? (then the language fixes no value) -/
def ovf (src : FloatKind) (x : Nat) (dst : FloatKind) : Bool :=
  match src.decode x with
  | .number s m e => (dst.decode (dst.encode (.number s m e))).isInfinity
  | _ => false
/-- a conversion of canonical bits -/
def fconv (src : FloatKind) (x : Nat) (dst : FloatKind) : Nat :=
  if src = dst then x else
  match src.decode x with
  | .nan _ _ => qn dst
  | d => dst.encode d
theorem run_fconv (P : Program) (s d : TypeId) (src dst : FloatKind) (hs : (P.underlying s).isSome = true) (hd : P.underlying d = some (.float dst)) (x : Nat) (hov : src ≠ dst → ovf src (cn src x) dst = false) (w : World) :
    ∃ r n, (convert s d (.float src x)).run P w = .ok (.float dst r) (w.drewN n) ∧ FR dst r (fconv src (cn src x) dst) := by
  obtain ⟨u, hs'⟩ := Option.isSome_iff_exists.1 hs
  have hc : (convert s d (.float src x)).run P w = (Conv.floatToFloat src x dst).run P w := by
    cases u <;> simp [convert, run_underlying hs', run_underlying hd]
  rw [hc]
  by_cases he : src = dst
  · subst he
    refine ⟨x, 0, by simp [Conv.floatToFloat, World.drewN_zero], ?_⟩
    unfold FR fconv
    rw [if_pos rfl]
  · by_cases hn : isN src x = true
    · obtain ⟨s', t', e⟩ := isNaN_iff.1 hn
      refine ⟨(Question.nanConv dst x).cut (w.tape w.drawn (.nanConv dst x)), 1, ?_, ?_⟩
      · rw [← World.drew_is_drewN]
        simp [Conv.floatToFloat, he, e, Question.forced]
      · obtain ⟨s2, t2, e2⟩ := isNaN_iff.1 (isN_qn src)
        unfold FR fconv
        rw [if_neg he, cn_of hn, e2, cn_of (isN_choice_conv dst x _)]
    · have hn' : isN src x = false := by simpa using hn
      have hov' := hov he
      rw [cn_of_not hn'] at hov' ⊢
      cases e : src.decode x with
      | nan s' t' => rw [isN, e] at hn'; simp [Ieee.Datum.isNaN] at hn'
      | infinity s' =>
        refine ⟨dst.encode (.infinity s'), 0, by simp [Conv.floatToFloat, he, e, World.drewN_zero], ?_⟩
        unfold FR fconv
        rw [if_neg he, e, cn_of_not]
        exact read_write dst.format (d := .infinity s') rfl
      | number s' m' e' =>
        have ho : (dst.decode (dst.encode (.number s' m' e'))).isInfinity = false := by simpa [ovf, e] using hov'
        refine ⟨dst.encode (.number s' m' e'), 0, by simp [Conv.floatToFloat, he, e, ho, World.drewN_zero], ?_⟩
        unfold FR fconv
        rw [if_neg he, e, cn_of_not]
        exact read_write dst.format (d := .number s' m' e') rfl
theorem wpList_fconv {P : Program} {ops : Array Oper} {rest : List Oper} {o : Oper} {a : Act} {w : World} {Q : Exit → Act → World → Prop} (hgd : Region.wanted o (yielded ops a.tmps) = true)
    (s d : TypeId) (x : Operand) (ho : o.op = .convert s d x) (src dst : FloatKind) (hs : (P.underlying s).isSome = true) (hd : P.underlying d = some (.float dst)) (X : Nat) (hx : a.eval x = .float src X)
    (hov : src ≠ dst → ovf src (cn src X) dst = false)
    (h : ∀ r n, FR dst r (fconv src (cn src X) dst) → wpList P ops Q rest (a.put o.dst (.float dst r)) (w.drewN n)) : wpList P ops Q (o :: rest) a w := by
  refine wpList_step fun K hK => ?_
  rw [if_pos hgd]
  obtain ⟨r, n, hrun, hr⟩ := run_fconv P s d src dst hs hd X hov w
  unfold Oper.wp execOp
  simp only [ho, hx, Sem.run_bind, Sem.run_pure, Result.andThen_ok, hrun]
  exact hK _ _ (h r n hr)
/-- 'float32(x)' of a float32 -/
theorem wpList_fsame {P : Program} {ops : Array Oper} {rest : List Oper} {o : Oper} {a : Act} {w : World} {Q : Exit → Act → World → Prop} (hgd : Region.wanted o (yielded ops a.tmps) = true)
    (s d : TypeId) (x : Operand) (ho : o.op = .convert s d x) (k : FloatKind) (hs : (P.underlying s).isSome = true) (hd : P.underlying d = some (.float k)) (X : Nat) (hx : a.eval x = .float k X)
    (h : wpList P ops Q rest (a.put o.dst (.float k X)) w) : wpList P ops Q (o :: rest) a w := by
  refine wpList_step fun K hK => ?_
  rw [if_pos hgd]
  have hrun := run_convert_float_float (P := P) w s d k k X X hs hd (by simp [floatToFloatBits])
  unfold Oper.wp execOp
  simp only [ho, hx, Sem.run_bind, Sem.run_pure, Result.andThen_ok, hrun]
  exact hK _ _ h

theorem run_store_float (P : Program) (w : World) (a : Addr) (m : Mode) (k : FloatKind) (b : Nat) : (store a (.float k b) m).run P w = stored P w a (.float k b) m := run_store P w a _ m rfl
end Go.Proofs.Ytfehhbmmdbpdpaa
