/- The numbers of the law. -/
import Derived.Test.YtfehhbmmdbpdpaaG10
import Derived.Deep.QuietTactic
import Derived.BigQuiet
namespace Go.Proofs.Ytfehhbmmdbpdpaa
open Go Go.RowKit
set_option linter.unusedVariables false
set_option linter.unusedSimpArgs false

theorem half_val64 : Val .f64 4602678819172646912 (1 / 2) := by
  refine ⟨by decide, false, 4503599627370496, -53, by decide, by decide +kernel⟩
theorem four_val64 : Val .f64 4616189618054758400 4 := by
  refine ⟨by decide, false, 4503599627370496, -50, by decide, by decide +kernel⟩
theorem three_val64 : Val .f64 4613937818241073152 3 := by
  refine ⟨by decide, false, 6755399441055744, -51, by decide, by decide +kernel⟩
theorem one_val64 : Val .f64 4607182418800017408 1 := by
  refine ⟨by decide, false, 4503599627370496, -52, by decide, by decide +kernel⟩
/-- where a seat and a check should lie -/
theorem left_vals {l i n : Nat} {L : Rat} (hL : Val .f64 l L) (h0 : 1 / 4 ≤ L) (h3 : L ≤ 3) (hn : 0 < n) (h9 : n ≤ 9) (hi : i < n) :
    ∃ a b c d e f g h k Z1 Z3, floatBits .quo .f64 (floatOfInt .f64 (i : Int)) (floatOfInt .f64 (n : Int)) = some a ∧ floatBits .sub .f64 a 4602678819172646912 = some b ∧ floatBits .mul .f64 b l = some c ∧
      floatBits .quo .f64 l (floatOfInt .f64 (n : Int)) = some d ∧ floatBits .quo .f64 d 4616189618054758400 = some e ∧ floatBits .add .f64 c e = some f ∧
      floatBits .mul .f64 4613937818241073152 d = some g ∧ floatBits .quo .f64 g 4616189618054758400 = some h ∧ floatBits .add .f64 c h = some k ∧ Val .f64 f Z1 ∧ Val .f64 k Z3 ∧
      (Z1 - (L * share i n + L * (1 / (n : Rat)) * (1 / 4))).abs ≤ 1 / 1000000 ∧ (Z3 - (L * share i n + L * (1 / (n : Rat)) * (3 / 4))).abs ≤ 1 / 1000000 := by
  obtain ⟨s1, s2, s3⟩ := share_bound (Nat.le_of_lt hi) hn
  obtain ⟨p1, p2, -⟩ := part_bound hn h9 h0 h3
  have hnp : (0 : Rat) < (n : Rat) := Rat.natCast_pos.2 hn
  have vi := val_int .f64 (i : Int) (by omega)
  have vn := val_int .f64 (n : Int) (by omega)
  rw [Rat.intCast_natCast] at vi vn
  have hq : (i : Rat) / (n : Rat) * (n : Rat) = (i : Rat) := Rat.div_mul_cancel (Rat.ne_of_gt hnp)
  have hd : L * (1 / (n : Rat)) * (n : Rat) = L := by
    have : (1 : Rat) / (n : Rat) * (n : Rat) = 1 := Rat.div_mul_cancel (Rat.ne_of_gt hnp)
    grind
  have e0 : pw 0 = 1 := by decide +kernel
  have e2 : pw 2 = 4 := by decide +kernel
  have e3 : pw 3 = 8 := by decide +kernel
  have e4 : pw 4 = 16 := by decide +kernel
  have t0 : pw (0 + 2 - eps .f64) ≤ 1 / 100000000 := by decide +kernel
  have t1 : pw (0 - eps .f64) ≤ 1 / 100000000 := by decide +kernel
  have t2 : pw (2 - eps .f64) ≤ 1 / 100000000 := by decide +kernel
  have t3 : pw (2 + 2 - eps .f64) ≤ 1 / 100000000 := by decide +kernel
  have t4 : pw (4 - eps .f64) ≤ 1 / 100000000 := by decide +kernel
  have t5 : pw (3 + 2 - eps .f64) ≤ 1 / 100000000 := by decide +kernel
  have t6 : pw (3 - eps .f64) ≤ 1 / 100000000 := by decide +kernel
  have k1 := abs_le.1 s1
  generalize L * (1 / (n : Rat)) = w at *
  generalize hu : (i : Rat) / (n : Rat) = u at *
  have hs : share i n = u - 1 / 2 := by unfold share; rw [hu]
  rw [hs] at k1 ⊢
  obtain ⟨a, A, a1, a2, a3, -⟩ := val_quo vi vn (Rat.ne_of_gt hnp) hq 0 (by rw [e0, Rat.abs_of_nonneg s2]; exact s3) (by decide) (by decide)
  have k2 := abs_le.1 a3
  obtain ⟨b, B, b1, b2, b3, -⟩ := val_sub a2 half_val64 0 (by rw [e0]; exact abs_le.2 ⟨by grind, by grind⟩) (by decide) (by decide)
  have k3 := abs_le.1 b3
  have hB : (B - (u - 1 / 2)).abs ≤ 1 / 40000000 := abs_le.2 ⟨by grind, by grind⟩
  have k4 := abs_le.1 hB
  have hL3 : L.abs ≤ 3 := by rw [Rat.abs_of_nonneg (by grind)]; exact h3
  have hB1 : B.abs ≤ 1 := abs_le.2 ⟨by grind, by grind⟩
  have hm := mul_abs_le hB1 hL3
  obtain ⟨c, C, c1, c2, c3, -⟩ := val_mul b2 hL 2 (by rw [e2]; grind) (by decide) (by decide)
  have hx := mul_abs_le hB hL3
  have ex : (B - (u - 1 / 2)) * L = B * L - L * (u - 1 / 2) := by grind
  rw [ex] at hx
  have k5 := abs_le.1 hx
  have k6 := abs_le.1 c3
  have hC : (C - L * (u - 1 / 2)).abs ≤ 1 / 10000000 := abs_le.2 ⟨by grind, by grind⟩
  have hu2 : (L * (u - 1 / 2)).abs ≤ 3 := by
    have := mul_abs_le hL3 (show (u - 1 / 2).abs ≤ 1 from abs_le.2 ⟨by grind, by grind⟩)
    grind
  have k7 := abs_le.1 hu2
  obtain ⟨d, D, d1, d2, d3, -⟩ := val_quo hL vn (Rat.ne_of_gt hnp) hd 2 (by rw [e2, Rat.abs_of_nonneg (by grind)]; grind) (by decide) (by decide)
  have k8 := abs_le.1 d3
  obtain ⟨e, E, f1, f2, f3, -⟩ := val_quo d2 four_val64 (by decide +kernel) (show D / 4 * 4 = D from Rat.div_mul_cancel (by decide +kernel)) 2 (by rw [e2]; exact abs_le.2 ⟨by grind, by grind⟩) (by decide) (by decide)
  have k9 := abs_le.1 f3
  have k10 := abs_le.1 hC
  obtain ⟨f, F1, g1, g2, g3, -⟩ := val_add c2 f2 4 (by rw [e4]; exact abs_le.2 ⟨by grind, by grind⟩) (by decide) (by decide)
  have k11 := abs_le.1 g3
  obtain ⟨g, G1, h1, h2, h3', -⟩ := val_mul three_val64 d2 4 (by rw [e4]; exact abs_le.2 ⟨by grind, by grind⟩) (by decide) (by decide)
  have k12 := abs_le.1 h3'
  obtain ⟨h, H, i1, i2, i3, -⟩ := val_quo h2 four_val64 (by decide +kernel) (show G1 / 4 * 4 = G1 from Rat.div_mul_cancel (by decide +kernel)) 3 (by rw [e3]; exact abs_le.2 ⟨by grind, by grind⟩) (by decide) (by decide)
  have k13 := abs_le.1 i3
  obtain ⟨k, K, j1, j2, j3, -⟩ := val_add c2 i2 4 (by rw [e4]; exact abs_le.2 ⟨by grind, by grind⟩) (by decide) (by decide)
  have k14 := abs_le.1 j3
  exact ⟨a, b, c, d, e, f, g, h, k, F1, K, a1, b1, c1, d1, f1, g1, h1, i1, j1, g2, j2, abs_le.2 ⟨by grind, by grind⟩, abs_le.2 ⟨by grind, by grind⟩⟩
theorem seat_gap {R Z L q n : Rat} (s : Rat) (hR : (R - (L * s * 1 + (L * (s + n) * 1 - L * s * 1) * q)).abs ≤ 1 / 20000) (hZ : (Z - (L * s + L * n * q)).abs ≤ 1 / 1000000) : (R - Z).abs ≤ 1 / 1200 := by
  have k1 := abs_le.1 hR
  have k2 := abs_le.1 hZ
  exact abs_le.2 ⟨by grind, by grind⟩
theorem side_gap {I L s t q : Rat} (hI : (I - (L * s * 0 + (L * t * 0 - L * s * 0) * q)).abs ≤ 1 / 20000) : (I - 0).abs ≤ 1 / 1200 := by
  have k1 := abs_le.1 hI
  exact abs_le.2 ⟨by grind, by grind⟩
/-! ## the square -/
theorem Val.at32 {x : Nat} {v : Rat} (h : Val .f32 x v) : v = val32 x := by
  obtain ⟨-, s, m, p, e, rfl⟩ := h
  unfold val32
  rw [e]
theorem diag_ok : (List.range 9).all (fun d => match floatBits .add .f32 (floatOfInt .f32 ((d : Int) - 4)) 1109393408 with | some r => isNum32 r && decide ((val32 r - 40).abs ≤ 4) | none => false) = true := by decide +kernel
theorem diag_of {d : Nat} (hd : d < 9) : ∃ r, floatBits .add .f32 (floatOfInt .f32 ((d : Int) - 4)) 1109393408 = some r ∧ Num r ∧ (val32 r - 40).abs ≤ 4 := by
  have h := all_at diag_ok hd
  generalize floatBits .add .f32 (floatOfInt .f32 ((d : Int) - 4)) 1109393408 = q at *
  cases q with
  | none => simp at h
  | some r =>
    simp only [Bool.and_eq_true, decide_eq_true_eq] at h
    exact ⟨r, rfl, ⟨_, val_of_num32 h.1⟩, h.2⟩
theorem off_ok : (List.range 9).all (fun d => isNum32 (floatOfInt .f32 ((d : Int) - 4)) && decide ((val32 (floatOfInt .f32 ((d : Int) - 4))).abs ≤ 4)) = true := by decide +kernel
theorem rhs_ok : (List.range 17).all (fun d => isNum32 (floatOfInt .f32 ((d : Int) - 8)) && decide ((val32 (floatOfInt .f32 ((d : Int) - 8))).abs ≤ 8)) = true := by decide +kernel
/-- an entry of the square, a right side -/
def Ent (m i x : Nat) : Prop := Num x ∧ (val32 x - if i % (m + 1) = 0 then 40 else 0).abs ≤ 4
def Rhs (x : Nat) : Prop := Num x ∧ (val32 x).abs ≤ 8
theorem ent_off {m i d : Nat} (hd : d < 9) (h : ¬ i % (m + 1) = 0) : Ent m i (floatOfInt .f32 ((d : Int) - 4)) := by
  have := all_at off_ok hd
  simp only [Bool.and_eq_true, decide_eq_true_eq] at this
  refine ⟨⟨_, val_of_num32 this.1⟩, ?_⟩
  rw [if_neg h, show ∀ q : Rat, q - 0 = q from fun q => by grind]
  exact this.2
theorem ent_diag {m i r : Nat} (h : i % (m + 1) = 0) (h1 : Num r) (h2 : (val32 r - 40).abs ≤ 4) : Ent m i r := by
  refine ⟨h1, ?_⟩
  rw [if_pos h]
  exact h2
theorem rhs_of {d : Nat} (hd : d < 17) : Rhs (floatOfInt .f32 ((d : Int) - 8)) := by
  have := all_at rhs_ok hd
  simp only [Bool.and_eq_true, decide_eq_true_eq] at this
  exact ⟨⟨_, val_of_num32 this.1⟩, this.2⟩
def Ents (m : Nat) (xs : List Nat) : Prop := ∀ i x, xs[i]? = some x → Ent m i x
def Rhss (ys : List Nat) : Prop := ∀ (i : Nat) (x : Nat), ys[i]? = some x → Rhs x
theorem at_snoc {p : Nat → Nat → Prop} {xs : List Nat} {x : Nat} (h : ∀ i y, xs[i]? = some y → p i y) (hx : p xs.length x) : ∀ i y, (xs ++ [x])[i]? = some y → p i y := fun i y hd => by
  by_cases hi : i < xs.length
  · rw [List.getElem?_append_left hi] at hd
    exact h i y hd
  · rw [List.getElem?_append_right (by omega)] at hd
    cases hj : i - xs.length with
    | zero =>
      rw [hj] at hd
      have e : x = y := by simpa using hd
      have ei : i = xs.length := by omega
      subst e ei
      exact hx
    | succ j => rw [hj] at hd; simp at hd
theorem diag_iff : ∀ n, n < 6 → ∀ r, r < n → ∀ c, c < n → ((r * n + c) % (n + 1) = 0 ↔ r = c) := by decide
theorem getD_some {xs : List Nat} {i : Nat} (h : i < xs.length) : xs[i]? = some (xs.getD i 0) := by
  rw [List.getD_eq_getElem?_getD, List.getElem?_eq_getElem h]
  rfl
theorem idx_lt {r c n : Nat} (hr : r < n) (hc : c < n) : r * n + c < n * n := by
  have h1 : (r + 1) * n ≤ n * n := Nat.mul_le_mul_right n hr
  have h2 : (r + 1) * n = r * n + n := Nat.succ_mul r n
  omega
/-- the square that the law makes is one that can be solved -/
theorem square_bnd {n : Nat} {xs ys : List Nat} (h5 : n ≤ 5) (hx : xs.length = n * n) (hy : ys.length = n) (hE : Ents n xs) (hR : Rhss ys) :
    (∀ r c, r < n → c < n → Val .f32 (xs.getD (r * n + c) 0) (val32 (xs.getD (r * n + c) 0))) ∧ (∀ r, r < n → Val .f32 (ys.getD r 0) (val32 (ys.getD r 0))) ∧ Bnd n 0 (fun r c => val32 (xs.getD (r * n + c) 0)) (fun r => val32 (ys.getD r 0)) := by
  have hA : ∀ r c, r < n → c < n → Ent n (r * n + c) (xs.getD (r * n + c) 0) := fun r c hr hc => hE _ _ (getD_some (by rw [hx]; exact idx_lt hr hc))
  have hB : ∀ r, r < n → Rhs (ys.getD r 0) := fun r hr => hR _ _ (getD_some (by omega))
  refine ⟨fun r c hr hc => ?_, fun r hr => ?_, fun r c _ hr _ hc => ?_, fun r _ hr => ?_⟩
  · obtain ⟨v, hv⟩ := (hA r c hr hc).1
    rw [← hv.at32]
    exact hv
  · obtain ⟨v, hv⟩ := (hB r hr).1
    rw [← hv.at32]
    exact hv
  · have h := (hA r c hr hc).2
    have hd := diag_iff n (by omega) r hr c hc
    show (val32 (xs.getD (r * n + c) 0) - unit40 r c).abs ≤ growD 0
    unfold unit40
    by_cases e : r = c
    · rw [if_pos (hd.2 e)] at h
      rw [if_pos e]
      exact h
    · rw [if_neg (fun q => e (hd.1 q))] at h
      rw [if_neg e]
      exact h
  · exact (hB r hr).2
/-- a row times the answer, a number at a time -/
theorem row_step {s a x : Nat} {S A X T : Rat} {j : Nat} (hs : Val .f64 s S) (ha : Val .f64 a A) (hx : Val .f64 x X) (hA : A.abs ≤ 44) (hX : X.abs ≤ 1 / 2) (hj : j < 5) (hT : T.abs ≤ (j : Rat) * 22) (hS : (S - T).abs ≤ (j : Rat) / 1000000) :
    ∃ p r R, floatBits .mul .f64 a x = some p ∧ floatBits .add .f64 s p = some r ∧ Val .f64 r R ∧ (T + A * X).abs ≤ ((j + 1 : Nat) : Rat) * 22 ∧ (R - (T + A * X)).abs ≤ ((j + 1 : Nat) : Rat) / 1000000 := by
  have e : ((j + 1 : Nat) : Rat) = (j : Rat) + 1 := by push_cast; rfl
  have c3 : (j : Rat) ≤ 4 := by
    have : ((4 : Nat) : Rat) = 4 := rfl
    rw [← this]
    exact Rat.natCast_le_natCast.2 (by omega)
  have c4 : (0 : Rat) ≤ (j : Rat) := Rat.natCast_nonneg
  have e5 : pw 5 = 32 := by decide +kernel
  have e7 : pw 7 = 128 := by decide +kernel
  have t5 : pw (5 - eps .f64) ≤ 1 / 100000000 := by decide +kernel
  have t7 : pw (7 - eps .f64) ≤ 1 / 100000000 := by decide +kernel
  have hm := mul_abs_le hA hX
  have k1 := abs_le.1 hm
  have k2 := abs_le.1 hT
  have k3 := abs_le.1 hS
  obtain ⟨p, P, p1, p2, p3, -⟩ := val_mul ha hx 5 (by rw [e5]; grind) (by decide) (by decide)
  have k4 := abs_le.1 p3
  obtain ⟨r, R, r1, r2, r3, -⟩ := val_add hs p2 7 (by rw [e7]; exact abs_le.2 ⟨by grind, by grind⟩) (by decide) (by decide)
  have k5 := abs_le.1 r3
  refine ⟨p, r, R, p1, r1, r2, ?_, ?_⟩
  · rw [e]; exact abs_le.2 ⟨by grind, by grind⟩
  · rw [e]; exact abs_le.2 ⟨by grind, by grind⟩
theorem row_gap {n : Nat} {A : Nat → Nat → Rat} {β x : Nat → Rat} {r : Nat} {S : Rat} (h5 : n ≤ 5) (h : (resid A β x 0 n r).abs ≤ 1 / 4096) (hS : (S - sr (fun c => A r c * x c) 0 n).abs ≤ (n : Rat) / 1000000) : (S - β r).abs ≤ 1 / 1200 := by
  unfold resid at h
  have c3 : (n : Rat) ≤ 5 := by
    have : ((5 : Nat) : Rat) = 5 := rfl
    rw [← this]
    exact Rat.natCast_le_natCast.2 (by omega)
  have k1 := abs_le.1 h
  have k2 := abs_le.1 hS
  exact abs_le.2 ⟨by grind, by grind⟩
end Go.Proofs.Ytfehhbmmdbpdpaa
/- What stands ready for the law's walk. -/
namespace Go.Proofs.Ytfehhbmmdbpdpaa
open Go Go.RowKit
set_option linter.unusedVariables false
set_option linter.unusedSimpArgs false

theorem near_apart {a b x : Rat} (h1 : (a - x).abs ≤ 1 / 300000) (h2 : (b - x).abs ≤ 1 / 400000) : (a - b).abs ≤ 1 / 110000 := by
  have k1 := abs_le.1 h1
  have k2 := abs_le.1 h2
  exact abs_le.2 ⟨by grind, by grind⟩
/-- the corners of an arc without rise lie where those of a flat plate lie -/
theorem arc_pair {w w' : World} {A B : Option Addr} {cs ds : List (Nat × Nat)} {n : Nat} {X Y : Nat → Rat} (hF : Flat w A cs n X Y (1 / 300000)) (hG : Flat w' B ds n X Y (1 / 400000)) {k : Nat} {c d : Nat × Nat} (hk : k < n) (hc : cs[k]? = some c) (hd : ds[k]? = some d) :
    ∃ r, fcmp .gtr .f64 r 4562254508917369340 = false ∧ ∀ w, Calls Try.prog 32 #[.complex .f32 c.1 c.2, .complex .f32 d.1 d.2] w fun e w' => w' = w ∧ e = .returned (.float .f64 r) := by
  obtain ⟨R1, I1, v1, u1, r1, i1⟩ := hF.near k c hc
  obtain ⟨R2, I2, v2, u2, r2, i2⟩ := hG.near k d hd
  obtain ⟨x1, x2⟩ := hF.bound k hk
  generalize X k = x at *
  generalize Y k = y at *
  exact apart_V v1 u1 v2 u2 (near_abs r1 (by grind)) (near_abs i1 (by grind)) (near_abs r2 (by grind)) (near_abs i2 (by grind)) (near_apart r1 r2) (near_apart i1 i2)
theorem wide_zero (w : World) : (convert 34 52 (.float .f32 0)).run Try.prog w = .ok (.float .f64 0) w := by
  obtain ⟨r, h1, h2⟩ := val_wide num_zero
  have h := run_wideF 0 (by decide) w
  rw [show F 0 = 0 from by decide +kernel, show G 0 = 0 from by decide +kernel] at h
  exact h
/-- plates without turns, arcs without rise -/
theorem zero_turn : ∃ C S : Rat, (∀ (n lb : Nat) (L : Rat) (w : World), 0 < n → n ≤ 9 → Val .f32 lb L → 1 / 4 ≤ L → L ≤ 3 →
      Calls Try.prog 31 #[.int .i64 n, .float .f32 lb, .float .f32 0] w fun e w' => Ext w w' ∧ ∃ g c cs, e = .returned (.tuple #[.agg #[.slice (some ⟨g, 0, none⟩) (n + 1) c], .bool true]) ∧ Flat w' (some ⟨g, 0, none⟩) cs (n + 1) (fun k => L * share k n * C) (fun k => L * share k n * S) (1 / 300000)) ∧
    (∀ (n lb : Nat) (L : Rat) (w : World), 0 < n → n ≤ 9 → Val .f32 lb L → 1 / 4 ≤ L → L ≤ 3 →
      Calls Try.prog 24 #[.int .i64 n, .float .f32 lb, .float .f32 0] w fun e w' => Ext w w' ∧ ∃ g c cs, e = .returned (.tuple #[.agg #[.slice (some ⟨g, 0, none⟩) (n + 1) c], .bool true]) ∧ Flat w' (some ⟨g, 0, none⟩) cs (n + 1) (fun k => L * share k n * C) (fun k => L * share k n * S) (1 / 400000)) :=
  ⟨valQ (rotC 0), valQ (rotS 0), fun n lb L w h1 h2 h3 h4 h5 => ArcPlate_V w h1 h2 h3 h4 h5, fun n lb L w h1 h2 h3 h4 h5 => FlatPlate_V w h1 h2 h3 h4 h5 ⟨0, num_zero⟩ wide_zero okT_zero absSmall_zero⟩
end Go.Proofs.Ytfehhbmmdbpdpaa
/- What stands ready for the law's square. -/
namespace Go.Proofs.Ytfehhbmmdbpdpaa
open Go Go.RowKit
set_option linter.unusedVariables false
set_option linter.unusedSimpArgs false

theorem owns_cap {w : World} {B size n g cap : Nat} {e : TypeId} {xs : List Value} (h : w.ownsRow B e size (.slice (some ⟨g, 0, none⟩) n cap) n xs) : n ≤ cap := by
  obtain ⟨-, h2⟩ := h
  rcases h2 with ⟨h0, -⟩ | ⟨g', cap', cur, hv, -, -, hc, -⟩
  · cases h0
  · simp only [Value.slice.injEq] at hv
    omega
/-- a made square can be solved -/
theorem Solve_W {ga gb ca cb m M : Nat} {xs ys : List Nat} (w : World) (hM : M = m * m) (h1 : 1 ≤ m) (h5 : m ≤ 5) (hA : Lies w 34 (some ⟨ga, 0, none⟩) (fltB xs)) (hb : Lies w 34 (some ⟨gb, 0, none⟩) (fltB ys)) (hx : xs.length = M) (hy : ys.length = m) (hcap : M ≤ ca) (hE : Ents m xs) (hR : Rhss ys) :
    Calls Try.prog 33 #[.slice (some ⟨ga, 0, none⟩) M ca, .slice (some ⟨gb, 0, none⟩) m cb] w fun e w' => Ext w w' ∧
      ∃ g c v x, e = .returned (.tuple #[.slice (some ⟨g, 0, none⟩) m c, .bool true]) ∧ Vec w' g m v ∧ (∀ j, j < m → Val .f32 (v j) (x j) ∧ (x j).abs ≤ 1 / 2) ∧ ∀ r, r < m → (resid (fun r c => val32 (xs.getD (r * m + c) 0)) (fun r => val32 (ys.getD r 0)) x 0 m r).abs ≤ 1 / 4096 := by
  subst hM
  obtain ⟨s1, s2, s3⟩ := square_bnd h5 hx hy hE hR
  exact Solve_V ga 0 ca gb 0 cb m xs ys _ _ w hA hb hx hy h1 h5 hcap s1 s2 s3
theorem zero_get (k i : Nat) : (List.replicate k 0).getD i 0 = 0 := by
  rw [List.getD_eq_getElem?_getD, List.getElem?_replicate]
  split <;> rfl
theorem made_lies (w : World) (k : Nat) : Lies (w.alloc (.cells (madeCells #[.float .f32 0] k) 34)) 34 (some ⟨w.heap.size, 0, none⟩) (fltB (List.replicate k 0)) := by
  have h := lies_newY w 34 (madeCells #[.float .f32 0] k)
  rw [toList_madeCells_one] at h
  unfold fltB
  rw [List.map_replicate]
  exact h
theorem Solve_Z {gb cb m M : Nat} {ys : List Nat} (g : Nat) (w : World) (hM : M = m * m) (h1 : 1 ≤ m) (h5 : m ≤ 5) (hA : Lies w 34 (some ⟨g, 0, none⟩) (fltB (List.replicate M 0))) (hb : Lies w 34 (some ⟨gb, 0, none⟩) (fltB ys)) (hy : ys.length = m) (hR : Rhss ys) :
    Calls Try.prog 33 #[.slice (some ⟨g, 0, none⟩) M M, .slice (some ⟨gb, 0, none⟩) m cb] w fun e w' => Ext w w' ∧ e = .returned (.tuple #[.slice none 0 0, .bool false]) := by
  subst hM
  refine Solve_zero g 0 (m * m) gb 0 cb m (List.replicate (m * m) 0) ys (fun _ _ => 0) (fun r => val32 (ys.getD r 0)) w hA hb (by simp) hy h1 h5 (Nat.le_refl _) (zero_get _) (fun r c _ _ => by rw [zero_get]; exact num_zero) (fun r hr => ?_)
  obtain ⟨v, hv⟩ := (hR r _ (getD_some (by omega))).1
  rw [← hv.at32]
  exact hv
/-- the entries that a row step asks for -/
theorem ents_at {m M r c : Nat} {xs : List Nat} (hM : M = m * m) (hx : xs.length = M) (hE : Ents m xs) (hr : r < m) (hc : c < m) : ∃ a, Val .f32 (xs.getD (r * m + c) 0) (val32 (xs.getD (r * m + c) 0)) ∧ (val32 (xs.getD (r * m + c) 0)).abs ≤ 44 ∧ xs[r * m + c]? = some a ∧ a = xs.getD (r * m + c) 0 := by
  have hi : r * m + c < xs.length := by rw [hx, hM]; exact idx_lt hr hc
  obtain ⟨⟨v, hv⟩, h2⟩ := hE _ _ (getD_some hi)
  refine ⟨_, by rw [← hv.at32]; exact hv, ?_, getD_some hi, rfl⟩
  have k1 := abs_le.1 h2
  by_cases e : (r * m + c) % (m + 1) = 0
  · rw [if_pos e] at k1
    exact abs_le.2 ⟨by grind, by grind⟩
  · rw [if_neg e] at k1
    exact abs_le.2 ⟨by grind, by grind⟩
/-- a row's sum, so far -/
def Sums (A x : Nat → Rat) (c sb : Nat) : Prop := ∃ S, Val .f64 sb S ∧ (sr (fun c => A c * x c) 0 c).abs ≤ (c : Rat) * 22 ∧ (S - sr (fun c => A c * x c) 0 c).abs ≤ (c : Rat) / 1000000
theorem Sums.start (A x : Nat → Rat) : Sums A x 0 0 := by
  refine ⟨0, num0_64, ?_, ?_⟩ <;> rw [sr_self, show ((0 : Nat) : Rat) = 0 from rfl] <;> decide +kernel
theorem Sums.next {A x : Nat → Rat} {c sb a y : Nat} (h : Sums A x c sb) (ha : Val .f64 a (A c)) (hy : Val .f64 y (x c)) (hA : (A c).abs ≤ 44) (hX : (x c).abs ≤ 1 / 2) (hc : c < 5) : ∃ p r, floatBits .mul .f64 a y = some p ∧ floatBits .add .f64 sb p = some r ∧ Sums A x (c + 1) r := by
  obtain ⟨S, h1, h2, h3⟩ := h
  obtain ⟨p, r, R, q1, q2, q3, q4, q5⟩ := row_step h1 ha hy hA hX hc h2 h3
  exact ⟨p, r, q1, q2, R, q3, by rw [sr_succ]; exact q4, by rw [sr_succ]; exact q5⟩
theorem Sums.gap {A : Nat → Nat → Rat} {β x : Nat → Rat} {m r sb bb : Nat} (h : Sums (A r) x m sb) (h5 : m ≤ 5) (hres : (resid A β x 0 m r).abs ≤ 1 / 4096) (hb : Val .f64 bb (β r)) :
    ∃ r, fcmp .gtr .f64 r 4562254508917369340 = false ∧ ∀ w, Calls Try.prog 21 #[.float .f64 sb, .float .f64 bb] w fun e w' => w' = w ∧ e = .returned (.float .f64 r) := by
  obtain ⟨S, h1, h2, h3⟩ := h
  exact gap_V h1 hb (row_gap h5 hres h3)
end Go.Proofs.Ytfehhbmmdbpdpaa
/- The law FnFlatPlates: for all arguments it answers true, and changes nothing that was there. -/
namespace Go.Proofs.Ytfehhbmmdbpdpaa
open Go Go.RowKit
set_option linter.unusedVariables false
set_option linter.unusedSimpArgs false
attribute [local go_sem] run_store_float run_store_complex

set_option maxRecDepth 100000 in
set_option maxHeartbeats 40000000 in
theorem lawFlat (A1 A2 : Option Addr) (n1 n2 c1 c2 : Nat) (w : World) (hb1 : Bytes w A1 n1) (hb2 : Bytes w A2 n2) :
    Calls Try.prog 5 #[.slice A1 n1 c1, .slice A2 n2 c2] w fun e w' => Ext w w' ∧ e = .returned (.bool true) := by
  have HB1 := Lib.hid hb1
  have HB2 := Lib.hid hb2
  clear hb1 hb2
  go_enter Try.func5, Try.ntmps5
  go_wp2_with fail
  refine (b10Long_any A1 A2 n1 n2 c1 c2 _).mono ?_
  rintro e w0 ⟨rfl, rfl⟩
  by_cases hlong : 1048576 < n1 ∨ 1048576 < n2
  · rw [decide_eq_true hlong]
    go_wp2_with fail
    go_ret
    exact ⟨Ext.rfl' _, rfl⟩
  · rw [decide_eq_false hlong]
    have HN1 := Lib.hid (show n1 ≤ 1048576 by omega)
    have HN2 := Lib.hid (show n2 ≤ 1048576 by omega)
    clear hlong
    go_wp2_with fail
    refine (b10At_V A1 n1 c1 0 8 _ HB1.out HN1.out (by decide) (by decide) (by decide)).mono ?_
    rintro e w1 ⟨rfl, d0, hd0, rfl⟩
    obtain ⟨n, hn⟩ : ∃ n, n = d0 + 1 := ⟨_, rfl⟩
    have hwn : IntKind.i64.wrap (1 + (d0 : Int)) = (n : Int) := by rw [IntWalk.i64_in _ (by omega)]; omega
    have HN := Lib.hid (show 0 < n ∧ n ≤ 8 by omega)
    clear hd0 hn
    go_wp2_with fail
    refine (b10At_V A1 n1 c1 1 12 _ HB1.out HN1.out (by decide) (by decide) (by decide)).mono ?_
    rintro e w1 ⟨rfl, d1, hd1, rfl⟩
    obtain ⟨lb, L, hl1, hl2, hl3, hl4⟩ := long_of hd1
    have hwl : IntKind.i64.wrap (1 + (d1 : Int)) = ((d1 + 1 : Nat) : Int) := by rw [IntWalk.i64_in _ (by omega)]; omega
    have HL := Lib.hid (show Val .f32 lb L ∧ 1 / 4 ≤ L ∧ L ≤ 3 from ⟨hl2, hl3, hl4⟩)
    generalize (d1 + 1 : Nat) = m1 at *
    clear hd1 hl2 hl3 hl4 hwn
    go_wp2_with (refine wpList_floatD rfl .quo _ _ _ _ rfl (by simp) _ _ _ rfl rfl _ hl1 ?_)
    clear hwl hl1
    refine (b10At_V A1 n1 c1 2 33 _ HB1.out HN1.out (by decide) (by decide) (by decide)).mono ?_
    rintro e w1 ⟨rfl, t, ht, rfl⟩
    obtain ⟨sb, nb, hs1, hs2, hs3, hs4, hs5, hs6, hs7, hs8, hs9, hs10, hs11, hs12⟩ := turn_of ht
    have hwt : IntKind.i64.wrap ((t : Int) - 16) = (t : Int) - 16 := by rw [IntWalk.i64_in _ (by omega)]
    have HT := Lib.hid (And.intro hs7 (And.intro hs9 (And.intro hs11 hs12)))
    have HNB := Lib.hid hs2
    have HS3 := Lib.hid hs3
    have HS4 := Lib.hid hs4
    have HS5 := Lib.hid hs5
    have HS6 := Lib.hid hs6
    have HS8 := Lib.hid hs8
    have HS10 := Lib.hid hs10
    clear ht hs2 hs3 hs4 hs5 hs6 hs7 hs8 hs9 hs10 hs11 hs12
    go_wp2_with (refine wpList_floatD rfl .quo _ _ _ _ rfl (by simp) _ _ _ rfl rfl _ hs1 ?_)
    clear hwt hs1
    generalize turnY t = yt at *
    generalize backY t = yb at *
    refine (FlatPlate_V _ HN.out.1 (by have := HN.out.2; omega) HL.out.1 HL.out.2.1 HL.out.2.2 HS3.out HS5.out HT.out.1 HS8.out).mono ?_
    rintro e w2 ⟨he, g1, q1, cs, rfl, hf⟩
    have HE2 := Lib.hid he
    have HF2 := Lib.hid hf
    have HBp := Lib.hid (Blk.new w2 58 #[.slice (some ⟨g1, 0, none⟩) (n + 1) q1])
    have HE3 := Lib.hid (show Ext w1 (w2.alloc (.cells #[.slice (some ⟨g1, 0, none⟩) (n + 1) q1] 58)) by (repeat first | with_reducible exact Ext.rfl' _ | with_reducible refine Ext.drewN ?_ _ | with_reducible refine Ext.drew' ?_ | with_reducible refine Ext.alloc' ?_ _ | with_reducible refine Ext.setCell_at ?_ _ _ _ (by first | exact Nat.le_refl _ | omega) | with_reducible assumption | refine Ext.trans ?_ (by with_reducible assumption)))
    have HF3 := Lib.hid (hf.ext (show Ext w2 (w2.alloc (.cells #[.slice (some ⟨g1, 0, none⟩) (n + 1) q1] 58)) by (repeat first | with_reducible exact Ext.rfl' _ | with_reducible refine Ext.drewN ?_ _ | with_reducible refine Ext.drew' ?_ | with_reducible refine Ext.alloc' ?_ _ | with_reducible refine Ext.setCell_at ?_ _ _ _ (by first | exact Nat.le_refl _ | omega) | with_reducible assumption | refine Ext.trans ?_ (by with_reducible assumption))))
    clear he hf
    go_wp2_with fail
    generalize (w2.alloc (.cells #[.slice (some ⟨g1, 0, none⟩) (n + 1) q1] 58)) = W3 at *
    generalize w2.heap.size = gp at *
    refine (PlateLong_V _ cs _ HN.out.1 (by have := HN.out.2; omega) HL.out.2.1 HL.out.2.2 HT.out.1.bc HT.out.1.bs HT.out.1.one HF3.out).mono ?_
    rintro e w4 ⟨he, tb, T, rfl, ht1, ht2⟩
    have HTL := Lib.hid (And.intro ht1 ht2)
    have HE4 := Lib.hid (Ext.trans HE3.out he)
    have HF4 := Lib.hid (HF3.out.ext he)
    have HB4 := Lib.hid (HBp.out.ext he)
    clear he ht1 ht2 HE3 HF3 HBp HE2 HF2
    have d0 : w4.cell? ⟨gp, 0, none⟩ = some (.slice (some ⟨g1, 0, none⟩) (n + 1) q1) := HB4.out.cell 0
    go_wp2_with (refine wpList_negD rfl _ _ rfl _ _ rfl _ HNB.out ?_)
    refine (TurnPlate_V _ cs _ HN.out.1 (by have := HN.out.2; omega) HL.out.2.1 HL.out.2.2 HT.out.1.bc HT.out.1.bs HF4.out HS4.out HS6.out HT.out.2.1 HS10.out HT.out.2.2.1 HT.out.2.2.2).mono ?_
    rintro e w5 ⟨he, g2, q2, bs, rfl, hf⟩
    have HE5 := Lib.hid (Ext.trans HE4.out he)
    have HF5 := Lib.hid (HF4.out.ext he)
    have HB5 := Lib.hid (HB4.out.ext he)
    have HG5 := Lib.hid hf
    clear he hf d0 HE4 HF4 HB4
    have HBb := Lib.hid (Blk.new w5 58 #[.slice (some ⟨g2, 0, none⟩) (n + 1) q2])
    have HX6 := Lib.hid (show Ext w5 (w5.alloc (.cells #[.slice (some ⟨g2, 0, none⟩) (n + 1) q2] 58)) by (repeat first | with_reducible exact Ext.rfl' _ | with_reducible refine Ext.drewN ?_ _ | with_reducible refine Ext.drew' ?_ | with_reducible refine Ext.alloc' ?_ _ | with_reducible refine Ext.setCell_at ?_ _ _ _ (by first | exact Nat.le_refl _ | omega) | with_reducible assumption | refine Ext.trans ?_ (by with_reducible assumption)))
    go_wp2_with fail
    generalize (w5.alloc (.cells #[.slice (some ⟨g2, 0, none⟩) (n + 1) q2] 58)) = W6 at *
    generalize w5.heap.size = gb at *
    have HE6 := Lib.hid (Ext.trans HE5.out HX6.out)
    have HF6 := Lib.hid (HF5.out.ext HX6.out)
    have HG6 := Lib.hid (HG5.out.ext HX6.out)
    have HB6 := Lib.hid (HB5.out.ext HX6.out)
    clear HX6 HE5 HF5 HG5 HB5
    refine (SeatsOf_V _ q2 n bs _ _ _ _ HG6.out).mono ?_
    rintro e w7 ⟨he, ga, qa, ss, rfl, ha1, ha2, ha3⟩
    have HE7 := Lib.hid (Ext.trans HE6.out he)
    have HF7 := Lib.hid (HF6.out.ext he)
    have HG7 := Lib.hid (HG6.out.ext he)
    have HB7 := Lib.hid (HB6.out.ext he)
    have HC7 := Lib.hid (HBb.out.ext he)
    have HA7 := Lib.hid ha1
    have HSN := Lib.hid (And.intro ha2 ha3)
    clear he ha1 ha2 ha3 HE6 HF6 HG6 HB6 HBb
    have d0 : w7.cell? ⟨gb, 0, none⟩ = some (.slice (some ⟨g2, 0, none⟩) (n + 1) q2) := HC7.out.cell 0
    go_wp2_with fail
    clear d0
    refine (ChecksOf_V _ q2 n bs _ _ _ _ HG7.out).mono ?_
    rintro e w8 ⟨he, gc, qc, ks, rfl, ha1, ha2, ha3⟩
    have HE8 := Lib.hid (Ext.trans HE7.out he)
    have HF8 := Lib.hid (HF7.out.ext he)
    have HB8 := Lib.hid (HB7.out.ext he)
    have HA8 := Lib.hid (HA7.out.ext he)
    have HK8 := Lib.hid ha1
    have HKN := Lib.hid (And.intro ha2 ha3)
    clear he ha1 ha2 ha3 HE7 HF7 HG7 HB7 HC7 HA7
    have d0 : w8.cell? ⟨gp, 0, none⟩ = some (.slice (some ⟨g1, 0, none⟩) (n + 1) q1) := HB8.out.cell 0
    go_wp2_with fail
    clear d0
    refine (NormalsOf_V _ q1 n cs _ _ _ _ HF8.out).mono ?_
    rintro e w9 ⟨he, gn, qn, us, rfl, ha1, ha2, ha3⟩
    have HE9 := Lib.hid (Ext.trans HE8.out he)
    have HB9 := Lib.hid (HB8.out.ext he)
    have HA9 := Lib.hid (HA8.out.ext he)
    have HK9 := Lib.hid (HK8.out.ext he)
    have HU9 := Lib.hid ha1
    have HUN := Lib.hid (And.intro ha2 ha3)
    clear he ha1 ha2 ha3 HE8 HF8 HB8 HA8 HK8
    obtain ⟨tw, htw1, htw2⟩ := val_wide HTL.out.1
    obtain ⟨lw, hlw1, hlw2⟩ := val_wide HL.out.1
    obtain ⟨gt, hgt1, hgt2⟩ := gap_V htw1 hlw1 (by have := HTL.out.2; grind)
    have HLW := Lib.hid (show Val .f64 lw L from hlw1)
    have HCV := Lib.hid hlw2
    have HGT := Lib.hid hgt2
    have d0 : w9.cell? ⟨gp, 0, none⟩ = some (.slice (some ⟨g1, 0, none⟩) (n + 1) q1) := HB9.out.cell 0
    have hwn : IntKind.i64.wrap ((n : Int) + 1) = (n : Int) + 1 := by have := HN.out.2; rw [IntWalk.i64_in _ (by omega)]
    clear htw1 hlw1 hgt2
    go_wp2_with fail
    refine (HGT.out _).mono ?_
    rintro e w10 ⟨rfl, rfl⟩
    go_wp2_with (refine wpList_fcmpD rfl .gtr _ _ _ _ rfl rfl _ _ _ rfl rfl _ hgt1 ?_)
    have HC := Lib.hid hlw2
    clear htw2 hlw2 hgt1 d0 hwn HCV HGT
    go_loopw [149] (fun i wr => ∃ k : Nat, k ≤ n ∧ i = .int .i64 k ∧ Ext w10 wr) (fun i _ => n - (intOf i).toNat)
    case atStart => exact ⟨0, Nat.zero_le _, rfl, Ext.rfl' _⟩
    case round =>
      obtain ⟨k, hk, rfl, hbel⟩ := hrel
      have HE := Lib.hid hbel
      clear hbel
      by_cases hlt : k < n
      · as_aux_lemma =>
          obtain ⟨s0, hs0⟩ : ∃ c, ss[k]? = some c := ⟨ss[k]'(by have := HSN.out.1; omega), List.getElem?_eq_getElem _⟩
          obtain ⟨s1, hs1⟩ : ∃ c, ks[k]? = some c := ⟨ks[k]'(by have := HKN.out.1; omega), List.getElem?_eq_getElem _⟩
          obtain ⟨s2, hs2⟩ : ∃ c, us[k]? = some c := ⟨us[k]'(by have := HUN.out.1; omega), List.getElem?_eq_getElem _⟩
          obtain ⟨b1, o1, q1, hbw1, hcc1⟩ := HA9.out.cell (by rw [cpxB_len, HSN.out.1]; omega)
          cases q1
          have e0 := (HE.out.cell (p := ⟨ga, 0 + k, none⟩) hbw1).trans (hcc1 _ _ (cpxB_at hs0))
          obtain ⟨b1, o1, q1, hbw2, hcc2⟩ := HK9.out.cell (by rw [cpxB_len, HKN.out.1]; omega)
          cases q1
          have e1 := (HE.out.cell (p := ⟨gc, 0 + k, none⟩) hbw2).trans (hcc2 _ _ (cpxB_at hs1))
          obtain ⟨b1, o1, q1, hbw3, hcc3⟩ := HU9.out.cell (by rw [cpxB_len, HUN.out.1]; omega)
          cases q1
          have e2 := (HE.out.cell (p := ⟨gn, 0 + k, none⟩) hbw3).trans (hcc3 _ _ (cpxB_at hs2))
          rw [Nat.zero_add] at e0 e1 e2
          obtain ⟨R1, I1, v1, -, r1, -⟩ := HSN.out.2 k s0 hs0
          obtain ⟨R2, I2, v2, u2, r2, i2⟩ := HKN.out.2 k s1 hs1
          obtain ⟨R3, I3, v3, u3, a3, b3, n3⟩ := HUN.out.2 k s2 hs2
          obtain ⟨T3, t, t1, t2, t3⟩ := specLong_Q v3 u3 (by grind) (by grind)
          have hu3 := unit_long n3 t2
          obtain ⟨x1, y1, z1⟩ := val_wide v1
          obtain ⟨x2, y2, z2⟩ := val_wide v2
          obtain ⟨x3, y3, z3⟩ := val_wide u2
          obtain ⟨x4, y4, z4⟩ := val_wide t1
          obtain ⟨a, b, c, d, e, f, g, h, m, Z1, Z3, f1, f2, f3, f4, f5, f6, f7, f8, f9, p1, p3, p4, p5⟩ := left_vals HLW.out HL.out.2.1 HL.out.2.2 HN.out.1 (by have := HN.out.2; omega) hlt
          have hstep : share (k + 1) n = share k n + 1 / (n : Rat) := by have := share_step k n HN.out.1; grind
          have r1' : (R1 - (L * share k n * 1 + (L * (share k n + 1 / (n : Rat)) * 1 - L * share k n * 1) * (1 / 4))).abs ≤ 1 / 20000 := by rw [← hstep]; exact r1
          have r2' : (R2 - (L * share k n * 1 + (L * (share k n + 1 / (n : Rat)) * 1 - L * share k n * 1) * (3 / 4))).abs ≤ 1 / 20000 := by rw [← hstep]; exact r2
          obtain ⟨w1', j1, G1⟩ := gap_V y1 p1 (seat_gap (share k n) r1' p4)
          obtain ⟨w2', j2, G2⟩ := gap_V y2 p3 (seat_gap (share k n) r2' p5)
          obtain ⟨w3', j3, G3⟩ := gap_V y3 num0_64 (side_gap i2)
          obtain ⟨w4', j4, G4⟩ := gap_V y4 one_val64 (by grind)
          have H1 := Lib.hid G1
          have H2 := Lib.hid G2
          have H3 := Lib.hid G3
          have H4 := Lib.hid G4
          have H5 := Lib.hid t3
          have hlw := HC.out
          have hkn : (k : Int) < (n : Int) := by omega
          have hk0 : (0 : Int) ≤ (k : Int) := by omega
          have hk1 : IntKind.i64.wrap ((k : Int) + 1) = ((k + 1 : Nat) : Int) := by have := HN.out.2; rw [IntWalk.i64_in _ (by omega)]; omega
          clear hs0 hs1 hs2 hcc1 hcc2 hcc3 v1 r1 v2 u2 r2 i2 v3 u3 a3 b3 n3 t1 t2 t3 hu3 y1 y2 y3 y4 p1 p3 p4 p5 hstep r1' r2' G1 G2 G3 G4
          go_wp2_with (first
            | (refine wpList_floatD rfl .quo _ _ _ _ rfl (by simp) _ _ _ rfl rfl _ f1 ?_)
            | (refine wpList_floatD rfl .sub _ _ _ _ rfl (by simp) _ _ _ rfl rfl _ f2 ?_)
            | (refine wpList_floatD rfl .mul _ _ _ _ rfl (by simp) _ _ _ rfl rfl _ f3 ?_)
            | (refine wpList_floatD rfl .quo _ _ _ _ rfl (by simp) _ _ _ rfl rfl _ f4 ?_)
            | (refine wpList_floatD rfl .quo _ _ _ _ rfl (by simp) _ _ _ rfl rfl _ f5 ?_)
            | (refine wpList_floatD rfl .add _ _ _ _ rfl (by simp) _ _ _ rfl rfl _ f6 ?_)
            | (refine wpList_floatD rfl .mul _ _ _ _ rfl (by simp) _ _ _ rfl rfl _ f7 ?_)
            | (refine wpList_floatD rfl .quo _ _ _ _ rfl (by simp) _ _ _ rfl rfl _ f8 ?_)
            | (refine wpList_floatD rfl .add _ _ _ _ rfl (by simp) _ _ _ rfl rfl _ f9 ?_)
            | (refine wpList_fcmpD rfl .gtr _ _ _ _ rfl rfl _ _ _ rfl rfl _ j1 ?_)
            | (refine wpList_fcmpD rfl .gtr _ _ _ _ rfl rfl _ _ _ rfl rfl _ j2 ?_)
            | (refine wpList_fcmpD rfl .gtr _ _ _ _ rfl rfl _ _ _ rfl rfl _ j3 ?_)
            | (refine wpList_fcmpD rfl .gtr _ _ _ _ rfl rfl _ _ _ rfl rfl _ j4 ?_))
          refine (H1.out _).mono ?_
          rintro e' wz ⟨rfl, rfl⟩
          go_wp2_with (first
            | (refine wpList_floatD rfl .quo _ _ _ _ rfl (by simp) _ _ _ rfl rfl _ f1 ?_)
            | (refine wpList_floatD rfl .sub _ _ _ _ rfl (by simp) _ _ _ rfl rfl _ f2 ?_)
            | (refine wpList_floatD rfl .mul _ _ _ _ rfl (by simp) _ _ _ rfl rfl _ f3 ?_)
            | (refine wpList_floatD rfl .quo _ _ _ _ rfl (by simp) _ _ _ rfl rfl _ f4 ?_)
            | (refine wpList_floatD rfl .quo _ _ _ _ rfl (by simp) _ _ _ rfl rfl _ f5 ?_)
            | (refine wpList_floatD rfl .add _ _ _ _ rfl (by simp) _ _ _ rfl rfl _ f6 ?_)
            | (refine wpList_floatD rfl .mul _ _ _ _ rfl (by simp) _ _ _ rfl rfl _ f7 ?_)
            | (refine wpList_floatD rfl .quo _ _ _ _ rfl (by simp) _ _ _ rfl rfl _ f8 ?_)
            | (refine wpList_floatD rfl .add _ _ _ _ rfl (by simp) _ _ _ rfl rfl _ f9 ?_)
            | (refine wpList_fcmpD rfl .gtr _ _ _ _ rfl rfl _ _ _ rfl rfl _ j1 ?_)
            | (refine wpList_fcmpD rfl .gtr _ _ _ _ rfl rfl _ _ _ rfl rfl _ j2 ?_)
            | (refine wpList_fcmpD rfl .gtr _ _ _ _ rfl rfl _ _ _ rfl rfl _ j3 ?_)
            | (refine wpList_fcmpD rfl .gtr _ _ _ _ rfl rfl _ _ _ rfl rfl _ j4 ?_))
          refine (H2.out _).mono ?_
          rintro e' wz ⟨rfl, rfl⟩
          go_wp2_with (first
            | (refine wpList_floatD rfl .quo _ _ _ _ rfl (by simp) _ _ _ rfl rfl _ f1 ?_)
            | (refine wpList_floatD rfl .sub _ _ _ _ rfl (by simp) _ _ _ rfl rfl _ f2 ?_)
            | (refine wpList_floatD rfl .mul _ _ _ _ rfl (by simp) _ _ _ rfl rfl _ f3 ?_)
            | (refine wpList_floatD rfl .quo _ _ _ _ rfl (by simp) _ _ _ rfl rfl _ f4 ?_)
            | (refine wpList_floatD rfl .quo _ _ _ _ rfl (by simp) _ _ _ rfl rfl _ f5 ?_)
            | (refine wpList_floatD rfl .add _ _ _ _ rfl (by simp) _ _ _ rfl rfl _ f6 ?_)
            | (refine wpList_floatD rfl .mul _ _ _ _ rfl (by simp) _ _ _ rfl rfl _ f7 ?_)
            | (refine wpList_floatD rfl .quo _ _ _ _ rfl (by simp) _ _ _ rfl rfl _ f8 ?_)
            | (refine wpList_floatD rfl .add _ _ _ _ rfl (by simp) _ _ _ rfl rfl _ f9 ?_)
            | (refine wpList_fcmpD rfl .gtr _ _ _ _ rfl rfl _ _ _ rfl rfl _ j1 ?_)
            | (refine wpList_fcmpD rfl .gtr _ _ _ _ rfl rfl _ _ _ rfl rfl _ j2 ?_)
            | (refine wpList_fcmpD rfl .gtr _ _ _ _ rfl rfl _ _ _ rfl rfl _ j3 ?_)
            | (refine wpList_fcmpD rfl .gtr _ _ _ _ rfl rfl _ _ _ rfl rfl _ j4 ?_))
          refine (H3.out _).mono ?_
          rintro e' wz ⟨rfl, rfl⟩
          go_wp2_with (first
            | (refine wpList_floatD rfl .quo _ _ _ _ rfl (by simp) _ _ _ rfl rfl _ f1 ?_)
            | (refine wpList_floatD rfl .sub _ _ _ _ rfl (by simp) _ _ _ rfl rfl _ f2 ?_)
            | (refine wpList_floatD rfl .mul _ _ _ _ rfl (by simp) _ _ _ rfl rfl _ f3 ?_)
            | (refine wpList_floatD rfl .quo _ _ _ _ rfl (by simp) _ _ _ rfl rfl _ f4 ?_)
            | (refine wpList_floatD rfl .quo _ _ _ _ rfl (by simp) _ _ _ rfl rfl _ f5 ?_)
            | (refine wpList_floatD rfl .add _ _ _ _ rfl (by simp) _ _ _ rfl rfl _ f6 ?_)
            | (refine wpList_floatD rfl .mul _ _ _ _ rfl (by simp) _ _ _ rfl rfl _ f7 ?_)
            | (refine wpList_floatD rfl .quo _ _ _ _ rfl (by simp) _ _ _ rfl rfl _ f8 ?_)
            | (refine wpList_floatD rfl .add _ _ _ _ rfl (by simp) _ _ _ rfl rfl _ f9 ?_)
            | (refine wpList_fcmpD rfl .gtr _ _ _ _ rfl rfl _ _ _ rfl rfl _ j1 ?_)
            | (refine wpList_fcmpD rfl .gtr _ _ _ _ rfl rfl _ _ _ rfl rfl _ j2 ?_)
            | (refine wpList_fcmpD rfl .gtr _ _ _ _ rfl rfl _ _ _ rfl rfl _ j3 ?_)
            | (refine wpList_fcmpD rfl .gtr _ _ _ _ rfl rfl _ _ _ rfl rfl _ j4 ?_))
          refine (H5.out _).mono ?_
          rintro e' wz ⟨rfl, rfl⟩
          go_wp2_with (first
            | (refine wpList_floatD rfl .quo _ _ _ _ rfl (by simp) _ _ _ rfl rfl _ f1 ?_)
            | (refine wpList_floatD rfl .sub _ _ _ _ rfl (by simp) _ _ _ rfl rfl _ f2 ?_)
            | (refine wpList_floatD rfl .mul _ _ _ _ rfl (by simp) _ _ _ rfl rfl _ f3 ?_)
            | (refine wpList_floatD rfl .quo _ _ _ _ rfl (by simp) _ _ _ rfl rfl _ f4 ?_)
            | (refine wpList_floatD rfl .quo _ _ _ _ rfl (by simp) _ _ _ rfl rfl _ f5 ?_)
            | (refine wpList_floatD rfl .add _ _ _ _ rfl (by simp) _ _ _ rfl rfl _ f6 ?_)
            | (refine wpList_floatD rfl .mul _ _ _ _ rfl (by simp) _ _ _ rfl rfl _ f7 ?_)
            | (refine wpList_floatD rfl .quo _ _ _ _ rfl (by simp) _ _ _ rfl rfl _ f8 ?_)
            | (refine wpList_floatD rfl .add _ _ _ _ rfl (by simp) _ _ _ rfl rfl _ f9 ?_)
            | (refine wpList_fcmpD rfl .gtr _ _ _ _ rfl rfl _ _ _ rfl rfl _ j1 ?_)
            | (refine wpList_fcmpD rfl .gtr _ _ _ _ rfl rfl _ _ _ rfl rfl _ j2 ?_)
            | (refine wpList_fcmpD rfl .gtr _ _ _ _ rfl rfl _ _ _ rfl rfl _ j3 ?_)
            | (refine wpList_fcmpD rfl .gtr _ _ _ _ rfl rfl _ _ _ rfl rfl _ j4 ?_))
          refine (H4.out _).mono ?_
          rintro e' wz ⟨rfl, rfl⟩
          go_wp2_with (first
            | (refine wpList_floatD rfl .quo _ _ _ _ rfl (by simp) _ _ _ rfl rfl _ f1 ?_)
            | (refine wpList_floatD rfl .sub _ _ _ _ rfl (by simp) _ _ _ rfl rfl _ f2 ?_)
            | (refine wpList_floatD rfl .mul _ _ _ _ rfl (by simp) _ _ _ rfl rfl _ f3 ?_)
            | (refine wpList_floatD rfl .quo _ _ _ _ rfl (by simp) _ _ _ rfl rfl _ f4 ?_)
            | (refine wpList_floatD rfl .quo _ _ _ _ rfl (by simp) _ _ _ rfl rfl _ f5 ?_)
            | (refine wpList_floatD rfl .add _ _ _ _ rfl (by simp) _ _ _ rfl rfl _ f6 ?_)
            | (refine wpList_floatD rfl .mul _ _ _ _ rfl (by simp) _ _ _ rfl rfl _ f7 ?_)
            | (refine wpList_floatD rfl .quo _ _ _ _ rfl (by simp) _ _ _ rfl rfl _ f8 ?_)
            | (refine wpList_floatD rfl .add _ _ _ _ rfl (by simp) _ _ _ rfl rfl _ f9 ?_)
            | (refine wpList_fcmpD rfl .gtr _ _ _ _ rfl rfl _ _ _ rfl rfl _ j1 ?_)
            | (refine wpList_fcmpD rfl .gtr _ _ _ _ rfl rfl _ _ _ rfl rfl _ j2 ?_)
            | (refine wpList_fcmpD rfl .gtr _ _ _ _ rfl rfl _ _ _ rfl rfl _ j3 ?_)
            | (refine wpList_fcmpD rfl .gtr _ _ _ _ rfl rfl _ _ _ rfl rfl _ j4 ?_))
          exact ⟨⟨k + 1, by omega, by go_num, HE.out⟩, by simp [intOf]; omega⟩
      · have hkn : n = k := by omega
        have hkn2 : ¬ (k : Int) < (n : Int) := by omega
        have HE10 := Lib.hid (Ext.trans HE9.out HE.out)
        obtain ⟨N, hN⟩ : ∃ N, N = n + 1 := ⟨_, rfl⟩
        have hwn : IntKind.i64.wrap ((n : Int) + 1) = (N : Int) := by have := HN.out.2; rw [IntWalk.i64_in _ (by omega)]; omega
        have HNN := Lib.hid (show 0 < N ∧ N ≤ 9 by have := HN.out.2; omega)
        clear hN HE HE9 HB9 HA9 HK9 HU9 HSN HKN HUN HLW HC HTL HT HNB HS3 HS4 HS5 HS6 HS8 HS10
        subst hkn
        clear hk
        go_wp2_with fail
        obtain ⟨C, S, harc, hflt⟩ := zero_turn
        have HARC := Lib.hid harc
        have HFLT := Lib.hid hflt
        clear harc hflt
        refine (HARC.out N lb L _ HNN.out.1 HNN.out.2 HL.out.1 HL.out.2.1 HL.out.2.2).mono ?_
        rintro e w11 ⟨he, g3, q3, cz, rfl, hf⟩
        have HE11 := Lib.hid (Ext.trans HE10.out he)
        have HF11 := Lib.hid hf
        have HBa := Lib.hid (Blk.new w11 58 #[.slice (some ⟨g3, 0, none⟩) (N + 1) q3])
        have HX12 := Lib.hid (show Ext w11 (w11.alloc (.cells #[.slice (some ⟨g3, 0, none⟩) (N + 1) q3] 58)) by (repeat first | with_reducible exact Ext.rfl' _ | with_reducible refine Ext.drewN ?_ _ | with_reducible refine Ext.drew' ?_ | with_reducible refine Ext.alloc' ?_ _ | with_reducible refine Ext.setCell_at ?_ _ _ _ (by first | exact Nat.le_refl _ | omega) | with_reducible assumption | refine Ext.trans ?_ (by with_reducible assumption)))
        clear he hf HE10
        go_wp2_with fail
        generalize (w11.alloc (.cells #[.slice (some ⟨g3, 0, none⟩) (N + 1) q3] 58)) = W12 at *
        generalize w11.heap.size = ba at *
        have HE12 := Lib.hid (Ext.trans HE11.out HX12.out)
        have HF12 := Lib.hid (HF11.out.ext HX12.out)
        clear HX12 HE11 HF11
        refine (HFLT.out N lb L _ HNN.out.1 HNN.out.2 HL.out.1 HL.out.2.1 HL.out.2.2).mono ?_
        rintro e w13 ⟨he, g4, q4, fs, rfl, hf⟩
        have HE13 := Lib.hid (Ext.trans HE12.out he)
        have HF13 := Lib.hid (HF12.out.ext he)
        have HB13 := Lib.hid (HBa.out.ext he)
        have HG13 := Lib.hid hf
        clear he hf HE12 HF12 HBa
        have HBf := Lib.hid (Blk.new w13 58 #[.slice (some ⟨g4, 0, none⟩) (N + 1) q4])
        have HX14 := Lib.hid (show Ext w13 (w13.alloc (.cells #[.slice (some ⟨g4, 0, none⟩) (N + 1) q4] 58)) by (repeat first | with_reducible exact Ext.rfl' _ | with_reducible refine Ext.drewN ?_ _ | with_reducible refine Ext.drew' ?_ | with_reducible refine Ext.alloc' ?_ _ | with_reducible refine Ext.setCell_at ?_ _ _ _ (by first | exact Nat.le_refl _ | omega) | with_reducible assumption | refine Ext.trans ?_ (by with_reducible assumption)))
        have HB14 := Lib.hid (HB13.out.ext HX14.out)
        have d0 : w13.cell? ⟨ba, 0, none⟩ = some (.slice (some ⟨g3, 0, none⟩) (N + 1) q3) := HB13.out.cell 0
        have d00 : (w13.alloc (.cells #[.slice (some ⟨g4, 0, none⟩) (N + 1) q4] 58)).cell? ⟨ba, 0, none⟩ = some (.slice (some ⟨g3, 0, none⟩) (N + 1) q3) := HB14.out.cell 0
        have hbw : ba < w13.heap.size := HB13.out.lt
        go_wp2_with fail
        generalize (w13.alloc (.cells #[.slice (some ⟨g4, 0, none⟩) (N + 1) q4] 58)) = W14 at *
        generalize w13.heap.size = bf at *
        have HE14 := Lib.hid (Ext.trans HE13.out HX14.out)
        have HF14 := Lib.hid (HF13.out.ext HX14.out)
        have HG14 := Lib.hid (HG13.out.ext HX14.out)
        clear HX14 HE13 HF13 HG13 HB13 d0 d00 hbw
        go_loopw [246] (fun i wr => ∃ k : Nat, k ≤ N + 1 ∧ i = .int .i64 k ∧ Ext W14 wr) (fun i _ => N + 1 - (intOf i).toNat)
        case atStart => exact ⟨0, Nat.zero_le _, rfl, Ext.rfl' _⟩
        case round =>
          obtain ⟨k, hk, rfl, hbel⟩ := hrel
          have HE := Lib.hid hbel
          clear hbel
          by_cases hlt : k < N + 1
          · as_aux_lemma =>
              obtain ⟨s0, hs0⟩ : ∃ c, cz[k]? = some c := ⟨cz[k]'(by have := HF14.out.len; omega), List.getElem?_eq_getElem _⟩
              obtain ⟨s1, hs1⟩ : ∃ c, fs[k]? = some c := ⟨fs[k]'(by have := HG14.out.len; omega), List.getElem?_eq_getElem _⟩
              obtain ⟨b1, o1, q1, hbw1, hcc1⟩ := HF14.out.lies.cell (by rw [cpxB_len, HF14.out.len]; omega)
              cases q1
              have e0 := (HE.out.cell (p := ⟨g3, 0 + k, none⟩) hbw1).trans (hcc1 _ _ (cpxB_at hs0))
              obtain ⟨b1, o1, q1, hbw2, hcc2⟩ := HG14.out.lies.cell (by rw [cpxB_len, HG14.out.len]; omega)
              cases q1
              have e1 := (HE.out.cell (p := ⟨g4, 0 + k, none⟩) hbw2).trans (hcc2 _ _ (cpxB_at hs1))
              rw [Nat.zero_add] at e0 e1
              have d0 : wr.cell? ⟨ba, 0, none⟩ = some (.slice (some ⟨g3, 0, none⟩) (N + 1) q3) := (HB14.out.ext HE.out).cell 0
              have d1 : wr.cell? ⟨bf, 0, none⟩ = some (.slice (some ⟨g4, 0, none⟩) (N + 1) q4) := (HBf.out.ext HE.out).cell 0
              obtain ⟨r, j1, G1⟩ := arc_pair HF14.out HG14.out hlt hs0 hs1
              have HAP := Lib.hid G1
              have hgt := gtr_raw j1
              have hk0 : (0 : Int) ≤ (k : Int) := by omega
              have hkn : (k : Int) < (N : Int) + 1 := by omega
              have hk1 : IntKind.i64.wrap ((k : Int) + 1) = ((k + 1 : Nat) : Int) := by have := HNN.out.2; rw [IntWalk.i64_in _ (by omega)]; omega
              clear hs0 hs1 hcc1 hcc2 G1 j1 hwn hkn2
              go_wp2_with fail
              go_quiet ((go_at_call 32; exact Calls.quiet_of_same ((HAP.out _).mono fun e w' h => ⟨h.2, h.1⟩)))
              go_wp2_with fail
              exact ⟨⟨k + 1, by omega, by go_num, HE.out.drewN nq⟩, by simp [intOf]; omega⟩
          · have hkN : N + 1 = k := by omega
            have hkN2 : ¬ (k : Int) < (N : Int) + 1 := by omega
            have HEA := Lib.hid (Ext.trans HE14.out HE.out)
            have HBY1 := Lib.hid (HB1.out.ext HEA.out)
            have HBY2 := Lib.hid (HB2.out.ext HEA.out)
            clear HE HE14 HF14 HG14 HB14 HBf HNN HL HB1 HB2 HARC HFLT HN hwn hkn2 hk
            go_wp2_with fail
            refine (b10At_V A2 n2 c2 0 5 _ HBY2.out HN2.out (by decide) (by decide) (by decide)).mono ?_
            rintro e w15 ⟨rfl, d5, hd5, rfl⟩
            obtain ⟨m, hm⟩ : ∃ m, m = d5 + 1 := ⟨_, rfl⟩
            obtain ⟨M, hM⟩ : ∃ M, M = m * m := ⟨_, rfl⟩
            have hm5 : m ≤ 5 := by omega
            have hM25 : M ≤ 25 := by rw [hM]; exact Nat.mul_le_mul hm5 hm5
            have HMM := Lib.hid (show M = m * m ∧ 1 ≤ m ∧ m ≤ 5 ∧ M ≤ 25 from ⟨hM, by omega, hm5, hM25⟩)
            have hwm : IntKind.i64.wrap (1 + (d5 : Int)) = (m : Int) := by rw [IntWalk.i64_in _ (by omega)]; omega
            have hwM : IntKind.i64.wrap ((m : Int) * (m : Int)) = (M : Int) := by
              rw [show (m : Int) * (m : Int) = ((M : Nat) : Int) by rw [hM]; push_cast; rfl]
              exact IntWalk.i64_in _ (by omega)
            obtain ⟨i1, hi1, jz0, jz1, jz2⟩ := parts_of infoF
            have hz1 : (Value.float .f32 0).cells.size = 1 := by decide
            have HOWN := Lib.hid (show (w15.alloc (.cells #[] 34)).ownsRow w15.heap.size 34 1 (.slice (some ⟨w15.heap.size, 0, none⟩) 0 0) 0 [] from World.ownsRow_made (base := w15.heap.size) (e := 34) (size := 1) w15 #[] 0 (Nat.le_refl _) (by decide) rfl)
            have HE0 := Lib.hid (show Ext w15 (w15.alloc (.cells #[] 34)) by (repeat first | with_reducible exact Ext.rfl' _ | with_reducible refine Ext.drewN ?_ _ | with_reducible refine Ext.drew' ?_ | with_reducible refine Ext.alloc' ?_ _ | with_reducible refine Ext.setCell_at ?_ _ _ _ (by first | exact Nat.le_refl _ | omega) | with_reducible assumption | refine Ext.trans ?_ (by with_reducible assumption)))
            clear hd5 hm hM hm5 hM25 hkN hkN2
            go_wp2_with fail
            generalize w15.alloc (.cells #[] 34) = W16 at *
            clear hwm
            go_loopw [29, 30] (fun v i wr => ∃ (k gg cq : Nat) (xs : List Nat), k ≤ M ∧ i = .int .i64 k ∧ v = .slice (some ⟨gg, 0, none⟩) k cq ∧ wr.ownsRow w15.heap.size 34 1 v k (fltB xs) ∧ xs.length = k ∧ Ents m xs ∧ Ext w15 wr) (fun _ i _ => M - (intOf i).toNat)
            case atStart => exact ⟨0, w15.heap.size, 0, [], Nat.zero_le _, rfl, rfl, HOWN.out, rfl, fun i c h => by simp at h, HE0.out⟩
            case round =>
              obtain ⟨k, gg, cq, xs, hk, rfl, rfl, hown, hxs, hent, hbel⟩ := hrel
              have HOW := Lib.hid hown
              have HE := Lib.hid hbel
              have HEN := Lib.hid hent
              have HXS := Lib.hid hxs
              clear hown hbel HOWN HE0 hent hxs
              by_cases hlt : k < M
              · as_aux_lemma =>
                  have hkM : (k : Int) < (M : Int) := by omega
                  have hk1 : IntKind.i64.wrap ((k : Int) + 1) = ((k + 1 : Nat) : Int) := by have := HMM.out; rw [IntWalk.i64_in _ (by omega)]; omega
                  have HMK := Lib.hid hlt
                  clear hlt hk
                  go_wp2_with fail
                  refine (b10At_V A2 n2 c2 (k + 1) 9 _ (HBY2.out.ext HE.out) HN2.out (by have := HMM.out; have := HMK.out; omega) (by decide) (by decide)).mono ?_
                  rintro e wb ⟨rfl, d, hd, rfl⟩
                  have hwd : IntKind.i64.wrap ((d : Int) - 4) = (d : Int) - 4 := by rw [IntWalk.i64_in _ (by omega)]
                  have hwm1 : IntKind.i64.wrap ((m : Int) + 1) = (m : Int) + 1 := by have := HMM.out; rw [IntWalk.i64_in _ (by omega)]
                  have hm0 : (m : Int) + 1 ≠ 0 := by omega
                  have hrem : (k : Int).tmod ((m : Int) + 1) = ((k % (m + 1) : Nat) : Int) := by rw [Int.tmod_eq_emod_of_nonneg (by omega)]; rfl
                  obtain ⟨rb, hrb, hrn, hr4⟩ := diag_of hd
                  have HND := Lib.hid (show k % (m + 1) = 0 → Ents m (xs ++ [rb]) from fun hz => at_snoc HEN.out (by rw [HXS.out]; exact ent_diag hz hrn hr4))
                  have HNF := Lib.hid (show ¬ k % (m + 1) = 0 → Ents m (xs ++ [floatOfInt .f32 ((d : Int) - 4)]) from fun hz => at_snoc HEN.out (by rw [HXS.out]; exact ent_off hd hz))
                  have HMI := Lib.hid HMM.out
                  clear hrn hr4 hd
                  by_cases hz : k % (m + 1) = 0
                  focus
                    have HZ := Lib.hid hz
                    rw [hz] at hrem
                    have hrem : (k : Int).tmod ((m : Int) + 1) = 0 := hrem
                    have hw0 : IntKind.i64.wrap 0 = 0 := by decide
                    clear hz
                    go_wp2_with (first
                      | (at_builtin; refine Stand.of ?_)
                      | (refine wpList_floatD rfl .add _ _ _ _ rfl (by simp) _ _ _ rfl rfl _ hrb ?_))
                    have HNX := Lib.hid (HND.out HZ.out)
                    generalize rb = bits at *
                  rotate_left
                  focus
                    have HZ := Lib.hid hz
                    have hwz : IntKind.i64.wrap ((k % (m + 1) : Nat) : Int) = ((k % (m + 1) : Nat) : Int) := IntWalk.i64_in _ (by have := Nat.mod_lt k (show 0 < m + 1 by omega); have := HMM.out; omega)
                    have hnz : (((k % (m + 1) : Nat) : Int) == 0) = false := beq_eq_false_iff_ne.2 (by omega)
                    clear hz
                    generalize k % (m + 1) = zz at *
                    go_wp2_with (first | (at_builtin; refine Stand.of ?_))
                    have HNX := Lib.hid (HNF.out HZ.out)
                    generalize floatOfInt .f32 ((d : Int) - 4) = bits at *
                  all_goals
                    refine Stand.out ?_
                    refine wpList_append_lies _ rfl _ _ 67 rfl w15.heap.size 34 i1 _ 1 4 under_floats hi1 jz0 jz1 jz2 hz1 (by omega) (.slice (some ⟨gg, 0, none⟩) k cq) k (fltB xs) rfl (HOW.out.alloc _) ⟨wb.heap.size, 0, none⟩ 1 1 [.float .f32 bits] rfl rfl (World.news_of_block (cs := #[.float .f32 bits]) (t := 34) (fr := (0, 0)) (heap_alloc_new wb _)) (by simp [Value.oneCell']) (by omega) (by have := HMM.out; have := HMK.out; unfold maxLen; omega) (by have := HMM.out; have := HMK.out; omega) (by have := HE.out.size; simp; omega) _ rfl ?_
                    intro g2 c2' w8 hown8 hgrow hat8 hlt8
                    have hgl := HOW.out.lt
                    have HE8 := Lib.hid (Ext.grown (Ext.trans HE.out (Ext.alloc' (Ext.rfl' wb) _)) hgrow (fun k hk => (hgl k hk).1))
                    have HO8 := Lib.hid hown8
                    clear hown8 hgrow hat8 hlt8 hgl
                    go_wp2_with fail
                    exact ⟨⟨k + 1, g2, c2', xs ++ [bits], by have := HMK.out; omega, by go_num, rfl, by rw [show fltB (xs ++ [bits]) = fltB xs ++ [.float .f32 bits] from by unfold fltB; rw [List.map_append]; rfl]; exact HO8.out, by rw [List.length_append, HXS.out]; rfl, HNX.out, HE8.out⟩, by have := HMK.out; simp [intOf]; omega⟩
              · have hkM : M = k := by omega
                subst hkM
                have hkM2 : ¬ ((M : Nat) : Int) < (M : Int) := by omega
                rename World => w17
                have HLA := Lib.hid (lies_of_owns HOW.out).1
                have HCA := Lib.hid (owns_cap HOW.out)
                have HBZ1 := Lib.hid (HBY1.out.ext HE.out)
                have HEC := Lib.hid (Ext.trans HEA.out HE.out)
                have HOWN := Lib.hid (show (w17.alloc (.cells #[] 34)).ownsRow w17.heap.size 34 1 (.slice (some ⟨w17.heap.size, 0, none⟩) 0 0) 0 [] from World.ownsRow_made (base := w17.heap.size) (e := 34) (size := 1) w17 #[] 0 (Nat.le_refl _) (by decide) rfl)
                have HE0 := Lib.hid (show Ext w17 (w17.alloc (.cells #[] 34)) by (repeat first | with_reducible exact Ext.rfl' _ | with_reducible refine Ext.drewN ?_ _ | with_reducible refine Ext.drew' ?_ | with_reducible refine Ext.alloc' ?_ _ | with_reducible refine Ext.setCell_at ?_ _ _ _ (by first | exact Nat.le_refl _ | omega) | with_reducible assumption | refine Ext.trans ?_ (by with_reducible assumption)))
                clear HE HOW HBY1 HBY2 HEA hk hlt
                go_wp2_with fail
                clear hkM2
                generalize hws : w17.alloc (.cells #[] 34) = W18 at *
                clear hws
                go_loopw [32, 33] (fun v i wr => ∃ (k gh ch : Nat) (ys : List Nat), k ≤ m ∧ i = .int .i64 k ∧ v = .slice (some ⟨gh, 0, none⟩) k ch ∧ wr.ownsRow w17.heap.size 34 1 v k (fltB ys) ∧ ys.length = k ∧ Rhss ys ∧ Ext w17 wr) (fun _ i _ => m - (intOf i).toNat)
                case atStart => exact ⟨0, w17.heap.size, 0, [], Nat.zero_le _, rfl, rfl, HOWN.out, rfl, fun i c h => by simp at h, HE0.out⟩
                case round =>
                  obtain ⟨k, gh, ch, ys, hk, rfl, rfl, hown, hys, hent, hbel⟩ := hrel
                  have HOW := Lib.hid hown
                  have HE := Lib.hid hbel
                  have HRN := Lib.hid hent
                  have HYS := Lib.hid hys
                  clear hown hbel HOWN HE0 hent hys
                  by_cases hlt : k < m
                  · as_aux_lemma =>
                      have hkm : (k : Int) < (m : Int) := by omega
                      have hk1 : IntKind.i64.wrap ((k : Int) + 1) = ((k + 1 : Nat) : Int) := by have := HMM.out; rw [IntWalk.i64_in _ (by omega)]; omega
                      have hk3 : IntKind.i64.wrap ((k : Int) + 3) = ((k + 3 : Nat) : Int) := by have := HMM.out; rw [IntWalk.i64_in _ (by omega)]; omega
                      have HMK := Lib.hid hlt
                      clear hlt hk
                      go_wp2_with fail
                      refine (b10At_V A1 n1 c1 (k + 3) 17 _ (HBZ1.out.ext HE.out) HN1.out (by have := HMM.out; have := HMK.out; omega) (by decide) (by decide)).mono ?_
                      rintro e wb ⟨rfl, d, hd, rfl⟩
                      have hwd : IntKind.i64.wrap ((d : Int) - 8) = (d : Int) - 8 := by rw [IntWalk.i64_in _ (by omega)]
                      have HNX := Lib.hid (show Rhss (ys ++ [floatOfInt .f32 ((d : Int) - 8)]) from at_snoc HRN.out (rhs_of hd))
                      clear hd
                      go_wp2_with (first | (at_builtin; refine Stand.of ?_))
                      generalize floatOfInt .f32 ((d : Int) - 8) = bits at *
                      refine Stand.out ?_
                      refine wpList_append_lies _ rfl _ _ 67 rfl w17.heap.size 34 i1 _ 1 4 under_floats hi1 jz0 jz1 jz2 hz1 (by omega) (.slice (some ⟨gh, 0, none⟩) k ch) k (fltB ys) rfl (HOW.out.alloc _) ⟨wb.heap.size, 0, none⟩ 1 1 [.float .f32 bits] rfl rfl (World.news_of_block (cs := #[.float .f32 bits]) (t := 34) (fr := (0, 0)) (heap_alloc_new wb _)) (by simp [Value.oneCell']) (by omega) (by have := HMM.out; have := HMK.out; unfold maxLen; omega) (by have := HMM.out; have := HMK.out; omega) (by have := HE.out.size; simp; omega) _ rfl ?_
                      intro g2 c2' w8 hown8 hgrow hat8 hlt8
                      have hgl := HOW.out.lt
                      have HE8 := Lib.hid (Ext.grown (Ext.trans HE.out (Ext.alloc' (Ext.rfl' wb) _)) hgrow (fun k hk => (hgl k hk).1))
                      have HO8 := Lib.hid hown8
                      clear hown8 hgrow hat8 hlt8 hgl
                      go_wp2_with fail
                      exact ⟨⟨k + 1, g2, c2', ys ++ [bits], by have := HMK.out; omega, by go_num, rfl, by rw [show fltB (ys ++ [bits]) = fltB ys ++ [.float .f32 bits] from by unfold fltB; rw [List.map_append]; rfl]; exact HO8.out, by rw [List.length_append, HYS.out]; rfl, HNX.out, HE8.out⟩, by have := HMK.out; simp [intOf]; omega⟩
                  · have hkm : m = k := by omega
                    subst hkm
                    have hkm2 : ¬ ((m : Nat) : Int) < (m : Int) := by omega
                    have HLB := Lib.hid (lies_of_owns HOW.out).1
                    have HLA2 := Lib.hid (HLA.out.ext HE.out)
                    have HED := Lib.hid (Ext.trans HEC.out HE.out)
                    clear HE HOW HLA HEC HBZ1 hk hlt
                    go_wp2_with fail
                    refine (Solve_W _ HMM.out.1 HMM.out.2.1 HMM.out.2.2.1 HLA2.out HLB.out HXS.out HYS.out HCA.out HEN.out HRN.out).mono ?_
                    rintro e w20 ⟨he, gx, cx, xv, x, rfl, hv, hx, hres⟩
                    have HE20 := Lib.hid (Ext.trans HED.out he)
                    have HLA20 := Lib.hid (HLA2.out.ext he)
                    have HLB20 := Lib.hid (HLB.out.ext he)
                    have HVX := Lib.hid hv
                    have HXX := Lib.hid hx
                    have HRES := Lib.hid hres
                    clear he hv hx hres HED HLA2 HLB hkm2
                    go_wp2_with fail
                    go_loopw [36] (fun i wr => ∃ r : Nat, r ≤ m ∧ i = .int .i64 r ∧ Ext w20 wr) (fun i _ => m - (intOf i).toNat)
                    case atStart => exact ⟨0, Nat.zero_le _, rfl, Ext.rfl' _⟩
                    case round =>
                      obtain ⟨r, hr, rfl, hbel⟩ := hrel
                      have HE := Lib.hid hbel
                      clear hbel
                      rename World => w21
                      by_cases hlt : r < m
                      · as_aux_lemma =>
                          have hrm : (r : Int) < (m : Int) := by omega
                          have hr0 : (0 : Int) ≤ (r : Int) := by omega
                          have HRL := Lib.hid hlt
                          clear hr hlt
                          go_wp2_with fail
                          go_loopw [37, 38] (fun s j wr => ∃ (c sb : Nat), c ≤ m ∧ j = .int .i64 c ∧ s = .float .f64 sb ∧ Sums (fun c => val32 (xs.getD (r * m + c) 0)) x c sb ∧ Ext w21 wr) (fun _ j _ => m - (intOf j).toNat)
                          case atStart => exact ⟨0, 0, Nat.zero_le _, rfl, rfl, Sums.start _ _, Ext.rfl' _⟩
                          case round =>
                            obtain ⟨c, sb, hc, rfl, rfl, hsum, hbel⟩ := hrel
                            have HSM := Lib.hid hsum
                            have HEI := Lib.hid hbel
                            clear hsum hbel
                            by_cases hlc : c < m
                            · as_aux_lemma =>
                                have hE2 := Ext.trans HE.out HEI.out
                                obtain ⟨ab, a1, a2, a3, a4⟩ := ents_at HMM.out.1 HXS.out HEN.out HRL.out hlc
                                have hPM : r * m + c < M := by rw [HMM.out.1]; exact idx_lt HRL.out hlc
                                obtain ⟨b1, o1, q1, hbw1, hcc1⟩ := HLA20.out.cell (by rw [fltB_len, HXS.out]; omega)
                                cases q1
                                have e0 := (hE2.cell (p := ⟨gg, 0 + (r * m + c), none⟩) hbw1).trans (hcc1 _ _ (fltB_at a3))
                                rw [Nat.zero_add] at e0
                                have e1 : wr.cell? ⟨gx, c, none⟩ = some (.float .f32 (xv c)) := (HVX.out.ext hE2).cell hlc
                                obtain ⟨aw, aw1, aw2⟩ := val_wide a1
                                rw [← a4] at aw2
                                obtain ⟨xw, xw1, xw2⟩ := val_wide (HXX.out c hlc).1
                                obtain ⟨p, s, p1, p2, p3⟩ := HSM.out.next aw1 xw1 a2 (HXX.out c hlc).2 (by have := HMM.out; omega)
                                have HSN := Lib.hid p3
                                have hmul := run_arithY .mul 52 .f64 _ _ _ p1
                                have hadd := run_arithY .add 52 .f64 _ _ _ p2
                                obtain ⟨p0, hp0⟩ : ∃ p0, p0 = r * m := ⟨_, rfl⟩
                                obtain ⟨P, hP⟩ : ∃ P, P = p0 + c := ⟨_, rfl⟩
                                have HMX := Lib.hid HMM.out
                                have hPM2 : P < M := by rw [hP, hp0]; exact hPM
                                have hM25 : M ≤ 25 := HMM.out.2.2.2
                                have hpw0 : IntKind.i64.wrap ((r : Int) * (m : Int)) = (p0 : Int) := by
                                  rw [show (r : Int) * (m : Int) = ((p0 : Nat) : Int) by rw [hp0]; push_cast; rfl]
                                  exact IntWalk.i64_in _ (by omega)
                                have hpw1 : IntKind.i64.wrap ((p0 : Int) + (c : Int)) = (P : Int) := by rw [IntWalk.i64_in _ (by omega)]; omega
                                have hP0 : (0 : Int) ≤ (P : Int) := by omega
                                have hP1 : (P : Int) < (M : Int) := by omega
                                have hc0 : (0 : Int) ≤ (c : Int) := by omega
                                have hc1 : (c : Int) < (m : Int) := by omega
                                have hk1 : IntKind.i64.wrap ((c : Int) + 1) = ((c + 1 : Nat) : Int) := by have := HMM.out; rw [IntWalk.i64_in _ (by omega)]; omega
                                rw [← hp0, ← hP] at e0
                                have HCL := Lib.hid hlc
                                clear hE2 a1 a2 a3 a4 hPM hcc1 hbw1 aw1 xw1 p1 p2 p3 hp0 hP hPM2 hM25 hlc hc
                                go_wp2_with fail
                                go_quiet (fail)
                                go_wp2_with fail
                                exact ⟨⟨c + 1, s, HCL.out, by go_num, rfl, HSN.out, HEI.out.drewN nq⟩, by have := HCL.out; simp [intOf]; omega⟩
                            · as_aux_lemma =>
                                have hcm : m = c := by omega
                                subst hcm
                                have hcm2 : ¬ ((m : Nat) : Int) < (m : Int) := by omega
                                have hE2 := Ext.trans HE.out HEI.out
                                have hy := getD_some (xs := ys) (i := r) (by rw [HYS.out]; exact HRL.out)
                                obtain ⟨b1, o1, q1, hbw1, hcc1⟩ := HLB20.out.cell (by rw [fltB_len, HYS.out]; have := HRL.out; omega)
                                cases q1
                                have e0 := (hE2.cell (p := ⟨gh, 0 + r, none⟩) hbw1).trans (hcc1 _ _ (fltB_at hy))
                                rw [Nat.zero_add] at e0
                                obtain ⟨v, hv⟩ := (HRN.out r _ hy).1
                                have hv' : Val .f32 (ys.getD r 0) (val32 (ys.getD r 0)) := by rw [← hv.at32]; exact hv
                                obtain ⟨bw, bw1, bw2⟩ := val_wide hv'
                                obtain ⟨gr, g1, g2⟩ := Sums.gap (A := fun r c => val32 (xs.getD (r * m + c) 0)) (β := fun r => val32 (ys.getD r 0)) (r := r) HSM.out HMM.out.2.2.1 (HRES.out r HRL.out) bw1
                                have HG := Lib.hid g2
                                have hk1 : IntKind.i64.wrap ((r : Int) + 1) = ((r + 1 : Nat) : Int) := by have := HMM.out; have := HRL.out; rw [IntWalk.i64_in _ (by omega)]; omega
                                generalize ys.getD r 0 = yb at e0 bw2
                                clear hE2 hy hcc1 hbw1 hv hv' bw1 g2 hlc hc
                                go_wp2_with fail
                                refine (HG.out _).mono ?_
                                rintro e' wz ⟨rfl, rfl⟩
                                go_wp2_with (refine wpList_fcmpD rfl .gtr _ _ _ _ rfl rfl _ _ _ rfl rfl _ g1 ?_)
                                exact ⟨⟨r + 1, HRL.out, by go_num, Ext.trans HE.out HEI.out⟩, by have := HRL.out; simp [intOf]; omega⟩
                      · have hrm2 : ¬ (r : Int) < (m : Int) := by omega
                        have HE21 := Lib.hid (Ext.trans HE20.out HE.out)
                        have HLB21 := Lib.hid (HLB20.out.ext HE.out)
                        have hmk := fun W => run_make_Y M (by have := HMM.out; omega) W
                        have HMD := Lib.hid (made_lies w21 M)
                        have HX22 := Lib.hid (show Ext w21 (w21.alloc (.cells (madeCells #[.float .f32 0] M) 34)) by (repeat first | with_reducible exact Ext.rfl' _ | with_reducible refine Ext.drewN ?_ _ | with_reducible refine Ext.drew' ?_ | with_reducible refine Ext.alloc' ?_ _ | with_reducible refine Ext.setCell_at ?_ _ _ _ (by first | exact Nat.le_refl _ | omega) | with_reducible assumption | refine Ext.trans ?_ (by with_reducible assumption)))
                        clear HE HE20 HLB20 HLA20 HVX HXX HRES hlt hr
                        go_wp2_with fail
                        clear hmk
                        generalize (w21.alloc (.cells (madeCells #[.float .f32 0] M) 34)) = W22 at *
                        refine (Solve_Z _ _ HMM.out.1 HMM.out.2.1 HMM.out.2.2.1 HMD.out (HLB21.out.ext HX22.out) HYS.out HRN.out).mono ?_
                        rintro e' w23 ⟨he, rfl⟩
                        have HE23 := Lib.hid (Ext.trans HE21.out (Ext.trans HX22.out he))
                        clear he
                        go_wp2_with fail
                        go_ret
                        exact ⟨HE23.out, rfl⟩
end Go.Proofs.Ytfehhbmmdbpdpaa
