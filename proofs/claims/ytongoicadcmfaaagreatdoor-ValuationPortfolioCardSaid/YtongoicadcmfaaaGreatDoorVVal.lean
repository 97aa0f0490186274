/- giroref01.Quo: long division by binary digits; the result is the quotient and the remainder of the product. The value of a quantity: valuation.Value and giroref33.Value come to one number and one error. -/
import Derived.Test.YtongoicadcmfaaaGreatDoorV0
import Derived.Test.YtongoicadcmfaaaGreatDoorVNum
import Derived.Test.YtongoicadcmfaaaGreatDoorVDivW
set_option linter.unusedSimpArgs false
set_option linter.unusedVariables false
namespace Go.Proofs.YtongoicadcmfaaaGreatDoor.V
open Go.RowKit

/-- One digit more. -/
theorem quo_step (a den q r m b : Int) (hb : b = 0 ∨ b = 1) (hden : 0 < den) (he : q * den + r = a * m) :
    ((2 * q + b * (a / den)) + (2 * r + b * (a % den)) / den) * den + (2 * r + b * (a % den)) % den = a * (2 * m + b) := by
  have h1 := Int.mul_ediv_add_emod (2 * r + b * (a % den)) den
  have h2 := Int.mul_ediv_add_emod a den
  rw [Int.add_mul, Int.mul_comm ((2 * r + b * (a % den)) / den) den]
  rcases hb with rfl | rfl
  · simp only [Int.zero_mul, Int.add_zero] at *
    rw [Int.mul_assoc, show a * (2 * m) = 2 * (a * m) by rw [Int.mul_left_comm]]
    omega
  · simp only [Int.one_mul] at *
    rw [Int.add_mul, Int.mul_assoc, Int.mul_comm (a / den) den, Int.mul_add, Int.mul_one, show a * (2 * m) = 2 * (a * m) by rw [Int.mul_left_comm]]
    omega

theorem quo_unique (t den q r : Int) (hden : 0 < den) (h0 : 0 ≤ r) (h1 : r < den) (he : q * den + r = t) : t / den = q ∧ t % den = r := by
  subst he
  constructor
  · rw [Int.add_comm, Int.add_mul_ediv_right _ _ (by omega), Int.ediv_eq_zero_of_lt h0 h1]; omega
  · rw [Int.add_comm, Int.add_mul_emod_self_right, Int.emod_eq_of_lt h0 h1]

/-- What is too great on the way is too great in the end. -/
theorem quo_far (a den q r m num : Int) (hden : 0 < den) (ha : 0 ≤ a) (h0 : 0 ≤ r) (he : q * den + r = a * m) (hm : m ≤ num) : q ≤ a * num / den := by
  apply Int.le_ediv_of_mul_le hden
  have : a * m ≤ a * num := Int.mul_le_mul_of_nonneg_left hm ha
  omega

theorem and_one (x : Int) (h0 : 0 ≤ x) (h1 : x < 9223372036854775808) : bits .and .i64 x 1 = x % 2 := by
  obtain ⟨n, rfl⟩ := Int.eq_ofNat_of_zero_le h0
  show IntKind.i64.wrap ((BitVec.ofInt 64 (n : Int) &&& BitVec.ofInt 64 1).toNat : Int) = _
  have e : ((BitVec.ofInt 64 (n : Int) &&& BitVec.ofInt 64 1).toNat) = n % 2 := by
    rw [BitVec.toNat_and, BitVec.ofInt_natCast, BitVec.toNat_ofNat]
    have : (BitVec.ofInt 64 1).toNat = 1 := by decide
    rw [this, Nat.and_one_is_mod]
    omega
  rw [e, IntKind.wrap_i64]
  omega

def quoVal (a num den : Int) : Value := if a * num / den ≤ 2000000000000000 then .tuple #[.int .i64 (a * num / den), .int .i64 (a * num % den), .bool true] else .tuple #[.int .i64 0, .int .i64 0, .bool false]

set_option maxHeartbeats 1000000 in
theorem quo65 (a num den : Int) (w : World) (a0 : 0 ≤ a) (a1 : a ≤ 1000000000000000) (n0 : 0 ≤ num) (n1 : num ≤ 1000000000000000000) (d0 : 0 < den) (d1 : den ≤ 1000000000000000000) :
    Calls Tryz.prog 65 #[.int .i64 a, .int .i64 num, .int .i64 den] w fun e w' => e = .returned (quoVal a num den) ∧ ∃ n, w' = w.drewN n := by
  go_enter Tryz.func65, Tryz.ntmps65
  go_wp2_with fail
  go_loopw [9, 10, 11] (fun x y z wr => ∃ q r i : Int, x = .int .i64 q ∧ y = .int .i64 r ∧ z = .int .i64 i ∧ -1 ≤ i ∧ i ≤ 60 ∧ q * den + r = a * (num / 2 ^ (i + 1).toNat) ∧ 0 ≤ r ∧ r < den ∧ 0 ≤ q ∧ q ≤ 2000000000000000 ∧ ∃ n, wr = w.drewN n) (fun _ _ z _ => (intOf z + 1).toNat)
  case atStart =>
    refine ⟨0, 0, 60, rfl, rfl, rfl, by omega, by omega, ?_, by omega, d0, by omega, by omega, 0, rfl⟩
    have : num / 2 ^ ((60 : Int) + 1).toNat = 0 := Int.ediv_eq_zero_of_lt n0 (by show num < 2 ^ 61; omega)
    rw [this]; simp
  case round =>
    obtain ⟨q, r, i, rfl, rfl, rfl, i0, i1, he, r0, r1, q0, q1, n, rfl⟩ := hrel
    by_cases hi : 0 ≤ i
    · obtain ⟨j, rfl⟩ := Int.eq_ofNat_of_zero_le hi
      have ej : ((j : Int) + 1).toNat = j + 1 := by omega
      rw [ej] at he
      have p0 : 0 ≤ num / 2 ^ j := Int.ediv_nonneg n0 (Int.le_of_lt (Int.pow_pos (by omega)))
      have p1 : num / 2 ^ j ≤ num := Int.ediv_le_self _ n0
      have p2 : num / 2 ^ (j + 1) = num / 2 ^ j / 2 := by rw [Int.pow_succ, Int.ediv_ediv_of_nonneg (Int.le_of_lt (Int.pow_pos (by omega)))]
      have hb := and_one (num / 2 ^ j) p0 (by omega)
      rw [p2] at he
      have HE := Lib.hid he
      clear he p2 ej
      by_cases hbit : num / 2 ^ j % 2 = 1
      · have t : (num / 2 ^ j % 2 == 1) = true := by simpa using hbit
        have HB := Lib.hid hbit
        clear hbit
        have A0 : 0 ≤ a / den := Int.ediv_nonneg a0 (by omega)
        have A1 : a / den ≤ a := Int.ediv_le_self _ a0
        have R0 := Int.emod_nonneg a (show den ≠ 0 by omega)
        have R1 := Int.emod_lt_of_pos a d0
        have hst := quo_step a den q r (num / 2 ^ j / 2) 1 (by omega) d0 HE.out
        rw [show 2 * (num / 2 ^ j / 2) + 1 = num / 2 ^ j by have := HB.out; omega] at hst
        simp only [Int.one_mul, Int.zero_mul, Int.add_zero] at hst
        have D0 : 0 ≤ (2 * r + a % den) / den := Int.ediv_nonneg (by omega) (by omega)
        have D1 : (2 * r + a % den) / den < 3 := Int.ediv_lt_of_lt_mul d0 (by omega)
        have M0 : 0 ≤ (2 * r + a % den) % den := Int.emod_nonneg _ (show den ≠ 0 by omega)
        have M1 : (2 * r + a % den) % den < den := Int.emod_lt_of_pos _ d0
        have HS := Lib.hid hst
        clear hst
        by_cases hbig : 2000000000000000 < 2 * q + a / den + (2 * r + a % den) / den
        · have HV : Hid (quoVal a num den = .tuple #[.int .i64 0, .int .i64 0, .bool false]) := by
            have := quo_far a den _ _ (num / 2 ^ j) num d0 a0 M0 HS.out p1
            unfold quoVal
            rw [if_neg (by omega)]
            exact rfl
          go_wp2
          go_quiet (fail)
          go_wp2
          go_quiet (fail)
          go_wp2
          go_ret3
          exact ⟨by rw [HV.out]; rfl, _, rfl⟩
        · go_wp2
          go_quiet (fail)
          go_wp2
          go_quiet (fail)
          go_wp2
          refine ⟨⟨2 * q + a / den + (2 * r + a % den) / den, (2 * r + a % den) % den, (j : Int) - 1, rfl, rfl, by go_num, by omega, by omega, ?_, M0, M1, by omega, by omega, _, rfl⟩, by simp [intOf]⟩
          rw [show ((j : Int) - 1 + 1).toNat = j by omega]; exact HS.out
      · have t : (num / 2 ^ j % 2 == 1) = false := by simpa using hbit
        have hbit : num / 2 ^ j % 2 = 0 := by omega
        have HB := Lib.hid hbit
        clear hbit
        have A0 : 0 ≤ a / den := Int.ediv_nonneg a0 (by omega)
        have A1 : a / den ≤ a := Int.ediv_le_self _ a0
        have R0 := Int.emod_nonneg a (show den ≠ 0 by omega)
        have R1 := Int.emod_lt_of_pos a d0
        have hst := quo_step a den q r (num / 2 ^ j / 2) 0 (by omega) d0 HE.out
        rw [show 2 * (num / 2 ^ j / 2) + 0 = num / 2 ^ j by have := HB.out; omega] at hst
        simp only [Int.one_mul, Int.zero_mul, Int.add_zero] at hst
        have D0 : 0 ≤ 2 * r / den := Int.ediv_nonneg (by omega) (by omega)
        have D1 : 2 * r / den < 3 := Int.ediv_lt_of_lt_mul d0 (by omega)
        have M0 : 0 ≤ 2 * r % den := Int.emod_nonneg _ (show den ≠ 0 by omega)
        have M1 : 2 * r % den < den := Int.emod_lt_of_pos _ d0
        have HS := Lib.hid hst
        clear hst
        by_cases hbig : 2000000000000000 < 2 * q + 2 * r / den
        · have HV : Hid (quoVal a num den = .tuple #[.int .i64 0, .int .i64 0, .bool false]) := by
            have := quo_far a den _ _ (num / 2 ^ j) num d0 a0 M0 HS.out p1
            unfold quoVal
            rw [if_neg (by omega)]
            exact rfl
          go_wp2
          go_quiet (fail)
          go_wp2
          go_ret3
          exact ⟨by rw [HV.out]; rfl, _, rfl⟩
        · go_wp2
          go_quiet (fail)
          go_wp2
          refine ⟨⟨2 * q + 2 * r / den, 2 * r % den, (j : Int) - 1, rfl, rfl, by go_num, by omega, by omega, ?_, M0, M1, by omega, by omega, _, rfl⟩, by simp [intOf]⟩
          rw [show ((j : Int) - 1 + 1).toNat = j by omega]; exact HS.out
    · obtain rfl : i = -1 := by omega
      have he' : q * den + r = a * num := by simpa using he
      have hq := quo_unique _ den q r d0 r0 r1 he'
      have HV : Hid (quoVal a num den = .tuple #[.int .i64 q, .int .i64 r, .bool true]) := by unfold quoVal; rw [hq.1, hq.2, if_pos q1]; exact rfl
      clear he he' hq
      go_wp2
      go_ret3
      exact ⟨by rw [HV.out]; rfl, _, rfl⟩
end Go.Proofs.YtongoicadcmfaaaGreatDoor.V

namespace Go.Proofs.YtongoicadcmfaaaGreatDoor.V
open Go.RowKit

theorem mul58 (x y : Int) (w : World) (h0 : 0 ≤ x) (h1 : x < 18446744073709551616) (h2 : 0 ≤ y) (h3 : y < 18446744073709551616) :
    Calls Tryz.prog 58 #[.int .u64 x, .int .u64 y] w fun e w' => e = .returned (.tuple #[.int .u64 (x * y / 18446744073709551616), .int .u64 (x * y % 18446744073709551616)]) ∧ w = w' := by
  obtain ⟨x, rfl⟩ := Int.eq_ofNat_of_zero_le h0
  obtain ⟨y, rfl⟩ := Int.eq_ofNat_of_zero_le h2
  refine (Tryz.bits_Mul64 x y (by omega) (by omega) w).mono ?_
  rintro e w' ⟨rfl, rfl⟩
  refine ⟨?_, rfl⟩
  simp only [Int.natCast_ediv, Int.natCast_emod, Int.natCast_mul]
  rfl

def okQ (q : Int) : Prop := 0 ≤ q ∧ q ≤ 1000000000000000
instance (q : Int) : Decidable (okQ q) := by unfold okQ; infer_instance
def vNum (q p num den : Int) : Int := if okQ q ∧ okH p num den then (if q * (p * (den - num)) / den ≤ 1000000000000000 then q * (p * (den - num)) / den else 0) else 0
def vErr (q p num den : Int) : Int := if okQ q ∧ okH p num den then (if q * (p * (den - num)) / den ≤ 1000000000000000 then 0 else 12) else 2

theorem mul_bd {a b A B : Int} (a0 : 0 ≤ a) (a1 : a ≤ A) (b0 : 0 ≤ b) (b1 : b ≤ B) : 0 ≤ a * b ∧ a * b ≤ A * B :=
  ⟨Int.mul_nonneg a0 b0, Int.le_trans (Int.mul_le_mul_of_nonneg_right a1 b0) (Int.mul_le_mul_of_nonneg_left b1 (by omega))⟩

/-- The product of three numbers in two words. -/
theorem three (q p k : Int) : q * (p * k) = (q * p / 18446744073709551616 * k + q * p % 18446744073709551616 * k / 18446744073709551616) * 18446744073709551616 + q * p % 18446744073709551616 * k % 18446744073709551616 := by
  rw [← Int.mul_assoc]
  generalize q * p = X
  have h1 := Int.mul_ediv_add_emod X 18446744073709551616
  have h2 := Int.mul_ediv_add_emod (X % 18446744073709551616 * k) 18446744073709551616
  have h3 : X * k = (18446744073709551616 * (X / 18446744073709551616) + X % 18446744073709551616) * k := by rw [h1]
  rw [Int.add_mul, Int.mul_assoc] at h3
  generalize X / 18446744073709551616 * k = a at *
  generalize X % 18446744073709551616 * k = b at *
  omega

/-- What the walk of Value names. -/
structure VW (q p num den V h l c l2 : Int) : Prop where
  eh : q * p / 18446744073709551616 = h
  el : q * p % 18446744073709551616 = l
  h0 : 0 ≤ h
  h1 : h ≤ 54210
  l0 : 0 ≤ l
  l1 : l < 18446744073709551616
  hk0 : 0 ≤ h * (den - num)
  hk1 : h * (den - num) ≤ 54210000000000
  ec : l * (den - num) / 18446744073709551616 = c
  el2 : l * (den - num) % 18446744073709551616 = l2
  c0 : 0 ≤ c
  c1 : c ≤ 1000000000
  l20 : 0 ≤ l2
  l21 : l2 < 18446744073709551616
  eV : ((h * (den - num) + c) * 18446744073709551616 + l2) / den = V
theorem vw (q p num den : Int) (q0 : 0 ≤ q) (q1 : q ≤ 1000000000000000) (p0 : 1 ≤ p) (p1 : p ≤ 1000000000) (n0 : 0 ≤ num) (n1 : num ≤ den) (dn1 : 1 ≤ den) (dn2 : den ≤ 1000000000) :
    ∃ h l c l2, VW q p num den (q * (p * (den - num)) / den) h l c l2 := by
  obtain ⟨qp0, qp1⟩ := mul_bd q0 q1 (show 0 ≤ p by omega) p1
  have hh0 : 0 ≤ q * p / 18446744073709551616 := by omega
  have hh1 : q * p / 18446744073709551616 ≤ 54210 := by omega
  have hl0 : 0 ≤ q * p % 18446744073709551616 := by omega
  have hl1 : q * p % 18446744073709551616 < 18446744073709551616 := by omega
  obtain ⟨hk0, hk1⟩ := mul_bd hh0 hh1 (show 0 ≤ den - num by omega) (show den - num ≤ 1000000000 by omega)
  obtain ⟨lk0, lk1⟩ := mul_bd hl0 (show q * p % 18446744073709551616 ≤ 18446744073709551615 by omega) (show 0 ≤ den - num by omega) (show den - num ≤ 1000000000 by omega)
  exact ⟨_, _, _, _, ⟨rfl, rfl, hh0, hh1, hl0, hl1, hk0, by omega, rfl, rfl, by omega, by omega, by omega, by omega, by rw [← three]⟩⟩

set_option maxHeartbeats 2000000 in
theorem value26 (q p num den : Int) (w : World) (h0 : -9223372036854775808 ≤ num) (h1 : num ≤ 9223372036854775807) (d0 : -9223372036854775808 ≤ den) (d1 : den ≤ 9223372036854775807) :
    Calls Tryz.prog 26 #[.int .i64 q, .int .i64 p, .agg #[.int .i64 num, .int .i64 den]] w fun e w' => e = .returned (.tuple #[.int .i64 (vNum q p num den), .int .i64 (vErr q p num den)]) ∧ Below w.heap.size w w' := by
  by_cases c1 : okQ q
  case neg =>
    go_enter Tryz.func26, Tryz.ntmps26
    have b1 : (decide (0 ≤ q) && decide (q ≤ 1000000000000000)) = false := by
      rw [Bool.eq_false_iff]; simpa [okQ] using c1
    have e1 : vNum q p num den = 0 := if_neg fun h => c1 h.1
    have e2 : vErr q p num den = 2 := if_neg fun h => c1 h.1
    rw [e1, e2]
    clear e1 e2 c1
    go_wp2_with fail
    refine (within56 _ _ _ _).mono ?_
    rintro e w' ⟨rfl, rfl⟩
    go_wp2_with fail
    go_ret2
    exact ⟨rfl, bl_alloc (Below.refl _ _) _⟩
  have b1 : (decide (0 ≤ q) && decide (q ≤ 1000000000000000)) = true := by simpa [okQ] using c1
  by_cases c2 : okH p num den
  case neg =>
    go_enter Tryz.func26, Tryz.ntmps26
    have b2 : decide (okH p num den) = false := decide_eq_false c2
    have e1 : vNum q p num den = 0 := if_neg fun h => c2 h.2
    have e2 : vErr q p num den = 2 := if_neg fun h => c2 h.2
    rw [e1, e2]
    clear e1 e2 c1 c2
    go_wp2_with fail
    refine (within56 _ _ _ _).mono ?_
    rintro e w' ⟨rfl, rfl⟩
    go_wp2_with fail
    refine (valid57 p num den _ h0 h1 d0 d1).mono ?_
    rintro e w1 ⟨rfl, hb⟩
    go_wp2_with fail
    go_ret2
    exact ⟨rfl, bl_then (bl_alloc (Below.refl _ _) _) hb⟩
  have b2 : decide (okH p num den) = true := decide_eq_true c2
  have e1 : vNum q p num den = if q * (p * (den - num)) / den ≤ 1000000000000000 then q * (p * (den - num)) / den else 0 := if_pos ⟨c1, c2⟩
  have e2 : vErr q p num den = if q * (p * (den - num)) / den ≤ 1000000000000000 then 0 else 12 := if_pos ⟨c1, c2⟩
  rw [e1, e2]
  obtain ⟨dn1, dn2⟩ := c2.den
  obtain ⟨q0, q1⟩ := c1
  obtain ⟨p0, p1, _, n0, n1⟩ := c2
  clear e1 e2
  obtain ⟨h, l, c, l2, VW⟩ := vw q p num den q0 q1 p0 p1 n0 n1 dn1 dn2
  generalize q * (p * (den - num)) / den = V at *
  have e1 := VW.eh; have e2 := VW.el; have e3 := VW.ec; have e4 := VW.el2
  have f1 := VW.h0; have f2 := VW.h1; have f3 := VW.l0; have f4 := VW.l1; have f5 := VW.hk0; have f6 := VW.hk1; have f7 := VW.c0; have f8 := VW.c1; have f9 := VW.l20; have f10 := VW.l21
  have HV := Lib.hid VW.eV
  clear VW
  have big : den ≤ h * (den - num) + c → 18446744073709551616 ≤ V := fun h3 => by
    rw [← HV.out]; exact Int.le_ediv_of_mul_le (by omega) (by omega)
  have V0 : 0 ≤ V := by rw [← HV.out]; exact Int.ediv_nonneg (by omega) (by omega)
  by_cases c4 : V ≤ 1000000000000000
  · rw [if_pos c4, if_pos c4]
    have c3 : h * (den - num) + c < den := by
      rcases Int.lt_or_le (h * (den - num) + c) den with hh | hh
      · exact hh
      · have := big hh; omega
    clear big
    go_enter Tryz.func26, Tryz.ntmps26
    go_wp2_with fail
    refine (within56 _ _ _ _).mono ?_
    rintro e w' ⟨rfl, rfl⟩
    go_wp2_with fail
    refine (valid57 p num den _ h0 h1 d0 d1).mono ?_
    rintro e w1 ⟨rfl, hb⟩
    obtain ⟨hcl, hfz⟩ := bcell hb
    go_wp2_with fail
    refine (mul58 _ _ _ (by omega) (by omega) (by omega) (by omega)).mono ?_
    rintro e w' ⟨rfl, rfl⟩
    go_wp2_with fail
    go_quiet (fail)
    go_wp2_with fail
    refine (mul58 _ _ _ (by omega) (by omega) (by omega) (by omega)).mono ?_
    rintro e w' ⟨rfl, rfl⟩
    go_wp2_with fail
    refine (div64 _ _ _ _ (by omega) (by omega) (by omega) (by omega) (by omega)).mono ?_
    rintro e w' ⟨rfl, n, rfl⟩
    rw [HV.out]
    go_wp2_with fail
    go_ret2
    exact ⟨rfl, bl_drewN (bl_then (bl_alloc (Below.refl _ _) _) hb) _⟩
  · rw [if_neg c4, if_neg c4]
    by_cases c3 : den ≤ h * (den - num) + c
    · clear big
      go_enter Tryz.func26, Tryz.ntmps26
      go_wp2_with fail
      refine (within56 _ _ _ _).mono ?_
      rintro e w' ⟨rfl, rfl⟩
      go_wp2_with fail
      refine (valid57 p num den _ h0 h1 d0 d1).mono ?_
      rintro e w1 ⟨rfl, hb⟩
      obtain ⟨hcl, hfz⟩ := bcell hb
      go_wp2_with fail
      refine (mul58 _ _ _ (by omega) (by omega) (by omega) (by omega)).mono ?_
      rintro e w' ⟨rfl, rfl⟩
      go_wp2_with fail
      go_quiet (fail)
      go_wp2_with fail
      refine (mul58 _ _ _ (by omega) (by omega) (by omega) (by omega)).mono ?_
      rintro e w' ⟨rfl, rfl⟩
      go_wp2_with fail
      go_ret2
      exact ⟨rfl, bl_drewN (bl_then (bl_alloc (Below.refl _ _) _) hb) _⟩
    · clear big
      go_enter Tryz.func26, Tryz.ntmps26
      go_wp2_with fail
      refine (within56 _ _ _ _).mono ?_
      rintro e w' ⟨rfl, rfl⟩
      go_wp2_with fail
      refine (valid57 p num den _ h0 h1 d0 d1).mono ?_
      rintro e w1 ⟨rfl, hb⟩
      obtain ⟨hcl, hfz⟩ := bcell hb
      go_wp2_with fail
      refine (mul58 _ _ _ (by omega) (by omega) (by omega) (by omega)).mono ?_
      rintro e w' ⟨rfl, rfl⟩
      go_wp2_with fail
      go_quiet (fail)
      go_wp2_with fail
      refine (mul58 _ _ _ (by omega) (by omega) (by omega) (by omega)).mono ?_
      rintro e w' ⟨rfl, rfl⟩
      go_wp2_with fail
      refine (div64 _ _ _ _ (by omega) (by omega) (by omega) (by omega) (by omega)).mono ?_
      rintro e w' ⟨rfl, n, rfl⟩
      rw [HV.out]
      go_wp2_with fail
      go_ret2
      exact ⟨rfl, bl_drewN (bl_then (bl_alloc (Below.refl _ _) _) hb) _⟩

set_option maxHeartbeats 2000000 in
theorem value40 (q p num den : Int) (w : World) (h0 : -9223372036854775808 ≤ num) (h1 : num ≤ 9223372036854775807) (d0 : -9223372036854775808 ≤ den) (d1 : den ≤ 9223372036854775807) :
    Calls Tryz.prog 40 #[.int .i64 q, .int .i64 p, .agg #[.int .i64 num, .int .i64 den]] w fun e w' => e = .returned (.tuple #[.int .i64 (vNum q p num den), .int .i64 (vErr q p num den)]) ∧ Below w.heap.size w w' := by
  by_cases c0 : q < 0
  case pos =>
    have b0 : decide (q < 0) = true := decide_eq_true c0
    have e1 : vNum q p num den = 0 := if_neg fun h => by have := h.1; unfold okQ at this; omega
    have e2 : vErr q p num den = 2 := if_neg fun h => by have := h.1; unfold okQ at this; omega
    rw [e1, e2]
    clear e1 e2
    go_enter Tryz.func40, Tryz.ntmps40
    go_wp2
    go_ret2
    exact ⟨rfl, bl_alloc (Below.refl _ _) _⟩
  have b0 : decide (q < 0) = false := decide_eq_false c0
  by_cases c1 : 1000000000000000 < q
  case pos =>
    have b1 : decide (1000000000000000 < q) = true := decide_eq_true c1
    have e1 : vNum q p num den = 0 := if_neg fun h => by have := h.1; unfold okQ at this; omega
    have e2 : vErr q p num den = 2 := if_neg fun h => by have := h.1; unfold okQ at this; omega
    rw [e1, e2]
    clear e1 e2
    go_enter Tryz.func40, Tryz.ntmps40
    go_wp2
    go_ret2
    exact ⟨rfl, bl_alloc (Below.refl _ _) _⟩
  have b1 : decide (1000000000000000 < q) = false := decide_eq_false c1
  by_cases c2 : okH p num den
  case neg =>
    have b2 : decide (okH p num den) = false := decide_eq_false c2
    have e1 : vNum q p num den = 0 := if_neg fun h => c2 h.2
    have e2 : vErr q p num den = 2 := if_neg fun h => c2 h.2
    rw [e1, e2]
    clear e1 e2 c2
    go_enter Tryz.func40, Tryz.ntmps40
    go_wp2_with fail
    refine (fits64 p num den _ h0 h1 d0 d1).mono ?_
    rintro e w1 ⟨rfl, hb⟩
    go_wp2_with fail
    go_ret2
    exact ⟨rfl, bl_then (bl_alloc (Below.refl _ _) _) hb⟩
  have b2 : decide (okH p num den) = true := decide_eq_true c2
  have okq : okQ q := ⟨by omega, by omega⟩
  have e1 : vNum q p num den = if q * (p * (den - num)) / den ≤ 1000000000000000 then q * (p * (den - num)) / den else 0 := if_pos ⟨okq, c2⟩
  have e2 : vErr q p num den = if q * (p * (den - num)) / den ≤ 1000000000000000 then 0 else 12 := if_pos ⟨okq, c2⟩
  rw [e1, e2]
  obtain ⟨dn1, dn2⟩ := c2.den
  obtain ⟨p0, p1, _, n0, n1⟩ := c2
  obtain ⟨pk0, pk1⟩ := mul_bd (show 0 ≤ p by omega) p1 (show 0 ≤ den - num by omega) (show den - num ≤ 1000000000 by omega)
  clear e1 e2 okq
  have hq := fun W => quo65 q (p * (den - num)) den W (by omega) (by omega) pk0 (by omega) (by omega) (by omega)
  have HQ := Lib.hid hq
  have hqv : quoVal q (p * (den - num)) den = if q * (p * (den - num)) / den ≤ 2000000000000000 then .tuple #[.int .i64 (q * (p * (den - num)) / den), .int .i64 (q * (p * (den - num)) % den), .bool true] else .tuple #[.int .i64 0, .int .i64 0, .bool false] := rfl
  have HQV := Lib.hid hqv
  clear hq hqv
  have V0 : 0 ≤ q * (p * (den - num)) / den := Int.ediv_nonneg (Int.mul_nonneg (by omega) pk0) (by omega)
  generalize q * (p * (den - num)) / den = V at *
  generalize q * (p * (den - num)) % den = R at *
  by_cases c3 : V ≤ 2000000000000000
  · rw [if_pos c3] at HQV
    by_cases c4 : V ≤ 1000000000000000
    · rw [if_pos c4, if_pos c4]
      go_enter Tryz.func40, Tryz.ntmps40
      go_wp2_with fail
      refine (fits64 p num den _ h0 h1 d0 d1).mono ?_
      rintro e w1 ⟨rfl, hb⟩
      obtain ⟨hcl, hfz⟩ := bcell hb
      go_wp2_with fail
      refine (HQ.out _).mono ?_
      rintro e w' ⟨rfl, n, rfl⟩
      rw [HQV.out]
      go_wp2_with fail
      go_ret2
      exact ⟨rfl, bl_drewN (bl_then (bl_alloc (Below.refl _ _) _) hb) _⟩
    · rw [if_neg c4, if_neg c4]
      go_enter Tryz.func40, Tryz.ntmps40
      go_wp2_with fail
      refine (fits64 p num den _ h0 h1 d0 d1).mono ?_
      rintro e w1 ⟨rfl, hb⟩
      obtain ⟨hcl, hfz⟩ := bcell hb
      go_wp2_with fail
      refine (HQ.out _).mono ?_
      rintro e w' ⟨rfl, n, rfl⟩
      rw [HQV.out]
      go_wp2_with fail
      go_ret2
      exact ⟨rfl, bl_drewN (bl_then (bl_alloc (Below.refl _ _) _) hb) _⟩
  · rw [if_neg c3] at HQV
    rw [if_neg (by omega), if_neg (by omega)]
    go_enter Tryz.func40, Tryz.ntmps40
    go_wp2_with fail
    refine (fits64 p num den _ h0 h1 d0 d1).mono ?_
    rintro e w1 ⟨rfl, hb⟩
    obtain ⟨hcl, hfz⟩ := bcell hb
    go_wp2_with fail
    refine (HQ.out _).mono ?_
    rintro e w' ⟨rfl, n, rfl⟩
    rw [HQV.out]
    go_wp2_with fail
    go_ret2
    exact ⟨rfl, bl_drewN (bl_then (bl_alloc (Below.refl _ _) _) hb) _⟩
end Go.Proofs.YtongoicadcmfaaaGreatDoor.V
