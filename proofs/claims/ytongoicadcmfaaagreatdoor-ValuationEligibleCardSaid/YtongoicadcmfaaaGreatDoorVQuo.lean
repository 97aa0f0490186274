/- giroref01.Quo: long division by binary digits; the result is the quotient and the remainder of the product. -/
import Derived.Test.YtongoicadcmfaaaGreatDoorV0
namespace Go.Proofs.YtongoicadcmfaaaGreatDoor.V
open Go.RowKit

/-- One digit more. -/
theorem quo_step (a den q r m b : Int) (hb : b = 0 ∨ b = 1) (hden : 0 < den) (he : q * den + r = a * m) :
    ((2 * q + b * (a / den)) + (2 * r + b * (a % den)) / den) * den + (2 * r + b * (a % den)) % den = a * (2 * m + b) := by
  have h1 := Int.mul_ediv_add_emod (2 * r + b * (a % den)) den
  have h2 := Int.mul_ediv_add_emod a den
  rw [Int.add_mul, Int.mul_comm ((2 * r + b * (a % den)) / den) den]
  rcases hb with rfl | rfl
  · simp only [Int.zero_mul, Int.add_zero] at *
    rw [Int.mul_assoc, show a * (2 * m) = 2 * (a * m) by rw [Int.mul_left_comm]]
    omega
  · simp only [Int.one_mul] at *
    rw [Int.add_mul, Int.mul_assoc, Int.mul_comm (a / den) den, Int.mul_add, Int.mul_one, show a * (2 * m) = 2 * (a * m) by rw [Int.mul_left_comm]]
    omega

theorem quo_unique (t den q r : Int) (hden : 0 < den) (h0 : 0 ≤ r) (h1 : r < den) (he : q * den + r = t) : t / den = q ∧ t % den = r := by
  subst he
  constructor
  · rw [Int.add_comm, Int.add_mul_ediv_right _ _ (by omega), Int.ediv_eq_zero_of_lt h0 h1]; omega
  · rw [Int.add_comm, Int.add_mul_emod_self_right, Int.emod_eq_of_lt h0 h1]

/-- What is too great on the way is too great in the end. -/
theorem quo_far (a den q r m num : Int) (hden : 0 < den) (ha : 0 ≤ a) (h0 : 0 ≤ r) (he : q * den + r = a * m) (hm : m ≤ num) : q ≤ a * num / den := by
  apply Int.le_ediv_of_mul_le hden
  have : a * m ≤ a * num := Int.mul_le_mul_of_nonneg_left hm ha
  omega

theorem and_one (x : Int) (h0 : 0 ≤ x) (h1 : x < 9223372036854775808) : bits .and .i64 x 1 = x % 2 := by
  obtain ⟨n, rfl⟩ := Int.eq_ofNat_of_zero_le h0
  show IntKind.i64.wrap ((BitVec.ofInt 64 (n : Int) &&& BitVec.ofInt 64 1).toNat : Int) = _
  have e : ((BitVec.ofInt 64 (n : Int) &&& BitVec.ofInt 64 1).toNat) = n % 2 := by
    rw [BitVec.toNat_and, BitVec.ofInt_natCast, BitVec.toNat_ofNat]
    have : (BitVec.ofInt 64 1).toNat = 1 := by decide
    rw [this, Nat.and_one_is_mod]
    omega
  rw [e, IntKind.wrap_i64]
  omega

def quoVal (a num den : Int) : Value := if a * num / den ≤ 2000000000000000 then .tuple #[.int .i64 (a * num / den), .int .i64 (a * num % den), .bool true] else .tuple #[.int .i64 0, .int .i64 0, .bool false]

set_option maxHeartbeats 1000000 in
theorem quo65 (a num den : Int) (w : World) (a0 : 0 ≤ a) (a1 : a ≤ 1000000000000000) (n0 : 0 ≤ num) (n1 : num ≤ 1000000000000000000) (d0 : 0 < den) (d1 : den ≤ 1000000000000000000) :
    Calls Tryz.prog 65 #[.int .i64 a, .int .i64 num, .int .i64 den] w fun e w' => e = .returned (quoVal a num den) ∧ ∃ n, w' = w.drewN n := by
  go_enter Tryz.func65, Tryz.ntmps65
  go_wp2_with fail
  go_loopw [9, 10, 11] (fun x y z wr => ∃ q r i : Int, x = .int .i64 q ∧ y = .int .i64 r ∧ z = .int .i64 i ∧ -1 ≤ i ∧ i ≤ 60 ∧ q * den + r = a * (num / 2 ^ (i + 1).toNat) ∧ 0 ≤ r ∧ r < den ∧ 0 ≤ q ∧ q ≤ 2000000000000000 ∧ ∃ n, wr = w.drewN n) (fun _ _ z _ => (intOf z + 1).toNat)
  case atStart =>
    refine ⟨0, 0, 60, rfl, rfl, rfl, by omega, by omega, ?_, by omega, d0, by omega, by omega, 0, rfl⟩
    have : num / 2 ^ ((60 : Int) + 1).toNat = 0 := Int.ediv_eq_zero_of_lt n0 (by show num < 2 ^ 61; omega)
    rw [this]; simp
  case round =>
    obtain ⟨q, r, i, rfl, rfl, rfl, i0, i1, he, r0, r1, q0, q1, n, rfl⟩ := hrel
    by_cases hi : 0 ≤ i
    · obtain ⟨j, rfl⟩ := Int.eq_ofNat_of_zero_le hi
      have ej : ((j : Int) + 1).toNat = j + 1 := by omega
      rw [ej] at he
      have p0 : 0 ≤ num / 2 ^ j := Int.ediv_nonneg n0 (Int.le_of_lt (Int.pow_pos (by omega)))
      have p1 : num / 2 ^ j ≤ num := Int.ediv_le_self _ n0
      have p2 : num / 2 ^ (j + 1) = num / 2 ^ j / 2 := by rw [Int.pow_succ, Int.ediv_ediv_of_nonneg (Int.le_of_lt (Int.pow_pos (by omega)))]
      have hb := and_one (num / 2 ^ j) p0 (by omega)
      rw [p2] at he
      have HE := Lib.hid he
      clear he p2 ej
      by_cases hbit : num / 2 ^ j % 2 = 1
      · have t : (num / 2 ^ j % 2 == 1) = true := by simpa using hbit
        have HB := Lib.hid hbit
        clear hbit
        have A0 : 0 ≤ a / den := Int.ediv_nonneg a0 (by omega)
        have A1 : a / den ≤ a := Int.ediv_le_self _ a0
        have R0 := Int.emod_nonneg a (show den ≠ 0 by omega)
        have R1 := Int.emod_lt_of_pos a d0
        have hst := quo_step a den q r (num / 2 ^ j / 2) 1 (by omega) d0 HE.out
        rw [show 2 * (num / 2 ^ j / 2) + 1 = num / 2 ^ j by have := HB.out; omega] at hst
        simp only [Int.one_mul, Int.zero_mul, Int.add_zero] at hst
        have D0 : 0 ≤ (2 * r + a % den) / den := Int.ediv_nonneg (by omega) (by omega)
        have D1 : (2 * r + a % den) / den < 3 := Int.ediv_lt_of_lt_mul d0 (by omega)
        have M0 : 0 ≤ (2 * r + a % den) % den := Int.emod_nonneg _ (show den ≠ 0 by omega)
        have M1 : (2 * r + a % den) % den < den := Int.emod_lt_of_pos _ d0
        have HS := Lib.hid hst
        clear hst
        by_cases hbig : 2000000000000000 < 2 * q + a / den + (2 * r + a % den) / den
        · have HV : Hid (quoVal a num den = .tuple #[.int .i64 0, .int .i64 0, .bool false]) := by
            have := quo_far a den _ _ (num / 2 ^ j) num d0 a0 M0 HS.out p1
            unfold quoVal
            rw [if_neg (by omega)]
            exact rfl
          go_wp2
          go_quiet (fail)
          go_wp2
          go_quiet (fail)
          go_wp2
          go_ret3
          exact ⟨by rw [HV.out]; rfl, _, rfl⟩
        · go_wp2
          go_quiet (fail)
          go_wp2
          go_quiet (fail)
          go_wp2
          refine ⟨⟨2 * q + a / den + (2 * r + a % den) / den, (2 * r + a % den) % den, (j : Int) - 1, rfl, rfl, by go_num, by omega, by omega, ?_, M0, M1, by omega, by omega, _, rfl⟩, by simp [intOf]⟩
          rw [show ((j : Int) - 1 + 1).toNat = j by omega]; exact HS.out
      · have t : (num / 2 ^ j % 2 == 1) = false := by simpa using hbit
        have hbit : num / 2 ^ j % 2 = 0 := by omega
        have HB := Lib.hid hbit
        clear hbit
        have A0 : 0 ≤ a / den := Int.ediv_nonneg a0 (by omega)
        have A1 : a / den ≤ a := Int.ediv_le_self _ a0
        have R0 := Int.emod_nonneg a (show den ≠ 0 by omega)
        have R1 := Int.emod_lt_of_pos a d0
        have hst := quo_step a den q r (num / 2 ^ j / 2) 0 (by omega) d0 HE.out
        rw [show 2 * (num / 2 ^ j / 2) + 0 = num / 2 ^ j by have := HB.out; omega] at hst
        simp only [Int.one_mul, Int.zero_mul, Int.add_zero] at hst
        have D0 : 0 ≤ 2 * r / den := Int.ediv_nonneg (by omega) (by omega)
        have D1 : 2 * r / den < 3 := Int.ediv_lt_of_lt_mul d0 (by omega)
        have M0 : 0 ≤ 2 * r % den := Int.emod_nonneg _ (show den ≠ 0 by omega)
        have M1 : 2 * r % den < den := Int.emod_lt_of_pos _ d0
        have HS := Lib.hid hst
        clear hst
        by_cases hbig : 2000000000000000 < 2 * q + 2 * r / den
        · have HV : Hid (quoVal a num den = .tuple #[.int .i64 0, .int .i64 0, .bool false]) := by
            have := quo_far a den _ _ (num / 2 ^ j) num d0 a0 M0 HS.out p1
            unfold quoVal
            rw [if_neg (by omega)]
            exact rfl
          go_wp2
          go_quiet (fail)
          go_wp2
          go_ret3
          exact ⟨by rw [HV.out]; rfl, _, rfl⟩
        · go_wp2
          go_quiet (fail)
          go_wp2
          refine ⟨⟨2 * q + 2 * r / den, 2 * r % den, (j : Int) - 1, rfl, rfl, by go_num, by omega, by omega, ?_, M0, M1, by omega, by omega, _, rfl⟩, by simp [intOf]⟩
          rw [show ((j : Int) - 1 + 1).toNat = j by omega]; exact HS.out
    · obtain rfl : i = -1 := by omega
      have he' : q * den + r = a * num := by simpa using he
      have hq := quo_unique _ den q r d0 r0 r1 he'
      have HV : Hid (quoVal a num den = .tuple #[.int .i64 q, .int .i64 r, .bool true]) := by unfold quoVal; rw [hq.1, hq.2, if_pos q1]; exact rfl
      clear he he' hq
      go_wp2
      go_ret3
      exact ⟨by rw [HV.out]; rfl, _, rfl⟩
end Go.Proofs.YtongoicadcmfaaaGreatDoor.V
