/- Plain arithmetic for bits.Div64: the estimate of one digit of a quotient and its correction. No program here. -/
import Derived.IntWalk
namespace Go.Proofs.YtongoicadcmfaaaGreatDoor.V

/-- What a digit's estimate satisfies: U, the digit d, the divisor y1 * 2^32 + y0. -/
structure Dig (U d y1 y0 : Int) : Prop where
  u0 : 0 ≤ U
  uY : U < y1 * 4294967296 + y0
  d0 : 0 ≤ d
  d1 : d < 4294967296
  a0 : 2147483648 ≤ y1
  a1 : y1 < 4294967296
  b0 : 0 ≤ y0
  b1 : y0 < 4294967296

theorem Dig.lt {U d y1 y0 : Int} (h : Dig U d y1 y0) : U * 4294967296 + d < (y1 * 4294967296 + y0) * 4294967296 := by
  have := h.uY; have := h.d1; omega

theorem Dig.q0 {U d y1 y0 : Int} (h : Dig U d y1 y0) : 0 ≤ (U * 4294967296 + d) / (y1 * 4294967296 + y0) ∧ (U * 4294967296 + d) / (y1 * 4294967296 + y0) < 4294967296 := by
  have := h.a0; have := h.b0; have := h.u0; have := h.d0
  refine ⟨Int.ediv_nonneg (by omega) (by omega), Int.ediv_lt_of_lt_mul (by omega) ?_⟩
  have := h.lt
  omega

theorem dig_split (q y1 y0 : Int) : q * (y1 * 4294967296 + y0) = q * y1 * 4294967296 + q * y0 := by
  rw [Int.mul_add, Int.mul_assoc]

/-- The test says that the estimate is too great. -/
theorem Dig.down {U d y1 y0 q r : Int} (h : Dig U d y1 y0) (e : q * y1 + r = U) (hc : 4294967296 ≤ q ∨ 4294967296 * r + d < q * y0) (hq : (U * 4294967296 + d) / (y1 * 4294967296 + y0) ≤ q) :
    (U * 4294967296 + d) / (y1 * 4294967296 + y0) ≤ q - 1 := by
  have := h.q0.2
  have := h.a0; have := h.b0
  rcases hc with hc | hc
  · omega
  · have : (U * 4294967296 + d) / (y1 * 4294967296 + y0) < q := by
      apply Int.ediv_lt_of_lt_mul (by omega)
      rw [dig_split]
      omega
    omega

/-- The test says that the estimate fits. -/
theorem Dig.fits {U d y1 y0 q r : Int} (h : Dig U d y1 y0) (e : q * y1 + r = U) (hc : q * y0 ≤ 4294967296 * r + d) (hq : (U * 4294967296 + d) / (y1 * 4294967296 + y0) ≤ q) :
    (U * 4294967296 + d) / (y1 * 4294967296 + y0) = q := by
  have := h.a0; have := h.b0
  have : q ≤ (U * 4294967296 + d) / (y1 * 4294967296 + y0) := by
    apply Int.le_ediv_of_mul_le (by omega)
    rw [dig_split]
    omega
  omega

/-- The remainder has grown to 2^32: the estimate fits. -/
theorem Dig.out {U d y1 y0 q r : Int} (h : Dig U d y1 y0) (e : q * y1 + r = U) (h0 : 0 ≤ q) (hr : 4294967296 ≤ r) (hq : (U * 4294967296 + d) / (y1 * 4294967296 + y0) ≤ q) :
    (U * 4294967296 + d) / (y1 * 4294967296 + y0) = q := by
  have := h.a0; have := h.b0; have := h.b1; have := h.uY; have := h.d0
  have hle : q ≤ 4294967296 := by
    refine Int.not_lt.1 fun hlt => ?_
    have : (4294967297 : Int) * y1 ≤ q * y1 := Int.mul_le_mul_of_nonneg_right (by omega) (by omega)
    omega
  have h1 : q * y0 ≤ 4294967296 * y0 := Int.mul_le_mul_of_nonneg_right hle (by omega)
  exact h.fits e (by omega) hq

/-- The first estimate. -/
theorem Dig.first {U d y1 y0 : Int} (h : Dig U d y1 y0) : (U / y1) * y1 + U % y1 = U ∧ 0 ≤ U / y1 ∧ U / y1 ≤ 4294967298 ∧ 0 ≤ U % y1 ∧ U % y1 < 4294967296 ∧ (U * 4294967296 + d) / (y1 * 4294967296 + y0) ≤ U / y1 := by
  have := h.a0; have := h.a1; have := h.b0; have := h.b1; have := h.u0; have := h.uY; have := h.d0; have := h.d1
  have hm := Int.emod_lt_of_pos U (show 0 < y1 by omega)
  have hm0 := Int.emod_nonneg U (show y1 ≠ 0 by omega)
  have e : (U / y1) * y1 + U % y1 = U := by rw [Int.mul_comm]; exact Int.mul_ediv_add_emod U y1
  refine ⟨e, Int.ediv_nonneg (by omega) (by omega), ?_, hm0, by omega, ?_⟩
  · refine Int.not_lt.1 fun hlt => ?_
    have : (4294967299 : Int) * y1 ≤ (U / y1) * y1 := Int.mul_le_mul_of_nonneg_right (by omega) (by omega)
    omega
  · have : (U * 4294967296 + d) / (y1 * 4294967296 + y0) < U / y1 + 1 := by
      apply Int.ediv_lt_of_lt_mul (by omega)
      rw [dig_split, Int.add_mul (U / y1) 1 y1, Int.add_mul (U / y1) 1 y0]
      have : 0 ≤ U / y1 * y0 := Int.mul_nonneg (Int.ediv_nonneg (by omega) (by omega)) (by omega)
      omega
    omega

/-- What is left over once the digit is taken. -/
theorem Dig.rest {U d y1 y0 q : Int} (h : Dig U d y1 y0) (hq : (U * 4294967296 + d) / (y1 * 4294967296 + y0) = q) :
    U * 4294967296 + d - q * (y1 * 4294967296 + y0) = (U * 4294967296 + d) % (y1 * 4294967296 + y0) := by
  have := Int.mul_ediv_add_emod (U * 4294967296 + d) (y1 * 4294967296 + y0)
  rw [hq, Int.mul_comm] at this
  omega

/-- Two digits one behind the other. -/
theorem two_digits (U d1 d0 Y : Int) (hY : 0 < Y) (h0 : 0 ≤ d0) :
    ((U * 4294967296 + d1) * 4294967296 + d0) / Y = (U * 4294967296 + d1) / Y * 4294967296 + ((U * 4294967296 + d1) % Y * 4294967296 + d0) / Y ∧
    ((U * 4294967296 + d1) * 4294967296 + d0) % Y = ((U * 4294967296 + d1) % Y * 4294967296 + d0) % Y := by
  generalize U * 4294967296 + d1 = X
  have e := Int.mul_ediv_add_emod X Y
  have e2 : X * 4294967296 + d0 = (X % Y * 4294967296 + d0) + Y * (X / Y * 4294967296) := by
    rw [← Int.mul_assoc]
    omega
  rw [e2]
  constructor
  · rw [Int.add_mul_ediv_left _ _ (by omega), Int.add_comm]
  · rw [Int.add_mul_emod_self_left]

/-- A number and its divisor shifted alike. -/
theorem shift_div (N y P : Int) (hP : 0 < P) (hy : 0 < y) : N * P / (y * P) = N / y ∧ N * P % (y * P) / P = N % y := by
  constructor
  · exact Int.mul_ediv_mul_of_pos_left N y hP
  · rw [Int.mul_comm N P, Int.mul_comm y P, Int.mul_emod_mul_of_pos _ _ hP]
    exact Int.mul_ediv_cancel_left _ (by omega)
end Go.Proofs.YtongoicadcmfaaaGreatDoor.V
