/- Plain arithmetic for bits.Div64: the estimate of one digit of a quotient and its correction. No program here. bits.Div64: the walk. For a divisor above the high word the two words are divided as numbers. -/
import Derived.IntWalk
import Derived.Test.YtongoicadcmfaaaGreatDoorChecked
import Derived.Test.YtongoicadcmfaaaGreatDoorShelf
import Derived.WalkKit
import Derived.WalkSpells
import Derived.WalkLawsBesides
import Derived.Deep.QuietTactic
import Derived.Deep.DeepCutAuto
import Derived.Deep.CutBlock
import Derived.BigQuiet
import Derived.Deep.DeepFit
import Derived.Lib.Hide
set_option linter.unusedSimpArgs false
set_option linter.unusedVariables false
namespace Go.Proofs.YtongoicadcmfaaaGreatDoor.V

/-- What a digit's estimate satisfies: U, the digit d, the divisor y1 * 2^32 + y0. -/
structure Dig (U d y1 y0 : Int) : Prop where
  u0 : 0 ≤ U
  uY : U < y1 * 4294967296 + y0
  d0 : 0 ≤ d
  d1 : d < 4294967296
  a0 : 2147483648 ≤ y1
  a1 : y1 < 4294967296
  b0 : 0 ≤ y0
  b1 : y0 < 4294967296

theorem Dig.lt {U d y1 y0 : Int} (h : Dig U d y1 y0) : U * 4294967296 + d < (y1 * 4294967296 + y0) * 4294967296 := by
  have := h.uY; have := h.d1; omega

theorem Dig.q0 {U d y1 y0 : Int} (h : Dig U d y1 y0) : 0 ≤ (U * 4294967296 + d) / (y1 * 4294967296 + y0) ∧ (U * 4294967296 + d) / (y1 * 4294967296 + y0) < 4294967296 := by
  have := h.a0; have := h.b0; have := h.u0; have := h.d0
  refine ⟨Int.ediv_nonneg (by omega) (by omega), Int.ediv_lt_of_lt_mul (by omega) ?_⟩
  have := h.lt
  omega

theorem dig_split (q y1 y0 : Int) : q * (y1 * 4294967296 + y0) = q * y1 * 4294967296 + q * y0 := by
  rw [Int.mul_add, Int.mul_assoc]

/-- The test says that the estimate is too great. -/
theorem Dig.down {U d y1 y0 q r : Int} (h : Dig U d y1 y0) (e : q * y1 + r = U) (hc : 4294967296 ≤ q ∨ 4294967296 * r + d < q * y0) (hq : (U * 4294967296 + d) / (y1 * 4294967296 + y0) ≤ q) :
    (U * 4294967296 + d) / (y1 * 4294967296 + y0) ≤ q - 1 := by
  have := h.q0.2
  have := h.a0; have := h.b0
  rcases hc with hc | hc
  · omega
  · have : (U * 4294967296 + d) / (y1 * 4294967296 + y0) < q := by
      apply Int.ediv_lt_of_lt_mul (by omega)
      rw [dig_split]
      omega
    omega

/-- The test says that the estimate fits. -/
theorem Dig.fits {U d y1 y0 q r : Int} (h : Dig U d y1 y0) (e : q * y1 + r = U) (hc : q * y0 ≤ 4294967296 * r + d) (hq : (U * 4294967296 + d) / (y1 * 4294967296 + y0) ≤ q) :
    (U * 4294967296 + d) / (y1 * 4294967296 + y0) = q := by
  have := h.a0; have := h.b0
  have : q ≤ (U * 4294967296 + d) / (y1 * 4294967296 + y0) := by
    apply Int.le_ediv_of_mul_le (by omega)
    rw [dig_split]
    omega
  omega

/-- The remainder has grown to 2^32: the estimate fits. -/
theorem Dig.out {U d y1 y0 q r : Int} (h : Dig U d y1 y0) (e : q * y1 + r = U) (h0 : 0 ≤ q) (hr : 4294967296 ≤ r) (hq : (U * 4294967296 + d) / (y1 * 4294967296 + y0) ≤ q) :
    (U * 4294967296 + d) / (y1 * 4294967296 + y0) = q := by
  have := h.a0; have := h.b0; have := h.b1; have := h.uY; have := h.d0
  have hle : q ≤ 4294967296 := by
    refine Int.not_lt.1 fun hlt => ?_
    have : (4294967297 : Int) * y1 ≤ q * y1 := Int.mul_le_mul_of_nonneg_right (by omega) (by omega)
    omega
  have h1 : q * y0 ≤ 4294967296 * y0 := Int.mul_le_mul_of_nonneg_right hle (by omega)
  exact h.fits e (by omega) hq

/-- The first estimate. -/
theorem Dig.first {U d y1 y0 : Int} (h : Dig U d y1 y0) : (U / y1) * y1 + U % y1 = U ∧ 0 ≤ U / y1 ∧ U / y1 ≤ 4294967298 ∧ 0 ≤ U % y1 ∧ U % y1 < 4294967296 ∧ (U * 4294967296 + d) / (y1 * 4294967296 + y0) ≤ U / y1 := by
  have := h.a0; have := h.a1; have := h.b0; have := h.b1; have := h.u0; have := h.uY; have := h.d0; have := h.d1
  have hm := Int.emod_lt_of_pos U (show 0 < y1 by omega)
  have hm0 := Int.emod_nonneg U (show y1 ≠ 0 by omega)
  have e : (U / y1) * y1 + U % y1 = U := by rw [Int.mul_comm]; exact Int.mul_ediv_add_emod U y1
  refine ⟨e, Int.ediv_nonneg (by omega) (by omega), ?_, hm0, by omega, ?_⟩
  · refine Int.not_lt.1 fun hlt => ?_
    have : (4294967299 : Int) * y1 ≤ (U / y1) * y1 := Int.mul_le_mul_of_nonneg_right (by omega) (by omega)
    omega
  · have : (U * 4294967296 + d) / (y1 * 4294967296 + y0) < U / y1 + 1 := by
      apply Int.ediv_lt_of_lt_mul (by omega)
      rw [dig_split, Int.add_mul (U / y1) 1 y1, Int.add_mul (U / y1) 1 y0]
      have : 0 ≤ U / y1 * y0 := Int.mul_nonneg (Int.ediv_nonneg (by omega) (by omega)) (by omega)
      omega
    omega

/-- What is left over once the digit is taken. -/
theorem Dig.rest {U d y1 y0 q : Int} (h : Dig U d y1 y0) (hq : (U * 4294967296 + d) / (y1 * 4294967296 + y0) = q) :
    U * 4294967296 + d - q * (y1 * 4294967296 + y0) = (U * 4294967296 + d) % (y1 * 4294967296 + y0) := by
  have := Int.mul_ediv_add_emod (U * 4294967296 + d) (y1 * 4294967296 + y0)
  rw [hq, Int.mul_comm] at this
  omega

/-- Two digits one behind the other. -/
theorem two_digits (U d1 d0 Y : Int) (hY : 0 < Y) (h0 : 0 ≤ d0) :
    ((U * 4294967296 + d1) * 4294967296 + d0) / Y = (U * 4294967296 + d1) / Y * 4294967296 + ((U * 4294967296 + d1) % Y * 4294967296 + d0) / Y ∧
    ((U * 4294967296 + d1) * 4294967296 + d0) % Y = ((U * 4294967296 + d1) % Y * 4294967296 + d0) % Y := by
  generalize U * 4294967296 + d1 = X
  have e := Int.mul_ediv_add_emod X Y
  have e2 : X * 4294967296 + d0 = (X % Y * 4294967296 + d0) + Y * (X / Y * 4294967296) := by
    rw [← Int.mul_assoc]
    omega
  rw [e2]
  constructor
  · rw [Int.add_mul_ediv_left _ _ (by omega), Int.add_comm]
  · rw [Int.add_mul_emod_self_left]

/-- A number and its divisor shifted alike. -/
theorem shift_div (N y P : Int) (hP : 0 < P) (hy : 0 < y) : N * P / (y * P) = N / y ∧ N * P % (y * P) / P = N % y := by
  constructor
  · exact Int.mul_ediv_mul_of_pos_left N y hP
  · rw [Int.mul_comm N P, Int.mul_comm y P, Int.mul_emod_mul_of_pos _ _ hP]
    exact Int.mul_ediv_cancel_left _ (by omega)
end Go.Proofs.YtongoicadcmfaaaGreatDoor.V

namespace Go.Proofs.YtongoicadcmfaaaGreatDoor.V
open Go.RowKit

theorem bitLenAux_spec : ∀ (f x : Nat), x < 2 ^ f → x < 2 ^ Lib.bitLenAux f x ∧ (x ≠ 0 → 2 ^ Lib.bitLenAux f x ≤ 2 * x) ∧ Lib.bitLenAux f x ≤ f
  | 0, x, h => by
    simp [Lib.bitLenAux] at *
    omega
  | f + 1, x, h => by
    simp only [Lib.bitLenAux]
    by_cases hx : x = 0
    · simp [hx]
    · rw [if_neg hx]
      obtain ⟨h1, h2, h3⟩ := bitLenAux_spec f (x / 2) (by rw [Nat.pow_succ] at h; omega)
      refine ⟨?_, fun _ => ?_, by omega⟩
      · rw [Nat.add_comm, Nat.pow_succ]; omega
      · rw [Nat.add_comm, Nat.pow_succ]
        by_cases h0 : x / 2 = 0
        · have : x = 1 := by omega
          subst this
          have hb : Lib.bitLenAux f (1 / 2) = 0 := by cases f <;> simp [Lib.bitLenAux]
          simp [hb]
        · have := h2 h0; omega

theorem lz64 (y : Int) (w : World) (hy : 0 < y) (hy1 : y < 18446744073709551616) :
    Calls Tryz.prog 84 #[.int .u64 y] w fun e w' => (∃ s : Nat, s < 64 ∧ e = .returned (.int .i64 s) ∧ 9223372036854775808 ≤ y * 2 ^ s ∧ y * 2 ^ s < 18446744073709551616) ∧ w = w' := by
  refine (Tryz.bits_LeadingZeros64 y w (by omega) (by omega)).mono ?_
  rintro e w' ⟨rfl, rfl⟩
  obtain ⟨n, rfl⟩ := Int.eq_ofNat_of_zero_le (show 0 ≤ y by omega)
  obtain ⟨h1, h2, h3⟩ := bitLenAux_spec 64 n (by omega)
  rw [Int.toNat_natCast]
  show (∃ s : Nat, s < 64 ∧ Ending.returned (Value.int IntKind.i64 (64 - (Lib.bitLenAux 64 n : Int))) = _ ∧ _) ∧ _
  generalize Lib.bitLenAux 64 n = b at *
  have hb : 0 < b := by
    rcases Nat.eq_zero_or_pos b with h | h
    · subst h; simp at h1; omega
    · exact h
  have h2 := h2 (by omega)
  have e64 : 2 ^ b * 2 ^ (64 - b) = 18446744073709551616 := by rw [← Nat.pow_add, show b + (64 - b) = 64 by omega]
  have h4 : 2 ^ b * 2 ^ (64 - b) ≤ 2 * n * 2 ^ (64 - b) := Nat.mul_le_mul_right _ h2
  have h5 : n * 2 ^ (64 - b) < 2 ^ b * 2 ^ (64 - b) := Nat.mul_lt_mul_of_pos_right h1 (Nat.two_pow_pos _)
  rw [e64] at h4 h5
  rw [Nat.mul_assoc] at h4
  have ec : (n : Int) * 2 ^ (64 - b) = ((n * 2 ^ (64 - b) : Nat) : Int) := by simp
  refine ⟨⟨64 - b, by omega, by congr 2; omega, ?_, ?_⟩, rfl⟩ <;> rw [ec] <;> omega

set_option maxHeartbeats 400000 in
theorem div64_zero (lo y : Int) (w : World) (h0 : 0 ≤ lo) (h1 : lo < 18446744073709551616) (hy : 0 < y) (hy1 : y < 18446744073709551616) :
    Calls Tryz.prog 59 #[.int .u64 0, .int .u64 lo, .int .u64 y] w fun e w' => e = .returned (.tuple #[.int .u64 (lo / y), .int .u64 (lo % y)]) ∧ ∃ n, w' = w.drewN n := by
  go_enter Tryz.func59, Tryz.ntmps59
  go_wp2
  go_quiet (fail)
  go_wp2
  go_ret2
  exact ⟨rfl, _, rfl⟩

/-- The words that the walk names. -/
structure Words (hi lo y : Int) (s : Nat) (Y a1 a0 H l U L u1 u0 : Int) : Prop where
  hY : y * 2 ^ s = Y
  hY0 : 9223372036854775808 ≤ Y
  hY1 : Y < 18446744073709551616
  ha1 : Y / 4294967296 = a1
  ha0 : bits .and .u64 Y 4294967295 = a0
  hH : IntKind.u64.wrap (hi * 2 ^ s) = H
  hl : lo / 2 ^ (64 - s) = l
  hU : bits .or .u64 H l = U
  hL : IntKind.u64.wrap (lo * 2 ^ s) = L
  hu1 : L / 4294967296 = u1
  hu0 : bits .and .u64 L 4294967295 = u0
  whole : (hi * 18446744073709551616 + lo) * 2 ^ s = (U * 4294967296 + u1) * 4294967296 + u0
  split : Y = a1 * 4294967296 + a0
  dig : Dig U u1 a1 a0
  b0 : 0 ≤ u0
  b1 : u0 < 4294967296

theorem and_mask (x : Int) (h0 : 0 ≤ x) (h1 : x < 18446744073709551616) : bits .and .u64 x 4294967295 = x % 4294967296 := by
  rw [u64_and x 4294967295 h0 h1 (by omega) (by omega)]
  have : x.toNat &&& (4294967295 : Int).toNat = x.toNat % 2 ^ 32 := Nat.and_two_pow_sub_one_eq_mod x.toNat 32
  rw [this]
  omega

theorem words (hi lo y : Int) (s : Nat) (hs : s < 64) (g0 : 0 < hi) (g1 : hi < y) (h0 : 0 ≤ lo) (h1 : lo < 18446744073709551616) (hs1 : 9223372036854775808 ≤ y * 2 ^ s) (hs2 : y * 2 ^ s < 18446744073709551616) :
    ∃ Y a1 a0 H l U L u1 u0, Words hi lo y s Y a1 a0 H l U L u1 u0 := by
  have hP : (0 : Int) < 2 ^ s := Int.pow_pos (by omega)
  have hHlt : hi * 2 ^ s + 2 ^ s ≤ y * 2 ^ s := by
    have : (hi + 1) * 2 ^ s ≤ y * 2 ^ s := Int.mul_le_mul_of_nonneg_right (by omega) (by omega)
    rw [Int.add_mul] at this
    omega
  have hH0 : 0 ≤ hi * 2 ^ s := Int.mul_nonneg (by omega) (by omega)
  have hL0 : 0 ≤ lo * 2 ^ s := Int.mul_nonneg (by omega) (by omega)
  have hl0 : 0 ≤ lo / 2 ^ (64 - s) := Int.ediv_nonneg h0 (Int.le_of_lt (Int.pow_pos (by omega)))
  have e64 : (2 : Int) ^ (64 - s) * 2 ^ s = 18446744073709551616 := by rw [← Int.pow_add, show 64 - s + s = 64 by omega]; rfl
  have hl1 : lo / 2 ^ (64 - s) < 2 ^ s := Int.ediv_lt_of_lt_mul (Int.pow_pos (by omega)) (by rw [Int.mul_comm, e64]; exact h1)
  have eL : lo * 2 ^ s / 18446744073709551616 = lo / 2 ^ (64 - s) := by
    rw [← e64, Int.mul_ediv_mul_of_pos_left _ _ hP]
  have hor : bits .or .u64 (hi * 2 ^ s) (lo / 2 ^ (64 - s)) = hi * 2 ^ s + lo / 2 ^ (64 - s) := by
    rw [u64_or _ _ hH0 (by omega) hl0 (by omega)]
    obtain ⟨h, rfl⟩ := Int.eq_ofNat_of_zero_le (show 0 ≤ hi by omega)
    obtain ⟨l, hl⟩ := Int.eq_ofNat_of_zero_le hl0
    rw [hl] at hl1 ⊢
    have ec : (h : Int) * 2 ^ s = ((2 ^ s * h : Nat) : Int) := by simp [Int.mul_comm]
    have ep : ((2 : Int) ^ s) = ((2 ^ s : Nat) : Int) := by simp
    rw [ec, Int.toNat_natCast, Int.toNat_natCast, ← Nat.two_pow_add_eq_or_of_lt (by rw [ep] at hl1; omega)]
    omega
  have ewH : IntKind.u64.wrap (hi * 2 ^ s) = hi * 2 ^ s := by rw [IntKind.wrap_u64]; omega
  have ewL : IntKind.u64.wrap (lo * 2 ^ s) = lo * 2 ^ s % 18446744073709551616 := by rw [IntKind.wrap_u64]
  refine ⟨_, _, _, _, _, _, _, _, _, ⟨rfl, hs1, hs2, rfl, rfl, rfl, rfl, rfl, rfl, rfl, rfl, ?_, ?_, ⟨?_, ?_, ?_, ?_, ?_, ?_, ?_, ?_⟩, ?_, ?_⟩⟩
  all_goals try rw [ewH, hor]
  all_goals try rw [ewL]
  all_goals try rw [and_mask _ (by omega) (by omega)]
  all_goals try rw [and_mask _ (by omega) (by omega)]
  · rw [Int.add_mul, Int.mul_assoc, Int.mul_comm 18446744073709551616, ← Int.mul_assoc]
    have := Int.mul_ediv_add_emod (lo * 2 ^ s) 18446744073709551616
    rw [eL] at this
    omega
  all_goals omega

set_option maxHeartbeats 1000000 in
theorem div64_main (hi lo y : Int) (w : World) (g0 : 0 < hi) (g1 : hi < y) (h0 : 0 ≤ lo) (h1 : lo < 18446744073709551616) (hy : 0 < y) (hy1 : y < 18446744073709551616) :
    Calls Tryz.prog 59 #[.int .u64 hi, .int .u64 lo, .int .u64 y] w fun e w' => e = .returned (.tuple #[.int .u64 ((hi * 18446744073709551616 + lo) / y), .int .u64 ((hi * 18446744073709551616 + lo) % y)]) ∧ ∃ n, w' = w.drewN n := by
  go_enter Tryz.func59, Tryz.ntmps59
  go_wp2_with fail
  refine (lz64 y _ hy hy1).mono ?_
  rintro e w' ⟨⟨s, hs, rfl, hs1, hs2⟩, rfl⟩
  obtain ⟨Y, a1, a0, H, l, U, L, u1, u0, W⟩ := words hi lo y s hs g0 g1 h0 h1 hs1 hs2
  have hq := W.dig.first
  obtain ⟨q, eq⟩ : ∃ q, U / a1 = q := ⟨_, rfl⟩
  obtain ⟨r, er⟩ : ∃ r, U % a1 = r := ⟨_, rfl⟩
  rw [eq, er] at hq
  obtain ⟨hq1, hq2, hq3, hq4, hq5, hq6⟩ := hq
  obtain ⟨M, eM⟩ : ∃ M, IntKind.u64.wrap (q * a1) = M := ⟨_, rfl⟩
  have eM' : M = q * a1 := by
    rw [← eM, IntKind.wrap_u64]
    have := W.dig.u0; have := W.dig.uY; have := W.hY1; have := W.split
    have : 0 ≤ q * a1 := Int.mul_nonneg hq2 (by have := W.dig.a0; omega)
    omega
  have e1 := W.hY; have e2 := W.ha1; have e3 := W.ha0; have e4 := W.hH; have e5 := W.hl; have e6 := W.hU; have e7 := W.hL; have e8 := W.hu1; have e9 := W.hu0
  have b1 : 0 ≤ U := W.dig.u0
  have b2 : U < 18446744073709551616 := by have := W.dig.uY; have := W.hY1; have := W.split; omega
  have b3 : 0 < a1 := by have := W.dig.a0; omega
  have b4 : a1 < 4294967296 := W.dig.a1
  have b5 : 0 ≤ u1 := W.dig.d0
  have b6 : u1 < 4294967296 := W.dig.d1
  have b7 : 0 ≤ a0 := W.dig.b0
  have b8 : a0 < 4294967296 := W.dig.b1
  have erM : U - M = r := by omega
  have HM := Lib.hid eM'
  have HW := Lib.hid W
  have Hq := Lib.hid hq1
  have Hq6 := Lib.hid hq6
  clear W hq1 hq6 eM'
  go_upto_block 0 with fail
  go_cut [15, 16] (fun c15 c16 wx => ∃ q r : Int, c15 = .int .u64 q ∧ c16 = .int .u64 r ∧ (U * 4294967296 + u1) / (a1 * 4294967296 + a0) = q ∧ w = wx)
  case first =>
    go_wp2_with fail
    clear eM erM
    go_loop [15, 16] (fun c15 c16 => ∃ q r : Int, c15 = .int .u64 q ∧ c16 = .int .u64 r ∧ q * a1 + r = U ∧ 0 ≤ q ∧ q ≤ 4294967298 ∧ 0 ≤ r ∧ r < 4294967296 ∧ (U * 4294967296 + u1) / (a1 * 4294967296 + a0) ≤ q) (fun c15 _ => (intOf c15).toNat)
    case atStart => exact ⟨q, r, by rw [eq], rfl, Hq.out, hq2, hq3, hq4, hq5, Hq6.out⟩
    case round =>
      clear Hq Hq6 hq2 hq3 hq4 hq5 eq er HM
      obtain ⟨p, t, rfl, rfl, k1, k2, k3, k4, k5, k6⟩ := hrel
      have K1 := Lib.hid k1
      have K6 := Lib.hid k6
      clear k1 k6
      have hdig := HW.out.dig
      by_cases c1 : 4294967296 ≤ p
      · have cc : decide (4294967296 ≤ p) = true := decide_eq_true c1
        have hd := Lib.hid (hdig.down K1.out (.inl c1) K6.out)
        have ke := Lib.hid (show (p - 1) * a1 + (t + a1) = U by rw [Int.sub_mul, ← K1.out]; omega)
        by_cases c3 : 4294967296 ≤ t + a1
        · go_wp2
          go_meet
          exact ⟨p - 1, t + a1, rfl, rfl, hdig.out ke.out (by omega) c3 hd.out, rfl⟩
        · go_wp2
          go_round
          case rel => exact ⟨p - 1, t + a1, rfl, rfl, ke.out, by omega, by omega, by omega, by omega, hd.out⟩
          case measure => simp [intOf]; omega
      · have cc : decide (4294967296 ≤ p) = false := decide_eq_false c1
        have hpa0 : 0 ≤ p * a0 := Int.mul_nonneg k2 b7
        have hpa1 : p * a0 < 18446744073709551616 := by
          have : p * a0 ≤ 4294967295 * a0 := Int.mul_le_mul_of_nonneg_right (by omega) b7
          omega
        by_cases c2 : 4294967296 * t + u1 < p * a0
        · have hd := Lib.hid (hdig.down K1.out (.inr c2) K6.out)
          have ke := Lib.hid (show (p - 1) * a1 + (t + a1) = U by rw [Int.sub_mul, ← K1.out]; omega)
          have hp1 : 0 < p := by
            rcases Int.lt_or_eq_of_le k2 with h | h
            · exact h
            · subst h; simp at c2; omega
          by_cases c3 : 4294967296 ≤ t + a1
          · go_wp2
            go_meet
            exact ⟨p - 1, t + a1, rfl, rfl, hdig.out ke.out (by omega) c3 hd.out, rfl⟩
          · go_wp2
            go_round
            case rel => exact ⟨p - 1, t + a1, rfl, rfl, ke.out, by omega, by omega, by omega, by omega, hd.out⟩
            case measure => simp [intOf]; omega
        · have hf := Lib.hid (hdig.fits K1.out (by omega) K6.out)
          go_wp2
          go_meet
          exact ⟨p, t, rfl, rfl, hf.out, rfl⟩
  case rest =>
    obtain ⟨q', r', rfl, rfl, hq', rfl⟩ := hcut
    clear Hq Hq6 hq2 hq3 hq4 hq5 eq er HM eM erM
    obtain ⟨v1, v2⟩ := HW.out.dig.q0
    rw [hq'] at v1 v2
    have hrest := HW.out.dig.rest hq'
    rw [← HW.out.split] at hrest hq'
    have hYp : 0 < Y := by have := HW.out.hY0; omega
    have v3 := Int.emod_nonneg (U * 4294967296 + u1) (show Y ≠ 0 by omega)
    have v4 := Int.emod_lt_of_pos (U * 4294967296 + u1) hYp
    obtain ⟨V, eV⟩ : ∃ V, (U * 4294967296 + u1) % Y = V := ⟨_, rfl⟩
    rw [eV] at hrest v3 v4
    have ev : IntKind.u64.wrap (IntKind.u64.wrap (IntKind.u64.wrap (U * 4294967296) + u1) - IntKind.u64.wrap (q' * Y)) = V := by
      have := HW.out.hY1
      simp only [IntKind.wrap_u64]
      omega
    have hdig : Dig V u0 a1 a0 := ⟨v3, by have := HW.out.split; omega, HW.out.b0, HW.out.b1, HW.out.dig.a0, b4, b7, b8⟩
    have hq := hdig.first
    obtain ⟨q, eq⟩ : ∃ q, V / a1 = q := ⟨_, rfl⟩
    obtain ⟨r, er⟩ : ∃ r, V % a1 = r := ⟨_, rfl⟩
    rw [eq, er] at hq
    obtain ⟨hq1, hq2, hq3, hq4, hq5, hq6⟩ := hq
    obtain ⟨M, eM⟩ : ∃ M, IntKind.u64.wrap (q * a1) = M := ⟨_, rfl⟩
    have hV1 : V < 18446744073709551616 := by have := HW.out.hY1; omega
    have eM' : M = q * a1 := by
      rw [← eM, IntKind.wrap_u64]
      have : 0 ≤ q * a1 := Int.mul_nonneg hq2 (by omega)
      omega
    have erM : V - M = r := by omega
    have HM := Lib.hid eM'
    have Hq := Lib.hid hq1
    have Hq6 := Lib.hid hq6
    have HV := Lib.hid eV
    have Hr := Lib.hid hrest
    have Hqq := Lib.hid hq'
    have b9 := HW.out.b0
    have b10 := HW.out.b1
    clear hq1 hq6 eM' eV hrest hq'
    go_upto_block 2 with fail
    go_cut [16, 18] (fun c16 c18 wx => ∃ q r : Int, c18 = .int .u64 q ∧ c16 = .int .u64 r ∧ (V * 4294967296 + u0) / (a1 * 4294967296 + a0) = q ∧ w = wx)
    case first =>
      go_wp2_with fail
      clear eM erM
      go_loop [16, 18] (fun c16 c18 => ∃ q r : Int, c18 = .int .u64 q ∧ c16 = .int .u64 r ∧ q * a1 + r = V ∧ 0 ≤ q ∧ q ≤ 4294967298 ∧ 0 ≤ r ∧ r < 4294967296 ∧ (V * 4294967296 + u0) / (a1 * 4294967296 + a0) ≤ q) (fun _ c18 => (intOf c18).toNat)
      case atStart => exact ⟨q, r, by rw [eq], rfl, Hq.out, hq2, hq3, hq4, hq5, Hq6.out⟩
      case round =>
        clear Hq Hq6 hq2 hq3 hq4 hq5 eq er HM
        obtain ⟨p, t, rfl, rfl, k1, k2, k3, k4, k5, k6⟩ := hrel
        have K1 := Lib.hid k1
        have K6 := Lib.hid k6
        clear k1 k6
        by_cases c1 : 4294967296 ≤ p
        · have cc : decide (4294967296 ≤ p) = true := decide_eq_true c1
          have hd := Lib.hid (hdig.down K1.out (.inl c1) K6.out)
          have ke := Lib.hid (show (p - 1) * a1 + (t + a1) = V by rw [Int.sub_mul, ← K1.out]; omega)
          by_cases c3 : 4294967296 ≤ t + a1
          · go_wp2
            go_meet
            exact ⟨p - 1, t + a1, rfl, rfl, hdig.out ke.out (by omega) c3 hd.out, rfl⟩
          · go_wp2
            go_round
            case rel => exact ⟨p - 1, t + a1, rfl, rfl, ke.out, by omega, by omega, by omega, by omega, hd.out⟩
            case measure => simp [intOf]; omega
        · have cc : decide (4294967296 ≤ p) = false := decide_eq_false c1
          have hpa0 : 0 ≤ p * a0 := Int.mul_nonneg k2 b7
          have hpa1 : p * a0 < 18446744073709551616 := by
            have : p * a0 ≤ 4294967295 * a0 := Int.mul_le_mul_of_nonneg_right (by omega) b7
            omega
          by_cases c2 : 4294967296 * t + u0 < p * a0
          · have hd := Lib.hid (hdig.down K1.out (.inr c2) K6.out)
            have ke := Lib.hid (show (p - 1) * a1 + (t + a1) = V by rw [Int.sub_mul, ← K1.out]; omega)
            have hp1 : 0 < p := by
              rcases Int.lt_or_eq_of_le k2 with h | h
              · exact h
              · subst h; simp at c2; omega
            by_cases c3 : 4294967296 ≤ t + a1
            · go_wp2
              go_meet
              exact ⟨p - 1, t + a1, rfl, rfl, hdig.out ke.out (by omega) c3 hd.out, rfl⟩
            · go_wp2
              go_round
              case rel => exact ⟨p - 1, t + a1, rfl, rfl, ke.out, by omega, by omega, by omega, by omega, hd.out⟩
              case measure => simp [intOf]; omega
          · have hf := Lib.hid (hdig.fits K1.out (by omega) K6.out)
            go_wp2
            go_meet
            exact ⟨p, t, rfl, rfl, hf.out, rfl⟩
    case rest =>
      obtain ⟨q0, r0, rfl, rfl, hq0, rfl⟩ := hcut
      clear Hq Hq6 hq2 hq3 hq4 hq5 eq er HM eM erM
      obtain ⟨z1, z2⟩ := hdig.q0
      rw [hq0] at z1 z2
      have hrest := hdig.rest hq0
      rw [← HW.out.split] at hrest hq0
      have z3 := Int.emod_nonneg (V * 4294967296 + u0) (show Y ≠ 0 by omega)
      have z4 := Int.emod_lt_of_pos (V * 4294967296 + u0) hYp
      obtain ⟨Z, eZ⟩ : ∃ Z, (V * 4294967296 + u0) % Y = Z := ⟨_, rfl⟩
      rw [eZ] at hrest z3 z4
      have ez : IntKind.u64.wrap (IntKind.u64.wrap (IntKind.u64.wrap (V * 4294967296) + u0) - IntKind.u64.wrap (q0 * Y)) = Z := by
        have := HW.out.hY1
        simp only [IntKind.wrap_u64]
        omega
      have hfin := shift_div (hi * 18446744073709551616 + lo) y (2 ^ s) (Int.pow_pos (by omega)) hy
      have htwo := two_digits U u1 u0 Y hYp b9
      rw [HW.out.whole, HW.out.hY, htwo.1, htwo.2, HV.out, Hqq.out, hq0, eZ] at hfin
      have H1 := Lib.hid hfin.1
      have H2 := Lib.hid hfin.2
      clear hfin htwo hq0 eZ hrest
      go_wp2
      go_ret2
      exact ⟨by rw [← H1.out, ← H2.out]; rfl, 0, rfl⟩

/-- bits.Div64 at a divisor above the high word: the two words as one number, divided. -/
theorem div64 (hi lo y : Int) (w : World) (g0 : 0 ≤ hi) (g1 : hi < y) (h0 : 0 ≤ lo) (h1 : lo < 18446744073709551616) (hy1 : y < 18446744073709551616) :
    Calls Tryz.prog 59 #[.int .u64 hi, .int .u64 lo, .int .u64 y] w fun e w' => e = .returned (.tuple #[.int .u64 ((hi * 18446744073709551616 + lo) / y), .int .u64 ((hi * 18446744073709551616 + lo) % y)]) ∧ ∃ n, w' = w.drewN n := by
  by_cases h : hi = 0
  · subst h
    rw [show (0 : Int) * 18446744073709551616 + lo = lo by omega]
    exact div64_zero lo y w h0 h1 (by omega) hy1
  · exact div64_main hi lo y w (by omega) g1 h0 h1 (by omega) hy1
end Go.Proofs.YtongoicadcmfaaaGreatDoor.V
