/- Fractions: gcd, magnitude, Check, the tests of a price and a haircut. -/
import Derived.Test.YtongoicadcmfaaaGreatDoorV0
set_option linter.unusedSimpArgs false
set_option linter.unusedVariables false
namespace Go.Proofs.YtongoicadcmfaaaGreatDoor.V
open Go.RowKit

def gcdI (a b : Int) : Int := (Nat.gcd a.toNat b.toNat : Int)
theorem gcd_step (a b : Int) (ha : 0 ≤ a) (hb : 0 < b) : gcdI b (a % b) = gcdI a b := by
  obtain ⟨a, rfl⟩ := Int.eq_ofNat_of_zero_le ha
  obtain ⟨b, rfl⟩ := Int.eq_ofNat_of_zero_le (Int.le_of_lt hb)
  unfold gcdI
  rw [show ((a : Int) % (b : Int)) = ((a % b : Nat) : Int) by omega]
  simp only [Int.toNat_natCast]
  rw [Nat.gcd_comm a b, Nat.gcd_rec b a, Nat.gcd_comm]
theorem gcd_end (a : Int) (ha : 0 ≤ a) : gcdI a 0 = a := by
  unfold gcdI
  simp; omega

set_option maxHeartbeats 400000 in
theorem gcd105 (a b : Int) (w : World) (ha : 0 ≤ a) (ha1 : a < 18446744073709551616) (hb : 0 ≤ b) (hb1 : b < 18446744073709551616) :
    Calls Tryz.prog 105 #[.int .u64 a, .int .u64 b] w fun e w' => e = .returned (.int .u64 (gcdI a b)) ∧ ∃ n, w' = w.drewN n := by
  go_enter Tryz.func105, Tryz.ntmps105
  go_wp2_with fail
  go_loopw [0, 1] (fun x y wr => ∃ p q : Int, x = .int .u64 p ∧ y = .int .u64 q ∧ 0 ≤ p ∧ p < 18446744073709551616 ∧ 0 ≤ q ∧ q < 18446744073709551616 ∧ gcdI p q = gcdI a b ∧ ∃ n, wr = w.drewN n) (fun _ y _ => (intOf y).toNat)
  case atStart => exact ⟨a, b, rfl, rfl, ha, ha1, hb, hb1, rfl, 0, rfl⟩
  case round =>
    obtain ⟨p, q, rfl, rfl, p0, p1, q0, q1, he, n, rfl⟩ := hrel
    have HE := Lib.hid he
    clear he
    by_cases h : 0 < q
    · have hq : (q == 0) = false := by simpa using (by omega : ¬ q = 0)
      have hq' : (q != 0) = true := by simpa using (by omega : ¬ q = 0)
      have hs := Lib.hid (gcd_step p q p0 h)
      have m0 := Int.emod_nonneg p (show q ≠ 0 by omega)
      have m1 := Int.emod_lt_of_pos p h
      go_wp2
      go_quiet (fail)
      go_wp2
      exact ⟨⟨q, p % q, rfl, rfl, by omega, by omega, by omega, by omega, hs.out.trans HE.out, _, World.drewN_drewN _ _ _⟩, by simp [intOf]; omega⟩
    · obtain rfl : q = 0 := by omega
      go_wp2
      go_ret
      exact ⟨by rw [← HE.out, gcd_end p p0]; rfl, _, rfl⟩
set_option maxHeartbeats 400000 in
theorem gcd112 (a b : Int) (w : World) (ha : 0 ≤ a) (ha1 : a < 18446744073709551616) (hb : 0 ≤ b) (hb1 : b < 18446744073709551616) :
    Calls Tryz.prog 112 #[.int .u64 a, .int .u64 b] w fun e w' => e = .returned (.int .u64 (gcdI a b)) ∧ ∃ n, w' = w.drewN n := by
  go_enter Tryz.func112, Tryz.ntmps112
  go_wp2_with fail
  go_loopw [0, 1] (fun x y wr => ∃ p q : Int, x = .int .u64 p ∧ y = .int .u64 q ∧ 0 ≤ p ∧ p < 18446744073709551616 ∧ 0 ≤ q ∧ q < 18446744073709551616 ∧ gcdI p q = gcdI a b ∧ ∃ n, wr = w.drewN n) (fun _ y _ => (intOf y).toNat)
  case atStart => exact ⟨a, b, rfl, rfl, ha, ha1, hb, hb1, rfl, 0, rfl⟩
  case round =>
    obtain ⟨p, q, rfl, rfl, p0, p1, q0, q1, he, n, rfl⟩ := hrel
    have HE := Lib.hid he
    clear he
    by_cases h : 0 < q
    · have hq : (q == 0) = false := by simpa using (by omega : ¬ q = 0)
      have hq' : (q != 0) = true := by simpa using (by omega : ¬ q = 0)
      have hs := Lib.hid (gcd_step p q p0 h)
      have m0 := Int.emod_nonneg p (show q ≠ 0 by omega)
      have m1 := Int.emod_lt_of_pos p h
      go_wp2
      go_quiet (fail)
      go_wp2
      exact ⟨⟨q, p % q, rfl, rfl, by omega, by omega, by omega, by omega, hs.out.trans HE.out, _, World.drewN_drewN _ _ _⟩, by simp [intOf]; omega⟩
    · obtain rfl : q = 0 := by omega
      go_wp2
      go_ret
      exact ⟨by rw [← HE.out, gcd_end p p0]; rfl, _, rfl⟩

/-- The absolute value as the two texts reckon it. -/
def mag (x : Int) : Int := if x < 0 then -x else x
theorem mag_bd (x : Int) (h0 : -9223372036854775808 ≤ x) (h1 : x ≤ 9223372036854775807) : 0 ≤ mag x ∧ mag x < 18446744073709551616 := by unfold mag; split <;> omega

theorem mag104 (x : Int) (w : World) (h0 : -9223372036854775808 ≤ x) (h1 : x ≤ 9223372036854775807) :
    Calls Tryz.prog 104 #[.int .i64 x] w fun e w' => e = .returned (.tuple #[.int .u64 (mag x), .bool (decide (x < 0))]) ∧ w = w' := by
  by_cases h : x < 0
  · have hm : mag x = IntKind.u64.wrap (-IntKind.u64.wrap x) := by unfold mag; rw [if_pos h]; simp only [IntKind.wrap_u64]; omega
    rw [hm]
    clear hm
    go_enter Tryz.func104, Tryz.ntmps104
    go_wp2
    go_ret2
    exact ⟨by simp [h], rfl⟩
  · have hm : mag x = x := by unfold mag; rw [if_neg h]
    rw [hm]
    clear hm
    go_enter Tryz.func104, Tryz.ntmps104
    go_wp2
    go_ret2
    exact ⟨by simp [h], rfl⟩

theorem size113 (x : Int) (w : World) (h0 : -9223372036854775808 ≤ x) (h1 : x ≤ 9223372036854775807) :
    Calls Tryz.prog 113 #[.int .i64 x] w fun e w' => e = .returned (.int .u64 (mag x)) ∧ w = w' := by
  by_cases h : x < 0
  · have hm : mag x = -(x + 1) + 1 := by unfold mag; rw [if_pos h]; omega
    rw [hm]
    clear hm
    go_enter Tryz.func113, Tryz.ntmps113
    go_wp2
    go_ret
    exact ⟨rfl, rfl⟩
  · have hm : mag x = x := by unfold mag; rw [if_neg h]
    rw [hm]
    clear hm
    go_enter Tryz.func113, Tryz.ntmps113
    go_wp2
    go_ret
    exact ⟨rfl, rfl⟩

/-- The error number of a fraction. -/
def fchk (num den : Int) : Int := if den < 1 ∨ 1000000000 < den ∨ num < -1000000000 ∨ 1000000000 < num then 2 else if gcdI (mag num) den = 1 then 0 else 3

set_option maxHeartbeats 1000000 in
theorem check81 (num den : Int) (w : World) (h0 : -9223372036854775808 ≤ num) (h1 : num ≤ 9223372036854775807) (d0 : -9223372036854775808 ≤ den) (d1 : den ≤ 9223372036854775807) :
    Calls Tryz.prog 81 #[.agg #[.int .i64 num, .int .i64 den]] w fun e w' => e = .returned (.int .i64 (fchk num den)) ∧ Below w.heap.size w w' := by
  go_enter Tryz.func81, Tryz.ntmps81
  by_cases c1 : den < 1
  · have e : fchk num den = 2 := by unfold fchk; rw [if_pos (by omega)]
    rw [e]
    have b1 : decide (den < 1) = true := decide_eq_true c1
    go_wp2
    go_ret
    exact ⟨rfl, bl_alloc (Below.refl _ _) _⟩
  have b1 : decide (den < 1) = false := decide_eq_false c1
  by_cases c2 : 1000000000 < den
  · have e : fchk num den = 2 := by unfold fchk; rw [if_pos (by omega)]
    rw [e]
    have b2 : decide (1000000000 < den) = true := decide_eq_true c2
    go_wp2
    go_ret
    exact ⟨rfl, bl_alloc (Below.refl _ _) _⟩
  have b2 : decide (1000000000 < den) = false := decide_eq_false c2
  by_cases c3 : num < -1000000000
  · have e : fchk num den = 2 := by unfold fchk; rw [if_pos (by omega)]
    rw [e]
    have b3 : decide (num < -1000000000) = true := decide_eq_true c3
    go_wp2
    go_ret
    exact ⟨rfl, bl_alloc (Below.refl _ _) _⟩
  have b3 : decide (num < -1000000000) = false := decide_eq_false c3
  by_cases c4 : 1000000000 < num
  · have e : fchk num den = 2 := by unfold fchk; rw [if_pos (by omega)]
    rw [e]
    have b4 : decide (1000000000 < num) = true := decide_eq_true c4
    go_wp2
    go_ret
    exact ⟨rfl, bl_alloc (Below.refl _ _) _⟩
  have b4 : decide (1000000000 < num) = false := decide_eq_false c4
  obtain ⟨m0, m1⟩ := mag_bd num h0 h1
  have hm := fun W => mag104 num W h0 h1
  have hg := fun W => gcd105 (mag num) den W m0 m1 (by omega) (by omega)
  by_cases c5 : gcdI (mag num) den = 1
  · have e : fchk num den = 0 := by unfold fchk; rw [if_neg (by omega), if_pos c5]
    rw [e]
    have b5 : (gcdI (mag num) den != 1) = false := by simpa using c5
    have HM := Lib.hid hm; have HG := Lib.hid hg
    clear hm hg c5
    generalize mag num = m at *
    generalize gcdI m den = g at *
    go_wp2_with (first | (go_at_call 104; refine (HM.out _).mono ?_; rintro e w' ⟨rfl, rfl⟩) | (go_at_call 105; refine (HG.out _).mono ?_; rintro e w' ⟨rfl, n, rfl⟩))
    go_ret
    exact ⟨rfl, bl_drewN (bl_alloc (Below.refl _ _) _) _⟩
  · have e : fchk num den = 3 := by unfold fchk; rw [if_neg (by omega), if_neg c5]
    rw [e]
    have b5 : (gcdI (mag num) den != 1) = true := by simpa using c5
    have HM := Lib.hid hm; have HG := Lib.hid hg
    clear hm hg c5
    generalize mag num = m at *
    generalize gcdI m den = g at *
    go_wp2_with (first | (go_at_call 104; refine (HM.out _).mono ?_; rintro e w' ⟨rfl, rfl⟩) | (go_at_call 105; refine (HG.out _).mono ?_; rintro e w' ⟨rfl, n, rfl⟩))
    go_ret
    exact ⟨rfl, bl_drewN (bl_alloc (Below.refl _ _) _) _⟩

set_option maxHeartbeats 1000000 in
theorem check93 (num den : Int) (w : World) (h0 : -9223372036854775808 ≤ num) (h1 : num ≤ 9223372036854775807) (d0 : -9223372036854775808 ≤ den) (d1 : den ≤ 9223372036854775807) :
    Calls Tryz.prog 93 #[.agg #[.int .i64 num, .int .i64 den]] w fun e w' => e = .returned (.int .i64 (fchk num den)) ∧ Below w.heap.size w w' := by
  go_enter Tryz.func93, Tryz.ntmps93
  by_cases c1 : den < 1
  · have e : fchk num den = 2 := by unfold fchk; rw [if_pos (by omega)]
    rw [e]
    have b1 : decide (den < 1) = true := decide_eq_true c1
    go_wp2
    go_ret
    exact ⟨rfl, bl_alloc (Below.refl _ _) _⟩
  have b1 : decide (den < 1) = false := decide_eq_false c1
  by_cases c2 : 1000000000 < den
  · have e : fchk num den = 2 := by unfold fchk; rw [if_pos (by omega)]
    rw [e]
    have b2 : decide (1000000000 < den) = true := decide_eq_true c2
    go_wp2
    go_ret
    exact ⟨rfl, bl_alloc (Below.refl _ _) _⟩
  have b2 : decide (1000000000 < den) = false := decide_eq_false c2
  by_cases c3 : num < -1000000000
  · have e : fchk num den = 2 := by unfold fchk; rw [if_pos (by omega)]
    rw [e]
    have b3 : decide (num < -1000000000) = true := decide_eq_true c3
    go_wp2
    go_ret
    exact ⟨rfl, bl_alloc (Below.refl _ _) _⟩
  have b3 : decide (num < -1000000000) = false := decide_eq_false c3
  by_cases c4 : 1000000000 < num
  · have e : fchk num den = 2 := by unfold fchk; rw [if_pos (by omega)]
    rw [e]
    have b4 : decide (1000000000 < num) = true := decide_eq_true c4
    go_wp2
    go_ret
    exact ⟨rfl, bl_alloc (Below.refl _ _) _⟩
  have b4 : decide (1000000000 < num) = false := decide_eq_false c4
  obtain ⟨m0, m1⟩ := mag_bd num h0 h1
  have hm := fun W => size113 num W h0 h1
  have hg := fun W => gcd112 (mag num) den W m0 m1 (by omega) (by omega)
  by_cases c5 : gcdI (mag num) den = 1
  · have e : fchk num den = 0 := by unfold fchk; rw [if_neg (by omega), if_pos c5]
    rw [e]
    have b5 : (gcdI (mag num) den != 1) = false := by simpa using c5
    have HM := Lib.hid hm; have HG := Lib.hid hg
    clear hm hg c5
    generalize mag num = m at *
    generalize gcdI m den = g at *
    go_wp2_with fail
    go_quiet ((first | (go_at_call 113; exact quiet_left (HM.out _)) | (go_at_call 112; exact Calls.quiet_of (HG.out _))))
    go_wp2
    go_ret
    exact ⟨rfl, bl_drewN (bl_alloc (Below.refl _ _) _) _⟩
  · have e : fchk num den = 3 := by unfold fchk; rw [if_neg (by omega), if_neg c5]
    rw [e]
    have b5 : (gcdI (mag num) den != 1) = true := by simpa using c5
    have HM := Lib.hid hm; have HG := Lib.hid hg
    clear hm hg c5
    generalize mag num = m at *
    generalize gcdI m den = g at *
    go_wp2_with fail
    go_quiet ((first | (go_at_call 113; exact quiet_left (HM.out _)) | (go_at_call 112; exact Calls.quiet_of (HG.out _))))
    go_wp2
    go_ret
    exact ⟨rfl, bl_drewN (bl_alloc (Below.refl _ _) _) _⟩

theorem within56 (x lo hi : Int) (w : World) : Calls Tryz.prog 56 #[.int .i64 x, .int .i64 lo, .int .i64 hi] w fun e w' => e = .returned (.bool (decide (lo ≤ x) && decide (x ≤ hi))) ∧ w = w' := by
  go_enter Tryz.func56, Tryz.ntmps56
  by_cases h : lo ≤ x
  · have h' : decide (lo ≤ x) = true := decide_eq_true h
    go_wp2
    go_ret
    simp [h]
  · have h' : decide (lo ≤ x) = false := decide_eq_false h
    go_wp2
    go_ret
    simp [h']

/-- A price and a haircut are in range. -/
def okH (price num den : Int) : Prop := 1 ≤ price ∧ price ≤ 1000000000 ∧ fchk num den = 0 ∧ 0 ≤ num ∧ num ≤ den
instance (price num den : Int) : Decidable (okH price num den) := by unfold okH; infer_instance
theorem okH.den {price num den : Int} (h : okH price num den) : 1 ≤ den ∧ den ≤ 1000000000 := by
  have := h.2.2.1
  unfold fchk at this
  split at this
  · omega
  · omega

set_option maxHeartbeats 1000000 in
theorem valid57 (price num den : Int) (w : World) (h0 : -9223372036854775808 ≤ num) (h1 : num ≤ 9223372036854775807) (d0 : -9223372036854775808 ≤ den) (d1 : den ≤ 9223372036854775807) :
    Calls Tryz.prog 57 #[.int .i64 price, .agg #[.int .i64 num, .int .i64 den]] w fun e w' => e = .returned (.bool (decide (okH price num den))) ∧ Below w.heap.size w w' := by
  have hc := fun W => check81 num den W h0 h1 d0 d1
  have HC := Lib.hid hc
  clear hc
  go_enter Tryz.func57, Tryz.ntmps57
  by_cases c1 : 1 ≤ price ∧ price ≤ 1000000000
  · have b1 : (decide (1 ≤ price) && decide (price ≤ 1000000000)) = true := by simp [c1]
    by_cases c2 : fchk num den = 0
    · have b2 : (fchk num den == 0) = true := by simpa using c2
      have fin : decide (okH price num den) = (decide (0 ≤ num) && decide (num ≤ den)) := by
        rw [Bool.eq_iff_iff]; simp [okH, c1, c2]
      rw [fin]
      clear fin
      have hf := Lib.hid c2
      clear c1 c2
      generalize fchk num den = z at *
      go_wp2_with fail
      refine (within56 _ _ _ _).mono ?_
      rintro e w' ⟨rfl, rfl⟩
      go_wp2_with fail
      refine (HC.out _).mono ?_
      rintro e w1 ⟨rfl, hb⟩
      obtain ⟨hcl, hfz⟩ := bcell hb
      go_wp2_with fail
      refine (within56 _ _ _ _).mono ?_
      rintro e w' ⟨rfl, rfl⟩
      go_wp2_with fail
      go_ret
      exact ⟨rfl, bl_then (bl_alloc (Below.refl _ _) _) hb⟩
    · have b2 : (fchk num den == 0) = false := by simpa using c2
      have fin : decide (okH price num den) = false := by simp [okH, c2]
      rw [fin]
      clear fin c1 c2
      generalize fchk num den = z at *
      go_wp2_with fail
      refine (within56 _ _ _ _).mono ?_
      rintro e w' ⟨rfl, rfl⟩
      go_wp2_with fail
      refine (HC.out _).mono ?_
      rintro e w1 ⟨rfl, hb⟩
      obtain ⟨hcl, hfz⟩ := bcell hb
      go_wp2_with fail
      go_ret
      exact ⟨rfl, bl_then (bl_alloc (Below.refl _ _) _) hb⟩
  · have b1 : (decide (1 ≤ price) && decide (price ≤ 1000000000)) = false := by
      rw [Bool.eq_false_iff]; simpa using c1
    have fin : decide (okH price num den) = false := decide_eq_false fun hh => c1 ⟨hh.1, hh.2.1⟩
    rw [fin]
    clear fin c1
    go_wp2_with fail
    refine (within56 _ _ _ _).mono ?_
    rintro e w' ⟨rfl, rfl⟩
    go_wp2_with fail
    go_ret
    exact ⟨rfl, bl_alloc (Below.refl _ _) _⟩

set_option maxHeartbeats 1000000 in
theorem fits64 (price num den : Int) (w : World) (h0 : -9223372036854775808 ≤ num) (h1 : num ≤ 9223372036854775807) (d0 : -9223372036854775808 ≤ den) (d1 : den ≤ 9223372036854775807) :
    Calls Tryz.prog 64 #[.int .i64 price, .agg #[.int .i64 num, .int .i64 den]] w fun e w' => e = .returned (.bool (decide (okH price num den))) ∧ Below w.heap.size w w' := by
  have hc := fun W => check93 num den W h0 h1 d0 d1
  have HC := Lib.hid hc
  clear hc
  go_enter Tryz.func64, Tryz.ntmps64
  by_cases c1 : 1 ≤ price
  case neg =>
    have b1 : decide (1 ≤ price) = false := decide_eq_false c1
    have fin : decide (okH price num den) = false := decide_eq_false fun hh => by unfold okH at hh; omega
    rw [fin]
    clear fin
    go_wp2
    go_ret
    exact ⟨rfl, bl_alloc (Below.refl _ _) _⟩
  have b1 : decide (1 ≤ price) = true := decide_eq_true c1
  by_cases c1' : price ≤ 1000000000
  case neg =>
    have b2 : decide (price ≤ 1000000000) = false := decide_eq_false c1'
    have fin : decide (okH price num den) = false := decide_eq_false fun hh => by unfold okH at hh; omega
    rw [fin]
    clear fin
    go_wp2
    go_ret
    exact ⟨rfl, bl_alloc (Below.refl _ _) _⟩
  have b2 : decide (price ≤ 1000000000) = true := decide_eq_true c1'
  by_cases c2 : fchk num den = 0
  · have b3 : (fchk num den == 0) = true := by simpa using c2
    by_cases c3 : 0 ≤ num
    · have b4 : decide (0 ≤ num) = true := decide_eq_true c3
      have fin : decide (okH price num den) = decide (num ≤ den) := by
        rw [Bool.eq_iff_iff]; simp [okH, c1, c1', c2, c3]
      rw [fin]
      clear fin c2
      generalize fchk num den = z at *
      go_wp2_with fail
      refine (HC.out _).mono ?_
      rintro e w1 ⟨rfl, hb⟩
      obtain ⟨hcl, hfz⟩ := bcell hb
      go_wp2_with fail
      go_ret
      exact ⟨rfl, bl_then (bl_alloc (Below.refl _ _) _) hb⟩
    · have b4 : decide (0 ≤ num) = false := decide_eq_false c3
      have fin : decide (okH price num den) = false := decide_eq_false fun hh => by unfold okH at hh; omega
      rw [fin]
      clear fin c2
      generalize fchk num den = z at *
      go_wp2_with fail
      refine (HC.out _).mono ?_
      rintro e w1 ⟨rfl, hb⟩
      obtain ⟨hcl, hfz⟩ := bcell hb
      go_wp2_with fail
      go_ret
      exact ⟨rfl, bl_then (bl_alloc (Below.refl _ _) _) hb⟩
  · have b3 : (fchk num den == 0) = false := by simpa using c2
    have fin : decide (okH price num den) = false := by simp [okH, c2]
    rw [fin]
    clear fin c2
    generalize fchk num den = z at *
    go_wp2_with fail
    refine (HC.out _).mono ?_
    rintro e w1 ⟨rfl, hb⟩
    obtain ⟨hcl, hfz⟩ := bcell hb
    go_wp2_with fail
    go_ret
    exact ⟨rfl, bl_then (bl_alloc (Below.refl _ _) _) hb⟩
end Go.Proofs.YtongoicadcmfaaaGreatDoor.V
