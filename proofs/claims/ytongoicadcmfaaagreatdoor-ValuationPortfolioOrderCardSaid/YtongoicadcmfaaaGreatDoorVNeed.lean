/- The smallest quantity whose value suffices: valuation.Needed and giroref33.Needed. giroref33.Needed. -/
import Derived.Test.YtongoicadcmfaaaGreatDoorVVal
set_option linter.unusedSimpArgs false
set_option linter.unusedVariables false
namespace Go.Proofs.YtongoicadcmfaaaGreatDoor.V
open Go.RowKit

def okL (lot : Int) : Prop := 1 ≤ lot ∧ lot ≤ 1000000000000000
instance (q : Int) : Decidable (okL q) := by unfold okL; infer_instance
/-- So many units, so many lots. -/
def uOf (N R : Int) : Int := if 0 < R then N + 1 else N
def kOf (u lot : Int) : Int := if 0 < u % lot then u / lot + 1 else u / lot
def lots (a p lot num den : Int) : Int := kOf (uOf (a * den / (p * (den - num))) (a * den % (p * (den - num)))) lot
def nNum (a p lot num den : Int) : Int := if okQ a ∧ okL lot ∧ okH p num den then (if a = 0 then 0 else if num = den then 0 else if lots a p lot num den * lot ≤ 1000000000000000 then lots a p lot num den * lot else 0) else 0
def nErr (a p lot num den : Int) : Int := if okQ a ∧ okL lot ∧ okH p num den then (if a = 0 then 0 else if num = den then 25 else if lots a p lot num den * lot ≤ 1000000000000000 then 0 else 12) else 2

theorem kOf_mul (u lot : Int) (h0 : 0 ≤ u) (hl : 1 ≤ lot) : u ≤ kOf u lot * lot ∧ kOf u lot * lot < u + lot ∧ 0 ≤ kOf u lot := by
  have h1 := Int.mul_ediv_add_emod u lot
  have h2 := Int.emod_nonneg u (show lot ≠ 0 by omega)
  have h3 := Int.emod_lt_of_pos u (show 0 < lot by omega)
  have h4 : 0 ≤ u / lot := Int.ediv_nonneg h0 (by omega)
  rw [Int.mul_comm] at h1
  unfold kOf
  split
  · rw [Int.add_mul]; omega
  · omega
theorem uOf_ge (N R : Int) : N ≤ uOf N R ∧ uOf N R ≤ N + 1 := by unfold uOf; split <;> omega
theorem lot_fits (k lot : Int) (hl : 1 ≤ lot) : k * lot ≤ 1000000000000000 ↔ k ≤ 1000000000000000 / lot := by
  rw [Int.le_ediv_iff_mul_le (by omega)]

/-- What the walk of Needed names. -/
structure NW (a p lot num den D h l N R : Int) : Prop where
  eD : p * (den - num) = D
  D1 : 1 ≤ D
  D2 : D ≤ 1000000000000000000
  eh : a * den / 18446744073709551616 = h
  el : a * den % 18446744073709551616 = l
  h0 : 0 ≤ h
  h1 : h ≤ 54210
  l0 : 0 ≤ l
  l1 : l < 18446744073709551616
  eN : (h * 18446744073709551616 + l) / D = N
  eR : (h * 18446744073709551616 + l) % D = R
  N0 : 0 ≤ N
  R0 : 0 ≤ R
  R1 : R < D
  eL : lots a p lot num den = kOf (uOf N R) lot
  far : D ≤ h → 18446744073709551616 ≤ N
theorem nw (a p lot num den : Int) (a0 : 0 ≤ a) (a1 : a ≤ 1000000000000000) (p0 : 1 ≤ p) (p1 : p ≤ 1000000000) (n0 : 0 ≤ num) (n1 : num < den) (dn2 : den ≤ 1000000000) :
    ∃ D h l N R, NW a p lot num den D h l N R := by
  obtain ⟨x0, x1⟩ := mul_bd a0 a1 (show 0 ≤ den by omega) dn2
  obtain ⟨y0, y1⟩ := mul_bd (show 0 ≤ p by omega) p1 (show 0 ≤ den - num by omega) (show den - num ≤ 1000000000 by omega)
  have hD : 1 ≤ p * (den - num) := by
    have : 1 * (den - num) ≤ p * (den - num) := Int.mul_le_mul_of_nonneg_right p0 (by omega)
    omega
  have e : a * den / 18446744073709551616 * 18446744073709551616 + a * den % 18446744073709551616 = a * den := by omega
  refine ⟨_, _, _, _, _, ⟨rfl, hD, by omega, rfl, rfl, by omega, by omega, by omega, by omega, rfl, rfl, ?_, ?_, ?_, ?_, ?_⟩⟩
  · rw [e]; exact Int.ediv_nonneg x0 (by omega)
  · exact Int.emod_nonneg _ (by omega)
  · exact Int.emod_lt_of_pos _ (by omega)
  · unfold lots; rw [e]
  · intro hh
    apply Int.le_ediv_of_mul_le (by omega)
    omega

theorem nNum_no {a p lot num den : Int} (h : ¬ (okQ a ∧ okL lot ∧ okH p num den)) : nNum a p lot num den = 0 ∧ nErr a p lot num den = 2 := ⟨if_neg h, if_neg h⟩
theorem nNum_yes {a p lot num den : Int} (h : okQ a ∧ okL lot ∧ okH p num den) (ha : a ≠ 0) (hn : num ≠ den) :
    nNum a p lot num den = (if lots a p lot num den * lot ≤ 1000000000000000 then lots a p lot num den * lot else 0) ∧ nErr a p lot num den = (if lots a p lot num den * lot ≤ 1000000000000000 then 0 else 12) :=
  ⟨by unfold nNum; rw [if_pos h, if_neg ha, if_neg hn], by unfold nErr; rw [if_pos h, if_neg ha, if_neg hn]⟩

set_option maxHeartbeats 4000000 in
theorem needed27 (a p lot num den : Int) (w : World) (h0 : -9223372036854775808 ≤ num) (h1 : num ≤ 9223372036854775807) (d0 : -9223372036854775808 ≤ den) (d1 : den ≤ 9223372036854775807) :
    Calls Tryz.prog 27 #[.int .i64 a, .int .i64 p, .int .i64 lot, .agg #[.int .i64 num, .int .i64 den]] w fun e w' => e = .returned (.tuple #[.int .i64 (nNum a p lot num den), .int .i64 (nErr a p lot num den)]) ∧ Below w.heap.size w w' := by
  by_cases c1 : okQ a
  case neg =>
    obtain ⟨e1, e2⟩ := nNum_no (a := a) (p := p) (lot := lot) (num := num) (den := den) fun h => c1 h.1
    rw [e1, e2]
    have b1 : (decide (0 ≤ a) && decide (a ≤ 1000000000000000)) = false := by
      rw [Bool.eq_false_iff]; simpa [okQ] using c1
    clear e1 e2 c1
    go_enter Tryz.func27, Tryz.ntmps27
    go_wp2_with fail
    refine (within56 _ _ _ _).mono ?_
    rintro e w' ⟨rfl, rfl⟩
    go_wp2_with fail
    go_ret2
    exact ⟨rfl, bl_alloc (Below.refl _ _) _⟩
  have b1 : (decide (0 ≤ a) && decide (a ≤ 1000000000000000)) = true := by simpa [okQ] using c1
  by_cases c1' : okL lot
  case neg =>
    obtain ⟨e1, e2⟩ := nNum_no (a := a) (p := p) (lot := lot) (num := num) (den := den) fun h => c1' h.2.1
    rw [e1, e2]
    have b2 : (decide (1 ≤ lot) && decide (lot ≤ 1000000000000000)) = false := by
      rw [Bool.eq_false_iff]; simpa [okL] using c1'
    clear e1 e2 c1' c1
    go_enter Tryz.func27, Tryz.ntmps27
    go_wp2_with fail
    refine (within56 _ _ _ _).mono ?_
    rintro e w' ⟨rfl, rfl⟩
    go_wp2_with fail
    refine (within56 _ _ _ _).mono ?_
    rintro e w' ⟨rfl, rfl⟩
    go_wp2_with fail
    go_ret2
    exact ⟨rfl, bl_alloc (Below.refl _ _) _⟩
  have b2 : (decide (1 ≤ lot) && decide (lot ≤ 1000000000000000)) = true := by simpa [okL] using c1'
  by_cases c2 : okH p num den
  case neg =>
    obtain ⟨e1, e2⟩ := nNum_no (a := a) (p := p) (lot := lot) (num := num) (den := den) fun h => c2 h.2.2
    rw [e1, e2]
    have b3 : decide (okH p num den) = false := decide_eq_false c2
    clear e1 e2 c1' c1 c2
    go_enter Tryz.func27, Tryz.ntmps27
    go_wp2_with fail
    refine (within56 _ _ _ _).mono ?_
    rintro e w' ⟨rfl, rfl⟩
    go_wp2_with fail
    refine (within56 _ _ _ _).mono ?_
    rintro e w' ⟨rfl, rfl⟩
    go_wp2_with fail
    refine (valid57 p num den _ h0 h1 d0 d1).mono ?_
    rintro e w1 ⟨rfl, hb⟩
    go_wp2_with fail
    go_ret2
    exact ⟨rfl, bl_then (bl_alloc (Below.refl _ _) _) hb⟩
  have b3 : decide (okH p num den) = true := decide_eq_true c2
  have ok : okQ a ∧ okL lot ∧ okH p num den := ⟨c1, c1', c2⟩
  obtain ⟨dn1, dn2⟩ := c2.den
  obtain ⟨p0, p1, _, n0, n1⟩ := c2
  obtain ⟨a0, a1⟩ := c1
  obtain ⟨l0, l1⟩ := c1'
  by_cases c3 : a = 0
  case pos =>
    have e1 : nNum a p lot num den = 0 := by unfold nNum; rw [if_pos ok, if_pos c3]
    have e2 : nErr a p lot num den = 0 := by unfold nErr; rw [if_pos ok, if_pos c3]
    rw [e1, e2]
    have b4 : (a == 0) = true := by simpa using c3
    clear e1 e2 c3 ok
    go_enter Tryz.func27, Tryz.ntmps27
    go_wp2_with fail
    refine (within56 _ _ _ _).mono ?_
    rintro e w' ⟨rfl, rfl⟩
    go_wp2_with fail
    refine (within56 _ _ _ _).mono ?_
    rintro e w' ⟨rfl, rfl⟩
    go_wp2_with fail
    refine (valid57 p num den _ h0 h1 d0 d1).mono ?_
    rintro e w1 ⟨rfl, hb⟩
    go_wp2_with fail
    go_ret2
    exact ⟨rfl, bl_then (bl_alloc (Below.refl _ _) _) hb⟩
  have b4 : (a == 0) = false := by simpa using c3
  by_cases c4 : num = den
  case pos =>
    have e1 : nNum a p lot num den = 0 := by unfold nNum; rw [if_pos ok, if_neg c3, if_pos c4]
    have e2 : nErr a p lot num den = 25 := by unfold nErr; rw [if_pos ok, if_neg c3, if_pos c4]
    rw [e1, e2]
    subst c4
    clear e1 e2 c3 ok
    go_enter Tryz.func27, Tryz.ntmps27
    go_wp2_with fail
    refine (within56 _ _ _ _).mono ?_
    rintro e w' ⟨rfl, rfl⟩
    go_wp2_with fail
    refine (within56 _ _ _ _).mono ?_
    rintro e w' ⟨rfl, rfl⟩
    go_wp2_with fail
    refine (valid57 p num num _ h0 h1 d0 d1).mono ?_
    rintro e w1 ⟨rfl, hb⟩
    obtain ⟨hcl, hfz⟩ := bcell hb
    go_wp2_with fail
    go_ret2
    exact ⟨rfl, bl_then (bl_alloc (Below.refl _ _) _) hb⟩
  obtain ⟨e1, e2⟩ := nNum_yes ok c3 c4
  rw [e1, e2]
  clear e1 e2 ok c3
  obtain ⟨D, h, l, N, R, W⟩ := nw a p lot num den a0 a1 p0 p1 n0 (by omega) dn2
  rw [W.eL]
  have e1 := W.eD; have e2 := W.eh; have e3 := W.el
  have f1 := W.D1; have f2 := W.D2; have f3 := W.h0; have f4 := W.h1; have f5 := W.l0; have f6 := W.l1; have f7 := W.N0; have f8 := W.R0; have f9 := W.R1
  have EN := Lib.hid W.eN; have ER := Lib.hid W.eR
  have far := W.far
  clear W
  have hk := fun u (hu : 0 ≤ u) => kOf_mul u lot hu l0
  by_cases c5 : D ≤ h
  case pos =>
    have hu := uOf_ge N R
    have := hk (uOf N R) (by omega)
    have := far c5
    rw [if_neg (by omega), if_neg (by omega)]
    clear hk far hu
    go_enter Tryz.func27, Tryz.ntmps27
    go_wp2_with fail
    refine (within56 _ _ _ _).mono ?_
    rintro e w' ⟨rfl, rfl⟩
    go_wp2_with fail
    refine (within56 _ _ _ _).mono ?_
    rintro e w' ⟨rfl, rfl⟩
    go_wp2_with fail
    refine (valid57 p num den _ h0 h1 d0 d1).mono ?_
    rintro e w1 ⟨rfl, hb⟩
    obtain ⟨hcl, hfz⟩ := bcell hb
    go_wp2_with fail
    refine (mul58 _ _ _ (by omega) (by omega) (by omega) (by omega)).mono ?_
    rintro e w' ⟨rfl, rfl⟩
    go_wp2_with fail
    go_ret2
    exact ⟨rfl, bl_then (bl_alloc (Below.refl _ _) _) hb⟩
  clear far
  by_cases c6 : 1000000000000000 < N
  case pos =>
    have hu := uOf_ge N R
    have := hk (uOf N R) (by omega)
    rw [if_neg (by omega), if_neg (by omega)]
    clear hk hu
    go_enter Tryz.func27, Tryz.ntmps27
    go_wp2_with fail
    refine (within56 _ _ _ _).mono ?_
    rintro e w' ⟨rfl, rfl⟩
    go_wp2_with fail
    refine (within56 _ _ _ _).mono ?_
    rintro e w' ⟨rfl, rfl⟩
    go_wp2_with fail
    refine (valid57 p num den _ h0 h1 d0 d1).mono ?_
    rintro e w1 ⟨rfl, hb⟩
    obtain ⟨hcl, hfz⟩ := bcell hb
    go_wp2_with fail
    refine (mul58 _ _ _ (by omega) (by omega) (by omega) (by omega)).mono ?_
    rintro e w' ⟨rfl, rfl⟩
    go_wp2_with fail
    refine (div64 _ _ _ _ (by omega) (by omega) (by omega) (by omega) (by omega)).mono ?_
    rintro e w' ⟨rfl, n, rfl⟩
    rw [EN.out, ER.out]
    go_wp2_with fail
    go_ret2
    exact ⟨rfl, bl_drewN (bl_then (bl_alloc (Below.refl _ _) _) hb) _⟩
  have q0 : 0 ≤ 1000000000000000 / lot := Int.ediv_nonneg (by omega) (by omega)
  have q1 : 1000000000000000 / lot ≤ 1000000000000000 := Int.ediv_le_self _ (by omega)
  obtain ⟨u, eu⟩ : ∃ u, uOf N R = u := ⟨_, rfl⟩
  rw [eu]
  have hu0 : 0 ≤ u := by have := uOf_ge N R; omega
  have hu1 : u ≤ 1000000000000001 := by have := uOf_ge N R; omega
  obtain ⟨hk1, hk2, hk3⟩ := hk u hu0
  have ul0 : 0 ≤ u / lot := Int.ediv_nonneg hu0 (by omega)
  have ul1 : u / lot ≤ u := Int.ediv_le_self _ hu0
  have um0 := Int.emod_nonneg u (show lot ≠ 0 by omega)
  have hfit := lot_fits (kOf u lot) lot l0
  clear hk
  have hkk : (0 < u % lot ∧ kOf u lot = u / lot + 1) ∨ (¬ 0 < u % lot ∧ kOf u lot = u / lot) := by
    unfold kOf
    by_cases hm : 0 < u % lot
    · exact .inl ⟨hm, if_pos hm⟩
    · exact .inr ⟨hm, if_neg hm⟩
  have huu : (0 < R ∧ N + 1 = u) ∨ (¬ 0 < R ∧ N = u) := by
    unfold uOf at eu
    by_cases hm : 0 < R
    · rw [if_pos hm] at eu; exact .inl ⟨hm, eu⟩
    · rw [if_neg hm] at eu; exact .inr ⟨hm, eu⟩
  clear eu
  rcases huu with ⟨cR, rfl⟩ | ⟨cR, rfl⟩
  · rcases hkk with ⟨cM, ek⟩ | ⟨cM, ek⟩
    · rw [ek] at hk1 hk2 hk3 hfit ⊢
      clear ek
      by_cases cF : ((N + 1) / lot + 1) * lot ≤ 1000000000000000
      · rw [if_pos cF, if_pos cF]
        have cG := hfit.1 cF
        have cP : 0 ≤ ((N + 1) / lot + 1) * lot := Int.mul_nonneg hk3 (by omega)
        clear hk1 hk2 hfit
        go_enter Tryz.func27, Tryz.ntmps27
        go_wp2_with fail
        refine (within56 _ _ _ _).mono ?_
        rintro e w' ⟨rfl, rfl⟩
        go_wp2_with fail
        refine (within56 _ _ _ _).mono ?_
        rintro e w' ⟨rfl, rfl⟩
        go_wp2_with fail
        refine (valid57 p num den _ h0 h1 d0 d1).mono ?_
        rintro e w1 ⟨rfl, hb⟩
        obtain ⟨hcl, hfz⟩ := bcell hb
        go_wp2_with fail
        refine (mul58 _ _ _ (by omega) (by omega) (by omega) (by omega)).mono ?_
        rintro e w' ⟨rfl, rfl⟩
        go_wp2_with fail
        refine (div64 _ _ _ _ (by omega) (by omega) (by omega) (by omega) (by omega)).mono ?_
        rintro e w' ⟨rfl, n, rfl⟩
        rw [EN.out, ER.out]
        go_wp2_with fail
        go_ret2
        exact ⟨rfl, bl_drewN (bl_then (bl_alloc (Below.refl _ _) _) hb) _⟩
      · rw [if_neg cF, if_neg cF]
        have cG : ¬ ((N + 1) / lot + 1) ≤ 1000000000000000 / lot := fun h => cF (hfit.2 h)
        clear cF
        clear hk1 hk2 hfit
        go_enter Tryz.func27, Tryz.ntmps27
        go_wp2_with fail
        refine (within56 _ _ _ _).mono ?_
        rintro e w' ⟨rfl, rfl⟩
        go_wp2_with fail
        refine (within56 _ _ _ _).mono ?_
        rintro e w' ⟨rfl, rfl⟩
        go_wp2_with fail
        refine (valid57 p num den _ h0 h1 d0 d1).mono ?_
        rintro e w1 ⟨rfl, hb⟩
        obtain ⟨hcl, hfz⟩ := bcell hb
        go_wp2_with fail
        refine (mul58 _ _ _ (by omega) (by omega) (by omega) (by omega)).mono ?_
        rintro e w' ⟨rfl, rfl⟩
        go_wp2_with fail
        refine (div64 _ _ _ _ (by omega) (by omega) (by omega) (by omega) (by omega)).mono ?_
        rintro e w' ⟨rfl, n, rfl⟩
        rw [EN.out, ER.out]
        go_wp2_with fail
        go_ret2
        exact ⟨rfl, bl_drewN (bl_then (bl_alloc (Below.refl _ _) _) hb) _⟩
    · rw [ek] at hk1 hk2 hk3 hfit ⊢
      clear ek
      by_cases cF : (N + 1) / lot * lot ≤ 1000000000000000
      · rw [if_pos cF, if_pos cF]
        have cG := hfit.1 cF
        have cP : 0 ≤ (N + 1) / lot * lot := Int.mul_nonneg hk3 (by omega)
        clear hk1 hk2 hfit
        go_enter Tryz.func27, Tryz.ntmps27
        go_wp2_with fail
        refine (within56 _ _ _ _).mono ?_
        rintro e w' ⟨rfl, rfl⟩
        go_wp2_with fail
        refine (within56 _ _ _ _).mono ?_
        rintro e w' ⟨rfl, rfl⟩
        go_wp2_with fail
        refine (valid57 p num den _ h0 h1 d0 d1).mono ?_
        rintro e w1 ⟨rfl, hb⟩
        obtain ⟨hcl, hfz⟩ := bcell hb
        go_wp2_with fail
        refine (mul58 _ _ _ (by omega) (by omega) (by omega) (by omega)).mono ?_
        rintro e w' ⟨rfl, rfl⟩
        go_wp2_with fail
        refine (div64 _ _ _ _ (by omega) (by omega) (by omega) (by omega) (by omega)).mono ?_
        rintro e w' ⟨rfl, n, rfl⟩
        rw [EN.out, ER.out]
        go_wp2_with fail
        go_ret2
        exact ⟨rfl, bl_drewN (bl_then (bl_alloc (Below.refl _ _) _) hb) _⟩
      · rw [if_neg cF, if_neg cF]
        have cG : ¬ (N + 1) / lot ≤ 1000000000000000 / lot := fun h => cF (hfit.2 h)
        clear cF
        clear hk1 hk2 hfit
        go_enter Tryz.func27, Tryz.ntmps27
        go_wp2_with fail
        refine (within56 _ _ _ _).mono ?_
        rintro e w' ⟨rfl, rfl⟩
        go_wp2_with fail
        refine (within56 _ _ _ _).mono ?_
        rintro e w' ⟨rfl, rfl⟩
        go_wp2_with fail
        refine (valid57 p num den _ h0 h1 d0 d1).mono ?_
        rintro e w1 ⟨rfl, hb⟩
        obtain ⟨hcl, hfz⟩ := bcell hb
        go_wp2_with fail
        refine (mul58 _ _ _ (by omega) (by omega) (by omega) (by omega)).mono ?_
        rintro e w' ⟨rfl, rfl⟩
        go_wp2_with fail
        refine (div64 _ _ _ _ (by omega) (by omega) (by omega) (by omega) (by omega)).mono ?_
        rintro e w' ⟨rfl, n, rfl⟩
        rw [EN.out, ER.out]
        go_wp2_with fail
        go_ret2
        exact ⟨rfl, bl_drewN (bl_then (bl_alloc (Below.refl _ _) _) hb) _⟩
  · rcases hkk with ⟨cM, ek⟩ | ⟨cM, ek⟩
    · rw [ek] at hk1 hk2 hk3 hfit ⊢
      clear ek
      by_cases cF : (N / lot + 1) * lot ≤ 1000000000000000
      · rw [if_pos cF, if_pos cF]
        have cG := hfit.1 cF
        have cP : 0 ≤ (N / lot + 1) * lot := Int.mul_nonneg hk3 (by omega)
        clear hk1 hk2 hfit
        go_enter Tryz.func27, Tryz.ntmps27
        go_wp2_with fail
        refine (within56 _ _ _ _).mono ?_
        rintro e w' ⟨rfl, rfl⟩
        go_wp2_with fail
        refine (within56 _ _ _ _).mono ?_
        rintro e w' ⟨rfl, rfl⟩
        go_wp2_with fail
        refine (valid57 p num den _ h0 h1 d0 d1).mono ?_
        rintro e w1 ⟨rfl, hb⟩
        obtain ⟨hcl, hfz⟩ := bcell hb
        go_wp2_with fail
        refine (mul58 _ _ _ (by omega) (by omega) (by omega) (by omega)).mono ?_
        rintro e w' ⟨rfl, rfl⟩
        go_wp2_with fail
        refine (div64 _ _ _ _ (by omega) (by omega) (by omega) (by omega) (by omega)).mono ?_
        rintro e w' ⟨rfl, n, rfl⟩
        rw [EN.out, ER.out]
        go_wp2_with fail
        go_ret2
        exact ⟨rfl, bl_drewN (bl_then (bl_alloc (Below.refl _ _) _) hb) _⟩
      · rw [if_neg cF, if_neg cF]
        have cG : ¬ (N / lot + 1) ≤ 1000000000000000 / lot := fun h => cF (hfit.2 h)
        clear cF
        clear hk1 hk2 hfit
        go_enter Tryz.func27, Tryz.ntmps27
        go_wp2_with fail
        refine (within56 _ _ _ _).mono ?_
        rintro e w' ⟨rfl, rfl⟩
        go_wp2_with fail
        refine (within56 _ _ _ _).mono ?_
        rintro e w' ⟨rfl, rfl⟩
        go_wp2_with fail
        refine (valid57 p num den _ h0 h1 d0 d1).mono ?_
        rintro e w1 ⟨rfl, hb⟩
        obtain ⟨hcl, hfz⟩ := bcell hb
        go_wp2_with fail
        refine (mul58 _ _ _ (by omega) (by omega) (by omega) (by omega)).mono ?_
        rintro e w' ⟨rfl, rfl⟩
        go_wp2_with fail
        refine (div64 _ _ _ _ (by omega) (by omega) (by omega) (by omega) (by omega)).mono ?_
        rintro e w' ⟨rfl, n, rfl⟩
        rw [EN.out, ER.out]
        go_wp2_with fail
        go_ret2
        exact ⟨rfl, bl_drewN (bl_then (bl_alloc (Below.refl _ _) _) hb) _⟩
    · rw [ek] at hk1 hk2 hk3 hfit ⊢
      clear ek
      by_cases cF : N / lot * lot ≤ 1000000000000000
      · rw [if_pos cF, if_pos cF]
        have cG := hfit.1 cF
        have cP : 0 ≤ N / lot * lot := Int.mul_nonneg hk3 (by omega)
        clear hk1 hk2 hfit
        go_enter Tryz.func27, Tryz.ntmps27
        go_wp2_with fail
        refine (within56 _ _ _ _).mono ?_
        rintro e w' ⟨rfl, rfl⟩
        go_wp2_with fail
        refine (within56 _ _ _ _).mono ?_
        rintro e w' ⟨rfl, rfl⟩
        go_wp2_with fail
        refine (valid57 p num den _ h0 h1 d0 d1).mono ?_
        rintro e w1 ⟨rfl, hb⟩
        obtain ⟨hcl, hfz⟩ := bcell hb
        go_wp2_with fail
        refine (mul58 _ _ _ (by omega) (by omega) (by omega) (by omega)).mono ?_
        rintro e w' ⟨rfl, rfl⟩
        go_wp2_with fail
        refine (div64 _ _ _ _ (by omega) (by omega) (by omega) (by omega) (by omega)).mono ?_
        rintro e w' ⟨rfl, n, rfl⟩
        rw [EN.out, ER.out]
        go_wp2_with fail
        go_ret2
        exact ⟨rfl, bl_drewN (bl_then (bl_alloc (Below.refl _ _) _) hb) _⟩
      · rw [if_neg cF, if_neg cF]
        have cG : ¬ N / lot ≤ 1000000000000000 / lot := fun h => cF (hfit.2 h)
        clear cF
        clear hk1 hk2 hfit
        go_enter Tryz.func27, Tryz.ntmps27
        go_wp2_with fail
        refine (within56 _ _ _ _).mono ?_
        rintro e w' ⟨rfl, rfl⟩
        go_wp2_with fail
        refine (within56 _ _ _ _).mono ?_
        rintro e w' ⟨rfl, rfl⟩
        go_wp2_with fail
        refine (valid57 p num den _ h0 h1 d0 d1).mono ?_
        rintro e w1 ⟨rfl, hb⟩
        obtain ⟨hcl, hfz⟩ := bcell hb
        go_wp2_with fail
        refine (mul58 _ _ _ (by omega) (by omega) (by omega) (by omega)).mono ?_
        rintro e w' ⟨rfl, rfl⟩
        go_wp2_with fail
        refine (div64 _ _ _ _ (by omega) (by omega) (by omega) (by omega) (by omega)).mono ?_
        rintro e w' ⟨rfl, n, rfl⟩
        rw [EN.out, ER.out]
        go_wp2_with fail
        go_ret2
        exact ⟨rfl, bl_drewN (bl_then (bl_alloc (Below.refl _ _) _) hb) _⟩
end Go.Proofs.YtongoicadcmfaaaGreatDoor.V

namespace Go.Proofs.YtongoicadcmfaaaGreatDoor.V
open Go.RowKit

set_option maxHeartbeats 4000000 in
theorem needed41 (a p lot num den : Int) (w : World) (h0 : -9223372036854775808 ≤ num) (h1 : num ≤ 9223372036854775807) (d0 : -9223372036854775808 ≤ den) (d1 : den ≤ 9223372036854775807) :
    Calls Tryz.prog 41 #[.int .i64 a, .int .i64 p, .int .i64 lot, .agg #[.int .i64 num, .int .i64 den]] w fun e w' => e = .returned (.tuple #[.int .i64 (nNum a p lot num den), .int .i64 (nErr a p lot num den)]) ∧ Below w.heap.size w w' := by
  by_cases c0 : a < 0
  case pos =>
    have b0 : decide (a < 0) = true := decide_eq_true c0
    obtain ⟨e1, e2⟩ := nNum_no (a := a) (p := p) (lot := lot) (num := num) (den := den) (fun h => by have := h.1; unfold okQ at this; omega)
    rw [e1, e2]
    clear e1 e2
    go_enter Tryz.func41, Tryz.ntmps41
    go_wp2
    go_ret2
    exact ⟨rfl, bl_alloc (Below.refl _ _) _⟩
  have b0 : decide (a < 0) = false := decide_eq_false c0
  by_cases c1 : 1000000000000000 < a
  case pos =>
    have b1 : decide (1000000000000000 < a) = true := decide_eq_true c1
    obtain ⟨e1, e2⟩ := nNum_no (a := a) (p := p) (lot := lot) (num := num) (den := den) (fun h => by have := h.1; unfold okQ at this; omega)
    rw [e1, e2]
    clear e1 e2
    go_enter Tryz.func41, Tryz.ntmps41
    go_wp2
    go_ret2
    exact ⟨rfl, bl_alloc (Below.refl _ _) _⟩
  have b1 : decide (1000000000000000 < a) = false := decide_eq_false c1
  by_cases c2 : lot < 1
  case pos =>
    have b2 : decide (lot < 1) = true := decide_eq_true c2
    obtain ⟨e1, e2⟩ := nNum_no (a := a) (p := p) (lot := lot) (num := num) (den := den) (fun h => by have := h.2.1; unfold okL at this; omega)
    rw [e1, e2]
    clear e1 e2
    go_enter Tryz.func41, Tryz.ntmps41
    go_wp2
    go_ret2
    exact ⟨rfl, bl_alloc (Below.refl _ _) _⟩
  have b2 : decide (lot < 1) = false := decide_eq_false c2
  by_cases c3 : 1000000000000000 < lot
  case pos =>
    have b3 : decide (1000000000000000 < lot) = true := decide_eq_true c3
    obtain ⟨e1, e2⟩ := nNum_no (a := a) (p := p) (lot := lot) (num := num) (den := den) (fun h => by have := h.2.1; unfold okL at this; omega)
    rw [e1, e2]
    clear e1 e2
    go_enter Tryz.func41, Tryz.ntmps41
    go_wp2
    go_ret2
    exact ⟨rfl, bl_alloc (Below.refl _ _) _⟩
  have b3 : decide (1000000000000000 < lot) = false := decide_eq_false c3
  by_cases c4 : okH p num den
  case neg =>
    obtain ⟨e1, e2⟩ := nNum_no (a := a) (p := p) (lot := lot) (num := num) (den := den) fun h => c4 h.2.2
    rw [e1, e2]
    have b4 : decide (okH p num den) = false := decide_eq_false c4
    clear e1 e2 c4
    go_enter Tryz.func41, Tryz.ntmps41
    go_wp2_with fail
    refine (fits64 p num den _ h0 h1 d0 d1).mono ?_
    rintro e w1 ⟨rfl, hb⟩
    go_wp2_with fail
    go_ret2
    exact ⟨rfl, bl_then (bl_alloc (Below.refl _ _) _) hb⟩
  have b4 : decide (okH p num den) = true := decide_eq_true c4
  have ok : okQ a ∧ okL lot ∧ okH p num den := ⟨⟨by omega, by omega⟩, ⟨by omega, by omega⟩, c4⟩
  obtain ⟨dn1, dn2⟩ := c4.den
  obtain ⟨p0, p1, _, n0, n1⟩ := c4
  by_cases c5 : a = 0
  case pos =>
    have e1 : nNum a p lot num den = 0 := by unfold nNum; rw [if_pos ok, if_pos c5]
    have e2 : nErr a p lot num den = 0 := by unfold nErr; rw [if_pos ok, if_pos c5]
    rw [e1, e2]
    have b5 : (a == 0) = true := by simpa using c5
    clear e1 e2 c5 ok
    go_enter Tryz.func41, Tryz.ntmps41
    go_wp2_with fail
    refine (fits64 p num den _ h0 h1 d0 d1).mono ?_
    rintro e w1 ⟨rfl, hb⟩
    go_wp2_with fail
    go_ret2
    exact ⟨rfl, bl_then (bl_alloc (Below.refl _ _) _) hb⟩
  have b5 : (a == 0) = false := by simpa using c5
  by_cases c6 : num = den
  case pos =>
    have e1 : nNum a p lot num den = 0 := by unfold nNum; rw [if_pos ok, if_neg c5, if_pos c6]
    have e2 : nErr a p lot num den = 25 := by unfold nErr; rw [if_pos ok, if_neg c5, if_pos c6]
    rw [e1, e2]
    have b6 : (num == den) = true := by simpa using c6
    clear e1 e2 c5 c6 ok
    go_enter Tryz.func41, Tryz.ntmps41
    go_wp2_with fail
    refine (fits64 p num den _ h0 h1 d0 d1).mono ?_
    rintro e w1 ⟨rfl, hb⟩
    obtain ⟨hcl, hfz⟩ := bcell hb
    go_wp2_with fail
    go_ret2
    exact ⟨rfl, bl_then (bl_alloc (Below.refl _ _) _) hb⟩
  have b6 : (num == den) = false := by simpa using c6
  obtain ⟨e1, e2⟩ := nNum_yes ok c5 c6
  rw [e1, e2]
  clear e1 e2 ok c5
  obtain ⟨D, h, l, N, R, W⟩ := nw a p lot num den (by omega) (by omega) p0 p1 n0 (by omega) dn2
  have hN : a * den / D = N ∧ a * den % D = R := by
    have e : h * 18446744073709551616 + l = a * den := by have := W.eh; have := W.el; omega
    rw [← e]
    exact ⟨W.eN, W.eR⟩
  rw [W.eL]
  have e1 := W.eD
  have f1 := W.D1; have f2 := W.D2; have f7 := W.N0; have f8 := W.R0; have f9 := W.R1
  clear W
  have hq := fun W => quo65 a den D W (by omega) (by omega) (by omega) (by omega) (by omega) (by omega)
  have hqv : quoVal a den D = if N ≤ 2000000000000000 then .tuple #[.int .i64 N, .int .i64 R, .bool true] else .tuple #[.int .i64 0, .int .i64 0, .bool false] := by unfold quoVal; rw [hN.1, hN.2]
  have HQ := Lib.hid hq
  have HQV := Lib.hid hqv
  clear hq hqv hN c6
  have hk := fun u (hu : 0 ≤ u) => kOf_mul u lot hu (by omega)
  by_cases c7 : N ≤ 2000000000000000
  case neg =>
    rw [if_neg c7] at HQV
    have hu := uOf_ge N R
    have := hk (uOf N R) (by omega)
    rw [if_neg (by omega), if_neg (by omega)]
    clear hk hu this
    go_enter Tryz.func41, Tryz.ntmps41
    go_wp2_with fail
    refine (fits64 p num den _ h0 h1 d0 d1).mono ?_
    rintro e w1 ⟨rfl, hb⟩
    obtain ⟨hcl, hfz⟩ := bcell hb
    go_wp2_with fail
    refine (HQ.out _).mono ?_
    rintro e w' ⟨rfl, n, rfl⟩
    rw [HQV.out]
    go_wp2_with fail
    go_ret2
    exact ⟨rfl, bl_drewN (bl_then (bl_alloc (Below.refl _ _) _) hb) _⟩
  rw [if_pos c7] at HQV
  obtain ⟨u, eu⟩ : ∃ u, uOf N R = u := ⟨_, rfl⟩
  rw [eu]
  have hu0 : 0 ≤ u := by have := uOf_ge N R; omega
  have hu1 : u ≤ 2000000000000001 := by have := uOf_ge N R; omega
  obtain ⟨hk1, hk2, hk3⟩ := hk u hu0
  have ul0 : 0 ≤ u / lot := Int.ediv_nonneg hu0 (by omega)
  have ul1 : u / lot ≤ u := Int.ediv_le_self _ hu0
  have um0 := Int.emod_nonneg u (show lot ≠ 0 by omega)
  clear hk
  have hkk : (0 < u % lot ∧ kOf u lot = u / lot + 1) ∨ (¬ 0 < u % lot ∧ kOf u lot = u / lot) := by
    unfold kOf
    by_cases hm : 0 < u % lot
    · exact .inl ⟨hm, if_pos hm⟩
    · exact .inr ⟨hm, if_neg hm⟩
  have huu : (0 < R ∧ N + 1 = u) ∨ (¬ 0 < R ∧ N = u) := by
    unfold uOf at eu
    by_cases hm : 0 < R
    · rw [if_pos hm] at eu; exact .inl ⟨hm, eu⟩
    · rw [if_neg hm] at eu; exact .inr ⟨hm, eu⟩
  clear eu
  rcases huu with ⟨cR, rfl⟩ | ⟨cR, rfl⟩
  · rcases hkk with ⟨cM, ek⟩ | ⟨cM, ek⟩
    · rw [ek] at hk1 hk2 hk3 ⊢
      clear ek
      have cP : 0 ≤ ((N + 1) / lot + 1) * lot := Int.mul_nonneg hk3 (by omega)
      by_cases cF : ((N + 1) / lot + 1) * lot ≤ 1000000000000000
      · rw [if_pos cF, if_pos cF]
        go_enter Tryz.func41, Tryz.ntmps41
        go_wp2_with fail
        refine (fits64 p num den _ h0 h1 d0 d1).mono ?_
        rintro e w1 ⟨rfl, hb⟩
        obtain ⟨hcl, hfz⟩ := bcell hb
        go_wp2_with fail
        refine (HQ.out _).mono ?_
        rintro e w' ⟨rfl, n, rfl⟩
        rw [HQV.out]
        go_wp2_with fail
        go_ret2
        exact ⟨rfl, bl_drewN (bl_then (bl_alloc (Below.refl _ _) _) hb) _⟩
      · rw [if_neg cF, if_neg cF]
        go_enter Tryz.func41, Tryz.ntmps41
        go_wp2_with fail
        refine (fits64 p num den _ h0 h1 d0 d1).mono ?_
        rintro e w1 ⟨rfl, hb⟩
        obtain ⟨hcl, hfz⟩ := bcell hb
        go_wp2_with fail
        refine (HQ.out _).mono ?_
        rintro e w' ⟨rfl, n, rfl⟩
        rw [HQV.out]
        go_wp2_with fail
        go_ret2
        exact ⟨rfl, bl_drewN (bl_then (bl_alloc (Below.refl _ _) _) hb) _⟩
    · rw [ek] at hk1 hk2 hk3 ⊢
      clear ek
      have cP : 0 ≤ (N + 1) / lot * lot := Int.mul_nonneg hk3 (by omega)
      by_cases cF : (N + 1) / lot * lot ≤ 1000000000000000
      · rw [if_pos cF, if_pos cF]
        go_enter Tryz.func41, Tryz.ntmps41
        go_wp2_with fail
        refine (fits64 p num den _ h0 h1 d0 d1).mono ?_
        rintro e w1 ⟨rfl, hb⟩
        obtain ⟨hcl, hfz⟩ := bcell hb
        go_wp2_with fail
        refine (HQ.out _).mono ?_
        rintro e w' ⟨rfl, n, rfl⟩
        rw [HQV.out]
        go_wp2_with fail
        go_ret2
        exact ⟨rfl, bl_drewN (bl_then (bl_alloc (Below.refl _ _) _) hb) _⟩
      · rw [if_neg cF, if_neg cF]
        go_enter Tryz.func41, Tryz.ntmps41
        go_wp2_with fail
        refine (fits64 p num den _ h0 h1 d0 d1).mono ?_
        rintro e w1 ⟨rfl, hb⟩
        obtain ⟨hcl, hfz⟩ := bcell hb
        go_wp2_with fail
        refine (HQ.out _).mono ?_
        rintro e w' ⟨rfl, n, rfl⟩
        rw [HQV.out]
        go_wp2_with fail
        go_ret2
        exact ⟨rfl, bl_drewN (bl_then (bl_alloc (Below.refl _ _) _) hb) _⟩
  · rcases hkk with ⟨cM, ek⟩ | ⟨cM, ek⟩
    · rw [ek] at hk1 hk2 hk3 ⊢
      clear ek
      have cP : 0 ≤ (N / lot + 1) * lot := Int.mul_nonneg hk3 (by omega)
      by_cases cF : (N / lot + 1) * lot ≤ 1000000000000000
      · rw [if_pos cF, if_pos cF]
        go_enter Tryz.func41, Tryz.ntmps41
        go_wp2_with fail
        refine (fits64 p num den _ h0 h1 d0 d1).mono ?_
        rintro e w1 ⟨rfl, hb⟩
        obtain ⟨hcl, hfz⟩ := bcell hb
        go_wp2_with fail
        refine (HQ.out _).mono ?_
        rintro e w' ⟨rfl, n, rfl⟩
        rw [HQV.out]
        go_wp2_with fail
        go_ret2
        exact ⟨rfl, bl_drewN (bl_then (bl_alloc (Below.refl _ _) _) hb) _⟩
      · rw [if_neg cF, if_neg cF]
        go_enter Tryz.func41, Tryz.ntmps41
        go_wp2_with fail
        refine (fits64 p num den _ h0 h1 d0 d1).mono ?_
        rintro e w1 ⟨rfl, hb⟩
        obtain ⟨hcl, hfz⟩ := bcell hb
        go_wp2_with fail
        refine (HQ.out _).mono ?_
        rintro e w' ⟨rfl, n, rfl⟩
        rw [HQV.out]
        go_wp2_with fail
        go_ret2
        exact ⟨rfl, bl_drewN (bl_then (bl_alloc (Below.refl _ _) _) hb) _⟩
    · rw [ek] at hk1 hk2 hk3 ⊢
      clear ek
      have cP : 0 ≤ N / lot * lot := Int.mul_nonneg hk3 (by omega)
      by_cases cF : N / lot * lot ≤ 1000000000000000
      · rw [if_pos cF, if_pos cF]
        go_enter Tryz.func41, Tryz.ntmps41
        go_wp2_with fail
        refine (fits64 p num den _ h0 h1 d0 d1).mono ?_
        rintro e w1 ⟨rfl, hb⟩
        obtain ⟨hcl, hfz⟩ := bcell hb
        go_wp2_with fail
        refine (HQ.out _).mono ?_
        rintro e w' ⟨rfl, n, rfl⟩
        rw [HQV.out]
        go_wp2_with fail
        go_ret2
        exact ⟨rfl, bl_drewN (bl_then (bl_alloc (Below.refl _ _) _) hb) _⟩
      · rw [if_neg cF, if_neg cF]
        go_enter Tryz.func41, Tryz.ntmps41
        go_wp2_with fail
        refine (fits64 p num den _ h0 h1 d0 d1).mono ?_
        rintro e w1 ⟨rfl, hb⟩
        obtain ⟨hcl, hfz⟩ := bcell hb
        go_wp2_with fail
        refine (HQ.out _).mono ?_
        rintro e w' ⟨rfl, n, rfl⟩
        rw [HQV.out]
        go_wp2_with fail
        go_ret2
        exact ⟨rfl, bl_drewN (bl_then (bl_alloc (Below.refl _ _) _) hb) _⟩
end Go.Proofs.YtongoicadcmfaaaGreatDoor.V
