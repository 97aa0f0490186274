/- giroref33.Needed. -/
import Derived.Test.YtongoicadcmfaaaGreatDoorVNeed
namespace Go.Proofs.YtongoicadcmfaaaGreatDoor.V
open Go.RowKit

set_option maxHeartbeats 4000000 in
theorem needed41 (a p lot num den : Int) (w : World) (h0 : -9223372036854775808 ≤ num) (h1 : num ≤ 9223372036854775807) (d0 : -9223372036854775808 ≤ den) (d1 : den ≤ 9223372036854775807) :
    Calls Tryz.prog 41 #[.int .i64 a, .int .i64 p, .int .i64 lot, .agg #[.int .i64 num, .int .i64 den]] w fun e w' => e = .returned (.tuple #[.int .i64 (nNum a p lot num den), .int .i64 (nErr a p lot num den)]) ∧ Below w.heap.size w w' := by
  by_cases c0 : a < 0
  case pos =>
    have b0 : decide (a < 0) = true := decide_eq_true c0
    obtain ⟨e1, e2⟩ := nNum_no (a := a) (p := p) (lot := lot) (num := num) (den := den) (fun h => by have := h.1; unfold okQ at this; omega)
    rw [e1, e2]
    clear e1 e2
    go_enter Tryz.func41, Tryz.ntmps41
    go_wp2
    go_ret2
    exact ⟨rfl, bl_alloc (Below.refl _ _) _⟩
  have b0 : decide (a < 0) = false := decide_eq_false c0
  by_cases c1 : 1000000000000000 < a
  case pos =>
    have b1 : decide (1000000000000000 < a) = true := decide_eq_true c1
    obtain ⟨e1, e2⟩ := nNum_no (a := a) (p := p) (lot := lot) (num := num) (den := den) (fun h => by have := h.1; unfold okQ at this; omega)
    rw [e1, e2]
    clear e1 e2
    go_enter Tryz.func41, Tryz.ntmps41
    go_wp2
    go_ret2
    exact ⟨rfl, bl_alloc (Below.refl _ _) _⟩
  have b1 : decide (1000000000000000 < a) = false := decide_eq_false c1
  by_cases c2 : lot < 1
  case pos =>
    have b2 : decide (lot < 1) = true := decide_eq_true c2
    obtain ⟨e1, e2⟩ := nNum_no (a := a) (p := p) (lot := lot) (num := num) (den := den) (fun h => by have := h.2.1; unfold okL at this; omega)
    rw [e1, e2]
    clear e1 e2
    go_enter Tryz.func41, Tryz.ntmps41
    go_wp2
    go_ret2
    exact ⟨rfl, bl_alloc (Below.refl _ _) _⟩
  have b2 : decide (lot < 1) = false := decide_eq_false c2
  by_cases c3 : 1000000000000000 < lot
  case pos =>
    have b3 : decide (1000000000000000 < lot) = true := decide_eq_true c3
    obtain ⟨e1, e2⟩ := nNum_no (a := a) (p := p) (lot := lot) (num := num) (den := den) (fun h => by have := h.2.1; unfold okL at this; omega)
    rw [e1, e2]
    clear e1 e2
    go_enter Tryz.func41, Tryz.ntmps41
    go_wp2
    go_ret2
    exact ⟨rfl, bl_alloc (Below.refl _ _) _⟩
  have b3 : decide (1000000000000000 < lot) = false := decide_eq_false c3
  by_cases c4 : okH p num den
  case neg =>
    obtain ⟨e1, e2⟩ := nNum_no (a := a) (p := p) (lot := lot) (num := num) (den := den) fun h => c4 h.2.2
    rw [e1, e2]
    have b4 : decide (okH p num den) = false := decide_eq_false c4
    clear e1 e2 c4
    go_enter Tryz.func41, Tryz.ntmps41
    go_wp2_with fail
    refine (fits64 p num den _ h0 h1 d0 d1).mono ?_
    rintro e w1 ⟨rfl, hb⟩
    go_wp2_with fail
    go_ret2
    exact ⟨rfl, bl_then (bl_alloc (Below.refl _ _) _) hb⟩
  have b4 : decide (okH p num den) = true := decide_eq_true c4
  have ok : okQ a ∧ okL lot ∧ okH p num den := ⟨⟨by omega, by omega⟩, ⟨by omega, by omega⟩, c4⟩
  obtain ⟨dn1, dn2⟩ := c4.den
  obtain ⟨p0, p1, _, n0, n1⟩ := c4
  by_cases c5 : a = 0
  case pos =>
    have e1 : nNum a p lot num den = 0 := by unfold nNum; rw [if_pos ok, if_pos c5]
    have e2 : nErr a p lot num den = 0 := by unfold nErr; rw [if_pos ok, if_pos c5]
    rw [e1, e2]
    have b5 : (a == 0) = true := by simpa using c5
    clear e1 e2 c5 ok
    go_enter Tryz.func41, Tryz.ntmps41
    go_wp2_with fail
    refine (fits64 p num den _ h0 h1 d0 d1).mono ?_
    rintro e w1 ⟨rfl, hb⟩
    go_wp2_with fail
    go_ret2
    exact ⟨rfl, bl_then (bl_alloc (Below.refl _ _) _) hb⟩
  have b5 : (a == 0) = false := by simpa using c5
  by_cases c6 : num = den
  case pos =>
    have e1 : nNum a p lot num den = 0 := by unfold nNum; rw [if_pos ok, if_neg c5, if_pos c6]
    have e2 : nErr a p lot num den = 25 := by unfold nErr; rw [if_pos ok, if_neg c5, if_pos c6]
    rw [e1, e2]
    have b6 : (num == den) = true := by simpa using c6
    clear e1 e2 c5 c6 ok
    go_enter Tryz.func41, Tryz.ntmps41
    go_wp2_with fail
    refine (fits64 p num den _ h0 h1 d0 d1).mono ?_
    rintro e w1 ⟨rfl, hb⟩
    obtain ⟨hcl, hfz⟩ := bcell hb
    go_wp2_with fail
    go_ret2
    exact ⟨rfl, bl_then (bl_alloc (Below.refl _ _) _) hb⟩
  have b6 : (num == den) = false := by simpa using c6
  obtain ⟨e1, e2⟩ := nNum_yes ok c5 c6
  rw [e1, e2]
  clear e1 e2 ok c5
  obtain ⟨D, h, l, N, R, W⟩ := nw a p lot num den (by omega) (by omega) p0 p1 n0 (by omega) dn2
  have hN : a * den / D = N ∧ a * den % D = R := by
    have e : h * 18446744073709551616 + l = a * den := by have := W.eh; have := W.el; omega
    rw [← e]
    exact ⟨W.eN, W.eR⟩
  rw [W.eL]
  have e1 := W.eD
  have f1 := W.D1; have f2 := W.D2; have f7 := W.N0; have f8 := W.R0; have f9 := W.R1
  clear W
  have hq := fun W => quo65 a den D W (by omega) (by omega) (by omega) (by omega) (by omega) (by omega)
  have hqv : quoVal a den D = if N ≤ 2000000000000000 then .tuple #[.int .i64 N, .int .i64 R, .bool true] else .tuple #[.int .i64 0, .int .i64 0, .bool false] := by unfold quoVal; rw [hN.1, hN.2]
  have HQ := Lib.hid hq
  have HQV := Lib.hid hqv
  clear hq hqv hN c6
  have hk := fun u (hu : 0 ≤ u) => kOf_mul u lot hu (by omega)
  by_cases c7 : N ≤ 2000000000000000
  case neg =>
    rw [if_neg c7] at HQV
    have hu := uOf_ge N R
    have := hk (uOf N R) (by omega)
    rw [if_neg (by omega), if_neg (by omega)]
    clear hk hu this
    go_enter Tryz.func41, Tryz.ntmps41
    go_wp2_with fail
    refine (fits64 p num den _ h0 h1 d0 d1).mono ?_
    rintro e w1 ⟨rfl, hb⟩
    obtain ⟨hcl, hfz⟩ := bcell hb
    go_wp2_with fail
    refine (HQ.out _).mono ?_
    rintro e w' ⟨rfl, n, rfl⟩
    rw [HQV.out]
    go_wp2_with fail
    go_ret2
    exact ⟨rfl, bl_drewN (bl_then (bl_alloc (Below.refl _ _) _) hb) _⟩
  rw [if_pos c7] at HQV
  obtain ⟨u, eu⟩ : ∃ u, uOf N R = u := ⟨_, rfl⟩
  rw [eu]
  have hu0 : 0 ≤ u := by have := uOf_ge N R; omega
  have hu1 : u ≤ 2000000000000001 := by have := uOf_ge N R; omega
  obtain ⟨hk1, hk2, hk3⟩ := hk u hu0
  have ul0 : 0 ≤ u / lot := Int.ediv_nonneg hu0 (by omega)
  have ul1 : u / lot ≤ u := Int.ediv_le_self _ hu0
  have um0 := Int.emod_nonneg u (show lot ≠ 0 by omega)
  clear hk
  have hkk : (0 < u % lot ∧ kOf u lot = u / lot + 1) ∨ (¬ 0 < u % lot ∧ kOf u lot = u / lot) := by
    unfold kOf
    by_cases hm : 0 < u % lot
    · exact .inl ⟨hm, if_pos hm⟩
    · exact .inr ⟨hm, if_neg hm⟩
  have huu : (0 < R ∧ N + 1 = u) ∨ (¬ 0 < R ∧ N = u) := by
    unfold uOf at eu
    by_cases hm : 0 < R
    · rw [if_pos hm] at eu; exact .inl ⟨hm, eu⟩
    · rw [if_neg hm] at eu; exact .inr ⟨hm, eu⟩
  clear eu
  rcases huu with ⟨cR, rfl⟩ | ⟨cR, rfl⟩
  · rcases hkk with ⟨cM, ek⟩ | ⟨cM, ek⟩
    · rw [ek] at hk1 hk2 hk3 ⊢
      clear ek
      have cP : 0 ≤ ((N + 1) / lot + 1) * lot := Int.mul_nonneg hk3 (by omega)
      by_cases cF : ((N + 1) / lot + 1) * lot ≤ 1000000000000000
      · rw [if_pos cF, if_pos cF]
        go_enter Tryz.func41, Tryz.ntmps41
        go_wp2_with fail
        refine (fits64 p num den _ h0 h1 d0 d1).mono ?_
        rintro e w1 ⟨rfl, hb⟩
        obtain ⟨hcl, hfz⟩ := bcell hb
        go_wp2_with fail
        refine (HQ.out _).mono ?_
        rintro e w' ⟨rfl, n, rfl⟩
        rw [HQV.out]
        go_wp2_with fail
        go_ret2
        exact ⟨rfl, bl_drewN (bl_then (bl_alloc (Below.refl _ _) _) hb) _⟩
      · rw [if_neg cF, if_neg cF]
        go_enter Tryz.func41, Tryz.ntmps41
        go_wp2_with fail
        refine (fits64 p num den _ h0 h1 d0 d1).mono ?_
        rintro e w1 ⟨rfl, hb⟩
        obtain ⟨hcl, hfz⟩ := bcell hb
        go_wp2_with fail
        refine (HQ.out _).mono ?_
        rintro e w' ⟨rfl, n, rfl⟩
        rw [HQV.out]
        go_wp2_with fail
        go_ret2
        exact ⟨rfl, bl_drewN (bl_then (bl_alloc (Below.refl _ _) _) hb) _⟩
    · rw [ek] at hk1 hk2 hk3 ⊢
      clear ek
      have cP : 0 ≤ (N + 1) / lot * lot := Int.mul_nonneg hk3 (by omega)
      by_cases cF : (N + 1) / lot * lot ≤ 1000000000000000
      · rw [if_pos cF, if_pos cF]
        go_enter Tryz.func41, Tryz.ntmps41
        go_wp2_with fail
        refine (fits64 p num den _ h0 h1 d0 d1).mono ?_
        rintro e w1 ⟨rfl, hb⟩
        obtain ⟨hcl, hfz⟩ := bcell hb
        go_wp2_with fail
        refine (HQ.out _).mono ?_
        rintro e w' ⟨rfl, n, rfl⟩
        rw [HQV.out]
        go_wp2_with fail
        go_ret2
        exact ⟨rfl, bl_drewN (bl_then (bl_alloc (Below.refl _ _) _) hb) _⟩
      · rw [if_neg cF, if_neg cF]
        go_enter Tryz.func41, Tryz.ntmps41
        go_wp2_with fail
        refine (fits64 p num den _ h0 h1 d0 d1).mono ?_
        rintro e w1 ⟨rfl, hb⟩
        obtain ⟨hcl, hfz⟩ := bcell hb
        go_wp2_with fail
        refine (HQ.out _).mono ?_
        rintro e w' ⟨rfl, n, rfl⟩
        rw [HQV.out]
        go_wp2_with fail
        go_ret2
        exact ⟨rfl, bl_drewN (bl_then (bl_alloc (Below.refl _ _) _) hb) _⟩
  · rcases hkk with ⟨cM, ek⟩ | ⟨cM, ek⟩
    · rw [ek] at hk1 hk2 hk3 ⊢
      clear ek
      have cP : 0 ≤ (N / lot + 1) * lot := Int.mul_nonneg hk3 (by omega)
      by_cases cF : (N / lot + 1) * lot ≤ 1000000000000000
      · rw [if_pos cF, if_pos cF]
        go_enter Tryz.func41, Tryz.ntmps41
        go_wp2_with fail
        refine (fits64 p num den _ h0 h1 d0 d1).mono ?_
        rintro e w1 ⟨rfl, hb⟩
        obtain ⟨hcl, hfz⟩ := bcell hb
        go_wp2_with fail
        refine (HQ.out _).mono ?_
        rintro e w' ⟨rfl, n, rfl⟩
        rw [HQV.out]
        go_wp2_with fail
        go_ret2
        exact ⟨rfl, bl_drewN (bl_then (bl_alloc (Below.refl _ _) _) hb) _⟩
      · rw [if_neg cF, if_neg cF]
        go_enter Tryz.func41, Tryz.ntmps41
        go_wp2_with fail
        refine (fits64 p num den _ h0 h1 d0 d1).mono ?_
        rintro e w1 ⟨rfl, hb⟩
        obtain ⟨hcl, hfz⟩ := bcell hb
        go_wp2_with fail
        refine (HQ.out _).mono ?_
        rintro e w' ⟨rfl, n, rfl⟩
        rw [HQV.out]
        go_wp2_with fail
        go_ret2
        exact ⟨rfl, bl_drewN (bl_then (bl_alloc (Below.refl _ _) _) hb) _⟩
    · rw [ek] at hk1 hk2 hk3 ⊢
      clear ek
      have cP : 0 ≤ N / lot * lot := Int.mul_nonneg hk3 (by omega)
      by_cases cF : N / lot * lot ≤ 1000000000000000
      · rw [if_pos cF, if_pos cF]
        go_enter Tryz.func41, Tryz.ntmps41
        go_wp2_with fail
        refine (fits64 p num den _ h0 h1 d0 d1).mono ?_
        rintro e w1 ⟨rfl, hb⟩
        obtain ⟨hcl, hfz⟩ := bcell hb
        go_wp2_with fail
        refine (HQ.out _).mono ?_
        rintro e w' ⟨rfl, n, rfl⟩
        rw [HQV.out]
        go_wp2_with fail
        go_ret2
        exact ⟨rfl, bl_drewN (bl_then (bl_alloc (Below.refl _ _) _) hb) _⟩
      · rw [if_neg cF, if_neg cF]
        go_enter Tryz.func41, Tryz.ntmps41
        go_wp2_with fail
        refine (fits64 p num den _ h0 h1 d0 d1).mono ?_
        rintro e w1 ⟨rfl, hb⟩
        obtain ⟨hcl, hfz⟩ := bcell hb
        go_wp2_with fail
        refine (HQ.out _).mono ?_
        rintro e w' ⟨rfl, n, rfl⟩
        rw [HQV.out]
        go_wp2_with fail
        go_ret2
        exact ⟨rfl, bl_drewN (bl_then (bl_alloc (Below.refl _ _) _) hb) _⟩
end Go.Proofs.YtongoicadcmfaaaGreatDoor.V
