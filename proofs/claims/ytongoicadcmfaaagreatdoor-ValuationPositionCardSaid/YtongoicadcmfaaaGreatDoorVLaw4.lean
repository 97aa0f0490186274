/- girolaw33.ValuationPosition as a walk. -/
import Derived.Test.YtongoicadcmfaaaGreatDoorVLaw3
import Derived.Test.YtongoicadcmfaaaGreatDoorVVal2
set_option linter.unusedSimpArgs false
set_option linter.unusedVariables false
namespace Go.Proofs.YtongoicadcmfaaaGreatDoor.V
open Go.RowKit

theorem v_le (q p num den : Int) (h1 : vErr q p num den = 0) (h2 : vErr q p 0 1 = 0) : vNum q p num den ≤ vNum q p 0 1 := by
  unfold vErr at h1 h2
  unfold vNum
  by_cases c1 : okQ q ∧ okH p num den
  · rw [if_pos c1] at h1 ⊢
    by_cases c2 : okQ q ∧ okH p 0 1
    · rw [if_pos c2] at h2 ⊢
      by_cases d1 : q * (p * (den - num)) / den ≤ 1000000000000000
      · by_cases d2 : q * (p * (1 - 0)) / 1 ≤ 1000000000000000
        · rw [if_pos d1, if_pos d2]
          obtain ⟨hq, hp, _, _, hn, _⟩ := c1
          have hden := okH.den c2.2
          obtain ⟨q0, _⟩ := hq
          have hd := okH.den ⟨hp, by assumption, by assumption, hn, by assumption⟩
          rw [Int.ediv_one, Int.sub_zero, Int.mul_one]
          refine Int.ediv_le_of_le_mul (by omega) ?_
          rw [Int.mul_assoc]
          refine Int.mul_le_mul_of_nonneg_left (Int.mul_le_mul_of_nonneg_left (by omega) (by omega)) q0
        · rw [if_neg d2] at h2; omega
      · rw [if_neg d1] at h1; omega
    · rw [if_neg c2] at h2; omega
  · rw [if_neg c1] at h1; omega
theorem worth_le (l : List E) (d : Int) (mem isin : ByteArray) (q : Int) (h1 : worthE l d mem isin q = 0) (h2 : marketE l d isin q = 0) : worthN l d mem isin q ≤ marketN l d isin q := by
  unfold worthE at h1
  unfold marketE at h2
  unfold worthN marketN
  cases he : (elig l d mem isin != 0) <;> rw [he] at h1
  · cases hs : (atE l 1 d isin).isSome <;> rw [hs] at h2
    · cases h2
    · cases hp : (prE (atE l 2 d isin) d != 0) <;> rw [hp] at h2
      · exact v_le _ _ _ _ h1 h2
      · exact absurd (show prE (atE l 2 d isin) d = 0 from h2) (by simpa [bne] using hp)
  · exact absurd (show elig l d mem isin = 0 from h1) (by simpa [bne] using he)

set_option maxRecDepth 20000 in
set_option maxHeartbeats 16000000 in
theorem law4 (A : Option Addr) (xs : List E) (c : Nat) (d : Int) (mem isin : ByteArray) (q a : Int) (hc1 : xs.length ≤ c) (hc2 : c ≤ 9223372036854775807) (hok : ∀ x ∈ xs, OkE x) (hkm : mem.size ≤ maxLen) (hk : isin.size ≤ maxLen) (w : World) (h : SlE w A xs) :
    Calls Tryz.prog 4 #[.slice A xs.length c, .int .i64 d, .string mem, .agg #[.string isin, .int .i64 q], .int .i64 a] w fun r w' => r = .returned (.bool true) ∧ Below w.heap.size w w' := by
  have hkn := fun w => known9 w
  have HKN := Lib.hid hkn
  clear hkn
  have hb0 := bl1 w (.cells #[.string isin, .int .i64 q] 37)
  have bx0 := Blk.new w 37 #[.string isin, .int .i64 q]
  have cc0 := Blk.get2 bx0
  cases hd : dayB d
  · have hm := made8_f A xs c d hd hc1 hc2 hok _ (SlE.call h hb0)
    have HM := Lib.hid hm
    clear hm
    go_enter Tryz.func4, Tryz.ntmps4
    go_wp2_with (first
      | (go_at_call 8; refine HM.out.mono ?_; rintro r w1 ⟨⟨v5, rfl⟩, hb1⟩)
      | (go_at_call 9; refine (HKN.out _).mono ?_; rintro r w2 ⟨rfl, hb2⟩))
    go_ret
    exact ⟨rfl, bl_then (bl_then hb0 hb1) hb2⟩
  · have hm := made8_t A xs c d hd hc1 hc2 hok _ (SlE.call h hb0)
    generalize foldL (xs.take 30) = L at *
    have HM := Lib.hid hm
    have HH := Lib.hid h
    clear hm h hok hc1 hc2
    have hle := worth_le L d mem isin q
    have htests : (worthE L d mem isin q != 0) = true ∨ ((worthE L d mem isin q != 0) = false ∧ (marketE L d isin q != 0) = true) ∨ ((worthE L d mem isin q != 0) = false ∧ (marketE L d isin q != 0) = false ∧ decide (worthN L d mem isin q ≤ marketN L d isin q) = true) := by
      cases h1 : (worthE L d mem isin q != 0)
      · cases h2 : (marketE L d isin q != 0)
        · exact .inr (.inr ⟨rfl, rfl, decide_eq_true (hle (by simpa [bne] using h1) (by simpa [bne] using h2))⟩)
        · exact .inr (.inl ⟨rfl, rfl⟩)
      · exact .inl rfl
    clear hle
    have main : ∀ wn we cn ce mn me : Int, worthN L d mem isin q = wn → worthE L d mem isin q = we → coverN L d mem isin a = cn → coverE L d mem isin a = ce → marketN L d isin q = mn → marketE L d isin q = me →
        ((we != 0) = true ∨ ((we != 0) = false ∧ (me != 0) = true) ∨ ((we != 0) = false ∧ (me != 0) = false ∧ decide (wn ≤ mn) = true)) →
        Calls Tryz.prog 4 #[.slice A xs.length c, .int .i64 d, .string mem, .agg #[.string isin, .int .i64 q], .int .i64 a] w fun r w' => r = .returned (.bool true) ∧ Below w.heap.size w w' := by
      intro wn we cn ce mn me e1 e2 e3 e4 e5 e6 ht
      have EQ := Lib.hid (And.intro e1 (And.intro e2 (And.intro e3 (And.intro e4 (And.intro e5 e6)))))
      clear e1 e2 e3 e4 e5 e6 htests
      rcases ht with t1 | ⟨t1, t2⟩ | ⟨t1, t2, t3⟩
      all_goals
        go_enter Tryz.func4, Tryz.ntmps4
        go_wp2_with (first
          | (go_at_call 9; refine (HKN.out _).mono ?_; rintro r w9 ⟨rfl, hb9⟩)
          | (go_at_call 17; have hx := market17 A5 L c5 d isin q MH.out.good MH.out.hl MH.out.hc _ (SlE.call MH.out.sl b6); rw [EQ.out.2.2.2.2.1, EQ.out.2.2.2.2.2] at hx; refine hx.mono ?_; clear hx; rintro r w7 ⟨rfl, hb7⟩; have b7 := bl_then b6 hb7; have k7 := Blk.get2 (BX.out.call b7))
          | (go_at_call 16; have hx := cover16 A5 L c5 d mem isin a MH.out.good MH.out.hl MH.out.hc _ (SlE.call MH.out.sl b5); rw [EQ.out.2.2.1, EQ.out.2.2.2.1] at hx; refine hx.mono ?_; clear hx; rintro r w6 ⟨rfl, hb6⟩; have b6 := bl_then b5 hb6; have k6 := Blk.get2 (BX.out.call b6))
          | (go_at_call 15; have hx := worth15 A5 L c5 d mem isin q MH.out.good MH.out.hl MH.out.hc _ (SlE.call MH.out.sl b4); rw [EQ.out.1, EQ.out.2.1] at hx; refine hx.mono ?_; clear hx; rintro r w5 ⟨rfl, hb5⟩; have b5 := bl_then b4 hb5; have k5' := Blk.get2 (BX.out.call b5))
          | (go_at_call 14; have hx := market14 vb tb m0 m1 m2 m3 30 L d isin q _ (MH.out.val.call b3) MH.out.inv MH.out.good hk; rw [EQ.out.2.2.2.2.1, EQ.out.2.2.2.2.2] at hx; refine hx.mono ?_; clear hx; rintro r w4 ⟨rfl, hb4⟩; have b4 := bl_then b3 hb4; have k4' := Blk.get2 (BX.out.call b4))
          | (go_at_call 13; have hx := needed13 vb tb m0 m1 m2 m3 30 L d mem isin a _ (MH.out.val.call b2) MH.out.inv MH.out.good hkm hk; rw [EQ.out.2.2.1, EQ.out.2.2.2.1] at hx; refine hx.mono ?_; clear hx; rintro r w3 ⟨rfl, hb3⟩; have b3 := bl_then b2 hb3; have k3' := Blk.get2 (BX.out.call b3))
          | (go_at_call 12; have hx := value12 vb tb m0 m1 m2 m3 30 L d mem isin q _ MH.out.val MH.out.inv MH.out.good hkm hk; rw [EQ.out.1, EQ.out.2.1] at hx; refine hx.mono ?_; clear hx; rintro r w2 ⟨rfl, hb2⟩; have b2 : Below w1.heap.size w1 _ := hb2; have k2' := Blk.get2 (BX.out.call b2))
          | (go_at_call 8; refine HM.out.mono ?_; rintro r w1 ⟨vb, tb, m0, m1, m2, m3, A5, c5, rfl, M⟩; have MH := Lib.hid M; clear M; have BX := Lib.hid (bx0.call MH.out.bl); have k1 := Blk.get2 (bx0.call MH.out.bl)))
        go_ret
        exact ⟨rfl, bl_then hb0 (bl_then MH.out.bl (bl_then b7 hb9))⟩
    exact main _ _ _ _ _ _ rfl rfl rfl rfl rfl rfl htests
end Go.Proofs.YtongoicadcmfaaaGreatDoor.V
