/- girolaw33.ValuationPortfolio as a walk. -/
import Derived.Test.YtongoicadcmfaaaGreatDoorVLaw3
import Derived.Test.YtongoicadcmfaaaGreatDoorVPort
set_option linter.unusedSimpArgs false
set_option linter.unusedVariables false
namespace Go.Proofs.YtongoicadcmfaaaGreatDoor.V
open Go.RowKit

theorem SlL.get {w : World} {A : Option Addr} {l : List E} {d : Int} {mem : ByteArray} {ps : List P2} (h : Sl w 4 A (ps.map (lineC l d mem))) {i : Nat} (hi : i < ps.length) :
    ∃ ad, A = some ad ∧ w.cell? (ad.add (i * 4)) = some (.string ps[i].isin) ∧ w.cell? ⟨(ad.add (i * 4)).block, (ad.add (i * 4)).off + 1, none⟩ = some (.int .i64 ps[i].q) ∧
      w.cell? ⟨(ad.add (i * 4)).block, (ad.add (i * 4)).off + 2, none⟩ = some (.int .i64 (worthN l d mem ps[i].isin ps[i].q)) ∧ w.cell? ⟨(ad.add (i * 4)).block, (ad.add (i * 4)).off + 3, none⟩ = some (.int .i64 (worthE l d mem ps[i].isin ps[i].q)) := by
  obtain ⟨ad, e, hb, hc⟩ := Sl.get h (i := i) (by simpa using hi)
  have hr : (ps.map (lineC l d mem))[i]'(by simpa using hi) = lineC l d mem ps[i] := by simp
  rw [hr] at hc
  refine ⟨ad, e, hc 0 _ rfl, ?_, ?_, ?_⟩ <;> rw [← add_field _ _ _ (by omega)] <;> exact hc _ _ rfl

set_option maxRecDepth 20000 in
set_option maxHeartbeats 16000000 in
theorem law5 (A : Option Addr) (xs : List E) (c : Nat) (d : Int) (mem : ByteArray) (A2 : Option Addr) (ps : List P2) (c2 : Nat) (hc1 : xs.length ≤ c) (hc2 : c ≤ 9223372036854775807) (hok : ∀ x ∈ xs, OkE x) (hkm : mem.size ≤ maxLen)
    (hl2 : ps.length ≤ c2) (hc22 : c2 ≤ 9223372036854775807) (hks : ∀ p ∈ ps, p.isin.size ≤ maxLen) (w : World) (h : SlE w A xs) (h2 : SlP w A2 ps) :
    Calls Tryz.prog 5 #[.slice A xs.length c, .int .i64 d, .string mem, .slice A2 ps.length c2] w fun r w' => r = .returned (.bool true) ∧ Below w.heap.size w w' := by
  have hkn := fun w => known9 w
  have HKN := Lib.hid hkn
  clear hkn
  cases hd : dayB d
  · have hm := made8_f A xs c d hd hc1 hc2 hok w h
    have HM := Lib.hid hm
    clear hm hks h2 h
    go_enter Tryz.func5, Tryz.ntmps5
    go_wp2_with (first
      | (go_at_call 8; refine HM.out.mono ?_; rintro r w1 ⟨⟨v5, rfl⟩, hb1⟩)
      | (go_at_call 9; refine (HKN.out _).mono ?_; rintro r w2 ⟨rfl, hb2⟩))
    go_ret
    exact ⟨rfl, bl_then hb1 hb2⟩
  · have hm := made8_t A xs c d hd hc1 hc2 hok w h
    generalize foldL (xs.take 30) = L at *
    have HM := Lib.hid hm
    have HP := Lib.hid h2
    have HKS := Lib.hid hks
    clear hm h hok hc1 hc2 h2 hks
    cases h20 : decide (20 < (ps.length : Int))
    · have hn : ps.length ≤ 20 := by have := of_decide_eq_false h20; omega
      have hnn : (pfN L d mem ps != pfN L d mem ps) = false := by simp
      have hee : (pfE L d mem ps != pfE L d mem ps) = false := by simp
      cases hz : (pfE L d mem ps != 0)
      · have hz0 : pfE L d mem ps = 0 := by simpa using hz
        have HZ0 := Lib.hid hz0
        clear hz0
        go_enter Tryz.func5, Tryz.ntmps5
        go_wp2_with (first
          | (go_at_call 20; refine (total20 A5 L c5 d mem MH.out.good MH.out.hl MH.out.hc A2 ps c2 hl2 hc22 (by omega) _ (SlE.call MH.out.sl b3) (SlP.call HP.out (bl_then MH.out.bl b3))).mono ?_; rintro r w4 ⟨rfl, hb4⟩; have b4 := bl_then b3 hb4)
          | (go_at_call 18; refine (portfolio18 vb tb m0 m1 m2 m3 30 L d mem A3 ps c3 _ (MH.out.val.call hb2) MH.out.inv MH.out.good hkm S3.out e1 e2 (by omega) HKS.out).mono ?_; rintro r w3 ⟨⟨A4, n4, c4, rfl, f1, f2, f3, f4⟩, hb3⟩; obtain ⟨rfl, s4⟩ := f3 HZ0.out; have S4 := Lib.hid s4; have b3 := bl_then hb2 hb3; clear f3 f4 s4)
          | (go_at_call 19; refine (positions19 A2 ps c2 hl2 hc22 (by omega) _ (SlP.call HP.out MH.out.bl)).mono ?_; rintro r w2 ⟨⟨A3, c3, rfl, e1, e2, s3⟩, hb2⟩; have S3 := Lib.hid s3; clear s3)
          | (go_at_call 8; refine HM.out.mono ?_; rintro r w1 ⟨vb, tb, m0, m1, m2, m3, A5, c5, rfl, M⟩; have MH := Lib.hid M; clear M))
        have S5 := Lib.hid (S4.out.call hb4)
        go_loopw [17] (fun v17 wr => ∃ i : Nat, i ≤ ps.length ∧ v17 = .int .i64 i ∧ Below w4.heap.size w4 wr) (fun v17 _ => ps.length - (intOf v17).toNat)
        case atStart => exact ⟨0, Nat.zero_le _, rfl, Below.refl _ _⟩
        case round =>
          obtain ⟨i, hi, rfl, hbr⟩ := hrel
          by_cases hlt : i < ps.length
          · have hbw := bl_then b4 hbr
            have hw15 := worth15 A5 L c5 d mem ps[i].isin ps[i].q MH.out.good MH.out.hl MH.out.hc _ (SlE.call MH.out.sl hbw)
            have hq := fun (W : World) (hb : Below wr.heap.size wr W) => SlL.get (S5.out.call (bl_then hbr hb)) hlt
            have hp := fun (W : World) (hb : Below wr.heap.size wr W) => SlP.get (SlP.call HP.out (bl_then (bl_then MH.out.bl hbw) hb)) hlt
            generalize worthN L d mem ps[i].isin ps[i].q = yn at *
            generalize worthE L d mem ps[i].isin ps[i].q = ye at *
            generalize ps[i] = y at *
            have hyn : (yn != yn) = false := by simp
            have hye : (ye != ye) = false := by simp
            have HW := Lib.hid hw15
            have HQ := Lib.hid hq
            have HPP := Lib.hid hp
            clear hw15 hq hp
            obtain ⟨ad, hA2, -, c0, c1⟩ := HPP.out _ (Below.refl _ _)
            subst hA2
            go_wp2_with (go_at_call 15; refine HW.out.mono ?_; rintro r w5 ⟨rfl, hb5⟩; obtain ⟨ad2, hA3, -, k0, k1⟩ := HPP.out _ hb5; injection hA3 with hA3; subst hA3; obtain ⟨ad4, hA4, q0, q1, q2, q3⟩ := HQ.out _ hb5; subst hA4)
            go_quiet (fail)
            go_wp2_with fail
            exact ⟨⟨i + 1, by omega, by go_num, bl_drewN (bl_then hbr hb5) _⟩, by simp [intOf]; omega⟩
          · obtain rfl : ps.length = i := by omega
            go_wp2_with (go_at_call 9; refine (HKN.out _).mono ?_; rintro r w9 ⟨rfl, hb9⟩)
            go_ret
            exact ⟨rfl, bl_then MH.out.bl (bl_then (bl_then b4 hbr) hb9)⟩
      · have hz0 : pfE L d mem ps ≠ 0 := by simpa using hz
        have HZ0 := Lib.hid hz0
        clear hz0
        go_enter Tryz.func5, Tryz.ntmps5
        go_wp2_with (first
          | (go_at_call 9; refine (HKN.out _).mono ?_; rintro r w9 ⟨rfl, hb9⟩)
          | (go_at_call 20; refine (total20 A5 L c5 d mem MH.out.good MH.out.hl MH.out.hc A2 ps c2 hl2 hc22 (by omega) _ (SlE.call MH.out.sl b3) (SlP.call HP.out (bl_then MH.out.bl b3))).mono ?_; rintro r w4 ⟨rfl, hb4⟩; have b4 := bl_then b3 hb4)
          | (go_at_call 18; refine (portfolio18 vb tb m0 m1 m2 m3 30 L d mem A3 ps c3 _ (MH.out.val.call hb2) MH.out.inv MH.out.good hkm S3.out e1 e2 (by omega) HKS.out).mono ?_; rintro r w3 ⟨⟨A4, n4, c4, rfl, f1, f2, f3, f4⟩, hb3⟩; obtain rfl := f4 HZ0.out; have b3 := bl_then hb2 hb3; clear f3 f4)
          | (go_at_call 19; refine (positions19 A2 ps c2 hl2 hc22 (by omega) _ (SlP.call HP.out MH.out.bl)).mono ?_; rintro r w2 ⟨⟨A3, c3, rfl, e1, e2, s3⟩, hb2⟩; have S3 := Lib.hid s3; clear s3)
          | (go_at_call 8; refine HM.out.mono ?_; rintro r w1 ⟨vb, tb, m0, m1, m2, m3, A5, c5, rfl, M⟩; have MH := Lib.hid M; clear M))
        go_ret
        exact ⟨rfl, bl_then MH.out.bl (bl_then b4 hb9)⟩
    · go_enter Tryz.func5, Tryz.ntmps5
      go_wp2_with (first
        | (go_at_call 8; refine HM.out.mono ?_; rintro r w1 ⟨vb, tb, m0, m1, m2, m3, A5, c5, rfl, M⟩; have MH := Lib.hid M; clear M)
        | (go_at_call 9; refine (HKN.out _).mono ?_; rintro r w2 ⟨rfl, hb2⟩))
      go_ret
      exact ⟨rfl, bl_then MH.out.bl hb2⟩
end Go.Proofs.YtongoicadcmfaaaGreatDoor.V
