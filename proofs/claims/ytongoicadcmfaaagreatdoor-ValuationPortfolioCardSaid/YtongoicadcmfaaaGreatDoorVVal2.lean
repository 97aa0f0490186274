/- valuation.(*Valuer).terms. (Printed by gen_terms.py.) valuation.(*Valuer).Value, Needed, Market. (Printed by gen_val2.py.) -/
import Derived.Test.YtongoicadcmfaaaGreatDoorVElig
set_option linter.unusedSimpArgs false
set_option linter.unusedVariables false
namespace Go.Proofs.YtongoicadcmfaaaGreatDoor.V
open Go.RowKit

set_option maxRecDepth 20000 in
set_option maxHeartbeats 16000000 in
theorem terms39 (vb tb m0 m1 m2 m3 N : Nat) (l : List E) (d : Int) (mem isin : ByteArray) (w : World) (V : Val w vb tb m0 m1 m2 m3 N l d) (hi : Inv l) (hg : Good l) (hkm : mem.size ≤ maxLen) (hk : isin.size ≤ maxLen) :
    Calls Tryz.prog 39 #[.pointer (some ⟨vb, 0, none⟩), .string mem, .string isin] w fun r w' => (∃ n nu de lo : Int, r = .returned (.tuple #[.int .i64 n, .agg #[.int .i64 nu, .int .i64 de], .int .i64 lo, .int .i64 (elig l d mem isin)]) ∧
      (elig l d mem isin = 0 → n = prN (atE l 2 d isin) d ∧ nu = ((atE l 3 d isin).getD E.zero).num ∧ de = ((atE l 3 d isin).getD E.zero).den ∧ lo = ((atE l 1 d isin).getD E.zero).n)) ∧ Below w.heap.size w w' := by
  have hb0 := bl1 w (.cells #[.int .i64 0, .int .i64 0] 69)
  have hel := elig10 vb tb m0 m1 m2 m3 N l d mem isin _ (V.call hb0) hi hg hkm hk
  have hpr := fun W V => price36 vb tb m0 m1 m2 m3 N l d isin W V hi hg hk
  have hha := fun W T => haircut34 tb m0 m1 m2 m3 N l d isin W T hi hk
  have hse := fun W T => security28 tb m0 m1 m2 m3 N l d isin W T hi hk
  generalize elig l d mem isin = er at *
  generalize prN (atE l 2 d isin) d = pn at *
  generalize prE (atE l 2 d isin) d = pe at *
  generalize (atE l 3 d isin).getD E.zero = x at *
  generalize (atE l 3 d isin).isSome = b3 at *
  generalize (atE l 1 d isin).getD E.zero = s at *
  generalize (atE l 1 d isin).isSome = b1 at *
  have HEL := Lib.hid hel
  have HPR := Lib.hid hpr
  have HHA := Lib.hid hha
  have HSE := Lib.hid hse
  have HV := Lib.hid V
  have bx := Blk.new w 69 #[.int .i64 0, .int .i64 0]
  clear hel hpr hha hse V
  by_cases he : er = 0
  case neg =>
    have hne : (er != 0) = true := by simp [bne, he]
    go_enter Tryz.func39, Tryz.ntmps39
    go_wp2_with (go_at_call 10; refine HEL.out.mono ?_; rintro r w1 ⟨rfl, hb1⟩; have bx1 := bx.call hb1; have cc1 := Blk.get2 bx1; have fz := fun j => bx1.frozen j; have hbl1 := bl_then hb0 hb1)
    have HE := Lib.hid he
    refine bodyPost_ret (v := .tuple #[.int .i64 0, .agg #[.int .i64 0, .int .i64 0], .int .i64 0, .int .i64 er]) (by simp [results, Tryz.results39, go_sem, cc1, fz]) rfl ⟨⟨0, 0, 0, 0, rfl, fun h => absurd h HE.out⟩, ?_⟩
    repeat (refine bl_set ?_ (by simp) _)
    exact hbl1
  subst he
  go_enter Tryz.func39, Tryz.ntmps39
  go_wp2_with (first
    | (go_at_call 36; refine (HPR.out _ (HV.out.call hbl1)).mono ?_; rintro r w2 ⟨rfl, hb2⟩; have hbl2 := bl_then hbl1 hb2; have bx2 := bx1.call hb2)
    | (go_at_call 10; refine HEL.out.mono ?_; rintro r w1 ⟨rfl, hb1⟩; have bx1 := bx.call hb1; have hbl1 := bl_then hb0 hb1))
  have HV2 := Lib.hid (HV.out.call hbl2)
  have hc : ∀ w', Below w2.heap.size w2 w' → w'.cell? ⟨vb, 0, none⟩ = some (.pointer (some ⟨tb, 0, none⟩)) ∧ w'.cell? ⟨vb, 1, none⟩ = some (.int .i64 d) ∧ Below w2.heap.size w2 w' := fun w' h => ⟨(HV2.out.call h).blk.cell 0, (HV2.out.call h).blk.cell 1, h⟩
  have HC := Lib.hid hc
  clear hc
  go_cut [13] (fun v13 wx => ∃ a : Nat, v13 = .pointer (some ⟨a, 0, none⟩) ∧ wx.cell? ⟨a, 0, none⟩ = some (.int .i64 x.num) ∧ wx.cell? ⟨a, 1, none⟩ = some (.int .i64 x.den) ∧ Below w2.heap.size w2 wx)
  case first =>
    go_region_held3 (fun w' => w'.cell? ⟨vb, 0, none⟩ = some (.pointer (some ⟨tb, 0, none⟩)) ∧ w'.cell? ⟨vb, 1, none⟩ = some (.int .i64 d) ∧ Below w2.heap.size w2 w')
      ((refine HC.out _ ?_; (repeat (refine bl_set ?_ (by first | (simp; done) | (simp; omega) | omega) _)); first | exact bl_drew (Below.refl _ _) | exact k3 (by assumption) | exact bl_alloc (k3 (by assumption)) _ | exact bl_then (k3 (by assumption)) hb1 | exact bl_then hb0 hb1 | exact bl_alloc (bl_then hb0 hb1) _))
      (first
        | (go_at_call 34; have hb0 : Below w2.heap.size w2 _ := k3 (by assumption); have hsz0 := hb0.size; refine (HHA.out _ (HV2.out.tab.call hb0)).mono ?_; rintro r w1 ⟨rfl, hb1⟩; (try (have hB : Blk w1 w2.heap.size 69 #[.int .i64 0, .int .i64 0] := (first_blk w2 69 #[.int .i64 0, .int .i64 0]).call hb1; have hF := fun j => hB.frozen j; have hCl := Blk.get2 hB)); have hsz1 := hb1.size)
        | fail "no arm")
    all_goals
      have hblx : Below w2.heap.size w2 _ := k3 (by assumption)
      go_split_ands
      go_wp2_with fail
      go_meet
      exact ⟨_, rfl, by simp [go_sem, *], by simp [go_sem, *], hblx⟩
  case rest =>
    obtain ⟨a3, rfl, h3n, h3d, hbl3⟩ := hcut
    have HV3 := Lib.hid (HV2.out.call hbl3)
    have hbw3 := bl_then hbl2 hbl3
    have bx3 := bx2.call hbl3
    clear HC
    go_wp2_with fail
    have hc : ∀ w', Below wc.heap.size wc w' → w'.cell? ⟨vb, 0, none⟩ = some (.pointer (some ⟨tb, 0, none⟩)) ∧ w'.cell? ⟨vb, 1, none⟩ = some (.int .i64 d) ∧ Below wc.heap.size wc w' := fun w' h => ⟨(HV3.out.call h).blk.cell 0, (HV3.out.call h).blk.cell 1, h⟩
    have HC := Lib.hid hc
    clear hc
    generalize hwd : wc = wd at *
    go_cut [15] (fun v15 wx => ∃ a : Nat, v15 = .pointer (some ⟨a, 0, none⟩) ∧ wx.cell? ⟨a, 2, none⟩ = some (.int .i64 s.n) ∧ Below wd.heap.size wd wx)
    case first =>
      go_region_held3 (fun w' => w'.cell? ⟨vb, 0, none⟩ = some (.pointer (some ⟨tb, 0, none⟩)) ∧ w'.cell? ⟨vb, 1, none⟩ = some (.int .i64 d) ∧ Below wd.heap.size wd w')
        ((refine HC.out _ ?_; (repeat (refine bl_set ?_ (by first | (simp; done) | (simp; omega) | omega) _)); first | exact bl_drew (Below.refl _ _) | exact k3 (by assumption) | exact bl_alloc (k3 (by assumption)) _ | exact bl_then (k3 (by assumption)) hb1 | exact bl_then hb0 hb1 | exact bl_alloc (bl_then hb0 hb1) _))
        (first
          | (go_at_call 28; have hb0 : Below wd.heap.size wd _ := k3 (by assumption); have hsz0 := hb0.size; refine (HSE.out _ (HV3.out.tab.call hb0)).mono ?_; rintro r w1 ⟨rfl, hb1⟩; (try (have hB : Blk w1 wd.heap.size 72 #[.string ⟨#[]⟩, .string ⟨#[]⟩, .int .i64 0, .bool false] := (first_blk wd 72 #[.string ⟨#[]⟩, .string ⟨#[]⟩, .int .i64 0, .bool false]).call hb1; have hF := fun j => hB.frozen j; have hCl := Blk.get4 hB)); have hsz1 := hb1.size)
          | fail "no arm")
      all_goals
        have hblx : Below wd.heap.size wd _ := k3 (by assumption)
        go_split_ands
        go_wp2_with fail
        go_meet
        exact ⟨_, rfl, by simp [go_sem, *], hblx⟩
    case rest =>
      obtain ⟨a4, rfl, h4n, hbl4⟩ := hcut
      have k3n := cell_call h3n hbl4
      have k3d := cell_call h3d hbl4
      have bx4 := bx3.call hbl4
      have cc4 := Blk.get2 bx4
      have fz4 := fun j => bx4.frozen j
      have hbw4 := bl_then hbw3 hbl4
      clear h3n h3d bx bx1 bx2 bx3 HC
      go_wp2_with fail
      go_region
      all_goals
        go_wp2_with fail
        refine bodyPost_ret (v := .tuple #[.int .i64 pn, .agg #[.int .i64 x.num, .int .i64 x.den], .int .i64 s.n, .int .i64 0]) (by simp [results, Tryz.results39, go_sem, cc4, fz4]) rfl ⟨⟨pn, x.num, x.den, s.n, rfl, fun _ => ⟨rfl, rfl, rfl, rfl⟩⟩, ?_⟩
        repeat (first | refine bl_set ?_ (by simp) _ | refine bl_drew ?_ | refine bl_drewN ?_ _)
        exact hbw4
end Go.Proofs.YtongoicadcmfaaaGreatDoor.V

namespace Go.Proofs.YtongoicadcmfaaaGreatDoor.V
open Go.RowKit

set_option maxRecDepth 20000 in
set_option maxHeartbeats 8000000 in
theorem value12 (vb tb m0 m1 m2 m3 N : Nat) (l : List E) (d : Int) (mem isin : ByteArray) (q : Int) (w : World) (V : Val w vb tb m0 m1 m2 m3 N l d) (hi : Inv l) (hg : Good l) (hkm : mem.size ≤ maxLen) (hk : isin.size ≤ maxLen) :
    Calls Tryz.prog 12 #[.pointer (some ⟨vb, 0, none⟩), .string mem, .agg #[.string isin, .int .i64 q]] w fun r w' => r = .returned (.tuple #[.int .i64 (worthN l d mem isin q), .int .i64 (worthE l d mem isin q)]) ∧ Below w.heap.size w w' := by
  have hb0 := bl1 w (.cells #[.string isin, .int .i64 q] 40)
  have bx0 := Blk.new w 40 #[.string isin, .int .i64 q]
  have cc0 := Blk.get2 bx0
  have ht := terms39 vb tb m0 m1 m2 m3 N l d mem isin _ (V.call hb0) hi hg hkm hk
  obtain ⟨-, -, r0, r1, q0, q1⟩ := (at_good hg 3 d isin).b
  unfold worthN worthE
  generalize elig l d mem isin = er at *
  generalize prN (atE l 2 d isin) d = pn at *
  generalize (atE l 3 d isin).getD E.zero = x at *
  generalize (atE l 1 d isin).getD E.zero = s at *
  have HT := Lib.hid ht
  clear ht V
  by_cases he : er = 0
  · subst he
    have hva := fun w => value26 q pn x.num x.den w r0 r1 q0 q1
    have HVA := Lib.hid hva
    clear hva
    go_enter Tryz.func12, Tryz.ntmps12
    go_wp2_with (first
      | (go_at_call 26; refine (HVA.out _).mono ?_; rintro r w2 ⟨rfl, hb2⟩)
      | (go_at_call 39; refine HT.out.mono ?_; rintro r w1 ⟨⟨n, nu, de, lo, rfl, heq⟩, hb1⟩; obtain ⟨rfl, rfl, rfl, rfl⟩ := heq rfl; have hbl1 := bl_then hb0 hb1; have bx1 := bx0.call hb1; have cc1 := Blk.get2 bx1; have ca1 := fun o => Blk.get2 (bx1.alloc o)))
    go_ret2
    exact ⟨rfl, bl_then (bl_alloc hbl1 _) hb2⟩
  · have hne : (er != 0) = true := by simp [bne, he]
    rw [hne]
    go_enter Tryz.func12, Tryz.ntmps12
    go_wp2_with (go_at_call 39; refine HT.out.mono ?_; rintro r w1 ⟨⟨n, nu, de, lo, rfl, heq⟩, hb1⟩; have hbl1 := bl_then hb0 hb1; have bx1 := bx0.call hb1; have cc1 := Blk.get2 bx1; have ca1 := fun o => Blk.get2 (bx1.alloc o))
    go_ret2
    exact ⟨rfl, bl_alloc hbl1 _⟩

set_option maxRecDepth 20000 in
set_option maxHeartbeats 8000000 in
theorem needed13 (vb tb m0 m1 m2 m3 N : Nat) (l : List E) (d : Int) (mem isin : ByteArray) (a : Int) (w : World) (V : Val w vb tb m0 m1 m2 m3 N l d) (hi : Inv l) (hg : Good l) (hkm : mem.size ≤ maxLen) (hk : isin.size ≤ maxLen) :
    Calls Tryz.prog 13 #[.pointer (some ⟨vb, 0, none⟩), .string mem, .string isin, .int .i64 a] w fun r w' => r = .returned (.tuple #[.int .i64 (coverN l d mem isin a), .int .i64 (coverE l d mem isin a)]) ∧ Below w.heap.size w w' := by
  have hb0 := Below.refl w.heap.size w
  have ht := terms39 vb tb m0 m1 m2 m3 N l d mem isin _ (V.call hb0) hi hg hkm hk
  obtain ⟨-, -, r0, r1, q0, q1⟩ := (at_good hg 3 d isin).b
  unfold coverN coverE
  generalize elig l d mem isin = er at *
  generalize prN (atE l 2 d isin) d = pn at *
  generalize (atE l 3 d isin).getD E.zero = x at *
  generalize (atE l 1 d isin).getD E.zero = s at *
  have HT := Lib.hid ht
  clear ht V
  by_cases he : er = 0
  · subst he
    have hva := fun w => needed27 a pn s.n x.num x.den w r0 r1 q0 q1
    have HVA := Lib.hid hva
    clear hva
    go_enter Tryz.func13, Tryz.ntmps13
    go_wp2_with (first
      | (go_at_call 27; refine (HVA.out _).mono ?_; rintro r w2 ⟨rfl, hb2⟩)
      | (go_at_call 39; refine HT.out.mono ?_; rintro r w1 ⟨⟨n, nu, de, lo, rfl, heq⟩, hb1⟩; obtain ⟨rfl, rfl, rfl, rfl⟩ := heq rfl; have hbl1 := bl_then hb0 hb1))
    go_ret2
    exact ⟨rfl, bl_then (bl_alloc hbl1 _) hb2⟩
  · have hne : (er != 0) = true := by simp [bne, he]
    rw [hne]
    go_enter Tryz.func13, Tryz.ntmps13
    go_wp2_with (go_at_call 39; refine HT.out.mono ?_; rintro r w1 ⟨⟨n, nu, de, lo, rfl, heq⟩, hb1⟩; have hbl1 := bl_then hb0 hb1)
    go_ret2
    exact ⟨rfl, bl_alloc hbl1 _⟩

set_option maxRecDepth 20000 in
set_option maxHeartbeats 8000000 in
theorem market14 (vb tb m0 m1 m2 m3 N : Nat) (l : List E) (d : Int) (isin : ByteArray) (q : Int) (w : World) (V : Val w vb tb m0 m1 m2 m3 N l d) (hi : Inv l) (hg : Good l) (hk : isin.size ≤ maxLen) :
    Calls Tryz.prog 14 #[.pointer (some ⟨vb, 0, none⟩), .agg #[.string isin, .int .i64 q]] w fun r w' => r = .returned (.tuple #[.int .i64 (marketN l d isin q), .int .i64 (marketE l d isin q)]) ∧ Below w.heap.size w w' := by
  have hbw := bl1 w (.cells #[.string isin, .int .i64 q] 40)
  have V0 := V.call hbw
  have bx0 := Blk.new w 40 #[.string isin, .int .i64 q]
  have hse := fun W T => security28 tb m0 m1 m2 m3 N l d isin W T hi hk
  have hpr := fun W V => price36 vb tb m0 m1 m2 m3 N l d isin W V hi hg hk
  unfold marketN marketE
  generalize (atE l 1 d isin).getD E.zero = s at *
  generalize (atE l 1 d isin).isSome = b1 at *
  generalize prN (atE l 2 d isin) d = pn at *
  generalize prE (atE l 2 d isin) d = pe at *
  have hva := fun w => value26 q pn 0 1 w (by decide) (by decide) (by decide) (by decide)
  generalize vNum q pn 0 1 = vn at *
  generalize vErr q pn 0 1 = ve at *
  obtain ⟨pb, hpb⟩ : ∃ p, w.heap.size = p := ⟨_, rfl⟩
  obtain ⟨w0, hw0⟩ : ∃ W, w.alloc (.cells #[.string isin, .int .i64 q] 40) = W := ⟨_, rfl⟩
  rw [hw0] at V0 bx0 hbw
  rw [hpb] at bx0
  have HSE := Lib.hid hse
  have HPR := Lib.hid hpr
  have HVA := Lib.hid hva
  have HV := Lib.hid V0
  have HBX := Lib.hid bx0
  have HBW := Lib.hid hbw
  have HW0 := Lib.hid (And.intro hw0 hpb)
  have hc : ∀ w', Below w0.heap.size w0 w' → w'.cell? ⟨vb, 0, none⟩ = some (.pointer (some ⟨tb, 0, none⟩)) ∧ w'.cell? ⟨vb, 1, none⟩ = some (.int .i64 d) ∧ w'.cell? ⟨pb, 0, none⟩ = some (.string isin) ∧ Below w0.heap.size w0 w' := fun w' h => ⟨(V0.call h).blk.cell 0, (V0.call h).blk.cell 1, (bx0.call h).cell 0, h⟩
  have HC := Lib.hid hc
  clear hse hpr hva V V0 bx0 hbw hw0 hpb hc
  suffices main : ∀ n e : Int, n = (bif !b1 then 0 else bif pe != 0 then 0 else vn) → e = (bif !b1 then 9 else bif pe != 0 then pe else ve) → Calls Tryz.prog 14 #[.pointer (some ⟨vb, 0, none⟩), .agg #[.string isin, .int .i64 q]] w fun r w' => r = .returned (.tuple #[.int .i64 n, .int .i64 e]) ∧ Below w.heap.size w w' from main _ _ rfl rfl
  intro n e hn he
  have HN := Lib.hid (And.intro hn he)
  clear hn he
  go_enter Tryz.func14, Tryz.ntmps14
  go_upto_region 3 with fail
  rw [HW0.out.1, HW0.out.2]
  go_cut [6, 7] (fun v6 v7 wx => v7 = .bool b1 ∧ Below w0.heap.size w0 wx)
  case first =>
    go_region_held3 (fun w' => w'.cell? ⟨vb, 0, none⟩ = some (.pointer (some ⟨tb, 0, none⟩)) ∧ w'.cell? ⟨vb, 1, none⟩ = some (.int .i64 d) ∧ w'.cell? ⟨pb, 0, none⟩ = some (.string isin) ∧ Below w0.heap.size w0 w')
      ((refine HC.out _ ?_; (repeat (refine bl_set ?_ (by first | (simp; done) | (simp; omega) | omega) _)); first | exact bl_drew (Below.refl _ _) | exact k4 (by assumption) | exact bl_alloc (k4 (by assumption)) _ | exact bl_then (k4 (by assumption)) hb1 | exact bl_then hb0 hb1 | exact bl_alloc (bl_then hb0 hb1) _))
      (first
        | (go_at_call 28; have hb0 : Below w0.heap.size w0 _ := k4 (by assumption); have hsz0 := hb0.size; refine (HSE.out _ (HV.out.tab.call hb0)).mono ?_; rintro r w1 ⟨rfl, hb1⟩; (try (have hB : Blk w1 w0.heap.size 72 #[.string ⟨#[]⟩, .string ⟨#[]⟩, .int .i64 0, .bool false] := (first_blk w0 72 #[.string ⟨#[]⟩, .string ⟨#[]⟩, .int .i64 0, .bool false]).call hb1; have hF := fun j => hB.frozen j; have hCl := Blk.get4 hB)); have hsz1 := hb1.size)
        | fail "no arm")
    all_goals
      have hblx : Below w0.heap.size w0 _ := k4 (by assumption)
      go_split_ands
      go_wp2_with fail
      go_meet
      exact ⟨rfl, hblx⟩
  case rest =>
    obtain ⟨rfl, hbl⟩ := hcut
    have cc := Blk.get2 (HBX.out.call hbl)
    cases b1
    · go_wp2_with fail
      go_ret2
      exact ⟨by rw [HN.out.1, HN.out.2]; rfl, bl_then HBW.out hbl⟩
    · cases hz : (pe != 0)
      all_goals
        go_wp2_with (first
          | (go_at_call 26; refine (HVA.out _).mono ?_; rintro r w3 ⟨rfl, hb3⟩; have hbl4 := bl_then hbl3 hb3)
          | (go_at_call 36; refine (HPR.out _ (HV.out.call hbl)).mono ?_; rintro r w2 ⟨rfl, hb2⟩; have hbl3 := bl_then hbl hb2; have cc2 := Blk.get2 (HBX.out.call hbl3)))
        go_ret2
        first
          | exact ⟨by rw [HN.out.1, HN.out.2, hz]; rfl, bl_then HBW.out hbl4⟩
          | exact ⟨by rw [HN.out.1, HN.out.2, hz]; rfl, bl_then HBW.out hbl3⟩
end Go.Proofs.YtongoicadcmfaaaGreatDoor.V
