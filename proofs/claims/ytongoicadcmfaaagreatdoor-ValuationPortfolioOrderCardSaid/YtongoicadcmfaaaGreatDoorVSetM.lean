/- refdata.(*Table).SetMember. (Printed by gen_set.py.) -/
import Derived.Test.YtongoicadcmfaaaGreatDoorVTaken
import Derived.Test.YtongoicadcmfaaaGreatDoorVSerM
import Derived.Test.YtongoicadcmfaaaGreatDoorVValid
set_option linter.unusedSimpArgs false
set_option linter.unusedVariables false
namespace Go.Proofs.YtongoicadcmfaaaGreatDoor.V
open Go.RowKit Go.MapKept

noncomputable def okB (k : Int) (s : ByteArray) : Bool := @decide (okId k s) (Classical.propDecidable _)
theorem okB_iff (k : Int) (s : ByteArray) : okB k s = true ↔ okId k s := by unfold okB; exact @decide_eq_true_iff _ (Classical.propDecidable _)
noncomputable def takenB (l : List E) (e : E) : Bool := @decide (takenP l e) (Classical.propDecidable _)
theorem takenB_iff (l : List E) (e : E) : takenB l e = true ↔ takenP l e := by unfold takenB; exact @decide_eq_true_iff _ (Classical.propDecidable _)
def nonE (s : ByteArray) : Bool := !(s.toList == (ByteArray.mk #[]).toList)
theorem nil_toList : (ByteArray.mk #[]).toList = [] := by rw [ByteArray.toList_eq]
theorem nonE_eq (s : ByteArray) (b : Bool) (h : nonE s = b) : (s.toList == []) = !b ∧ s.toList.isEmpty = !b := by
  unfold nonE at h
  rw [nil_toList] at h
  cases hs : s.toList with
  | nil => rw [hs] at h; subst h; exact ⟨rfl, rfl⟩
  | cons a t => rw [hs] at h; subst h; exact ⟨rfl, rfl⟩

noncomputable def errM (l : List E) (e : E) : Int :=
  bif !dayB e.day then 28 else bif !okB 1 e.key then 6 else bif nonE e.text && !okB 3 e.text then 3 else bif staleB (ser 0 l e.key) e.day then 20 else bif nonE e.text && takenB l e then 7 else 0

set_option maxRecDepth 20000 in
set_option maxHeartbeats 8000000 in
theorem setMember50 (tb m0 m1 m2 m3 N : Nat) (l : List E) (e : E) (he : e.kind = 0) (w : World) (T : Tab w tb m0 m1 m2 m3 N l) (hi : Inv l) (hk : e.key.size ≤ maxLen) (ht : e.text.size ≤ maxLen) (hl : l.length < 40) (hN : N ≤ 100) :
    Calls Tryz.prog 50 #[.pointer (some ⟨tb, 0, none⟩), .int .i64 e.day, .agg #[.string e.key, .string e.text, .bool e.act]] w fun r w' =>
      r = .returned (.int .i64 (errM l e)) ∧ w.grownBy w' (some m0) ∧ Tab w' tb m0 m1 m2 m3 (N + 1) (if errM l e = 0 then setL l e else l) := by
  obtain ⟨A, c, hc1, hc2, hsl, _, hq⟩ := T.mem.get (t := 118) (e := 132) Tryz.underlying118 Tryz.zeroValue132 hk
  have HQ := fun n => hq _ (bl_drewN (bl1 w (.cells #[.string e.key, .string e.text, .bool e.act] 78)) n)
  have bx := Blk.new w 78 #[.string e.key, .string e.text, .bool e.act]
  have T0 := T.call (bl1 w (.cells #[.string e.key, .string e.text, .bool e.act] 78))
  have hbl0 := bl1 w (.cells #[.string e.key, .string e.text, .bool e.act] 78)
  have hsl0 := hsl.call hbl0
  have ct := T0.blk.cell 0
  have hstl := fun W h => staleM A (ser 0 l e.key) c e.day W h hc1 hc2 (ser_len30 hi 0 e.key)
  have htk := fun W T => taken74 tb m0 m1 m2 m3 N l e (takenB l e) (takenB_iff _ _) W T hi
  have hwi := fun W h => withM A (ser 0 l e.key) c e W h hc1 hc2 (ser_len30 hi 0 e.key)
  generalize (ser 0 l e.key).length = n at *
  have hkk : e.key.size ≤ 9223372036854775807 := by simpa [maxLen] using hk
  have htt : e.text.size ≤ 9223372036854775807 := by simpa [maxLen] using ht
  have HSTL := Lib.hid hstl
  have HTK := Lib.hid htk
  have HWI := Lib.hid hwi
  clear hstl htk hwi
  unfold errM
  cases hd : dayB e.day
  · suffices hs : Calls Tryz.prog 50 #[.pointer (some ⟨tb, 0, none⟩), .int .i64 e.day, .agg #[.string e.key, .string e.text, .bool e.act]] w fun r w' => r = .returned (.int .i64 28) ∧ w.grownBy w' (some m0) ∧ Tab w' tb m0 m1 m2 m3 (N + 1) l from hs
    go_enter Tryz.func50, Tryz.ntmps50
    go_wp2_with fail
    go_quiet (fail)
    go_wp2_with (first | (go_at_call 71; refine (isDay71 _ _).mono ?_; rintro r w0 ⟨rfl, rfl⟩))
    go_ret
    exact ⟨rfl, below_grown (bl_drewN hbl0 _) _, (T0.call (bl_drewN (Below.refl _ _) _)).mono⟩
  cases hk1 : okB 1 e.key
  · suffices hs : Calls Tryz.prog 50 #[.pointer (some ⟨tb, 0, none⟩), .int .i64 e.day, .agg #[.string e.key, .string e.text, .bool e.act]] w fun r w' => r = .returned (.int .i64 6) ∧ w.grownBy w' (some m0) ∧ Tab w' tb m0 m1 m2 m3 (N + 1) l from hs
    go_enter Tryz.func50, Tryz.ntmps50
    go_wp2_with fail
    go_quiet (fail)
    have T0' := T0.call (bl_drewN (Below.refl _ _) nq)
    have bx0 := bx.drewN nq
    have hblq := bl_drewN hbl0 nq
    have hslq := Lib.hid (hsl0.drewN nq)
    clear HQ hq T0 bx hbl0 hsl0 ct
    generalize (w.alloc (.cells #[.string e.key, .string e.text, .bool e.act] 78)).drewN nq = w0 at *
    have cc0 := Blk.get3 bx0
    have ct0 := T0'.blk.cell 0
    go_wp2_with (first | (go_at_call 71; refine (isDay71 _ _).mono ?_; rintro r w0 ⟨rfl, rfl⟩) | (go_at_call 72; refine (valid72 _ (by decide) _ (by assumption) (okB _ _) (okB_iff _ _) _).mono ?_; first | (rintro r w2 ⟨rfl, hb2⟩; have T2 := T1.call hb2; have bx2 := bx1.call hb2; have cc2 := Blk.get3 bx2; have ct2 := T2.blk.cell 0; have hbl2 := bl_then hbl1 hb2; have hsl2 := Lib.hid (hsl1.out.call hb2)) | (rintro r w1 ⟨rfl, hb1⟩; have T1 := T0'.call hb1; have bx1 := bx0.call hb1; have cc1 := Blk.get3 bx1; have ct1 := T1.blk.cell 0; have hbl1 := bl_then hblq hb1; have hsl1 := Lib.hid (hslq.out.call hb1))))
    go_ret
    exact ⟨rfl, below_grown hbl1 _, (T1.call (Below.refl _ _)).mono⟩
  cases htx : nonE e.text
  · cases hst : staleB (ser 0 l e.key) e.day
    · cases hemp : (ser 0 l e.key).isEmpty
      · have hnl := nil_toList
        have htx2 := (nonE_eq _ _ htx).1
        have htx3 := (nonE_eq _ _ htx).2
        suffices hs : Calls Tryz.prog 50 #[.pointer (some ⟨tb, 0, none⟩), .int .i64 e.day, .agg #[.string e.key, .string e.text, .bool e.act]] w fun r w' => r = .returned (.int .i64 0) ∧ w.grownBy w' (some m0) ∧ Tab w' tb m0 m1 m2 m3 (N + 1) (setL l e) from hs
        go_enter Tryz.func50, Tryz.ntmps50
        go_wp2_with fail
        go_quiet (fail)
        have T0' := T0.call (bl_drewN (Below.refl _ _) nq)
        have bx0 := bx.drewN nq
        have hblq := bl_drewN hbl0 nq
        have hslq := Lib.hid (hsl0.drewN nq)
        clear HQ hq T0 bx hbl0 hsl0 ct
        generalize (w.alloc (.cells #[.string e.key, .string e.text, .bool e.act] 78)).drewN nq = w0 at *
        have cc0 := Blk.get3 bx0
        have ct0 := T0'.blk.cell 0
        go_wp2_with (first | (go_at_call 71; refine (isDay71 _ _).mono ?_; rintro r w0 ⟨rfl, rfl⟩) | (go_at_call 72; refine (valid72 _ (by decide) _ (by assumption) (okB _ _) (okB_iff _ _) _).mono ?_; first | (rintro r w2 ⟨rfl, hb2⟩; have T2 := T1.call hb2; have bx2 := bx1.call hb2; have cc2 := Blk.get3 bx2; have ct2 := T2.blk.cell 0; have hbl2 := bl_then hbl1 hb2; have hsl2 := Lib.hid (hsl1.out.call hb2)) | (rintro r w1 ⟨rfl, hb1⟩; have T1 := T0'.call hb1; have bx1 := bx0.call hb1; have cc1 := Blk.get3 bx1; have ct1 := T1.blk.cell 0; have hbl1 := bl_then hblq hb1; have hsl1 := Lib.hid (hslq.out.call hb1))) | (go_at_call 73; refine (HSTL.out _ hsl1.out).mono ?_; rintro r w3 ⟨rfl, hb3⟩; have T3 := T1.call hb3; have bx3 := bx1.call hb3; have cc3 := Blk.get3 bx3; have ct3 := T3.blk.cell 0; have hbl3 := bl_then hbl1 hb3; have hsl3 := Lib.hid (hsl1.out.call hb3); obtain ⟨fl, hml, _⟩ := T3.mem; obtain ⟨nn, hnn, hlen⟩ := hml.len Tryz.underlying118; have hnn2 : (nn : Int) < 4096 := by omega))
        have HT := Lib.hid T3
        have HB := Lib.hid bx3
        have HBL := Lib.hid hbl3
        have hti := Lib.hid (T3.blk)
        clear hml hlen
        go_region_held3 (fun w' => w'.cell? ⟨tb, 0, none⟩ = some (.map (some m0)) ∧ w'.cell? ⟨w.heap.size, 0, none⟩ = some (.string e.key) ∧ w'.cell? ⟨w.heap.size, 1, none⟩ = some (.string e.text) ∧ w'.cell? ⟨w.heap.size, 2, none⟩ = some (.bool e.act))
          (first
            | exact ⟨hti.out.drew.cell 0, Blk.get3 HB.out.drew⟩
            | exact ⟨(hti.out.drew.call hb9).cell 0, Blk.get3 (HB.out.drew.call hb9)⟩
            | exact ⟨(blk_turn hm9 hg10 (hti.out.drew.call hb9)).cell 0, Blk.get3 (blk_turn hm9 hg10 (HB.out.drew.call hb9))⟩)
          (first | (go_at_call 75; refine (HWI.out _ hsl3.out.drew).mono ?_; rintro r w9 ⟨⟨A', c', rfl, g1, g2, g3⟩, hb9⟩; obtain ⟨f9, hm9, hr9⟩ := (HT.out.call (bl_drew (Below.refl _ _))).mem.call hb9; obtain ⟨w10, hrun, hm10, hg10, hs10⟩ := hm9.update Tryz.underlying118 hk (.slice A' (withE (ser 0 l e.key) e).length c')))
        go_wp2_with fail
        go_ret
        have T9 : Tab w9 tb m0 m1 m2 m3 N l := (HT.out.call (bl_drew (Below.refl _ _))).call hb9
        have hset := Map1.set (w := w9) (w' := w10) (e := e) (sz := 4) (row := rowM) f9 (by rw [he]; exact hr9) hi (by rw [he]; exact hst) (by rw [he]; exact g1) g2 (by rw [he]; exact g3) (sl_turn hm9 hg10 (by omega)) (by rw [he]; exact hm10)
        rw [he] at hset
        refine ⟨rfl, grown_then (bl_then (bl_drew HBL.out) hb9) hg10, ⟨blk_turn hm9 hg10 T9.blk, hset, ?_, ?_, ?_, T9.ne01, T9.ne02, T9.ne03, T9.ne12, T9.ne13, T9.ne23⟩⟩
        · exact T9.sec.set_other (by rw [he]; decide) (sl_turn hm9 hg10 (by omega)) (fun f h => mapB_turn hg10 (Ne.symm T9.ne01) h)
        · exact T9.pri.set_other (by rw [he]; decide) (sl_turn hm9 hg10 (by omega)) (fun f h => mapB_turn hg10 (Ne.symm T9.ne02) h)
        · exact T9.hair.set_other (by rw [he]; decide) (sl_turn hm9 hg10 (by omega)) (fun f h => mapB_turn hg10 (Ne.symm T9.ne03) h)
      · have hnl := nil_toList
        have htx2 := (nonE_eq _ _ htx).1
        have htx3 := (nonE_eq _ _ htx).2
        suffices hs : Calls Tryz.prog 50 #[.pointer (some ⟨tb, 0, none⟩), .int .i64 e.day, .agg #[.string e.key, .string e.text, .bool e.act]] w fun r w' => r = .returned (.int .i64 0) ∧ w.grownBy w' (some m0) ∧ Tab w' tb m0 m1 m2 m3 (N + 1) (setL l e) from hs
        go_enter Tryz.func50, Tryz.ntmps50
        go_wp2_with fail
        go_quiet (fail)
        have T0' := T0.call (bl_drewN (Below.refl _ _) nq)
        have bx0 := bx.drewN nq
        have hblq := bl_drewN hbl0 nq
        have hslq := Lib.hid (hsl0.drewN nq)
        clear HQ hq T0 bx hbl0 hsl0 ct
        generalize (w.alloc (.cells #[.string e.key, .string e.text, .bool e.act] 78)).drewN nq = w0 at *
        have cc0 := Blk.get3 bx0
        have ct0 := T0'.blk.cell 0
        go_wp2_with (first | (go_at_call 71; refine (isDay71 _ _).mono ?_; rintro r w0 ⟨rfl, rfl⟩) | (go_at_call 72; refine (valid72 _ (by decide) _ (by assumption) (okB _ _) (okB_iff _ _) _).mono ?_; first | (rintro r w2 ⟨rfl, hb2⟩; have T2 := T1.call hb2; have bx2 := bx1.call hb2; have cc2 := Blk.get3 bx2; have ct2 := T2.blk.cell 0; have hbl2 := bl_then hbl1 hb2; have hsl2 := Lib.hid (hsl1.out.call hb2)) | (rintro r w1 ⟨rfl, hb1⟩; have T1 := T0'.call hb1; have bx1 := bx0.call hb1; have cc1 := Blk.get3 bx1; have ct1 := T1.blk.cell 0; have hbl1 := bl_then hblq hb1; have hsl1 := Lib.hid (hslq.out.call hb1))) | (go_at_call 73; refine (HSTL.out _ hsl1.out).mono ?_; rintro r w3 ⟨rfl, hb3⟩; have T3 := T1.call hb3; have bx3 := bx1.call hb3; have cc3 := Blk.get3 bx3; have ct3 := T3.blk.cell 0; have hbl3 := bl_then hbl1 hb3; have hsl3 := Lib.hid (hsl1.out.call hb3); obtain ⟨fl, hml, _⟩ := T3.mem; obtain ⟨nn, hnn, hlen⟩ := hml.len Tryz.underlying118; have hnn2 : (nn : Int) < 4096 := by omega))
        have HT := Lib.hid T3
        have HB := Lib.hid bx3
        have HBL := Lib.hid hbl3
        have hti := Lib.hid (T3.blk)
        clear hml hlen
        go_region_held3 (fun w' => w'.cell? ⟨tb, 0, none⟩ = some (.map (some m0)) ∧ w'.cell? ⟨w.heap.size, 0, none⟩ = some (.string e.key) ∧ w'.cell? ⟨w.heap.size, 1, none⟩ = some (.string e.text) ∧ w'.cell? ⟨w.heap.size, 2, none⟩ = some (.bool e.act))
          (first
            | exact ⟨hti.out.drew.cell 0, Blk.get3 HB.out.drew⟩
            | exact ⟨(hti.out.drew.call hb9).cell 0, Blk.get3 (HB.out.drew.call hb9)⟩
            | exact ⟨(blk_turn hm9 hg10 (hti.out.drew.call hb9)).cell 0, Blk.get3 (blk_turn hm9 hg10 (HB.out.drew.call hb9))⟩)
          (first | (go_at_call 75; refine (HWI.out _ hsl3.out.drew).mono ?_; rintro r w9 ⟨⟨A', c', rfl, g1, g2, g3⟩, hb9⟩; obtain ⟨f9, hm9, hr9⟩ := (HT.out.call (bl_drew (Below.refl _ _))).mem.call hb9; obtain ⟨w10, hrun, hm10, hg10, hs10⟩ := hm9.update Tryz.underlying118 hk (.slice A' (withE (ser 0 l e.key) e).length c')))
        go_wp2_with fail
        go_ret
        have T9 : Tab w9 tb m0 m1 m2 m3 N l := (HT.out.call (bl_drew (Below.refl _ _))).call hb9
        have hset := Map1.set (w := w9) (w' := w10) (e := e) (sz := 4) (row := rowM) f9 (by rw [he]; exact hr9) hi (by rw [he]; exact hst) (by rw [he]; exact g1) g2 (by rw [he]; exact g3) (sl_turn hm9 hg10 (by omega)) (by rw [he]; exact hm10)
        rw [he] at hset
        refine ⟨rfl, grown_then (bl_then (bl_drew HBL.out) hb9) hg10, ⟨blk_turn hm9 hg10 T9.blk, hset, ?_, ?_, ?_, T9.ne01, T9.ne02, T9.ne03, T9.ne12, T9.ne13, T9.ne23⟩⟩
        · exact T9.sec.set_other (by rw [he]; decide) (sl_turn hm9 hg10 (by omega)) (fun f h => mapB_turn hg10 (Ne.symm T9.ne01) h)
        · exact T9.pri.set_other (by rw [he]; decide) (sl_turn hm9 hg10 (by omega)) (fun f h => mapB_turn hg10 (Ne.symm T9.ne02) h)
        · exact T9.hair.set_other (by rw [he]; decide) (sl_turn hm9 hg10 (by omega)) (fun f h => mapB_turn hg10 (Ne.symm T9.ne03) h)
    · have hnl := nil_toList
      have htx2 := (nonE_eq _ _ htx).1
      have htx3 := (nonE_eq _ _ htx).2
      suffices hs : Calls Tryz.prog 50 #[.pointer (some ⟨tb, 0, none⟩), .int .i64 e.day, .agg #[.string e.key, .string e.text, .bool e.act]] w fun r w' => r = .returned (.int .i64 20) ∧ w.grownBy w' (some m0) ∧ Tab w' tb m0 m1 m2 m3 (N + 1) l from hs
      go_enter Tryz.func50, Tryz.ntmps50
      go_wp2_with fail
      go_quiet (fail)
      have T0' := T0.call (bl_drewN (Below.refl _ _) nq)
      have bx0 := bx.drewN nq
      have hblq := bl_drewN hbl0 nq
      have hslq := Lib.hid (hsl0.drewN nq)
      clear HQ hq T0 bx hbl0 hsl0 ct
      generalize (w.alloc (.cells #[.string e.key, .string e.text, .bool e.act] 78)).drewN nq = w0 at *
      have cc0 := Blk.get3 bx0
      have ct0 := T0'.blk.cell 0
      go_wp2_with (first | (go_at_call 71; refine (isDay71 _ _).mono ?_; rintro r w0 ⟨rfl, rfl⟩) | (go_at_call 72; refine (valid72 _ (by decide) _ (by assumption) (okB _ _) (okB_iff _ _) _).mono ?_; first | (rintro r w2 ⟨rfl, hb2⟩; have T2 := T1.call hb2; have bx2 := bx1.call hb2; have cc2 := Blk.get3 bx2; have ct2 := T2.blk.cell 0; have hbl2 := bl_then hbl1 hb2; have hsl2 := Lib.hid (hsl1.out.call hb2)) | (rintro r w1 ⟨rfl, hb1⟩; have T1 := T0'.call hb1; have bx1 := bx0.call hb1; have cc1 := Blk.get3 bx1; have ct1 := T1.blk.cell 0; have hbl1 := bl_then hblq hb1; have hsl1 := Lib.hid (hslq.out.call hb1))) | (go_at_call 73; refine (HSTL.out _ hsl1.out).mono ?_; rintro r w3 ⟨rfl, hb3⟩; have T3 := T1.call hb3; have bx3 := bx1.call hb3; have cc3 := Blk.get3 bx3; have ct3 := T3.blk.cell 0; have hbl3 := bl_then hbl1 hb3; have hsl3 := Lib.hid (hsl1.out.call hb3)))
      go_ret
      exact ⟨rfl, below_grown hbl3 _, (T3.call (Below.refl _ _)).mono⟩
  · cases hk3 : okB 3 e.text
    · have hnl := nil_toList
      have htx2 := (nonE_eq _ _ htx).1
      have htx3 := (nonE_eq _ _ htx).2
      suffices hs : Calls Tryz.prog 50 #[.pointer (some ⟨tb, 0, none⟩), .int .i64 e.day, .agg #[.string e.key, .string e.text, .bool e.act]] w fun r w' => r = .returned (.int .i64 3) ∧ w.grownBy w' (some m0) ∧ Tab w' tb m0 m1 m2 m3 (N + 1) l from hs
      go_enter Tryz.func50, Tryz.ntmps50
      go_wp2_with fail
      go_quiet (fail)
      have T0' := T0.call (bl_drewN (Below.refl _ _) nq)
      have bx0 := bx.drewN nq
      have hblq := bl_drewN hbl0 nq
      have hslq := Lib.hid (hsl0.drewN nq)
      clear HQ hq T0 bx hbl0 hsl0 ct
      generalize (w.alloc (.cells #[.string e.key, .string e.text, .bool e.act] 78)).drewN nq = w0 at *
      have cc0 := Blk.get3 bx0
      have ct0 := T0'.blk.cell 0
      go_wp2_with (first | (go_at_call 71; refine (isDay71 _ _).mono ?_; rintro r w0 ⟨rfl, rfl⟩) | (go_at_call 72; refine (valid72 _ (by decide) _ (by assumption) (okB _ _) (okB_iff _ _) _).mono ?_; first | (rintro r w2 ⟨rfl, hb2⟩; have T2 := T1.call hb2; have bx2 := bx1.call hb2; have cc2 := Blk.get3 bx2; have ct2 := T2.blk.cell 0; have hbl2 := bl_then hbl1 hb2; have hsl2 := Lib.hid (hsl1.out.call hb2)) | (rintro r w1 ⟨rfl, hb1⟩; have T1 := T0'.call hb1; have bx1 := bx0.call hb1; have cc1 := Blk.get3 bx1; have ct1 := T1.blk.cell 0; have hbl1 := bl_then hblq hb1; have hsl1 := Lib.hid (hslq.out.call hb1))))
      go_ret
      exact ⟨rfl, below_grown hbl2 _, (T2.call (Below.refl _ _)).mono⟩
    cases hst : staleB (ser 0 l e.key) e.day
    · cases htkb : takenB l e
      · cases hemp : (ser 0 l e.key).isEmpty
        · have hnl := nil_toList
          have htx2 := (nonE_eq _ _ htx).1
          have htx3 := (nonE_eq _ _ htx).2
          suffices hs : Calls Tryz.prog 50 #[.pointer (some ⟨tb, 0, none⟩), .int .i64 e.day, .agg #[.string e.key, .string e.text, .bool e.act]] w fun r w' => r = .returned (.int .i64 0) ∧ w.grownBy w' (some m0) ∧ Tab w' tb m0 m1 m2 m3 (N + 1) (setL l e) from hs
          go_enter Tryz.func50, Tryz.ntmps50
          go_wp2_with fail
          go_quiet (fail)
          have T0' := T0.call (bl_drewN (Below.refl _ _) nq)
          have bx0 := bx.drewN nq
          have hblq := bl_drewN hbl0 nq
          have hslq := Lib.hid (hsl0.drewN nq)
          clear HQ hq T0 bx hbl0 hsl0 ct
          generalize (w.alloc (.cells #[.string e.key, .string e.text, .bool e.act] 78)).drewN nq = w0 at *
          have cc0 := Blk.get3 bx0
          have ct0 := T0'.blk.cell 0
          go_wp2_with (first | (go_at_call 71; refine (isDay71 _ _).mono ?_; rintro r w0 ⟨rfl, rfl⟩) | (go_at_call 72; refine (valid72 _ (by decide) _ (by assumption) (okB _ _) (okB_iff _ _) _).mono ?_; first | (rintro r w2 ⟨rfl, hb2⟩; have T2 := T1.call hb2; have bx2 := bx1.call hb2; have cc2 := Blk.get3 bx2; have ct2 := T2.blk.cell 0; have hbl2 := bl_then hbl1 hb2; have hsl2 := Lib.hid (hsl1.out.call hb2)) | (rintro r w1 ⟨rfl, hb1⟩; have T1 := T0'.call hb1; have bx1 := bx0.call hb1; have cc1 := Blk.get3 bx1; have ct1 := T1.blk.cell 0; have hbl1 := bl_then hblq hb1; have hsl1 := Lib.hid (hslq.out.call hb1))) | (go_at_call 73; refine (HSTL.out _ hsl2.out).mono ?_; rintro r w3 ⟨rfl, hb3⟩; have T3 := T2.call hb3; have bx3 := bx2.call hb3; have cc3 := Blk.get3 bx3; have ct3 := T3.blk.cell 0; have hbl3 := bl_then hbl2 hb3; have hsl3 := Lib.hid (hsl2.out.call hb3)) | (go_at_call 74; refine (HTK.out _ T3).mono ?_; rintro r w4 ⟨rfl, hb4⟩; have T4 := T3.call hb4; have bx4 := bx3.call hb4; have cc4 := Blk.get3 bx4; have ct4 := T4.blk.cell 0; have hbl4 := bl_then hbl3 hb4; have hsl4 := Lib.hid (hsl3.out.call hb4); obtain ⟨fl, hml, _⟩ := T4.mem; obtain ⟨nn, hnn, hlen⟩ := hml.len Tryz.underlying118; have hnn2 : (nn : Int) < 4096 := by omega))
          have HT := Lib.hid T4
          have HB := Lib.hid bx4
          have HBL := Lib.hid hbl4
          have hti := Lib.hid (T4.blk)
          clear hml hlen
          go_region_held3 (fun w' => w'.cell? ⟨tb, 0, none⟩ = some (.map (some m0)) ∧ w'.cell? ⟨w.heap.size, 0, none⟩ = some (.string e.key) ∧ w'.cell? ⟨w.heap.size, 1, none⟩ = some (.string e.text) ∧ w'.cell? ⟨w.heap.size, 2, none⟩ = some (.bool e.act))
            (first
              | exact ⟨hti.out.drew.cell 0, Blk.get3 HB.out.drew⟩
              | exact ⟨(hti.out.drew.call hb9).cell 0, Blk.get3 (HB.out.drew.call hb9)⟩
              | exact ⟨(blk_turn hm9 hg10 (hti.out.drew.call hb9)).cell 0, Blk.get3 (blk_turn hm9 hg10 (HB.out.drew.call hb9))⟩)
            (first | (go_at_call 75; refine (HWI.out _ hsl4.out.drew).mono ?_; rintro r w9 ⟨⟨A', c', rfl, g1, g2, g3⟩, hb9⟩; obtain ⟨f9, hm9, hr9⟩ := (HT.out.call (bl_drew (Below.refl _ _))).mem.call hb9; obtain ⟨w10, hrun, hm10, hg10, hs10⟩ := hm9.update Tryz.underlying118 hk (.slice A' (withE (ser 0 l e.key) e).length c')))
          go_wp2_with fail
          go_ret
          have T9 : Tab w9 tb m0 m1 m2 m3 N l := (HT.out.call (bl_drew (Below.refl _ _))).call hb9
          have hset := Map1.set (w := w9) (w' := w10) (e := e) (sz := 4) (row := rowM) f9 (by rw [he]; exact hr9) hi (by rw [he]; exact hst) (by rw [he]; exact g1) g2 (by rw [he]; exact g3) (sl_turn hm9 hg10 (by omega)) (by rw [he]; exact hm10)
          rw [he] at hset
          refine ⟨rfl, grown_then (bl_then (bl_drew HBL.out) hb9) hg10, ⟨blk_turn hm9 hg10 T9.blk, hset, ?_, ?_, ?_, T9.ne01, T9.ne02, T9.ne03, T9.ne12, T9.ne13, T9.ne23⟩⟩
          · exact T9.sec.set_other (by rw [he]; decide) (sl_turn hm9 hg10 (by omega)) (fun f h => mapB_turn hg10 (Ne.symm T9.ne01) h)
          · exact T9.pri.set_other (by rw [he]; decide) (sl_turn hm9 hg10 (by omega)) (fun f h => mapB_turn hg10 (Ne.symm T9.ne02) h)
          · exact T9.hair.set_other (by rw [he]; decide) (sl_turn hm9 hg10 (by omega)) (fun f h => mapB_turn hg10 (Ne.symm T9.ne03) h)
        · have hnl := nil_toList
          have htx2 := (nonE_eq _ _ htx).1
          have htx3 := (nonE_eq _ _ htx).2
          suffices hs : Calls Tryz.prog 50 #[.pointer (some ⟨tb, 0, none⟩), .int .i64 e.day, .agg #[.string e.key, .string e.text, .bool e.act]] w fun r w' => r = .returned (.int .i64 0) ∧ w.grownBy w' (some m0) ∧ Tab w' tb m0 m1 m2 m3 (N + 1) (setL l e) from hs
          go_enter Tryz.func50, Tryz.ntmps50
          go_wp2_with fail
          go_quiet (fail)
          have T0' := T0.call (bl_drewN (Below.refl _ _) nq)
          have bx0 := bx.drewN nq
          have hblq := bl_drewN hbl0 nq
          have hslq := Lib.hid (hsl0.drewN nq)
          clear HQ hq T0 bx hbl0 hsl0 ct
          generalize (w.alloc (.cells #[.string e.key, .string e.text, .bool e.act] 78)).drewN nq = w0 at *
          have cc0 := Blk.get3 bx0
          have ct0 := T0'.blk.cell 0
          go_wp2_with (first | (go_at_call 71; refine (isDay71 _ _).mono ?_; rintro r w0 ⟨rfl, rfl⟩) | (go_at_call 72; refine (valid72 _ (by decide) _ (by assumption) (okB _ _) (okB_iff _ _) _).mono ?_; first | (rintro r w2 ⟨rfl, hb2⟩; have T2 := T1.call hb2; have bx2 := bx1.call hb2; have cc2 := Blk.get3 bx2; have ct2 := T2.blk.cell 0; have hbl2 := bl_then hbl1 hb2; have hsl2 := Lib.hid (hsl1.out.call hb2)) | (rintro r w1 ⟨rfl, hb1⟩; have T1 := T0'.call hb1; have bx1 := bx0.call hb1; have cc1 := Blk.get3 bx1; have ct1 := T1.blk.cell 0; have hbl1 := bl_then hblq hb1; have hsl1 := Lib.hid (hslq.out.call hb1))) | (go_at_call 73; refine (HSTL.out _ hsl2.out).mono ?_; rintro r w3 ⟨rfl, hb3⟩; have T3 := T2.call hb3; have bx3 := bx2.call hb3; have cc3 := Blk.get3 bx3; have ct3 := T3.blk.cell 0; have hbl3 := bl_then hbl2 hb3; have hsl3 := Lib.hid (hsl2.out.call hb3)) | (go_at_call 74; refine (HTK.out _ T3).mono ?_; rintro r w4 ⟨rfl, hb4⟩; have T4 := T3.call hb4; have bx4 := bx3.call hb4; have cc4 := Blk.get3 bx4; have ct4 := T4.blk.cell 0; have hbl4 := bl_then hbl3 hb4; have hsl4 := Lib.hid (hsl3.out.call hb4); obtain ⟨fl, hml, _⟩ := T4.mem; obtain ⟨nn, hnn, hlen⟩ := hml.len Tryz.underlying118; have hnn2 : (nn : Int) < 4096 := by omega))
          have HT := Lib.hid T4
          have HB := Lib.hid bx4
          have HBL := Lib.hid hbl4
          have hti := Lib.hid (T4.blk)
          clear hml hlen
          go_region_held3 (fun w' => w'.cell? ⟨tb, 0, none⟩ = some (.map (some m0)) ∧ w'.cell? ⟨w.heap.size, 0, none⟩ = some (.string e.key) ∧ w'.cell? ⟨w.heap.size, 1, none⟩ = some (.string e.text) ∧ w'.cell? ⟨w.heap.size, 2, none⟩ = some (.bool e.act))
            (first
              | exact ⟨hti.out.drew.cell 0, Blk.get3 HB.out.drew⟩
              | exact ⟨(hti.out.drew.call hb9).cell 0, Blk.get3 (HB.out.drew.call hb9)⟩
              | exact ⟨(blk_turn hm9 hg10 (hti.out.drew.call hb9)).cell 0, Blk.get3 (blk_turn hm9 hg10 (HB.out.drew.call hb9))⟩)
            (first | (go_at_call 75; refine (HWI.out _ hsl4.out.drew).mono ?_; rintro r w9 ⟨⟨A', c', rfl, g1, g2, g3⟩, hb9⟩; obtain ⟨f9, hm9, hr9⟩ := (HT.out.call (bl_drew (Below.refl _ _))).mem.call hb9; obtain ⟨w10, hrun, hm10, hg10, hs10⟩ := hm9.update Tryz.underlying118 hk (.slice A' (withE (ser 0 l e.key) e).length c')))
          go_wp2_with fail
          go_ret
          have T9 : Tab w9 tb m0 m1 m2 m3 N l := (HT.out.call (bl_drew (Below.refl _ _))).call hb9
          have hset := Map1.set (w := w9) (w' := w10) (e := e) (sz := 4) (row := rowM) f9 (by rw [he]; exact hr9) hi (by rw [he]; exact hst) (by rw [he]; exact g1) g2 (by rw [he]; exact g3) (sl_turn hm9 hg10 (by omega)) (by rw [he]; exact hm10)
          rw [he] at hset
          refine ⟨rfl, grown_then (bl_then (bl_drew HBL.out) hb9) hg10, ⟨blk_turn hm9 hg10 T9.blk, hset, ?_, ?_, ?_, T9.ne01, T9.ne02, T9.ne03, T9.ne12, T9.ne13, T9.ne23⟩⟩
          · exact T9.sec.set_other (by rw [he]; decide) (sl_turn hm9 hg10 (by omega)) (fun f h => mapB_turn hg10 (Ne.symm T9.ne01) h)
          · exact T9.pri.set_other (by rw [he]; decide) (sl_turn hm9 hg10 (by omega)) (fun f h => mapB_turn hg10 (Ne.symm T9.ne02) h)
          · exact T9.hair.set_other (by rw [he]; decide) (sl_turn hm9 hg10 (by omega)) (fun f h => mapB_turn hg10 (Ne.symm T9.ne03) h)
      · have hnl := nil_toList
        have htx2 := (nonE_eq _ _ htx).1
        have htx3 := (nonE_eq _ _ htx).2
        suffices hs : Calls Tryz.prog 50 #[.pointer (some ⟨tb, 0, none⟩), .int .i64 e.day, .agg #[.string e.key, .string e.text, .bool e.act]] w fun r w' => r = .returned (.int .i64 7) ∧ w.grownBy w' (some m0) ∧ Tab w' tb m0 m1 m2 m3 (N + 1) l from hs
        go_enter Tryz.func50, Tryz.ntmps50
        go_wp2_with fail
        go_quiet (fail)
        have T0' := T0.call (bl_drewN (Below.refl _ _) nq)
        have bx0 := bx.drewN nq
        have hblq := bl_drewN hbl0 nq
        have hslq := Lib.hid (hsl0.drewN nq)
        clear HQ hq T0 bx hbl0 hsl0 ct
        generalize (w.alloc (.cells #[.string e.key, .string e.text, .bool e.act] 78)).drewN nq = w0 at *
        have cc0 := Blk.get3 bx0
        have ct0 := T0'.blk.cell 0
        go_wp2_with (first | (go_at_call 71; refine (isDay71 _ _).mono ?_; rintro r w0 ⟨rfl, rfl⟩) | (go_at_call 72; refine (valid72 _ (by decide) _ (by assumption) (okB _ _) (okB_iff _ _) _).mono ?_; first | (rintro r w2 ⟨rfl, hb2⟩; have T2 := T1.call hb2; have bx2 := bx1.call hb2; have cc2 := Blk.get3 bx2; have ct2 := T2.blk.cell 0; have hbl2 := bl_then hbl1 hb2; have hsl2 := Lib.hid (hsl1.out.call hb2)) | (rintro r w1 ⟨rfl, hb1⟩; have T1 := T0'.call hb1; have bx1 := bx0.call hb1; have cc1 := Blk.get3 bx1; have ct1 := T1.blk.cell 0; have hbl1 := bl_then hblq hb1; have hsl1 := Lib.hid (hslq.out.call hb1))) | (go_at_call 73; refine (HSTL.out _ hsl2.out).mono ?_; rintro r w3 ⟨rfl, hb3⟩; have T3 := T2.call hb3; have bx3 := bx2.call hb3; have cc3 := Blk.get3 bx3; have ct3 := T3.blk.cell 0; have hbl3 := bl_then hbl2 hb3; have hsl3 := Lib.hid (hsl2.out.call hb3)) | (go_at_call 74; refine (HTK.out _ T3).mono ?_; rintro r w4 ⟨rfl, hb4⟩; have T4 := T3.call hb4; have bx4 := bx3.call hb4; have cc4 := Blk.get3 bx4; have ct4 := T4.blk.cell 0; have hbl4 := bl_then hbl3 hb4; have hsl4 := Lib.hid (hsl3.out.call hb4)))
        go_ret
        exact ⟨rfl, below_grown hbl4 _, (T4.call (Below.refl _ _)).mono⟩
    · have hnl := nil_toList
      have htx2 := (nonE_eq _ _ htx).1
      have htx3 := (nonE_eq _ _ htx).2
      suffices hs : Calls Tryz.prog 50 #[.pointer (some ⟨tb, 0, none⟩), .int .i64 e.day, .agg #[.string e.key, .string e.text, .bool e.act]] w fun r w' => r = .returned (.int .i64 20) ∧ w.grownBy w' (some m0) ∧ Tab w' tb m0 m1 m2 m3 (N + 1) l from hs
      go_enter Tryz.func50, Tryz.ntmps50
      go_wp2_with fail
      go_quiet (fail)
      have T0' := T0.call (bl_drewN (Below.refl _ _) nq)
      have bx0 := bx.drewN nq
      have hblq := bl_drewN hbl0 nq
      have hslq := Lib.hid (hsl0.drewN nq)
      clear HQ hq T0 bx hbl0 hsl0 ct
      generalize (w.alloc (.cells #[.string e.key, .string e.text, .bool e.act] 78)).drewN nq = w0 at *
      have cc0 := Blk.get3 bx0
      have ct0 := T0'.blk.cell 0
      go_wp2_with (first | (go_at_call 71; refine (isDay71 _ _).mono ?_; rintro r w0 ⟨rfl, rfl⟩) | (go_at_call 72; refine (valid72 _ (by decide) _ (by assumption) (okB _ _) (okB_iff _ _) _).mono ?_; first | (rintro r w2 ⟨rfl, hb2⟩; have T2 := T1.call hb2; have bx2 := bx1.call hb2; have cc2 := Blk.get3 bx2; have ct2 := T2.blk.cell 0; have hbl2 := bl_then hbl1 hb2; have hsl2 := Lib.hid (hsl1.out.call hb2)) | (rintro r w1 ⟨rfl, hb1⟩; have T1 := T0'.call hb1; have bx1 := bx0.call hb1; have cc1 := Blk.get3 bx1; have ct1 := T1.blk.cell 0; have hbl1 := bl_then hblq hb1; have hsl1 := Lib.hid (hslq.out.call hb1))) | (go_at_call 73; refine (HSTL.out _ hsl2.out).mono ?_; rintro r w3 ⟨rfl, hb3⟩; have T3 := T2.call hb3; have bx3 := bx2.call hb3; have cc3 := Blk.get3 bx3; have ct3 := T3.blk.cell 0; have hbl3 := bl_then hbl2 hb3; have hsl3 := Lib.hid (hsl2.out.call hb3)))
      go_ret
      exact ⟨rfl, below_grown hbl3 _, (T3.call (Below.refl _ _)).mono⟩
end Go.Proofs.YtongoicadcmfaaaGreatDoor.V
