/- refdata.(*Table).SetSecurity. (Printed by gen_sec.py.) -/
import Derived.Test.YtongoicadcmfaaaGreatDoorVSetM
import Derived.Test.YtongoicadcmfaaaGreatDoorVSerS
set_option linter.unusedSimpArgs false
set_option linter.unusedVariables false
namespace Go.Proofs.YtongoicadcmfaaaGreatDoor.V
open Go.RowKit Go.MapKept

def lotB (n : Int) : Bool := decide (1 ≤ n) && decide (n ≤ 1000000000000000)
noncomputable def errS (l : List E) (e : E) : Int :=
  bif !dayB e.day then 28 else bif !okB 0 e.key then 6 else bif !(atE l 0 e.day e.text).isSome then 9 else bif !lotB e.n then 2 else bif staleB (ser 1 l e.key) e.day then 20 else
    bif !(ser 1 l e.key).isEmpty && !((lastE (ser 1 l e.key)).text.toList == e.text.toList) then 11 else 0

theorem lot_cases (n : Int) (h : lotB n = false) : n < 1 ∨ (1 ≤ n ∧ 1000000000000000 < n) := by
  simp only [lotB, Bool.and_eq_false_iff, decide_eq_false_iff_not] at h
  omega
theorem lot_true (n : Int) (h : lotB n = true) : 1 ≤ n ∧ n ≤ 1000000000000000 := by
  simpa only [lotB, Bool.and_eq_true, decide_eq_true_eq] using h

set_option maxRecDepth 20000 in
set_option maxHeartbeats 8000000 in
theorem setSecurity51 (tb m0 m1 m2 m3 N : Nat) (l : List E) (e : E) (he : e.kind = 1) (w : World) (T : Tab w tb m0 m1 m2 m3 N l) (hi : Inv l) (hk : e.key.size ≤ maxLen) (ht : e.text.size ≤ maxLen) (hl : l.length < 40) (hN : N ≤ 100) :
    Calls Tryz.prog 51 #[.pointer (some ⟨tb, 0, none⟩), .int .i64 e.day, .agg #[.string e.key, .string e.text, .int .i64 e.n, .bool e.act]] w fun r w' =>
      r = .returned (.int .i64 (errS l e)) ∧ w.grownBy w' (some m1) ∧ Tab w' tb m0 m1 m2 m3 (N + 1) (if errS l e = 0 then setL l e else l) := by
  obtain ⟨A, c, hc1, hc2, hsl, _, hq⟩ := T.sec.get (t := 120) (e := 116) Tryz.underlying120 Tryz.zeroValue116 hk
  have HQ := fun n => hq _ (bl_drewN (bl1 w (.cells #[.string e.key, .string e.text, .int .i64 e.n, .bool e.act] 72)) n)
  have bx := Blk.new w 72 #[.string e.key, .string e.text, .int .i64 e.n, .bool e.act]
  have T0 := T.call (bl1 w (.cells #[.string e.key, .string e.text, .int .i64 e.n, .bool e.act] 72))
  have hbl0 := bl1 w (.cells #[.string e.key, .string e.text, .int .i64 e.n, .bool e.act] 72)
  have hsl0 := hsl.call hbl0
  have ct := T0.blk.cell 1
  have hla := fun W h => lastS A (ser 1 l e.key) c W h hc1 hc2 (ser_len30 hi 1 e.key)
  have hmem := fun W T => member30 tb m0 m1 m2 m3 N l e.day e.text W T hi ht
  have hstl := fun W h => staleS A (ser 1 l e.key) c e.day W h hc1 hc2 (ser_len30 hi 1 e.key)
  have hwi := fun W h => withS A (ser 1 l e.key) c e W h hc1 hc2 (ser_len30 hi 1 e.key)
  unfold aggS at hla
  generalize (ser 1 l e.key).length = n at *
  unfold errS
  generalize (atE l 0 e.day e.text).getD E.zero = em at *
  generalize (atE l 0 e.day e.text).isSome = ib at *
  generalize lastE (ser 1 l e.key) = el at *
  have hkk : e.key.size ≤ 9223372036854775807 := by simpa [maxLen] using hk
  have HLA := Lib.hid hla
  have HMEM := Lib.hid hmem
  have HSTL := Lib.hid hstl
  have HWI := Lib.hid hwi
  clear hla hmem hstl hwi
  cases hd : dayB e.day
  · suffices hs : Calls Tryz.prog 51 #[.pointer (some ⟨tb, 0, none⟩), .int .i64 e.day, .agg #[.string e.key, .string e.text, .int .i64 e.n, .bool e.act]] w fun r w' => r = .returned (.int .i64 28) ∧ w.grownBy w' (some m1) ∧ Tab w' tb m0 m1 m2 m3 (N + 1) l from hs
    go_enter Tryz.func51, Tryz.ntmps51
    go_wp2_with fail
    go_quiet (fail)
    have T0' := T0.call (bl_drewN (Below.refl _ _) nq)
    have bx0 := bx.drewN nq
    have hblq := bl_drewN hbl0 nq
    have hslq := Lib.hid (hsl0.drewN nq)
    clear HQ hq T0 bx hbl0 hsl0 ct
    generalize (w.alloc (.cells #[.string e.key, .string e.text, .int .i64 e.n, .bool e.act] 72)).drewN nq = w0 at *
    have cc0 := Blk.get4 bx0
    have ct0 := T0'.blk.cell 1
    go_wp2_with (first | (go_at_call 76; refine (HLA.out _ hslq.out).mono ?_; rintro r w1 ⟨rfl, hb1⟩; have B1 := bl_alloc hb1 (.cells #[.int .i64 el.day, .string el.key, .string el.text, .int .i64 el.n, .bool el.act] 113); have e1 := Blk.new w1 113 #[.int .i64 el.day, .string el.key, .string el.text, .int .i64 el.n, .bool el.act]; have T1 := T0'.call B1; have bx1 := bx0.call B1; have cc1 := Blk.get4 bx1; have ct1 := T1.blk.cell 1; have hbl1 := bl_then hblq B1; have hsl1 := Lib.hid (hslq.out.call B1)) | (go_at_call 30; refine (HMEM.out _ T1).mono ?_; rintro r w2 ⟨rfl, hb2⟩; have B2 := bl_alloc hb2 (.cells #[.string em.key, .string em.text, .bool em.act] 78); have e2 := e1.call B2; have T2 := T1.call B2; have bx2 := bx1.call B2; have cc2 := Blk.get4 bx2; have ct2 := T2.blk.cell 1; have hbl2 := bl_then hbl1 B2; have hsl2 := Lib.hid (hsl1.out.call B2)) | (go_at_call 71; refine (isDay71 _ _).mono ?_; rintro r w9 ⟨rfl, rfl⟩))
    go_ret
    exact ⟨rfl, below_grown hbl2 _, T2.mono⟩
  cases hk1 : okB 0 e.key
  · suffices hs : Calls Tryz.prog 51 #[.pointer (some ⟨tb, 0, none⟩), .int .i64 e.day, .agg #[.string e.key, .string e.text, .int .i64 e.n, .bool e.act]] w fun r w' => r = .returned (.int .i64 6) ∧ w.grownBy w' (some m1) ∧ Tab w' tb m0 m1 m2 m3 (N + 1) l from hs
    go_enter Tryz.func51, Tryz.ntmps51
    go_wp2_with fail
    go_quiet (fail)
    have T0' := T0.call (bl_drewN (Below.refl _ _) nq)
    have bx0 := bx.drewN nq
    have hblq := bl_drewN hbl0 nq
    have hslq := Lib.hid (hsl0.drewN nq)
    clear HQ hq T0 bx hbl0 hsl0 ct
    generalize (w.alloc (.cells #[.string e.key, .string e.text, .int .i64 e.n, .bool e.act] 72)).drewN nq = w0 at *
    have cc0 := Blk.get4 bx0
    have ct0 := T0'.blk.cell 1
    go_wp2_with (first | (go_at_call 76; refine (HLA.out _ hslq.out).mono ?_; rintro r w1 ⟨rfl, hb1⟩; have B1 := bl_alloc hb1 (.cells #[.int .i64 el.day, .string el.key, .string el.text, .int .i64 el.n, .bool el.act] 113); have e1 := Blk.new w1 113 #[.int .i64 el.day, .string el.key, .string el.text, .int .i64 el.n, .bool el.act]; have T1 := T0'.call B1; have bx1 := bx0.call B1; have cc1 := Blk.get4 bx1; have ct1 := T1.blk.cell 1; have hbl1 := bl_then hblq B1; have hsl1 := Lib.hid (hslq.out.call B1)) | (go_at_call 30; refine (HMEM.out _ T1).mono ?_; rintro r w2 ⟨rfl, hb2⟩; have B2 := bl_alloc hb2 (.cells #[.string em.key, .string em.text, .bool em.act] 78); have e2 := e1.call B2; have T2 := T1.call B2; have bx2 := bx1.call B2; have cc2 := Blk.get4 bx2; have ct2 := T2.blk.cell 1; have hbl2 := bl_then hbl1 B2; have hsl2 := Lib.hid (hsl1.out.call B2)) | (go_at_call 71; refine (isDay71 _ _).mono ?_; rintro r w9 ⟨rfl, rfl⟩) | (go_at_call 72; refine (valid72 _ (by decide) _ (by assumption) (okB _ _) (okB_iff _ _) _).mono ?_; rintro r w3 ⟨rfl, hb3⟩; have e3 := e2.call hb3; have T3 := T2.call hb3; have bx3 := bx2.call hb3; have cc3 := Blk.get4 bx3; have ct3 := T3.blk.cell 1; have hbl3 := bl_then hbl2 hb3; have hsl3 := Lib.hid (hsl2.out.call hb3)))
    go_ret
    exact ⟨rfl, below_grown hbl3 _, T3.mono⟩
  cases ib
  · suffices hs : Calls Tryz.prog 51 #[.pointer (some ⟨tb, 0, none⟩), .int .i64 e.day, .agg #[.string e.key, .string e.text, .int .i64 e.n, .bool e.act]] w fun r w' => r = .returned (.int .i64 9) ∧ w.grownBy w' (some m1) ∧ Tab w' tb m0 m1 m2 m3 (N + 1) l from hs
    go_enter Tryz.func51, Tryz.ntmps51
    go_wp2_with fail
    go_quiet (fail)
    have T0' := T0.call (bl_drewN (Below.refl _ _) nq)
    have bx0 := bx.drewN nq
    have hblq := bl_drewN hbl0 nq
    have hslq := Lib.hid (hsl0.drewN nq)
    clear HQ hq T0 bx hbl0 hsl0 ct
    generalize (w.alloc (.cells #[.string e.key, .string e.text, .int .i64 e.n, .bool e.act] 72)).drewN nq = w0 at *
    have cc0 := Blk.get4 bx0
    have ct0 := T0'.blk.cell 1
    go_wp2_with (first | (go_at_call 76; refine (HLA.out _ hslq.out).mono ?_; rintro r w1 ⟨rfl, hb1⟩; have B1 := bl_alloc hb1 (.cells #[.int .i64 el.day, .string el.key, .string el.text, .int .i64 el.n, .bool el.act] 113); have e1 := Blk.new w1 113 #[.int .i64 el.day, .string el.key, .string el.text, .int .i64 el.n, .bool el.act]; have T1 := T0'.call B1; have bx1 := bx0.call B1; have cc1 := Blk.get4 bx1; have ct1 := T1.blk.cell 1; have hbl1 := bl_then hblq B1; have hsl1 := Lib.hid (hslq.out.call B1)) | (go_at_call 30; refine (HMEM.out _ T1).mono ?_; rintro r w2 ⟨rfl, hb2⟩; have B2 := bl_alloc hb2 (.cells #[.string em.key, .string em.text, .bool em.act] 78); have e2 := e1.call B2; have T2 := T1.call B2; have bx2 := bx1.call B2; have cc2 := Blk.get4 bx2; have ct2 := T2.blk.cell 1; have hbl2 := bl_then hbl1 B2; have hsl2 := Lib.hid (hsl1.out.call B2)) | (go_at_call 71; refine (isDay71 _ _).mono ?_; rintro r w9 ⟨rfl, rfl⟩) | (go_at_call 72; refine (valid72 _ (by decide) _ (by assumption) (okB _ _) (okB_iff _ _) _).mono ?_; rintro r w3 ⟨rfl, hb3⟩; have e3 := e2.call hb3; have T3 := T2.call hb3; have bx3 := bx2.call hb3; have cc3 := Blk.get4 bx3; have ct3 := T3.blk.cell 1; have hbl3 := bl_then hbl2 hb3; have hsl3 := Lib.hid (hsl2.out.call hb3)))
    go_ret
    exact ⟨rfl, below_grown hbl3 _, T3.mono⟩
  cases hlot : lotB e.n
  · have hlo := lot_cases e.n hlot
    rcases hlo with h1 | ⟨h1, h2⟩
    · suffices hs : Calls Tryz.prog 51 #[.pointer (some ⟨tb, 0, none⟩), .int .i64 e.day, .agg #[.string e.key, .string e.text, .int .i64 e.n, .bool e.act]] w fun r w' => r = .returned (.int .i64 2) ∧ w.grownBy w' (some m1) ∧ Tab w' tb m0 m1 m2 m3 (N + 1) l from hs
      go_enter Tryz.func51, Tryz.ntmps51
      go_wp2_with fail
      go_quiet (fail)
      have T0' := T0.call (bl_drewN (Below.refl _ _) nq)
      have bx0 := bx.drewN nq
      have hblq := bl_drewN hbl0 nq
      have hslq := Lib.hid (hsl0.drewN nq)
      clear HQ hq T0 bx hbl0 hsl0 ct
      generalize (w.alloc (.cells #[.string e.key, .string e.text, .int .i64 e.n, .bool e.act] 72)).drewN nq = w0 at *
      have cc0 := Blk.get4 bx0
      have ct0 := T0'.blk.cell 1
      go_wp2_with (first | (go_at_call 76; refine (HLA.out _ hslq.out).mono ?_; rintro r w1 ⟨rfl, hb1⟩; have B1 := bl_alloc hb1 (.cells #[.int .i64 el.day, .string el.key, .string el.text, .int .i64 el.n, .bool el.act] 113); have e1 := Blk.new w1 113 #[.int .i64 el.day, .string el.key, .string el.text, .int .i64 el.n, .bool el.act]; have T1 := T0'.call B1; have bx1 := bx0.call B1; have cc1 := Blk.get4 bx1; have ct1 := T1.blk.cell 1; have hbl1 := bl_then hblq B1; have hsl1 := Lib.hid (hslq.out.call B1)) | (go_at_call 30; refine (HMEM.out _ T1).mono ?_; rintro r w2 ⟨rfl, hb2⟩; have B2 := bl_alloc hb2 (.cells #[.string em.key, .string em.text, .bool em.act] 78); have e2 := e1.call B2; have T2 := T1.call B2; have bx2 := bx1.call B2; have cc2 := Blk.get4 bx2; have ct2 := T2.blk.cell 1; have hbl2 := bl_then hbl1 B2; have hsl2 := Lib.hid (hsl1.out.call B2)) | (go_at_call 71; refine (isDay71 _ _).mono ?_; rintro r w9 ⟨rfl, rfl⟩) | (go_at_call 72; refine (valid72 _ (by decide) _ (by assumption) (okB _ _) (okB_iff _ _) _).mono ?_; rintro r w3 ⟨rfl, hb3⟩; have e3 := e2.call hb3; have T3 := T2.call hb3; have bx3 := bx2.call hb3; have cc3 := Blk.get4 bx3; have ct3 := T3.blk.cell 1; have hbl3 := bl_then hbl2 hb3; have hsl3 := Lib.hid (hsl2.out.call hb3)))
      go_ret
      exact ⟨rfl, below_grown hbl3 _, T3.mono⟩
    · suffices hs : Calls Tryz.prog 51 #[.pointer (some ⟨tb, 0, none⟩), .int .i64 e.day, .agg #[.string e.key, .string e.text, .int .i64 e.n, .bool e.act]] w fun r w' => r = .returned (.int .i64 2) ∧ w.grownBy w' (some m1) ∧ Tab w' tb m0 m1 m2 m3 (N + 1) l from hs
      go_enter Tryz.func51, Tryz.ntmps51
      go_wp2_with fail
      go_quiet (fail)
      have T0' := T0.call (bl_drewN (Below.refl _ _) nq)
      have bx0 := bx.drewN nq
      have hblq := bl_drewN hbl0 nq
      have hslq := Lib.hid (hsl0.drewN nq)
      clear HQ hq T0 bx hbl0 hsl0 ct
      generalize (w.alloc (.cells #[.string e.key, .string e.text, .int .i64 e.n, .bool e.act] 72)).drewN nq = w0 at *
      have cc0 := Blk.get4 bx0
      have ct0 := T0'.blk.cell 1
      go_wp2_with (first | (go_at_call 76; refine (HLA.out _ hslq.out).mono ?_; rintro r w1 ⟨rfl, hb1⟩; have B1 := bl_alloc hb1 (.cells #[.int .i64 el.day, .string el.key, .string el.text, .int .i64 el.n, .bool el.act] 113); have e1 := Blk.new w1 113 #[.int .i64 el.day, .string el.key, .string el.text, .int .i64 el.n, .bool el.act]; have T1 := T0'.call B1; have bx1 := bx0.call B1; have cc1 := Blk.get4 bx1; have ct1 := T1.blk.cell 1; have hbl1 := bl_then hblq B1; have hsl1 := Lib.hid (hslq.out.call B1)) | (go_at_call 30; refine (HMEM.out _ T1).mono ?_; rintro r w2 ⟨rfl, hb2⟩; have B2 := bl_alloc hb2 (.cells #[.string em.key, .string em.text, .bool em.act] 78); have e2 := e1.call B2; have T2 := T1.call B2; have bx2 := bx1.call B2; have cc2 := Blk.get4 bx2; have ct2 := T2.blk.cell 1; have hbl2 := bl_then hbl1 B2; have hsl2 := Lib.hid (hsl1.out.call B2)) | (go_at_call 71; refine (isDay71 _ _).mono ?_; rintro r w9 ⟨rfl, rfl⟩) | (go_at_call 72; refine (valid72 _ (by decide) _ (by assumption) (okB _ _) (okB_iff _ _) _).mono ?_; rintro r w3 ⟨rfl, hb3⟩; have e3 := e2.call hb3; have T3 := T2.call hb3; have bx3 := bx2.call hb3; have cc3 := Blk.get4 bx3; have ct3 := T3.blk.cell 1; have hbl3 := bl_then hbl2 hb3; have hsl3 := Lib.hid (hsl2.out.call hb3)))
      go_ret
      exact ⟨rfl, below_grown hbl3 _, T3.mono⟩
  obtain ⟨n1, n2⟩ := lot_true e.n hlot
  cases hst : staleB (ser 1 l e.key) e.day
  · cases hemp : (ser 1 l e.key).isEmpty
    · cases hiss : (el.text.toList == e.text.toList)
      · suffices hs : Calls Tryz.prog 51 #[.pointer (some ⟨tb, 0, none⟩), .int .i64 e.day, .agg #[.string e.key, .string e.text, .int .i64 e.n, .bool e.act]] w fun r w' => r = .returned (.int .i64 11) ∧ w.grownBy w' (some m1) ∧ Tab w' tb m0 m1 m2 m3 (N + 1) l from hs
        go_enter Tryz.func51, Tryz.ntmps51
        go_wp2_with fail
        go_quiet (fail)
        have T0' := T0.call (bl_drewN (Below.refl _ _) nq)
        have bx0 := bx.drewN nq
        have hblq := bl_drewN hbl0 nq
        have hslq := Lib.hid (hsl0.drewN nq)
        clear HQ hq T0 bx hbl0 hsl0 ct
        generalize (w.alloc (.cells #[.string e.key, .string e.text, .int .i64 e.n, .bool e.act] 72)).drewN nq = w0 at *
        have cc0 := Blk.get4 bx0
        have ct0 := T0'.blk.cell 1
        go_wp2_with (first | (go_at_call 76; refine (HLA.out _ hslq.out).mono ?_; rintro r w1 ⟨rfl, hb1⟩; have B1 := bl_alloc hb1 (.cells #[.int .i64 el.day, .string el.key, .string el.text, .int .i64 el.n, .bool el.act] 113); have e1 := Blk.new w1 113 #[.int .i64 el.day, .string el.key, .string el.text, .int .i64 el.n, .bool el.act]; have T1 := T0'.call B1; have bx1 := bx0.call B1; have cc1 := Blk.get4 bx1; have ct1 := T1.blk.cell 1; have hbl1 := bl_then hblq B1; have hsl1 := Lib.hid (hslq.out.call B1)) | (go_at_call 30; refine (HMEM.out _ T1).mono ?_; rintro r w2 ⟨rfl, hb2⟩; have B2 := bl_alloc hb2 (.cells #[.string em.key, .string em.text, .bool em.act] 78); have e2 := e1.call B2; have T2 := T1.call B2; have bx2 := bx1.call B2; have cc2 := Blk.get4 bx2; have ct2 := T2.blk.cell 1; have hbl2 := bl_then hbl1 B2; have hsl2 := Lib.hid (hsl1.out.call B2)) | (go_at_call 71; refine (isDay71 _ _).mono ?_; rintro r w9 ⟨rfl, rfl⟩) | (go_at_call 72; refine (valid72 _ (by decide) _ (by assumption) (okB _ _) (okB_iff _ _) _).mono ?_; rintro r w3 ⟨rfl, hb3⟩; have e3 := e2.call hb3; have T3 := T2.call hb3; have bx3 := bx2.call hb3; have cc3 := Blk.get4 bx3; have ct3 := T3.blk.cell 1; have hbl3 := bl_then hbl2 hb3; have hsl3 := Lib.hid (hsl2.out.call hb3)) | (go_at_call 77; refine (HSTL.out _ hsl3.out).mono ?_; rintro r w4 ⟨rfl, hb4⟩; have e4 := Blk.get5 (e3.call hb4); have T4 := T3.call hb4; have bx4 := bx3.call hb4; have cc4 := Blk.get4 bx4; have ct4 := T4.blk.cell 1; have hbl4 := bl_then hbl3 hb4; have hsl4 := Lib.hid (hsl3.out.call hb4); obtain ⟨fl, hml, _⟩ := T4.sec; obtain ⟨nn, hnn, hlen⟩ := hml.len Tryz.underlying120; have hnn2 : (nn : Int) < 4096 := by omega))
        go_ret
        exact ⟨rfl, below_grown hbl4 _, T4.mono⟩
      · suffices hs : Calls Tryz.prog 51 #[.pointer (some ⟨tb, 0, none⟩), .int .i64 e.day, .agg #[.string e.key, .string e.text, .int .i64 e.n, .bool e.act]] w fun r w' => r = .returned (.int .i64 0) ∧ w.grownBy w' (some m1) ∧ Tab w' tb m0 m1 m2 m3 (N + 1) (setL l e) from hs
        go_enter Tryz.func51, Tryz.ntmps51
        go_wp2_with fail
        go_quiet (fail)
        have T0' := T0.call (bl_drewN (Below.refl _ _) nq)
        have bx0 := bx.drewN nq
        have hblq := bl_drewN hbl0 nq
        have hslq := Lib.hid (hsl0.drewN nq)
        clear HQ hq T0 bx hbl0 hsl0 ct
        generalize (w.alloc (.cells #[.string e.key, .string e.text, .int .i64 e.n, .bool e.act] 72)).drewN nq = w0 at *
        have cc0 := Blk.get4 bx0
        have ct0 := T0'.blk.cell 1
        go_wp2_with (first | (go_at_call 76; refine (HLA.out _ hslq.out).mono ?_; rintro r w1 ⟨rfl, hb1⟩; have B1 := bl_alloc hb1 (.cells #[.int .i64 el.day, .string el.key, .string el.text, .int .i64 el.n, .bool el.act] 113); have e1 := Blk.new w1 113 #[.int .i64 el.day, .string el.key, .string el.text, .int .i64 el.n, .bool el.act]; have T1 := T0'.call B1; have bx1 := bx0.call B1; have cc1 := Blk.get4 bx1; have ct1 := T1.blk.cell 1; have hbl1 := bl_then hblq B1; have hsl1 := Lib.hid (hslq.out.call B1)) | (go_at_call 30; refine (HMEM.out _ T1).mono ?_; rintro r w2 ⟨rfl, hb2⟩; have B2 := bl_alloc hb2 (.cells #[.string em.key, .string em.text, .bool em.act] 78); have e2 := e1.call B2; have T2 := T1.call B2; have bx2 := bx1.call B2; have cc2 := Blk.get4 bx2; have ct2 := T2.blk.cell 1; have hbl2 := bl_then hbl1 B2; have hsl2 := Lib.hid (hsl1.out.call B2)) | (go_at_call 71; refine (isDay71 _ _).mono ?_; rintro r w9 ⟨rfl, rfl⟩) | (go_at_call 72; refine (valid72 _ (by decide) _ (by assumption) (okB _ _) (okB_iff _ _) _).mono ?_; rintro r w3 ⟨rfl, hb3⟩; have e3 := e2.call hb3; have T3 := T2.call hb3; have bx3 := bx2.call hb3; have cc3 := Blk.get4 bx3; have ct3 := T3.blk.cell 1; have hbl3 := bl_then hbl2 hb3; have hsl3 := Lib.hid (hsl2.out.call hb3)) | (go_at_call 77; refine (HSTL.out _ hsl3.out).mono ?_; rintro r w4 ⟨rfl, hb4⟩; have e4 := Blk.get5 (e3.call hb4); have T4 := T3.call hb4; have bx4 := bx3.call hb4; have cc4 := Blk.get4 bx4; have ct4 := T4.blk.cell 1; have hbl4 := bl_then hbl3 hb4; have hsl4 := Lib.hid (hsl3.out.call hb4); obtain ⟨fl, hml, _⟩ := T4.sec; obtain ⟨nn, hnn, hlen⟩ := hml.len Tryz.underlying120; have hnn2 : (nn : Int) < 4096 := by omega))
        have HT := Lib.hid T4
        have HB := Lib.hid bx4
        have HBL := Lib.hid hbl4
        have hti := Lib.hid (T4.blk)
        clear hml hlen
        go_region_held3 (fun w' => w'.cell? ⟨tb, 1, none⟩ = some (.map (some m1)) ∧ w'.cell? ⟨w.heap.size, 0, none⟩ = some (.string e.key) ∧ w'.cell? ⟨w.heap.size, 1, none⟩ = some (.string e.text) ∧ w'.cell? ⟨w.heap.size, 2, none⟩ = some (.int .i64 e.n) ∧ w'.cell? ⟨w.heap.size, 3, none⟩ = some (.bool e.act))
          (first
            | exact ⟨hti.out.drew.cell 1, Blk.get4 HB.out.drew⟩
            | exact ⟨(hti.out.drew.call hb9).cell 1, Blk.get4 (HB.out.drew.call hb9)⟩
            | exact ⟨(blk_turn hm9 hg10 (hti.out.drew.call hb9)).cell 1, Blk.get4 (blk_turn hm9 hg10 (HB.out.drew.call hb9))⟩)
          (first | (go_at_call 78; refine (HWI.out _ hsl4.out.drew).mono ?_; rintro r w9 ⟨⟨A', c', rfl, g1, g2, g3⟩, hb9⟩; obtain ⟨f9, hm9, hr9⟩ := (HT.out.call (bl_drew (Below.refl _ _))).sec.call hb9; obtain ⟨w10, hrun, hm10, hg10, hs10⟩ := hm9.update Tryz.underlying120 hk (.slice A' (withE (ser 1 l e.key) e).length c')))
        go_wp2_with fail
        go_ret
        have T9 : Tab w9 tb m0 m1 m2 m3 N l := (HT.out.call (bl_drew (Below.refl _ _))).call hb9
        have hset := Map1.set (w := w9) (w' := w10) (e := e) (sz := 5) (row := rowS) f9 (by rw [he]; exact hr9) hi (by rw [he]; exact hst) (by rw [he]; exact g1) g2 (by rw [he]; exact g3) (sl_turn hm9 hg10 (by omega)) (by rw [he]; exact hm10)
        rw [he] at hset
        refine ⟨rfl, grown_then (bl_then (bl_drew HBL.out) hb9) hg10, ⟨blk_turn hm9 hg10 T9.blk, ?_, hset, ?_, ?_, T9.ne01, T9.ne02, T9.ne03, T9.ne12, T9.ne13, T9.ne23⟩⟩
        · exact T9.mem.set_other (by rw [he]; decide) (sl_turn hm9 hg10 (by omega)) (fun f h => mapB_turn hg10 T9.ne01 h)
        · exact T9.pri.set_other (by rw [he]; decide) (sl_turn hm9 hg10 (by omega)) (fun f h => mapB_turn hg10 (Ne.symm T9.ne12) h)
        · exact T9.hair.set_other (by rw [he]; decide) (sl_turn hm9 hg10 (by omega)) (fun f h => mapB_turn hg10 (Ne.symm T9.ne13) h)
    · suffices hs : Calls Tryz.prog 51 #[.pointer (some ⟨tb, 0, none⟩), .int .i64 e.day, .agg #[.string e.key, .string e.text, .int .i64 e.n, .bool e.act]] w fun r w' => r = .returned (.int .i64 0) ∧ w.grownBy w' (some m1) ∧ Tab w' tb m0 m1 m2 m3 (N + 1) (setL l e) from hs
      go_enter Tryz.func51, Tryz.ntmps51
      go_wp2_with fail
      go_quiet (fail)
      have T0' := T0.call (bl_drewN (Below.refl _ _) nq)
      have bx0 := bx.drewN nq
      have hblq := bl_drewN hbl0 nq
      have hslq := Lib.hid (hsl0.drewN nq)
      clear HQ hq T0 bx hbl0 hsl0 ct
      generalize (w.alloc (.cells #[.string e.key, .string e.text, .int .i64 e.n, .bool e.act] 72)).drewN nq = w0 at *
      have cc0 := Blk.get4 bx0
      have ct0 := T0'.blk.cell 1
      go_wp2_with (first | (go_at_call 76; refine (HLA.out _ hslq.out).mono ?_; rintro r w1 ⟨rfl, hb1⟩; have B1 := bl_alloc hb1 (.cells #[.int .i64 el.day, .string el.key, .string el.text, .int .i64 el.n, .bool el.act] 113); have e1 := Blk.new w1 113 #[.int .i64 el.day, .string el.key, .string el.text, .int .i64 el.n, .bool el.act]; have T1 := T0'.call B1; have bx1 := bx0.call B1; have cc1 := Blk.get4 bx1; have ct1 := T1.blk.cell 1; have hbl1 := bl_then hblq B1; have hsl1 := Lib.hid (hslq.out.call B1)) | (go_at_call 30; refine (HMEM.out _ T1).mono ?_; rintro r w2 ⟨rfl, hb2⟩; have B2 := bl_alloc hb2 (.cells #[.string em.key, .string em.text, .bool em.act] 78); have e2 := e1.call B2; have T2 := T1.call B2; have bx2 := bx1.call B2; have cc2 := Blk.get4 bx2; have ct2 := T2.blk.cell 1; have hbl2 := bl_then hbl1 B2; have hsl2 := Lib.hid (hsl1.out.call B2)) | (go_at_call 71; refine (isDay71 _ _).mono ?_; rintro r w9 ⟨rfl, rfl⟩) | (go_at_call 72; refine (valid72 _ (by decide) _ (by assumption) (okB _ _) (okB_iff _ _) _).mono ?_; rintro r w3 ⟨rfl, hb3⟩; have e3 := e2.call hb3; have T3 := T2.call hb3; have bx3 := bx2.call hb3; have cc3 := Blk.get4 bx3; have ct3 := T3.blk.cell 1; have hbl3 := bl_then hbl2 hb3; have hsl3 := Lib.hid (hsl2.out.call hb3)) | (go_at_call 77; refine (HSTL.out _ hsl3.out).mono ?_; rintro r w4 ⟨rfl, hb4⟩; have e4 := Blk.get5 (e3.call hb4); have T4 := T3.call hb4; have bx4 := bx3.call hb4; have cc4 := Blk.get4 bx4; have ct4 := T4.blk.cell 1; have hbl4 := bl_then hbl3 hb4; have hsl4 := Lib.hid (hsl3.out.call hb4); obtain ⟨fl, hml, _⟩ := T4.sec; obtain ⟨nn, hnn, hlen⟩ := hml.len Tryz.underlying120; have hnn2 : (nn : Int) < 4096 := by omega))
      have HT := Lib.hid T4
      have HB := Lib.hid bx4
      have HBL := Lib.hid hbl4
      have hti := Lib.hid (T4.blk)
      clear hml hlen
      go_region_held3 (fun w' => w'.cell? ⟨tb, 1, none⟩ = some (.map (some m1)) ∧ w'.cell? ⟨w.heap.size, 0, none⟩ = some (.string e.key) ∧ w'.cell? ⟨w.heap.size, 1, none⟩ = some (.string e.text) ∧ w'.cell? ⟨w.heap.size, 2, none⟩ = some (.int .i64 e.n) ∧ w'.cell? ⟨w.heap.size, 3, none⟩ = some (.bool e.act))
        (first
          | exact ⟨hti.out.drew.cell 1, Blk.get4 HB.out.drew⟩
          | exact ⟨(hti.out.drew.call hb9).cell 1, Blk.get4 (HB.out.drew.call hb9)⟩
          | exact ⟨(blk_turn hm9 hg10 (hti.out.drew.call hb9)).cell 1, Blk.get4 (blk_turn hm9 hg10 (HB.out.drew.call hb9))⟩)
        (first | (go_at_call 78; refine (HWI.out _ hsl4.out.drew).mono ?_; rintro r w9 ⟨⟨A', c', rfl, g1, g2, g3⟩, hb9⟩; obtain ⟨f9, hm9, hr9⟩ := (HT.out.call (bl_drew (Below.refl _ _))).sec.call hb9; obtain ⟨w10, hrun, hm10, hg10, hs10⟩ := hm9.update Tryz.underlying120 hk (.slice A' (withE (ser 1 l e.key) e).length c')))
      go_wp2_with fail
      go_ret
      have T9 : Tab w9 tb m0 m1 m2 m3 N l := (HT.out.call (bl_drew (Below.refl _ _))).call hb9
      have hset := Map1.set (w := w9) (w' := w10) (e := e) (sz := 5) (row := rowS) f9 (by rw [he]; exact hr9) hi (by rw [he]; exact hst) (by rw [he]; exact g1) g2 (by rw [he]; exact g3) (sl_turn hm9 hg10 (by omega)) (by rw [he]; exact hm10)
      rw [he] at hset
      refine ⟨rfl, grown_then (bl_then (bl_drew HBL.out) hb9) hg10, ⟨blk_turn hm9 hg10 T9.blk, ?_, hset, ?_, ?_, T9.ne01, T9.ne02, T9.ne03, T9.ne12, T9.ne13, T9.ne23⟩⟩
      · exact T9.mem.set_other (by rw [he]; decide) (sl_turn hm9 hg10 (by omega)) (fun f h => mapB_turn hg10 T9.ne01 h)
      · exact T9.pri.set_other (by rw [he]; decide) (sl_turn hm9 hg10 (by omega)) (fun f h => mapB_turn hg10 (Ne.symm T9.ne12) h)
      · exact T9.hair.set_other (by rw [he]; decide) (sl_turn hm9 hg10 (by omega)) (fun f h => mapB_turn hg10 (Ne.symm T9.ne13) h)
  · suffices hs : Calls Tryz.prog 51 #[.pointer (some ⟨tb, 0, none⟩), .int .i64 e.day, .agg #[.string e.key, .string e.text, .int .i64 e.n, .bool e.act]] w fun r w' => r = .returned (.int .i64 20) ∧ w.grownBy w' (some m1) ∧ Tab w' tb m0 m1 m2 m3 (N + 1) l from hs
    go_enter Tryz.func51, Tryz.ntmps51
    go_wp2_with fail
    go_quiet (fail)
    have T0' := T0.call (bl_drewN (Below.refl _ _) nq)
    have bx0 := bx.drewN nq
    have hblq := bl_drewN hbl0 nq
    have hslq := Lib.hid (hsl0.drewN nq)
    clear HQ hq T0 bx hbl0 hsl0 ct
    generalize (w.alloc (.cells #[.string e.key, .string e.text, .int .i64 e.n, .bool e.act] 72)).drewN nq = w0 at *
    have cc0 := Blk.get4 bx0
    have ct0 := T0'.blk.cell 1
    go_wp2_with (first | (go_at_call 76; refine (HLA.out _ hslq.out).mono ?_; rintro r w1 ⟨rfl, hb1⟩; have B1 := bl_alloc hb1 (.cells #[.int .i64 el.day, .string el.key, .string el.text, .int .i64 el.n, .bool el.act] 113); have e1 := Blk.new w1 113 #[.int .i64 el.day, .string el.key, .string el.text, .int .i64 el.n, .bool el.act]; have T1 := T0'.call B1; have bx1 := bx0.call B1; have cc1 := Blk.get4 bx1; have ct1 := T1.blk.cell 1; have hbl1 := bl_then hblq B1; have hsl1 := Lib.hid (hslq.out.call B1)) | (go_at_call 30; refine (HMEM.out _ T1).mono ?_; rintro r w2 ⟨rfl, hb2⟩; have B2 := bl_alloc hb2 (.cells #[.string em.key, .string em.text, .bool em.act] 78); have e2 := e1.call B2; have T2 := T1.call B2; have bx2 := bx1.call B2; have cc2 := Blk.get4 bx2; have ct2 := T2.blk.cell 1; have hbl2 := bl_then hbl1 B2; have hsl2 := Lib.hid (hsl1.out.call B2)) | (go_at_call 71; refine (isDay71 _ _).mono ?_; rintro r w9 ⟨rfl, rfl⟩) | (go_at_call 72; refine (valid72 _ (by decide) _ (by assumption) (okB _ _) (okB_iff _ _) _).mono ?_; rintro r w3 ⟨rfl, hb3⟩; have e3 := e2.call hb3; have T3 := T2.call hb3; have bx3 := bx2.call hb3; have cc3 := Blk.get4 bx3; have ct3 := T3.blk.cell 1; have hbl3 := bl_then hbl2 hb3; have hsl3 := Lib.hid (hsl2.out.call hb3)) | (go_at_call 77; refine (HSTL.out _ hsl3.out).mono ?_; rintro r w4 ⟨rfl, hb4⟩; have e4 := Blk.get5 (e3.call hb4); have T4 := T3.call hb4; have bx4 := bx3.call hb4; have cc4 := Blk.get4 bx4; have ct4 := T4.blk.cell 1; have hbl4 := bl_then hbl3 hb4; have hsl4 := Lib.hid (hsl3.out.call hb4); obtain ⟨fl, hml, _⟩ := T4.sec; obtain ⟨nn, hnn, hlen⟩ := hml.len Tryz.underlying120; have hnn2 : (nn : Int) < 4096 := by omega))
    go_ret
    exact ⟨rfl, below_grown hbl4 _, T4.mono⟩
end Go.Proofs.YtongoicadcmfaaaGreatDoor.V
