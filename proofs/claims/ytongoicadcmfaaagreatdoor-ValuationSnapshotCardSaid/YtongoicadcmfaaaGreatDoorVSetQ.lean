/- refdata.SetPrice. -/
import Derived.Test.YtongoicadcmfaaaGreatDoorVSetP
import Derived.Test.YtongoicadcmfaaaGreatDoorVSetH
import Derived.Test.YtongoicadcmfaaaGreatDoorVNum
set_option linter.unusedSimpArgs false
set_option linter.unusedVariables false
namespace Go.Proofs.YtongoicadcmfaaaGreatDoor.V
open Go.RowKit Go.MapKept

def prB (n : Int) : Bool := decide (1 ≤ n) && decide (n ≤ 1000000000)
set_option maxHeartbeats 2000000 in
theorem setPrice52 (tb m0 m1 m2 m3 N : Nat) (l : List E) (e : E) (he : e.kind = 2) (w : World) (T : Tab w tb m0 m1 m2 m3 N l) (hi : Inv l) (hk : e.key.size ≤ maxLen) (hl : l.length < 40) :
    Calls Tryz.prog 52 #[.pointer (some ⟨tb, 0, none⟩), .int .i64 e.day, .string e.key, .int .i64 e.n] w fun r w' =>
      r = .returned (.int .i64 (errP l e (prB e.n))) ∧ w.grownBy w' (some m2) ∧ Tab w' tb m0 m1 m2 m3 (N + 1) (if errP l e (prB e.n) = 0 then setL l e else l) := by
  have h := set79 tb m0 m1 m2 m3 N l e (prB e.n) he w T hi hk hl
  generalize (if errP l e (prB e.n) = 0 then setL l e else l) = l' at *
  generalize errP l e (prB e.n) = er at *
  unfold prB at h
  have H := Lib.hid h
  clear h
  cases h1 : decide (1 ≤ e.n) <;> rw [h1] at H
  · have H2 := Lib.hid H.out
    go_enter Tryz.func52, Tryz.ntmps52
    go_wp2_with (go_at_call 79; refine H.out.mono ?_; rintro r w' ⟨rfl, hg, ht⟩)
    go_ret
    exact ⟨rfl, hg, ht⟩
  · cases h2 : decide (e.n ≤ 1000000000) <;> rw [h2] at H
    all_goals
      go_enter Tryz.func52, Tryz.ntmps52
      go_wp2_with (go_at_call 79; refine H.out.mono ?_; rintro r w' ⟨rfl, hg, ht⟩)
      go_ret
      exact ⟨rfl, hg, ht⟩

def haB (e : E) : Bool := ((fchk e.num e.den == 0) && decide (0 ≤ e.num)) && decide (e.num ≤ e.den)
set_option maxHeartbeats 4000000 in
theorem setHaircut53 (tb m0 m1 m2 m3 N : Nat) (l : List E) (e : E) (he : e.kind = 3) (w : World) (T : Tab w tb m0 m1 m2 m3 N l) (hi : Inv l) (hk : e.key.size ≤ maxLen) (hl : l.length < 40)
    (h0 : -9223372036854775808 ≤ e.num) (h1 : e.num ≤ 9223372036854775807) (d0 : -9223372036854775808 ≤ e.den) (d1 : e.den ≤ 9223372036854775807) :
    Calls Tryz.prog 53 #[.pointer (some ⟨tb, 0, none⟩), .int .i64 e.day, .string e.key, .agg #[.int .i64 e.num, .int .i64 e.den]] w fun r w' =>
      r = .returned (.int .i64 (errH l e (haB e))) ∧ w.grownBy w' (some m3) ∧ Tab w' tb m0 m1 m2 m3 (N + 1) (if errH l e (haB e) = 0 then setL l e else l) := by
  have h := fun w T => set82 tb m0 m1 m2 m3 N l e (haB e) he w T hi hk hl
  generalize (if errH l e (haB e) = 0 then setL l e else l) = l' at *
  generalize errH l e (haB e) = er at *
  unfold haB at h
  have hc := fun w => check81 e.num e.den w h0 h1 d0 d1
  generalize fchk e.num e.den = fc at *
  have HC := Lib.hid hc
  have H := Lib.hid h
  have bx := Blk.new w 69 #[.int .i64 e.num, .int .i64 e.den]
  have T' := T.call (bl1 w (.cells #[.int .i64 e.num, .int .i64 e.den] 69))
  have hbw := bl1 w (.cells #[.int .i64 e.num, .int .i64 e.den] 69)
  clear h hc
  cases c1 : (fc == 0) <;> rw [c1] at H <;> cases c2 : decide (0 ≤ e.num) <;> rw [c2] at H <;> cases c3 : decide (e.num ≤ e.den) <;> rw [c3] at H
  all_goals
    go_enter Tryz.func53, Tryz.ntmps53
    go_wp2_with (first
      | (go_at_call 81; refine (HC.out _).mono ?_; rintro r w1 ⟨rfl, hb1⟩; have y1 := Blk.get2 (bx.call hb1); have T1 := T'.call hb1; have hbl1 := bl_then hbw hb1)
      | (go_at_call 82; refine (H.out _ T1).mono ?_; rintro r w' ⟨rfl, hg, ht⟩))
    go_ret
    exact ⟨rfl, grown_then hbl1 hg, ht⟩
end Go.Proofs.YtongoicadcmfaaaGreatDoor.V
