/- refdata.set at one element type. (Printed by gen_setp.py.) -/
import Derived.Test.YtongoicadcmfaaaGreatDoorVTaken
import Derived.Test.YtongoicadcmfaaaGreatDoorVSerH
set_option linter.unusedSimpArgs false
set_option linter.unusedVariables false
namespace Go.Proofs.YtongoicadcmfaaaGreatDoor.V
open Go.RowKit Go.MapKept

theorem all83 (tb m0 m1 m2 m3 N : Nat) (l : List E) (w : World) (T : Tab w tb m0 m1 m2 m3 N l) : Calls Tryz.prog 83 #[.pointer (some ⟨tb, 0, none⟩)] w fun r w' => r = .returned (.map (some m3)) ∧ w = w' := by
  have ct := T.blk.cell 3
  go_enter Tryz.func83, Tryz.ntmps83
  go_wp2
  go_ret
  exact ⟨rfl, rfl⟩

def errH (l : List E) (e : E) (vb : Bool) : Int :=
  bif !dayB e.day then 28 else bif !(atE l 1 e.day e.key).isSome then 9 else bif !vb then 2 else bif staleB (ser 3 l e.key) e.day then 20 else 0

set_option maxRecDepth 20000 in
set_option maxHeartbeats 8000000 in
theorem set82 (tb m0 m1 m2 m3 N : Nat) (l : List E) (e : E) (vb : Bool) (he : e.kind = 3) (w : World) (T : Tab w tb m0 m1 m2 m3 N l) (hi : Inv l) (hk : e.key.size ≤ maxLen) (hl : l.length < 40) :
    Calls Tryz.prog 82 #[.pointer (some ⟨tb, 0, none⟩), .func (.func 83) #[] #[], .int .i64 e.day, .string e.key, .agg #[.int .i64 e.num, .int .i64 e.den], .bool vb] w fun r w' =>
      r = .returned (.int .i64 (errH l e vb)) ∧ w.grownBy w' (some m3) ∧ Tab w' tb m0 m1 m2 m3 (N + 1) (if errH l e vb = 0 then setL l e else l) := by
  obtain ⟨A, c, hc1, hc2, hsl, hq, _⟩ := T.hair.get (t := 124) (e := 138) Tryz.underlying124 Tryz.zeroValue138 hk
  have HQ := hq _ (bl1 w (.cells #[.int .i64 e.num, .int .i64 e.den] 69))
  have T' := T.call (bl1 w (.cells #[.int .i64 e.num, .int .i64 e.den] 69))
  have bx := Blk.new w 69 #[.int .i64 e.num, .int .i64 e.den]
  have hsl' := hsl.call (bl1 w (.cells #[.int .i64 e.num, .int .i64 e.den] 69))
  have hblw := bl1 w (.cells #[.int .i64 e.num, .int .i64 e.den] 69)
  have hsec := fun W T => security28 tb m0 m1 m2 m3 N l e.day e.key W T hi hk
  have hstl := fun W h => staleH A (ser 3 l e.key) c e.day W h hc1 hc2 (ser_len30 hi 3 e.key)
  have hwi := fun W h => withH A (ser 3 l e.key) c e W h hc1 hc2 (ser_len30 hi 3 e.key)
  generalize (ser 3 l e.key).length = n at *
  unfold errH
  generalize (atE l 1 e.day e.key).getD E.zero = es at *
  generalize (atE l 1 e.day e.key).isSome = ib at *
  have HSEC := Lib.hid hsec
  have HSTL := Lib.hid hstl
  have HWI := Lib.hid hwi
  have HSL := Lib.hid hsl'
  clear hsec hstl hwi hsl hq hsl'
  cases hd : dayB e.day
  · suffices hs : Calls Tryz.prog 82 #[.pointer (some ⟨tb, 0, none⟩), .func (.func 83) #[] #[], .int .i64 e.day, .string e.key, .agg #[.int .i64 e.num, .int .i64 e.den], .bool vb] w fun r w' => r = .returned (.int .i64 28) ∧ w.grownBy w' (some m3) ∧ Tab w' tb m0 m1 m2 m3 (N + 1) l from hs
    go_enter Tryz.func82, Tryz.ntmps82
    go_wp2_with (first | (go_at_call 83; first | (refine (all83 tb m0 m1 m2 m3 N l _ T2).mono ?_; rintro r w9 ⟨rfl, rfl⟩) | (refine (all83 tb m0 m1 m2 m3 N l _ T').mono ?_; rintro r w9 ⟨rfl, rfl⟩)) | (go_at_call 28; refine (HSEC.out _ T').mono ?_; rintro r w1 ⟨rfl, hb1⟩; have hbq := Lib.hid (bl_alloc hb1 (.cells #[.string es.key, .string es.text, .int .i64 es.n, .bool es.act] 72))) | (go_at_call 71; refine (isDay71 _ _).mono ?_; rintro r w9 ⟨rfl, rfl⟩))
    go_ret
    exact ⟨rfl, below_grown (bl_then hblw hbq.out) _, (T'.call hbq.out).mono⟩
  cases ib
  · suffices hs : Calls Tryz.prog 82 #[.pointer (some ⟨tb, 0, none⟩), .func (.func 83) #[] #[], .int .i64 e.day, .string e.key, .agg #[.int .i64 e.num, .int .i64 e.den], .bool vb] w fun r w' => r = .returned (.int .i64 9) ∧ w.grownBy w' (some m3) ∧ Tab w' tb m0 m1 m2 m3 (N + 1) l from hs
    go_enter Tryz.func82, Tryz.ntmps82
    go_wp2_with (first | (go_at_call 83; first | (refine (all83 tb m0 m1 m2 m3 N l _ T2).mono ?_; rintro r w9 ⟨rfl, rfl⟩) | (refine (all83 tb m0 m1 m2 m3 N l _ T').mono ?_; rintro r w9 ⟨rfl, rfl⟩)) | (go_at_call 28; refine (HSEC.out _ T').mono ?_; rintro r w1 ⟨rfl, hb1⟩; have hbq := Lib.hid (bl_alloc hb1 (.cells #[.string es.key, .string es.text, .int .i64 es.n, .bool es.act] 72))) | (go_at_call 71; refine (isDay71 _ _).mono ?_; rintro r w9 ⟨rfl, rfl⟩))
    go_ret
    exact ⟨rfl, below_grown (bl_then hblw hbq.out) _, (T'.call hbq.out).mono⟩
  cases vb
  · suffices hs : Calls Tryz.prog 82 #[.pointer (some ⟨tb, 0, none⟩), .func (.func 83) #[] #[], .int .i64 e.day, .string e.key, .agg #[.int .i64 e.num, .int .i64 e.den], .bool false] w fun r w' => r = .returned (.int .i64 2) ∧ w.grownBy w' (some m3) ∧ Tab w' tb m0 m1 m2 m3 (N + 1) l from hs
    go_enter Tryz.func82, Tryz.ntmps82
    go_wp2_with (first | (go_at_call 83; first | (refine (all83 tb m0 m1 m2 m3 N l _ T2).mono ?_; rintro r w9 ⟨rfl, rfl⟩) | (refine (all83 tb m0 m1 m2 m3 N l _ T').mono ?_; rintro r w9 ⟨rfl, rfl⟩)) | (go_at_call 28; refine (HSEC.out _ T').mono ?_; rintro r w1 ⟨rfl, hb1⟩; have hbq := Lib.hid (bl_alloc hb1 (.cells #[.string es.key, .string es.text, .int .i64 es.n, .bool es.act] 72))) | (go_at_call 71; refine (isDay71 _ _).mono ?_; rintro r w9 ⟨rfl, rfl⟩))
    go_ret
    exact ⟨rfl, below_grown (bl_then hblw hbq.out) _, (T'.call hbq.out).mono⟩
  cases hst : staleB (ser 3 l e.key) e.day
  · suffices hs : Calls Tryz.prog 82 #[.pointer (some ⟨tb, 0, none⟩), .func (.func 83) #[] #[], .int .i64 e.day, .string e.key, .agg #[.int .i64 e.num, .int .i64 e.den], .bool true] w fun r w' => r = .returned (.int .i64 0) ∧ w.grownBy w' (some m3) ∧ Tab w' tb m0 m1 m2 m3 (N + 1) (setL l e) from hs
    go_enter Tryz.func82, Tryz.ntmps82
    go_wp2_with (first | (go_at_call 83; first | (refine (all83 tb m0 m1 m2 m3 N l _ T2).mono ?_; rintro r w9 ⟨rfl, rfl⟩) | (refine (all83 tb m0 m1 m2 m3 N l _ T').mono ?_; rintro r w9 ⟨rfl, rfl⟩)) | (go_at_call 28; refine (HSEC.out _ T').mono ?_; rintro r w1 ⟨rfl, hb1⟩; have hbq := Lib.hid (bl_alloc hb1 (.cells #[.string es.key, .string es.text, .int .i64 es.n, .bool es.act] 72))) | (go_at_call 71; refine (isDay71 _ _).mono ?_; rintro r w9 ⟨rfl, rfl⟩) | (go_at_call 106; refine (HSTL.out _ (HSL.out.call hbq.out)).mono ?_; rintro r w2 ⟨rfl, hb2⟩; have hbl2 := bl_then hbq.out hb2; have T2 := T'.call hbl2; have bx2 := bx.call hbl2))
    have HT2 := Lib.hid T2
    have HBX2 := Lib.hid bx2
    have HSL2 := Lib.hid (HSL.out.call hbl2)
    go_region_held3 (fun w' => w'.cell? ⟨w.heap.size, 0, none⟩ = some (.int .i64 e.num) ∧ w'.cell? ⟨w.heap.size, 1, none⟩ = some (.int .i64 e.den))
      (first | exact Blk.get2 HBX2.out.drew | exact Blk.get2 (HBX2.out.drew.call hb3) | exact Blk.get2 (blk_turn hm9 hg10 (HBX2.out.drew.call hb3)))
      (first
        | (go_at_call 83; refine (all83 tb m0 m1 m2 m3 N l _ (HT2.out.call (bl_drew (Below.refl _ _)))).mono ?_; rintro r w9 ⟨rfl, rfl⟩)
        | (go_at_call 83; refine (all83 tb m0 m1 m2 m3 N l _ T9).mono ?_; rintro r w9 ⟨rfl, rfl⟩)
        | (go_at_call 107; refine (HWI.out _ HSL2.out.drew).mono ?_; rintro r w3 ⟨⟨A', c', rfl, g1, g2, g3⟩, hb3⟩; have T9 := (HT2.out.call (bl_drew (Below.refl _ _))).call hb3; obtain ⟨f9, hm9, hr9⟩ := T9.hair; obtain ⟨w10, hrun, hm10, hg10, hs10⟩ := hm9.update Tryz.underlying124 hk (.slice A' (withE (ser 3 l e.key) e).length c')))
    all_goals
      go_wp2_with fail
      go_ret
      have hset := Map1.set (w := w3) (w' := w10) (e := e) (sz := 3) (row := rowH) f9 (by rw [he]; exact hr9) hi (by rw [he]; exact hst) (by rw [he]; exact g1) g2 (by rw [he]; exact g3) (sl_turn hm9 hg10 (by omega)) (by rw [he]; exact hm10)
      rw [he] at hset
      exact ⟨rfl, grown_then (bl_then (bl_then hblw (bl_drew hbl2)) hb3) hg10, ⟨blk_turn hm9 hg10 T9.blk, T9.mem.set_other (by rw [he]; decide) (sl_turn hm9 hg10 (by omega)) (fun f h => mapB_turn hg10 (T9.ne03) h), T9.sec.set_other (by rw [he]; decide) (sl_turn hm9 hg10 (by omega)) (fun f h => mapB_turn hg10 (T9.ne13) h), T9.pri.set_other (by rw [he]; decide) (sl_turn hm9 hg10 (by omega)) (fun f h => mapB_turn hg10 (T9.ne23) h), hset, T9.ne01, T9.ne02, T9.ne03, T9.ne12, T9.ne13, T9.ne23⟩⟩
  · suffices hs : Calls Tryz.prog 82 #[.pointer (some ⟨tb, 0, none⟩), .func (.func 83) #[] #[], .int .i64 e.day, .string e.key, .agg #[.int .i64 e.num, .int .i64 e.den], .bool true] w fun r w' => r = .returned (.int .i64 20) ∧ w.grownBy w' (some m3) ∧ Tab w' tb m0 m1 m2 m3 (N + 1) l from hs
    go_enter Tryz.func82, Tryz.ntmps82
    go_wp2_with (first | (go_at_call 83; first | (refine (all83 tb m0 m1 m2 m3 N l _ T2).mono ?_; rintro r w9 ⟨rfl, rfl⟩) | (refine (all83 tb m0 m1 m2 m3 N l _ T').mono ?_; rintro r w9 ⟨rfl, rfl⟩)) | (go_at_call 28; refine (HSEC.out _ T').mono ?_; rintro r w1 ⟨rfl, hb1⟩; have hbq := Lib.hid (bl_alloc hb1 (.cells #[.string es.key, .string es.text, .int .i64 es.n, .bool es.act] 72))) | (go_at_call 71; refine (isDay71 _ _).mono ?_; rintro r w9 ⟨rfl, rfl⟩) | (go_at_call 106; refine (HSTL.out _ (HSL.out.call hbq.out)).mono ?_; rintro r w2 ⟨rfl, hb2⟩; have hbl2 := bl_then hbq.out hb2; have T2 := T'.call hbl2; have bx2 := bx.call hbl2))
    go_ret
    exact ⟨rfl, below_grown (bl_then hblw hbl2) _, (T'.call hbl2).mono⟩
end Go.Proofs.YtongoicadcmfaaaGreatDoor.V
