/- refdata.set at one element type. (Printed by gen_setp.py.) -/
import Derived.Test.YtongoicadcmfaaaGreatDoorVTaken
import Derived.Test.YtongoicadcmfaaaGreatDoorVSerP
set_option linter.unusedSimpArgs false
set_option linter.unusedVariables false
namespace Go.Proofs.YtongoicadcmfaaaGreatDoor.V
open Go.RowKit Go.MapKept

theorem all80 (tb m0 m1 m2 m3 N : Nat) (l : List E) (w : World) (T : Tab w tb m0 m1 m2 m3 N l) : Calls Tryz.prog 80 #[.pointer (some ⟨tb, 0, none⟩)] w fun r w' => r = .returned (.map (some m2)) ∧ w = w' := by
  have ct := T.blk.cell 2
  go_enter Tryz.func80, Tryz.ntmps80
  go_wp2
  go_ret
  exact ⟨rfl, rfl⟩

def errP (l : List E) (e : E) (vb : Bool) : Int :=
  bif !dayB e.day then 28 else bif !(atE l 1 e.day e.key).isSome then 9 else bif !vb then 2 else bif staleB (ser 2 l e.key) e.day then 20 else 0

set_option maxRecDepth 20000 in
set_option maxHeartbeats 8000000 in
theorem set79 (tb m0 m1 m2 m3 N : Nat) (l : List E) (e : E) (vb : Bool) (he : e.kind = 2) (w : World) (T : Tab w tb m0 m1 m2 m3 N l) (hi : Inv l) (hk : e.key.size ≤ maxLen) (hl : l.length < 40) :
    Calls Tryz.prog 79 #[.pointer (some ⟨tb, 0, none⟩), .func (.func 80) #[] #[], .int .i64 e.day, .string e.key, .int .i64 e.n, .bool vb] w fun r w' =>
      r = .returned (.int .i64 (errP l e vb)) ∧ w.grownBy w' (some m2) ∧ Tab w' tb m0 m1 m2 m3 (N + 1) (if errP l e vb = 0 then setL l e else l) := by
  obtain ⟨A, c, hc1, hc2, hsl, hq, _⟩ := T.pri.get (t := 122) (e := 149) Tryz.underlying122 Tryz.zeroValue149 hk
  have HQ := hq _ (Below.refl _ _)
  have hsec := fun W T => security28 tb m0 m1 m2 m3 N l e.day e.key W T hi hk
  have hstl := fun W h => staleP A (ser 2 l e.key) c e.day W h hc1 hc2 (ser_len30 hi 2 e.key)
  have hwi := fun W h => withP A (ser 2 l e.key) c e W h hc1 hc2 (ser_len30 hi 2 e.key)
  generalize (ser 2 l e.key).length = n at *
  unfold errP
  generalize (atE l 1 e.day e.key).getD E.zero = es at *
  generalize (atE l 1 e.day e.key).isSome = ib at *
  have HSEC := Lib.hid hsec
  have HSTL := Lib.hid hstl
  have HWI := Lib.hid hwi
  have HSL := Lib.hid hsl
  clear hsec hstl hwi hsl hq
  cases hd : dayB e.day
  · suffices hs : Calls Tryz.prog 79 #[.pointer (some ⟨tb, 0, none⟩), .func (.func 80) #[] #[], .int .i64 e.day, .string e.key, .int .i64 e.n, .bool vb] w fun r w' => r = .returned (.int .i64 28) ∧ w.grownBy w' (some m2) ∧ Tab w' tb m0 m1 m2 m3 (N + 1) l from hs
    go_enter Tryz.func79, Tryz.ntmps79
    go_wp2_with (first | (go_at_call 80; first | (refine (all80 tb m0 m1 m2 m3 N l _ T2).mono ?_; rintro r w9 ⟨rfl, rfl⟩) | (refine (all80 tb m0 m1 m2 m3 N l _ T).mono ?_; rintro r w9 ⟨rfl, rfl⟩)) | (go_at_call 28; refine (HSEC.out _ T).mono ?_; rintro r w1 ⟨rfl, hb1⟩; have hbq := Lib.hid (bl_alloc hb1 (.cells #[.string es.key, .string es.text, .int .i64 es.n, .bool es.act] 72))) | (go_at_call 71; refine (isDay71 _ _).mono ?_; rintro r w9 ⟨rfl, rfl⟩))
    go_ret
    exact ⟨rfl, below_grown hbq.out _, (T.call hbq.out).mono⟩
  cases ib
  · suffices hs : Calls Tryz.prog 79 #[.pointer (some ⟨tb, 0, none⟩), .func (.func 80) #[] #[], .int .i64 e.day, .string e.key, .int .i64 e.n, .bool vb] w fun r w' => r = .returned (.int .i64 9) ∧ w.grownBy w' (some m2) ∧ Tab w' tb m0 m1 m2 m3 (N + 1) l from hs
    go_enter Tryz.func79, Tryz.ntmps79
    go_wp2_with (first | (go_at_call 80; first | (refine (all80 tb m0 m1 m2 m3 N l _ T2).mono ?_; rintro r w9 ⟨rfl, rfl⟩) | (refine (all80 tb m0 m1 m2 m3 N l _ T).mono ?_; rintro r w9 ⟨rfl, rfl⟩)) | (go_at_call 28; refine (HSEC.out _ T).mono ?_; rintro r w1 ⟨rfl, hb1⟩; have hbq := Lib.hid (bl_alloc hb1 (.cells #[.string es.key, .string es.text, .int .i64 es.n, .bool es.act] 72))) | (go_at_call 71; refine (isDay71 _ _).mono ?_; rintro r w9 ⟨rfl, rfl⟩))
    go_ret
    exact ⟨rfl, below_grown hbq.out _, (T.call hbq.out).mono⟩
  cases vb
  · suffices hs : Calls Tryz.prog 79 #[.pointer (some ⟨tb, 0, none⟩), .func (.func 80) #[] #[], .int .i64 e.day, .string e.key, .int .i64 e.n, .bool false] w fun r w' => r = .returned (.int .i64 2) ∧ w.grownBy w' (some m2) ∧ Tab w' tb m0 m1 m2 m3 (N + 1) l from hs
    go_enter Tryz.func79, Tryz.ntmps79
    go_wp2_with (first | (go_at_call 80; first | (refine (all80 tb m0 m1 m2 m3 N l _ T2).mono ?_; rintro r w9 ⟨rfl, rfl⟩) | (refine (all80 tb m0 m1 m2 m3 N l _ T).mono ?_; rintro r w9 ⟨rfl, rfl⟩)) | (go_at_call 28; refine (HSEC.out _ T).mono ?_; rintro r w1 ⟨rfl, hb1⟩; have hbq := Lib.hid (bl_alloc hb1 (.cells #[.string es.key, .string es.text, .int .i64 es.n, .bool es.act] 72))) | (go_at_call 71; refine (isDay71 _ _).mono ?_; rintro r w9 ⟨rfl, rfl⟩))
    go_ret
    exact ⟨rfl, below_grown hbq.out _, (T.call hbq.out).mono⟩
  cases hst : staleB (ser 2 l e.key) e.day
  · suffices hs : Calls Tryz.prog 79 #[.pointer (some ⟨tb, 0, none⟩), .func (.func 80) #[] #[], .int .i64 e.day, .string e.key, .int .i64 e.n, .bool true] w fun r w' => r = .returned (.int .i64 0) ∧ w.grownBy w' (some m2) ∧ Tab w' tb m0 m1 m2 m3 (N + 1) (setL l e) from hs
    go_enter Tryz.func79, Tryz.ntmps79
    go_wp2_with (first | (go_at_call 80; first | (refine (all80 tb m0 m1 m2 m3 N l _ T2).mono ?_; rintro r w9 ⟨rfl, rfl⟩) | (refine (all80 tb m0 m1 m2 m3 N l _ T).mono ?_; rintro r w9 ⟨rfl, rfl⟩)) | (go_at_call 28; refine (HSEC.out _ T).mono ?_; rintro r w1 ⟨rfl, hb1⟩; have hbq := Lib.hid (bl_alloc hb1 (.cells #[.string es.key, .string es.text, .int .i64 es.n, .bool es.act] 72))) | (go_at_call 71; refine (isDay71 _ _).mono ?_; rintro r w9 ⟨rfl, rfl⟩) | (go_at_call 102; refine (HSTL.out _ (HSL.out.call hbq.out)).mono ?_; rintro r w2 ⟨rfl, hb2⟩; have hbl2 := bl_then hbq.out hb2; have T2 := T.call hbl2) | (go_at_call 103; refine (HWI.out _ (HSL.out.call hbl2)).mono ?_; rintro r w3 ⟨⟨A', c', rfl, g1, g2, g3⟩, hb3⟩; have T9 := T2.call hb3; obtain ⟨f9, hm9, hr9⟩ := T9.pri; obtain ⟨w10, hrun, hm10, hg10, hs10⟩ := hm9.update Tryz.underlying122 hk (.slice A' (withE (ser 2 l e.key) e).length c')))
    go_ret
    have hset := Map1.set (w := w3) (w' := w10) (e := e) (sz := 2) (row := rowP) f9 (by rw [he]; exact hr9) hi (by rw [he]; exact hst) (by rw [he]; exact g1) g2 (by rw [he]; exact g3) (sl_turn hm9 hg10 (by omega)) (by rw [he]; exact hm10)
    rw [he] at hset
    exact ⟨rfl, grown_then (bl_then hbl2 hb3) hg10, ⟨blk_turn hm9 hg10 T9.blk, T9.mem.set_other (by rw [he]; decide) (sl_turn hm9 hg10 (by omega)) (fun f h => mapB_turn hg10 (T9.ne02) h), T9.sec.set_other (by rw [he]; decide) (sl_turn hm9 hg10 (by omega)) (fun f h => mapB_turn hg10 (T9.ne12) h), hset, T9.hair.set_other (by rw [he]; decide) (sl_turn hm9 hg10 (by omega)) (fun f h => mapB_turn hg10 (Ne.symm T9.ne23) h), T9.ne01, T9.ne02, T9.ne03, T9.ne12, T9.ne13, T9.ne23⟩⟩
  · suffices hs : Calls Tryz.prog 79 #[.pointer (some ⟨tb, 0, none⟩), .func (.func 80) #[] #[], .int .i64 e.day, .string e.key, .int .i64 e.n, .bool true] w fun r w' => r = .returned (.int .i64 20) ∧ w.grownBy w' (some m2) ∧ Tab w' tb m0 m1 m2 m3 (N + 1) l from hs
    go_enter Tryz.func79, Tryz.ntmps79
    go_wp2_with (first | (go_at_call 80; first | (refine (all80 tb m0 m1 m2 m3 N l _ T2).mono ?_; rintro r w9 ⟨rfl, rfl⟩) | (refine (all80 tb m0 m1 m2 m3 N l _ T).mono ?_; rintro r w9 ⟨rfl, rfl⟩)) | (go_at_call 28; refine (HSEC.out _ T).mono ?_; rintro r w1 ⟨rfl, hb1⟩; have hbq := Lib.hid (bl_alloc hb1 (.cells #[.string es.key, .string es.text, .int .i64 es.n, .bool es.act] 72))) | (go_at_call 71; refine (isDay71 _ _).mono ?_; rintro r w9 ⟨rfl, rfl⟩) | (go_at_call 102; refine (HSTL.out _ (HSL.out.call hbq.out)).mono ?_; rintro r w2 ⟨rfl, hb2⟩; have hbl2 := bl_then hbq.out hb2; have T2 := T.call hbl2))
    go_ret
    exact ⟨rfl, below_grown hbl2 _, (T.call hbl2).mono⟩
end Go.Proofs.YtongoicadcmfaaaGreatDoor.V
