/- giroref21.subject, kind by kind. (Printed by gen_subj.py.) -/
import Derived.Test.YtongoicadcmfaaaGreatDoorVLast
import Derived.Test.YtongoicadcmfaaaGreatDoorVSetS
import Derived.Test.YtongoicadcmfaaaGreatDoorVSetQ
set_option linter.unusedSimpArgs false
set_option linter.unusedVariables false
namespace Go.Proofs.YtongoicadcmfaaaGreatDoor.V
open Go.RowKit

noncomputable def subj0 (e : E) : Int := bif !okB 1 e.key then 6 else bif nonE e.text && !okB 3 e.text then 3 else 0
noncomputable def subj1 (l : List E) (e : E) : Int := bif !okB 0 e.key then 6 else bif !(atE l 0 e.day e.text).isSome then 9 else bif !lotB e.n then 2 else 0
def subj2 (l : List E) (e : E) : Int := bif !(atE l 1 e.day e.key).isSome then 9 else bif !prB e.n then 2 else 0
def subj3 (l : List E) (e : E) : Int := bif !(atE l 1 e.day e.key).isSome then 9 else bif !haB e then 2 else 0

set_option maxRecDepth 20000 in
set_option maxHeartbeats 4000000 in
theorem subject95_0 (A : Option Addr) (l : List E) (c : Nat) (e : E) (he : e.kind = 0) (w : World) (h : SlE w A l) (hl : l.length ≤ c) (hc : c ≤ 9223372036854775807) (hk : e.key.size ≤ 9223372036854775807) (ht : e.text.size ≤ 9223372036854775807) :
    Calls Tryz.prog 95 #[.slice A l.length c, e.val] w fun r w' => r = .returned (.int .i64 (subj0 e)) ∧ Below w.heap.size w w' := by
  have bx0 := Blk.new w 31 #[.int .i64 0, .int .i64 e.day, .string e.key, .string e.text, .int .i64 e.n, .int .i64 e.num, .int .i64 e.den, .bool e.act]
  have hb0 := bl1 w (.cells #[.int .i64 0, .int .i64 e.day, .string e.key, .string e.text, .int .i64 e.n, .int .i64 e.num, .int .i64 e.den, .bool e.act] 31)
  have h0 := Lib.hid (h.call hb0)
  have hat := fun (W : World) (H : SlE W A l) (k d : Int) (key : ByteArray) => at_any A l c k d key W H hl hc
  have HAT := Lib.hid hat
  unfold E.val
  rw [he]
  generalize l.length = n at *
  clear h hat
  have cc0 := Blk.get8 bx0
  unfold subj0
  cases hk1 : okB 1 e.key
  · suffices hs : Calls Tryz.prog 95 #[.slice A n c, .agg #[.int .i64 0, .int .i64 e.day, .string e.key, .string e.text, .int .i64 e.n, .int .i64 e.num, .int .i64 e.den, .bool e.act]] w fun r w' => r = .returned (.int .i64 6) ∧ Below w.heap.size w w' from hs
    go_enter Tryz.func95, Tryz.ntmps95
    go_wp2_with (first | (go_at_call 114; refine (valid114 _ (by decide) _ (by assumption) (okB _ _) (okB_iff _ _) _).mono ?_; first | (rintro r w2 ⟨rfl, hb2⟩; have bx2 := bx1.call hb2; have cc2 := Blk.get8 bx2; have hbl2 := bl_then hbl1 hb2; have h2 := Lib.hid (h1.out.call hb2)) | (rintro r w1 ⟨rfl, hb1⟩; have bx1 := bx0.call hb1; have cc1 := Blk.get8 bx1; have hbl1 := bl_then hb0 hb1; have h1 := Lib.hid (h0.out.call hb1))))
    go_ret
    exact ⟨rfl, hbl1⟩
  · cases htx : nonE e.text
    · have hnl := nil_toList
      have htx2 := (nonE_eq _ _ htx).1
      have htx3 := (nonE_eq _ _ htx).2
      suffices hs : Calls Tryz.prog 95 #[.slice A n c, .agg #[.int .i64 0, .int .i64 e.day, .string e.key, .string e.text, .int .i64 e.n, .int .i64 e.num, .int .i64 e.den, .bool e.act]] w fun r w' => r = .returned (.int .i64 0) ∧ Below w.heap.size w w' from hs
      go_enter Tryz.func95, Tryz.ntmps95
      go_wp2_with (first | (go_at_call 114; refine (valid114 _ (by decide) _ (by assumption) (okB _ _) (okB_iff _ _) _).mono ?_; first | (rintro r w2 ⟨rfl, hb2⟩; have bx2 := bx1.call hb2; have cc2 := Blk.get8 bx2; have hbl2 := bl_then hbl1 hb2; have h2 := Lib.hid (h1.out.call hb2)) | (rintro r w1 ⟨rfl, hb1⟩; have bx1 := bx0.call hb1; have cc1 := Blk.get8 bx1; have hbl1 := bl_then hb0 hb1; have h1 := Lib.hid (h0.out.call hb1))))
      go_ret
      exact ⟨rfl, hbl1⟩
    · cases hk3 : okB 3 e.text
      · have hnl := nil_toList
        have htx2 := (nonE_eq _ _ htx).1
        have htx3 := (nonE_eq _ _ htx).2
        suffices hs : Calls Tryz.prog 95 #[.slice A n c, .agg #[.int .i64 0, .int .i64 e.day, .string e.key, .string e.text, .int .i64 e.n, .int .i64 e.num, .int .i64 e.den, .bool e.act]] w fun r w' => r = .returned (.int .i64 3) ∧ Below w.heap.size w w' from hs
        go_enter Tryz.func95, Tryz.ntmps95
        go_wp2_with (first | (go_at_call 114; refine (valid114 _ (by decide) _ (by assumption) (okB _ _) (okB_iff _ _) _).mono ?_; first | (rintro r w2 ⟨rfl, hb2⟩; have bx2 := bx1.call hb2; have cc2 := Blk.get8 bx2; have hbl2 := bl_then hbl1 hb2; have h2 := Lib.hid (h1.out.call hb2)) | (rintro r w1 ⟨rfl, hb1⟩; have bx1 := bx0.call hb1; have cc1 := Blk.get8 bx1; have hbl1 := bl_then hb0 hb1; have h1 := Lib.hid (h0.out.call hb1))))
        go_ret
        exact ⟨rfl, hbl2⟩
      · have hnl := nil_toList
        have htx2 := (nonE_eq _ _ htx).1
        have htx3 := (nonE_eq _ _ htx).2
        suffices hs : Calls Tryz.prog 95 #[.slice A n c, .agg #[.int .i64 0, .int .i64 e.day, .string e.key, .string e.text, .int .i64 e.n, .int .i64 e.num, .int .i64 e.den, .bool e.act]] w fun r w' => r = .returned (.int .i64 0) ∧ Below w.heap.size w w' from hs
        go_enter Tryz.func95, Tryz.ntmps95
        go_wp2_with (first | (go_at_call 114; refine (valid114 _ (by decide) _ (by assumption) (okB _ _) (okB_iff _ _) _).mono ?_; first | (rintro r w2 ⟨rfl, hb2⟩; have bx2 := bx1.call hb2; have cc2 := Blk.get8 bx2; have hbl2 := bl_then hbl1 hb2; have h2 := Lib.hid (h1.out.call hb2)) | (rintro r w1 ⟨rfl, hb1⟩; have bx1 := bx0.call hb1; have cc1 := Blk.get8 bx1; have hbl1 := bl_then hb0 hb1; have h1 := Lib.hid (h0.out.call hb1))))
        go_ret
        exact ⟨rfl, hbl2⟩

set_option maxRecDepth 20000 in
set_option maxHeartbeats 4000000 in
theorem subject95_1 (A : Option Addr) (l : List E) (c : Nat) (e : E) (he : e.kind = 1) (w : World) (h : SlE w A l) (hl : l.length ≤ c) (hc : c ≤ 9223372036854775807) (hk : e.key.size ≤ 9223372036854775807) (ht : e.text.size ≤ 9223372036854775807) :
    Calls Tryz.prog 95 #[.slice A l.length c, e.val] w fun r w' => r = .returned (.int .i64 (subj1 l e)) ∧ Below w.heap.size w w' := by
  have bx0 := Blk.new w 31 #[.int .i64 1, .int .i64 e.day, .string e.key, .string e.text, .int .i64 e.n, .int .i64 e.num, .int .i64 e.den, .bool e.act]
  have hb0 := bl1 w (.cells #[.int .i64 1, .int .i64 e.day, .string e.key, .string e.text, .int .i64 e.n, .int .i64 e.num, .int .i64 e.den, .bool e.act] 31)
  have h0 := Lib.hid (h.call hb0)
  have hat := fun (W : World) (H : SlE W A l) (k d : Int) (key : ByteArray) => at_any A l c k d key W H hl hc
  have HAT := Lib.hid hat
  unfold E.val
  rw [he]
  generalize l.length = n at *
  clear h hat
  have cc0 := Blk.get8 bx0
  unfold subj1
  generalize hg : atE l 0 e.day e.text = o at *
  have hat2 : ∀ W, SlE W A l → Calls Tryz.prog 37 #[.slice A n c, .int .i64 0, .int .i64 e.day, .string e.text] W fun r w' => r = .returned (.tuple #[(o.getD E.zero).val, .bool o.isSome]) ∧ Below W.heap.size W w' := fun W H => hg ▸ HAT.out W H 0 e.day e.text
  generalize o.getD E.zero = x at *
  unfold E.val at hat2
  have HAT2 := Lib.hid hat2
  clear hat2
  cases hk1 : okB 0 e.key
  · suffices hs : Calls Tryz.prog 95 #[.slice A n c, .agg #[.int .i64 1, .int .i64 e.day, .string e.key, .string e.text, .int .i64 e.n, .int .i64 e.num, .int .i64 e.den, .bool e.act]] w fun r w' => r = .returned (.int .i64 6) ∧ Below w.heap.size w w' from hs
    go_enter Tryz.func95, Tryz.ntmps95
    go_wp2_with (first | (go_at_call 114; refine (valid114 _ (by decide) _ (by assumption) (okB _ _) (okB_iff _ _) _).mono ?_; first | (rintro r w2 ⟨rfl, hb2⟩; have bx2 := bx1.call hb2; have cc2 := Blk.get8 bx2; have hbl2 := bl_then hbl1 hb2; have h2 := Lib.hid (h1.out.call hb2)) | (rintro r w1 ⟨rfl, hb1⟩; have bx1 := bx0.call hb1; have cc1 := Blk.get8 bx1; have hbl1 := bl_then hb0 hb1; have h1 := Lib.hid (h0.out.call hb1))))
    go_ret
    exact ⟨rfl, hbl1⟩
  · cases hs : o.isSome <;> rw [hs] at HAT2
    · suffices hs : Calls Tryz.prog 95 #[.slice A n c, .agg #[.int .i64 1, .int .i64 e.day, .string e.key, .string e.text, .int .i64 e.n, .int .i64 e.num, .int .i64 e.den, .bool e.act]] w fun r w' => r = .returned (.int .i64 9) ∧ Below w.heap.size w w' from hs
      go_enter Tryz.func95, Tryz.ntmps95
      go_wp2_with (first | (go_at_call 114; refine (valid114 _ (by decide) _ (by assumption) (okB _ _) (okB_iff _ _) _).mono ?_; first | (rintro r w2 ⟨rfl, hb2⟩; have bx2 := bx1.call hb2; have cc2 := Blk.get8 bx2; have hbl2 := bl_then hbl1 hb2; have h2 := Lib.hid (h1.out.call hb2)) | (rintro r w1 ⟨rfl, hb1⟩; have bx1 := bx0.call hb1; have cc1 := Blk.get8 bx1; have hbl1 := bl_then hb0 hb1; have h1 := Lib.hid (h0.out.call hb1))) | (go_at_call 37; refine (HAT2.out _ h1.out).mono ?_; rintro r w2 ⟨rfl, hb2⟩; have bx2 := bx1.call hb2; have cc2 := Blk.get8 bx2; have hbl2 := bl_then hbl1 hb2; have h2 := Lib.hid (h1.out.call hb2); have ca2 := fun o => Blk.get8 (bx2.alloc o)))
      go_ret
      refine ⟨rfl, ?_⟩
      repeat (refine bl_set ?_ (by simp) _)
      exact bl_alloc hbl2 _
    · cases hlo : lotB e.n
      · rcases lot_cases e.n hlo with h1 | ⟨h1, h2⟩
        · have d1 : decide (e.n < 1) = true := decide_eq_true h1
          suffices hs : Calls Tryz.prog 95 #[.slice A n c, .agg #[.int .i64 1, .int .i64 e.day, .string e.key, .string e.text, .int .i64 e.n, .int .i64 e.num, .int .i64 e.den, .bool e.act]] w fun r w' => r = .returned (.int .i64 2) ∧ Below w.heap.size w w' from hs
          go_enter Tryz.func95, Tryz.ntmps95
          go_wp2_with (first | (go_at_call 114; refine (valid114 _ (by decide) _ (by assumption) (okB _ _) (okB_iff _ _) _).mono ?_; first | (rintro r w2 ⟨rfl, hb2⟩; have bx2 := bx1.call hb2; have cc2 := Blk.get8 bx2; have hbl2 := bl_then hbl1 hb2; have h2 := Lib.hid (h1.out.call hb2)) | (rintro r w1 ⟨rfl, hb1⟩; have bx1 := bx0.call hb1; have cc1 := Blk.get8 bx1; have hbl1 := bl_then hb0 hb1; have h1 := Lib.hid (h0.out.call hb1))) | (go_at_call 37; refine (HAT2.out _ h1.out).mono ?_; rintro r w2 ⟨rfl, hb2⟩; have bx2 := bx1.call hb2; have cc2 := Blk.get8 bx2; have hbl2 := bl_then hbl1 hb2; have h2 := Lib.hid (h1.out.call hb2); have ca2 := fun o => Blk.get8 (bx2.alloc o)))
          go_ret
          refine ⟨rfl, ?_⟩
          repeat (refine bl_set ?_ (by simp) _)
          exact bl_alloc hbl2 _
        · have d1 : decide (e.n < 1) = false := decide_eq_false (by omega)
          have d2 : decide (1000000000000000 < e.n) = true := decide_eq_true h2
          suffices hs : Calls Tryz.prog 95 #[.slice A n c, .agg #[.int .i64 1, .int .i64 e.day, .string e.key, .string e.text, .int .i64 e.n, .int .i64 e.num, .int .i64 e.den, .bool e.act]] w fun r w' => r = .returned (.int .i64 2) ∧ Below w.heap.size w w' from hs
          go_enter Tryz.func95, Tryz.ntmps95
          go_wp2_with (first | (go_at_call 114; refine (valid114 _ (by decide) _ (by assumption) (okB _ _) (okB_iff _ _) _).mono ?_; first | (rintro r w2 ⟨rfl, hb2⟩; have bx2 := bx1.call hb2; have cc2 := Blk.get8 bx2; have hbl2 := bl_then hbl1 hb2; have h2 := Lib.hid (h1.out.call hb2)) | (rintro r w1 ⟨rfl, hb1⟩; have bx1 := bx0.call hb1; have cc1 := Blk.get8 bx1; have hbl1 := bl_then hb0 hb1; have h1 := Lib.hid (h0.out.call hb1))) | (go_at_call 37; refine (HAT2.out _ h1.out).mono ?_; rintro r w2 ⟨rfl, hb2⟩; have bx2 := bx1.call hb2; have cc2 := Blk.get8 bx2; have hbl2 := bl_then hbl1 hb2; have h2 := Lib.hid (h1.out.call hb2); have ca2 := fun o => Blk.get8 (bx2.alloc o)))
          go_ret
          refine ⟨rfl, ?_⟩
          repeat (refine bl_set ?_ (by simp) _)
          exact bl_alloc hbl2 _
      · obtain ⟨h1, h2⟩ : 1 ≤ e.n ∧ e.n ≤ 1000000000000000 := by unfold lotB at hlo; simpa using hlo
        have d1 : decide (e.n < 1) = false := decide_eq_false (by omega)
        have d2 : decide (1000000000000000 < e.n) = false := decide_eq_false (by omega)
        suffices hs : Calls Tryz.prog 95 #[.slice A n c, .agg #[.int .i64 1, .int .i64 e.day, .string e.key, .string e.text, .int .i64 e.n, .int .i64 e.num, .int .i64 e.den, .bool e.act]] w fun r w' => r = .returned (.int .i64 0) ∧ Below w.heap.size w w' from hs
        go_enter Tryz.func95, Tryz.ntmps95
        go_wp2_with (first | (go_at_call 114; refine (valid114 _ (by decide) _ (by assumption) (okB _ _) (okB_iff _ _) _).mono ?_; first | (rintro r w2 ⟨rfl, hb2⟩; have bx2 := bx1.call hb2; have cc2 := Blk.get8 bx2; have hbl2 := bl_then hbl1 hb2; have h2 := Lib.hid (h1.out.call hb2)) | (rintro r w1 ⟨rfl, hb1⟩; have bx1 := bx0.call hb1; have cc1 := Blk.get8 bx1; have hbl1 := bl_then hb0 hb1; have h1 := Lib.hid (h0.out.call hb1))) | (go_at_call 37; refine (HAT2.out _ h1.out).mono ?_; rintro r w2 ⟨rfl, hb2⟩; have bx2 := bx1.call hb2; have cc2 := Blk.get8 bx2; have hbl2 := bl_then hbl1 hb2; have h2 := Lib.hid (h1.out.call hb2); have ca2 := fun o => Blk.get8 (bx2.alloc o)))
        go_ret
        refine ⟨rfl, ?_⟩
        repeat (refine bl_set ?_ (by simp) _)
        exact bl_alloc hbl2 _

set_option maxRecDepth 20000 in
set_option maxHeartbeats 4000000 in
theorem subject95_2 (A : Option Addr) (l : List E) (c : Nat) (e : E) (he : e.kind = 2) (w : World) (h : SlE w A l) (hl : l.length ≤ c) (hc : c ≤ 9223372036854775807) (hk : e.key.size ≤ 9223372036854775807) (ht : e.text.size ≤ 9223372036854775807) :
    Calls Tryz.prog 95 #[.slice A l.length c, e.val] w fun r w' => r = .returned (.int .i64 (subj2 l e)) ∧ Below w.heap.size w w' := by
  have bx0 := Blk.new w 31 #[.int .i64 2, .int .i64 e.day, .string e.key, .string e.text, .int .i64 e.n, .int .i64 e.num, .int .i64 e.den, .bool e.act]
  have hb0 := bl1 w (.cells #[.int .i64 2, .int .i64 e.day, .string e.key, .string e.text, .int .i64 e.n, .int .i64 e.num, .int .i64 e.den, .bool e.act] 31)
  have h0 := Lib.hid (h.call hb0)
  have hat := fun (W : World) (H : SlE W A l) (k d : Int) (key : ByteArray) => at_any A l c k d key W H hl hc
  have HAT := Lib.hid hat
  unfold E.val
  rw [he]
  generalize l.length = n at *
  clear h hat
  have cc0 := Blk.get8 bx0
  unfold subj2
  generalize hg : atE l 1 e.day e.key = o at *
  have hat2 : ∀ W, SlE W A l → Calls Tryz.prog 37 #[.slice A n c, .int .i64 1, .int .i64 e.day, .string e.key] W fun r w' => r = .returned (.tuple #[(o.getD E.zero).val, .bool o.isSome]) ∧ Below W.heap.size W w' := fun W H => hg ▸ HAT.out W H 1 e.day e.key
  generalize o.getD E.zero = x at *
  unfold E.val at hat2
  have HAT2 := Lib.hid hat2
  clear hat2
  cases hs : o.isSome <;> rw [hs] at HAT2
  · suffices hs : Calls Tryz.prog 95 #[.slice A n c, .agg #[.int .i64 2, .int .i64 e.day, .string e.key, .string e.text, .int .i64 e.n, .int .i64 e.num, .int .i64 e.den, .bool e.act]] w fun r w' => r = .returned (.int .i64 9) ∧ Below w.heap.size w w' from hs
    go_enter Tryz.func95, Tryz.ntmps95
    go_wp2_with (first | (go_at_call 37; refine (HAT2.out _ h0.out).mono ?_; rintro r w1 ⟨rfl, hb1⟩; have bx1 := bx0.call hb1; have cc1 := Blk.get8 bx1; have hbl1 := bl_then hb0 hb1; have h1 := Lib.hid (h0.out.call hb1); have ca1 := fun o => Blk.get8 (bx1.alloc o)))
    go_ret
    refine ⟨rfl, ?_⟩
    repeat (refine bl_set ?_ (by simp) _)
    exact bl_alloc hbl1 _
  · cases hlo : prB e.n
    · have hq : e.n < 1 ∨ (1 ≤ e.n ∧ 1000000000 < e.n) := by
        unfold prB at hlo
        rw [Bool.and_eq_false_iff, decide_eq_false_iff_not, decide_eq_false_iff_not] at hlo
        omega
      rcases hq with h1 | ⟨h1, h2⟩
      · have d1 : decide (e.n < 1) = true := decide_eq_true h1
        suffices hs : Calls Tryz.prog 95 #[.slice A n c, .agg #[.int .i64 2, .int .i64 e.day, .string e.key, .string e.text, .int .i64 e.n, .int .i64 e.num, .int .i64 e.den, .bool e.act]] w fun r w' => r = .returned (.int .i64 2) ∧ Below w.heap.size w w' from hs
        go_enter Tryz.func95, Tryz.ntmps95
        go_wp2_with (first | (go_at_call 37; refine (HAT2.out _ h0.out).mono ?_; rintro r w1 ⟨rfl, hb1⟩; have bx1 := bx0.call hb1; have cc1 := Blk.get8 bx1; have hbl1 := bl_then hb0 hb1; have h1 := Lib.hid (h0.out.call hb1); have ca1 := fun o => Blk.get8 (bx1.alloc o)))
        go_ret
        refine ⟨rfl, ?_⟩
        repeat (refine bl_set ?_ (by simp) _)
        exact bl_alloc hbl1 _
      · have d1 : decide (e.n < 1) = false := decide_eq_false (by omega)
        have d2 : decide (1000000000 < e.n) = true := decide_eq_true h2
        suffices hs : Calls Tryz.prog 95 #[.slice A n c, .agg #[.int .i64 2, .int .i64 e.day, .string e.key, .string e.text, .int .i64 e.n, .int .i64 e.num, .int .i64 e.den, .bool e.act]] w fun r w' => r = .returned (.int .i64 2) ∧ Below w.heap.size w w' from hs
        go_enter Tryz.func95, Tryz.ntmps95
        go_wp2_with (first | (go_at_call 37; refine (HAT2.out _ h0.out).mono ?_; rintro r w1 ⟨rfl, hb1⟩; have bx1 := bx0.call hb1; have cc1 := Blk.get8 bx1; have hbl1 := bl_then hb0 hb1; have h1 := Lib.hid (h0.out.call hb1); have ca1 := fun o => Blk.get8 (bx1.alloc o)))
        go_ret
        refine ⟨rfl, ?_⟩
        repeat (refine bl_set ?_ (by simp) _)
        exact bl_alloc hbl1 _
    · obtain ⟨h1, h2⟩ : 1 ≤ e.n ∧ e.n ≤ 1000000000 := by unfold prB at hlo; simpa using hlo
      have d1 : decide (e.n < 1) = false := decide_eq_false (by omega)
      have d2 : decide (1000000000 < e.n) = false := decide_eq_false (by omega)
      suffices hs : Calls Tryz.prog 95 #[.slice A n c, .agg #[.int .i64 2, .int .i64 e.day, .string e.key, .string e.text, .int .i64 e.n, .int .i64 e.num, .int .i64 e.den, .bool e.act]] w fun r w' => r = .returned (.int .i64 0) ∧ Below w.heap.size w w' from hs
      go_enter Tryz.func95, Tryz.ntmps95
      go_wp2_with (first | (go_at_call 37; refine (HAT2.out _ h0.out).mono ?_; rintro r w1 ⟨rfl, hb1⟩; have bx1 := bx0.call hb1; have cc1 := Blk.get8 bx1; have hbl1 := bl_then hb0 hb1; have h1 := Lib.hid (h0.out.call hb1); have ca1 := fun o => Blk.get8 (bx1.alloc o)))
      go_ret
      refine ⟨rfl, ?_⟩
      repeat (refine bl_set ?_ (by simp) _)
      exact bl_alloc hbl1 _

set_option maxRecDepth 20000 in
set_option maxHeartbeats 4000000 in
theorem subject95_3 (A : Option Addr) (l : List E) (c : Nat) (e : E) (he : e.kind = 3) (w : World) (h : SlE w A l) (hl : l.length ≤ c) (hc : c ≤ 9223372036854775807) (hk : e.key.size ≤ 9223372036854775807) (ht : e.text.size ≤ 9223372036854775807)
    (r0 : -9223372036854775808 ≤ e.num) (r1 : e.num ≤ 9223372036854775807) (q0 : -9223372036854775808 ≤ e.den) (q1 : e.den ≤ 9223372036854775807) :
    Calls Tryz.prog 95 #[.slice A l.length c, e.val] w fun r w' => r = .returned (.int .i64 (subj3 l e)) ∧ Below w.heap.size w w' := by
  have bx0 := Blk.new w 31 #[.int .i64 3, .int .i64 e.day, .string e.key, .string e.text, .int .i64 e.n, .int .i64 e.num, .int .i64 e.den, .bool e.act]
  have hb0 := bl1 w (.cells #[.int .i64 3, .int .i64 e.day, .string e.key, .string e.text, .int .i64 e.n, .int .i64 e.num, .int .i64 e.den, .bool e.act] 31)
  have h0 := Lib.hid (h.call hb0)
  have hat := fun (W : World) (H : SlE W A l) (k d : Int) (key : ByteArray) => at_any A l c k d key W H hl hc
  have HAT := Lib.hid hat
  unfold E.val
  rw [he]
  generalize l.length = n at *
  clear h hat
  have cc0 := Blk.get8 bx0
  unfold subj3
  generalize hg : atE l 1 e.day e.key = o at *
  have hat2 : ∀ W, SlE W A l → Calls Tryz.prog 37 #[.slice A n c, .int .i64 1, .int .i64 e.day, .string e.key] W fun r w' => r = .returned (.tuple #[(o.getD E.zero).val, .bool o.isSome]) ∧ Below W.heap.size W w' := fun W H => hg ▸ HAT.out W H 1 e.day e.key
  generalize o.getD E.zero = x at *
  unfold E.val at hat2
  have HAT2 := Lib.hid hat2
  clear hat2
  have hck := fun w => check93 e.num e.den w r0 r1 q0 q1
  generalize hfc : fchk e.num e.den = fc at *
  have HC := Lib.hid hck
  clear hck
  cases hs : o.isSome <;> rw [hs] at HAT2
  · suffices hs : Calls Tryz.prog 95 #[.slice A n c, .agg #[.int .i64 3, .int .i64 e.day, .string e.key, .string e.text, .int .i64 e.n, .int .i64 e.num, .int .i64 e.den, .bool e.act]] w fun r w' => r = .returned (.int .i64 9) ∧ Below w.heap.size w w' from hs
    go_enter Tryz.func95, Tryz.ntmps95
    go_wp2_with (first | (go_at_call 37; refine (HAT2.out _ h0.out).mono ?_; rintro r w1 ⟨rfl, hb1⟩; have bx1 := bx0.call hb1; have cc1 := Blk.get8 bx1; have hbl1 := bl_then hb0 hb1; have h1 := Lib.hid (h0.out.call hb1); have ca1 := fun o => Blk.get8 (bx1.alloc o)))
    go_ret
    refine ⟨rfl, ?_⟩
    repeat (refine bl_set ?_ (by simp) _)
    exact bl_alloc hbl1 _
  · unfold haB
    rw [hfc]
    cases c1 : (fc == 0)
    · have c0 : (fc != 0) = true := by simp [bne, c1]
      suffices hs : Calls Tryz.prog 95 #[.slice A n c, .agg #[.int .i64 3, .int .i64 e.day, .string e.key, .string e.text, .int .i64 e.n, .int .i64 e.num, .int .i64 e.den, .bool e.act]] w fun r w' => r = .returned (.int .i64 2) ∧ Below w.heap.size w w' from hs
      go_enter Tryz.func95, Tryz.ntmps95
      go_wp2_with (first | (go_at_call 37; refine (HAT2.out _ h0.out).mono ?_; rintro r w1 ⟨rfl, hb1⟩; have bx1 := bx0.call hb1; have cc1 := Blk.get8 bx1; have hbl1 := bl_then hb0 hb1; have h1 := Lib.hid (h0.out.call hb1); have ca1 := fun o => Blk.get8 (bx1.alloc o)) | (go_at_call 93; refine (HC.out _).mono ?_; rintro r w2 ⟨rfl, hb2⟩; have al1 : Below w.heap.size w (w1.alloc (.cells #[.int .i64 x.kind, .int .i64 x.day, .string x.key, .string x.text, .int .i64 x.n, .int .i64 x.num, .int .i64 x.den, .bool x.act] 31)) := bl_alloc hbl1 _; have bx2 := (bx1.alloc (.cells #[.int .i64 x.kind, .int .i64 x.day, .string x.key, .string x.text, .int .i64 x.n, .int .i64 x.num, .int .i64 x.den, .bool x.act] 31)).call hb2; have cc2 := Blk.get8 bx2; have hbl2 := bl_then al1 hb2))
      go_ret
      exact ⟨rfl, hbl2⟩
    · cases c2 : decide (0 ≤ e.num)
      · have c0 : (fc != 0) = false := by simp [bne, c1]
        have d1 : decide (e.num < 0) = true := decide_eq_true (by have := of_decide_eq_false c2; omega)
        suffices hs : Calls Tryz.prog 95 #[.slice A n c, .agg #[.int .i64 3, .int .i64 e.day, .string e.key, .string e.text, .int .i64 e.n, .int .i64 e.num, .int .i64 e.den, .bool e.act]] w fun r w' => r = .returned (.int .i64 2) ∧ Below w.heap.size w w' from hs
        go_enter Tryz.func95, Tryz.ntmps95
        go_wp2_with (first | (go_at_call 37; refine (HAT2.out _ h0.out).mono ?_; rintro r w1 ⟨rfl, hb1⟩; have bx1 := bx0.call hb1; have cc1 := Blk.get8 bx1; have hbl1 := bl_then hb0 hb1; have h1 := Lib.hid (h0.out.call hb1); have ca1 := fun o => Blk.get8 (bx1.alloc o)) | (go_at_call 93; refine (HC.out _).mono ?_; rintro r w2 ⟨rfl, hb2⟩; have al1 : Below w.heap.size w (w1.alloc (.cells #[.int .i64 x.kind, .int .i64 x.day, .string x.key, .string x.text, .int .i64 x.n, .int .i64 x.num, .int .i64 x.den, .bool x.act] 31)) := bl_alloc hbl1 _; have bx2 := (bx1.alloc (.cells #[.int .i64 x.kind, .int .i64 x.day, .string x.key, .string x.text, .int .i64 x.n, .int .i64 x.num, .int .i64 x.den, .bool x.act] 31)).call hb2; have cc2 := Blk.get8 bx2; have hbl2 := bl_then al1 hb2))
        go_ret
        exact ⟨rfl, hbl2⟩
      · cases c3 : decide (e.num ≤ e.den)
        · have c0 : (fc != 0) = false := by simp [bne, c1]
          have d1 : decide (e.num < 0) = false := decide_eq_false (by have := of_decide_eq_true c2; omega)
          have d2 : decide (e.den < e.num) = true := decide_eq_true (by have := of_decide_eq_false c3; omega)
          suffices hs : Calls Tryz.prog 95 #[.slice A n c, .agg #[.int .i64 3, .int .i64 e.day, .string e.key, .string e.text, .int .i64 e.n, .int .i64 e.num, .int .i64 e.den, .bool e.act]] w fun r w' => r = .returned (.int .i64 2) ∧ Below w.heap.size w w' from hs
          go_enter Tryz.func95, Tryz.ntmps95
          go_wp2_with (first | (go_at_call 37; refine (HAT2.out _ h0.out).mono ?_; rintro r w1 ⟨rfl, hb1⟩; have bx1 := bx0.call hb1; have cc1 := Blk.get8 bx1; have hbl1 := bl_then hb0 hb1; have h1 := Lib.hid (h0.out.call hb1); have ca1 := fun o => Blk.get8 (bx1.alloc o)) | (go_at_call 93; refine (HC.out _).mono ?_; rintro r w2 ⟨rfl, hb2⟩; have al1 : Below w.heap.size w (w1.alloc (.cells #[.int .i64 x.kind, .int .i64 x.day, .string x.key, .string x.text, .int .i64 x.n, .int .i64 x.num, .int .i64 x.den, .bool x.act] 31)) := bl_alloc hbl1 _; have bx2 := (bx1.alloc (.cells #[.int .i64 x.kind, .int .i64 x.day, .string x.key, .string x.text, .int .i64 x.n, .int .i64 x.num, .int .i64 x.den, .bool x.act] 31)).call hb2; have cc2 := Blk.get8 bx2; have hbl2 := bl_then al1 hb2))
          go_ret
          exact ⟨rfl, hbl2⟩
        · have c0 : (fc != 0) = false := by simp [bne, c1]
          have d1 : decide (e.num < 0) = false := decide_eq_false (by have := of_decide_eq_true c2; omega)
          have d2 : decide (e.den < e.num) = false := decide_eq_false (by have := of_decide_eq_true c3; omega)
          suffices hs : Calls Tryz.prog 95 #[.slice A n c, .agg #[.int .i64 3, .int .i64 e.day, .string e.key, .string e.text, .int .i64 e.n, .int .i64 e.num, .int .i64 e.den, .bool e.act]] w fun r w' => r = .returned (.int .i64 0) ∧ Below w.heap.size w w' from hs
          go_enter Tryz.func95, Tryz.ntmps95
          go_wp2_with (first | (go_at_call 37; refine (HAT2.out _ h0.out).mono ?_; rintro r w1 ⟨rfl, hb1⟩; have bx1 := bx0.call hb1; have cc1 := Blk.get8 bx1; have hbl1 := bl_then hb0 hb1; have h1 := Lib.hid (h0.out.call hb1); have ca1 := fun o => Blk.get8 (bx1.alloc o)) | (go_at_call 93; refine (HC.out _).mono ?_; rintro r w2 ⟨rfl, hb2⟩; have al1 : Below w.heap.size w (w1.alloc (.cells #[.int .i64 x.kind, .int .i64 x.day, .string x.key, .string x.text, .int .i64 x.n, .int .i64 x.num, .int .i64 x.den, .bool x.act] 31)) := bl_alloc hbl1 _; have bx2 := (bx1.alloc (.cells #[.int .i64 x.kind, .int .i64 x.day, .string x.key, .string x.text, .int .i64 x.n, .int .i64 x.num, .int .i64 x.den, .bool x.act] 31)).call hb2; have cc2 := Blk.get8 bx2; have hbl2 := bl_then al1 hb2))
          go_ret
          exact ⟨rfl, hbl2⟩
end Go.Proofs.YtongoicadcmfaaaGreatDoor.V
