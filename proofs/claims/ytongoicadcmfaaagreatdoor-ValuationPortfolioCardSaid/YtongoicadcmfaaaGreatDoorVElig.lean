/- valuation.(*Valuer).Eligible. (Printed by gen_elig.py.) -/
import Derived.Test.YtongoicadcmfaaaGreatDoorVPrice
import Derived.LoopN
set_option linter.unusedSimpArgs false
set_option linter.unusedVariables false
namespace Go.Proofs.YtongoicadcmfaaaGreatDoor.V
open Go.RowKit

theorem second_blk (w : World) (t : TypeId) (cs : Array Value) (o : Obj) : Blk ((w.drew.alloc o).alloc (.cells cs t)) (w.heap.size + 1) t cs := by simpa using Blk.new (w.drew.alloc o) t cs
theorem prE_two (o : Option E) (d : Int) : prE o d = bif (prE o d == 0) then 0 else 20 := by
  unfold prE
  cases prB2 o d <;> rfl

set_option maxRecDepth 20000 in
set_option maxHeartbeats 16000000 in
theorem elig10 (vb tb m0 m1 m2 m3 N : Nat) (l : List E) (d : Int) (mem isin : ByteArray) (w : World) (V : Val w vb tb m0 m1 m2 m3 N l d) (hi : Inv l) (hg : Good l) (hkm : mem.size ≤ maxLen) (hk : isin.size ≤ maxLen) :
    Calls Tryz.prog 10 #[.pointer (some ⟨vb, 0, none⟩), .string mem, .string isin] w fun r w' => r = .returned (.int .i64 (elig l d mem isin)) ∧ Below w.heap.size w w' := by
  have hmf : ∀ (fn : Fn) (first cap : Array Value) (w : World), (Instr.makeFunc fn first cap).run Tryz.prog w = .ok (.func fn first cap) w := fun _ _ _ _ => rfl
  have hbw : Below w.heap.size w (((w.alloc (.cells #[.pointer (some ⟨vb, 0, none⟩)] 23)).alloc (.cells #[.string mem] 9)).alloc (.cells #[.string isin] 9)) := bl_alloc (bl_alloc (bl1 w _) _) _
  have V0 := V.call hbw
  have c3 : (((w.alloc (.cells #[.pointer (some ⟨vb, 0, none⟩)] 23)).alloc (.cells #[.string mem] 9)).alloc (.cells #[.string isin] 9)).cell? ⟨w.heap.size, 0, none⟩ = some (.pointer (some ⟨vb, 0, none⟩)) := (((Blk.new w 23 #[.pointer (some ⟨vb, 0, none⟩)]).alloc _).alloc _).cell 0
  have c4 : (((w.alloc (.cells #[.pointer (some ⟨vb, 0, none⟩)] 23)).alloc (.cells #[.string mem] 9)).alloc (.cells #[.string isin] 9)).cell? ⟨w.heap.size + 1, 0, none⟩ = some (.string mem) := ((Blk.new1 w _ 9 #[.string mem]).alloc _).cell 0
  have c5 : (((w.alloc (.cells #[.pointer (some ⟨vb, 0, none⟩)] 23)).alloc (.cells #[.string mem] 9)).alloc (.cells #[.string isin] 9)).cell? ⟨w.heap.size + 2, 0, none⟩ = some (.string isin) := (Blk.new2 w _ _ 9 #[.string isin]).cell 0
  obtain ⟨p3, hp3⟩ : ∃ p, w.heap.size = p := ⟨_, rfl⟩
  obtain ⟨p4, hp4⟩ : ∃ p, p3 + 1 = p := ⟨_, rfl⟩
  obtain ⟨p5, hp5⟩ : ∃ p, p4 + 1 = p := ⟨_, rfl⟩
  rw [hp3] at c3
  rw [hp3, hp4] at c4
  have hp52 : p3 + 2 = p5 := by omega
  rw [hp3, hp52] at c5
  clear hp52
  obtain ⟨w0, hw0⟩ : ∃ W, ((w.alloc (.cells #[.pointer (some ⟨vb, 0, none⟩)] 23)).alloc (.cells #[.string mem] 9)).alloc (.cells #[.string isin] 9) = W := ⟨_, rfl⟩
  rw [hw0] at c3 c4 c5 V0 hbw
  have hsec := fun W T => security28 tb m0 m1 m2 m3 N l d isin W T hi hk
  have h29 := fun (W : World) (hb : Below w0.heap.size w0 W) => cond29 vb tb m0 m1 m2 m3 N l d mem p3 p4 W (V0.call hb) hi hkm (cell_call c3 hb) (cell_call c4 hb)
  have h33 := fun (W : World) (hb : Below w0.heap.size w0 W) => cond33 vb tb m0 m1 m2 m3 N l d isin p3 p5 W (V0.call hb) hi hk (cell_call c3 hb) (cell_call c5 hb)
  have h35 := fun (W : World) (hb : Below w0.heap.size w0 W) => cond35 vb tb m0 m1 m2 m3 N l d isin p3 p5 W (V0.call hb) hi hg hk (cell_call c3 hb) (cell_call c5 hb)
  have hpe := prE_two (atE l 2 d isin) d
  have h4' := fun (W : World) (hb : Below w0.heap.size w0 W) => cell_call c4 hb
  unfold elig eligO
  generalize (atE l 0 d mem).isSome = b0 at *
  generalize (atE l 1 d isin).getD E.zero = x at *
  generalize (atE l 1 d isin).isSome = b1 at *
  generalize (atE l 3 d isin).isSome = b3 at *
  generalize prE (atE l 2 d isin) d = pe at *
  obtain ⟨act, hact⟩ : ∃ a, x.act = a := ⟨_, rfl⟩
  obtain ⟨text, htext⟩ : ∃ a, x.text = a := ⟨_, rfl⟩
  rw [hact, htext]
  rw [hact, htext] at hsec
  clear hact htext
  have HSEC := Lib.hid hsec
  have H29 := Lib.hid h29
  have H33 := Lib.hid h33
  have H35 := Lib.hid h35
  have H4 := Lib.hid h4'
  have hc : ∀ w', Below w0.heap.size w0 w' → w'.cell? ⟨p3, 0, none⟩ = some (.pointer (some ⟨vb, 0, none⟩)) ∧ w'.cell? ⟨p5, 0, none⟩ = some (.string isin) ∧ w'.cell? ⟨vb, 0, none⟩ = some (.pointer (some ⟨tb, 0, none⟩)) ∧ w'.cell? ⟨vb, 1, none⟩ = some (.int .i64 d) ∧ Below w0.heap.size w0 w' := fun w' h => ⟨cell_call c3 h, cell_call c5 h, (V0.call h).blk.cell 0, (V0.call h).blk.cell 1, h⟩
  have HC := Lib.hid hc
  have HV := Lib.hid V0
  have HBW := Lib.hid hbw
  have HW0 := Lib.hid hw0
  have HP := Lib.hid (And.intro hp3 (And.intro hp4 hp5))
  clear hc V V0 hsec h29 h33 h35 h4' c3 c4 c5 hbw hw0 hp3 hp4 hp5
  have hpe2 : pe = 0 ∨ (pe = 20 ∧ (pe == 0) = false) := by
    cases hz : (pe == 0)
    · rw [hz] at hpe; exact .inr ⟨hpe, rfl⟩
    · rw [hz] at hpe; exact .inl hpe
  clear hpe
  suffices main : ∀ v : Int, v = (bif !b0 then 9 else bif !b1 then 9 else bif (!act || (text.toList == mem.toList)) || !b3 then 24 else pe) → Calls Tryz.prog 10 #[.pointer (some ⟨vb, 0, none⟩), .string mem, .string isin] w fun r w' => r = .returned (.int .i64 v) ∧ Below w.heap.size w w' from main _ rfl
  intro v hv
  have HVV := Lib.hid hv
  clear hv
  go_enter Tryz.func10, Tryz.ntmps10
  go_upto_region 3 with fail
  rw [HW0.out, HP.out.1, HP.out.2.1, HP.out.2.2]
  go_cut [7, 8] (fun v7 v8 wx => ∃ a7 a8 : Nat, v7 = .pointer (some ⟨a7, 0, none⟩) ∧ v8 = .pointer (some ⟨a8, 0, none⟩) ∧ wx.cell? ⟨a7, 1, none⟩ = some (.string text) ∧ wx.cell? ⟨a7, 3, none⟩ = some (.bool act) ∧ wx.cell? ⟨a8, 0, none⟩ = some (.bool b1) ∧ Below w0.heap.size w0 wx)
  case first =>
    go_region_held3 (fun w' => w'.cell? ⟨p3, 0, none⟩ = some (.pointer (some ⟨vb, 0, none⟩)) ∧ w'.cell? ⟨p5, 0, none⟩ = some (.string isin) ∧ w'.cell? ⟨vb, 0, none⟩ = some (.pointer (some ⟨tb, 0, none⟩)) ∧ w'.cell? ⟨vb, 1, none⟩ = some (.int .i64 d) ∧ Below w0.heap.size w0 w')
      ((refine HC.out _ ?_; (repeat (refine bl_set ?_ (by first | (simp; done) | (simp; omega) | omega) _)); first | exact bl_drew (Below.refl _ _) | exact k5 (by assumption) | exact bl_alloc (k5 (by assumption)) _ | exact bl_then (k5 (by assumption)) hb1 | exact bl_then hb0 hb1 | exact bl_alloc (bl_then hb0 hb1) _ | exact bl_alloc (bl_alloc (bl_then hb0 hb1) _) _))
      (first
        | (go_at_call 28; have hb0 : Below w0.heap.size w0 _ := k5 (by assumption); have hsz0 := hb0.size; refine (HSEC.out _ (HV.out.tab.call hb0)).mono ?_; rintro r w1 ⟨rfl, hb1⟩; have hsz1 := hb1.size
           first
             | (have hA : Blk w1 w0.heap.size 72 #[.string ⟨#[]⟩, .string ⟨#[]⟩, .int .i64 0, .bool false] := ((first_blk w0 72 #[.string ⟨#[]⟩, .string ⟨#[]⟩, .int .i64 0, .bool false]).alloc (.cells #[.bool false] 4)).call hb1
                have hB : Blk w1 (w0.heap.size + 1) 4 #[.bool false] := (second_blk w0 4 #[.bool false] (.cells #[.string ⟨#[]⟩, .string ⟨#[]⟩, .int .i64 0, .bool false] 72)).call hb1
                have hAf := fun j => hA.frozen j
                have hBf := fun j => hB.frozen j
                have hAc := Blk.get4 hA
                have hBc := Blk.get1 hB)
             | (have hB : Blk w1 w0.heap.size 4 #[.bool false] := ((first_blk w0 4 #[.bool false]).alloc (.cells #[.string ⟨#[]⟩, .string ⟨#[]⟩, .int .i64 0, .bool false] 72)).call hb1
                have hA : Blk w1 (w0.heap.size + 1) 72 #[.string ⟨#[]⟩, .string ⟨#[]⟩, .int .i64 0, .bool false] := (second_blk w0 72 #[.string ⟨#[]⟩, .string ⟨#[]⟩, .int .i64 0, .bool false] (.cells #[.bool false] 4)).call hb1
                have hAf := fun j => hA.frozen j
                have hBf := fun j => hB.frozen j
                have hAc := Blk.get4 hA
                have hBc := Blk.get1 hB)
             | (have hA : Blk w1 w0.heap.size 72 #[.string ⟨#[]⟩, .string ⟨#[]⟩, .int .i64 0, .bool false] := (first_blk w0 72 #[.string ⟨#[]⟩, .string ⟨#[]⟩, .int .i64 0, .bool false]).call hb1
                have hAf := fun j => hA.frozen j
                have hAa := fun o j => (hA.alloc o).frozen j
                have hAc := Blk.get4 hA
                have hAd := fun o => Blk.get4 (hA.alloc o)
                have hn1 : ¬ w0.heap.size = w1.heap.size := Nat.ne_of_lt hA.lt
                have hn2 : ¬ w1.heap.size = w0.heap.size := Nat.ne_of_gt hA.lt)
             | (have hB : Blk w1 w0.heap.size 4 #[.bool false] := (first_blk w0 4 #[.bool false]).call hb1
                have hBf := fun j => hB.frozen j
                have hBa := fun o j => (hB.alloc o).frozen j
                have hBc := Blk.get1 hB
                have hBd := fun o => Blk.get1 (hB.alloc o)
                have hn1 : ¬ w0.heap.size = w1.heap.size := Nat.ne_of_lt hB.lt
                have hn2 : ¬ w1.heap.size = w0.heap.size := Nat.ne_of_gt hB.lt)
             | skip)
        | fail "no arm")
    all_goals
      have hblx : Below w0.heap.size w0 _ := k5 (by assumption)
      go_split_ands
      go_wp2_with fail
      go_meet
      exact ⟨_, _, rfl, rfl, by simp [go_sem, *], by simp [go_sem, *], by simp [go_sem, *], hblx⟩
  case rest =>
    obtain ⟨a7, a8, rfl, rfl, h7t, h7a, h8, hbl⟩ := hcut
    have hL0 := Blk.new wc 82 #[.func (.func 29) #[] #[.pointer (some ⟨p3, 0, none⟩), .pointer (some ⟨p4, 0, none⟩)], .int .i64 9, .func (.func 31) #[] #[.pointer (some ⟨a8, 0, none⟩)], .int .i64 9, .func (.func 32) #[] #[.pointer (some ⟨a7, 0, none⟩), .pointer (some ⟨p4, 0, none⟩)], .int .i64 24, .func (.func 33) #[] #[.pointer (some ⟨p3, 0, none⟩), .pointer (some ⟨p5, 0, none⟩)], .int .i64 24, .func (.func 35) #[] #[.pointer (some ⟨p3, 0, none⟩), .pointer (some ⟨p5, 0, none⟩)], .int .i64 20]
    have hl0 := bl_alloc hbl (.cells #[.func (.func 29) #[] #[.pointer (some ⟨p3, 0, none⟩), .pointer (some ⟨p4, 0, none⟩)], .int .i64 9, .func (.func 31) #[] #[.pointer (some ⟨a8, 0, none⟩)], .int .i64 9, .func (.func 32) #[] #[.pointer (some ⟨a7, 0, none⟩), .pointer (some ⟨p4, 0, none⟩)], .int .i64 24, .func (.func 33) #[] #[.pointer (some ⟨p3, 0, none⟩), .pointer (some ⟨p5, 0, none⟩)], .int .i64 24, .func (.func 35) #[] #[.pointer (some ⟨p3, 0, none⟩), .pointer (some ⟨p5, 0, none⟩)], .int .i64 20] 82)
    have hw0 := bl1 wc (.cells #[.func (.func 29) #[] #[.pointer (some ⟨p3, 0, none⟩), .pointer (some ⟨p4, 0, none⟩)], .int .i64 9, .func (.func 31) #[] #[.pointer (some ⟨a8, 0, none⟩)], .int .i64 9, .func (.func 32) #[] #[.pointer (some ⟨a7, 0, none⟩), .pointer (some ⟨p4, 0, none⟩)], .int .i64 24, .func (.func 33) #[] #[.pointer (some ⟨p3, 0, none⟩), .pointer (some ⟨p5, 0, none⟩)], .int .i64 24, .func (.func 35) #[] #[.pointer (some ⟨p3, 0, none⟩), .pointer (some ⟨p5, 0, none⟩)], .int .i64 20] 82)
    have H7T := Lib.hid h7t
    have H7A := Lib.hid h7a
    have H8 := Lib.hid h8
    clear h7t h7a h8 hbl
    go_wp2_with fail
    refine wp_loop_rounds 6 ?_
    cases b0
    · rw [rounds_succ]
      go_wp2_with (go_at_call 29; refine (H29.out _ (bl_alloc hl0 _)).mono ?_; rintro r w1r ⟨rfl, hbr1⟩; have hl1 := bl_then (bl_alloc hl0 _) hbr1; have hw1 := bl_then (bl_alloc hw0 _) hbr1; have hL1 := (hL0.alloc _).call hbr1; have hLc1 := fun j => hL1.cell j; have hE1 := Blk.get2 (Blk.call (Blk.new1 wc _ 82 #[_, _]) hbr1))
      go_ret
      exact ⟨by rw [HVV.out]; rfl, bl_then HBW.out hl1⟩
    rw [rounds_succ]
    go_wp2_with (go_at_call 29; refine (H29.out _ (bl_alloc hl0 _)).mono ?_; rintro r w1r ⟨rfl, hbr1⟩; have hl1 := bl_then (bl_alloc hl0 _) hbr1; have hw1 := bl_then (bl_alloc hw0 _) hbr1; have hL1 := (hL0.alloc _).call hbr1; have hLc1 := fun j => hL1.cell j; have hE1 := Blk.get2 (Blk.call (Blk.new1 wc _ 82 #[_, _]) hbr1))
    cases b1
    · rw [rounds_succ]
      go_wp2_with (go_at_call 31; refine (cond31 _ a8 _ (cell_call H8.out (bl_alloc hw1 _))).mono ?_; rintro r w2r ⟨rfl, hbr2⟩; have hl2 := bl_then (bl_alloc hl1 _) hbr2; have hw2 := bl_then (bl_alloc hw1 _) hbr2; have hL2 := (hL1.alloc _).call hbr2; have hLc2 := fun j => hL2.cell j; have hE2 := Blk.get2 (Blk.call (Blk.new _ 82 #[_, _]) hbr2))
      go_ret
      exact ⟨by rw [HVV.out]; rfl, bl_then HBW.out hl2⟩
    rw [rounds_succ]
    go_wp2_with (go_at_call 31; refine (cond31 _ a8 _ (cell_call H8.out (bl_alloc hw1 _))).mono ?_; rintro r w2r ⟨rfl, hbr2⟩; have hl2 := bl_then (bl_alloc hl1 _) hbr2; have hw2 := bl_then (bl_alloc hw1 _) hbr2; have hL2 := (hL1.alloc _).call hbr2; have hLc2 := fun j => hL2.cell j; have hE2 := Blk.get2 (Blk.call (Blk.new _ 82 #[_, _]) hbr2))
    cases act
    · rw [rounds_succ]
      go_wp2_with (go_at_call 32; refine (cond32 _ _ mem a7 p4 _ (cell_call H7A.out (bl_alloc hw2 _)) (cell_call H7T.out (bl_alloc hw2 _)) (H4.out _ (bl_alloc hl2 _))).mono ?_; rintro r w3r ⟨rfl, hbr3⟩; have hl3 := bl_then (bl_alloc hl2 _) hbr3; have hw3 := bl_then (bl_alloc hw2 _) hbr3; have hL3 := (hL2.alloc _).call hbr3; have hLc3 := fun j => hL3.cell j; have hE3 := Blk.get2 (Blk.call (Blk.new _ 82 #[_, _]) hbr3))
      go_ret
      exact ⟨by rw [HVV.out]; rfl, bl_then HBW.out hl3⟩
    cases ht : (text.toList == mem.toList)
    · rw [rounds_succ]
      go_wp2_with (go_at_call 32; refine (cond32 _ _ mem a7 p4 _ (cell_call H7A.out (bl_alloc hw2 _)) (cell_call H7T.out (bl_alloc hw2 _)) (H4.out _ (bl_alloc hl2 _))).mono ?_; rintro r w3r ⟨rfl, hbr3⟩; have hl3 := bl_then (bl_alloc hl2 _) hbr3; have hw3 := bl_then (bl_alloc hw2 _) hbr3; have hL3 := (hL2.alloc _).call hbr3; have hLc3 := fun j => hL3.cell j; have hE3 := Blk.get2 (Blk.call (Blk.new _ 82 #[_, _]) hbr3))
      cases b3
      · rw [rounds_succ]
        go_wp2_with (go_at_call 33; refine (H33.out _ (bl_alloc hl3 _)).mono ?_; rintro r w4r ⟨rfl, hbr4⟩; have hl4 := bl_then (bl_alloc hl3 _) hbr4; have hw4 := bl_then (bl_alloc hw3 _) hbr4; have hL4 := (hL3.alloc _).call hbr4; have hLc4 := fun j => hL4.cell j; have hE4 := Blk.get2 (Blk.call (Blk.new _ 82 #[_, _]) hbr4))
        go_ret
        exact ⟨by rw [HVV.out]; rw [ht]; rfl, bl_then HBW.out hl4⟩
      rw [rounds_succ]
      go_wp2_with (go_at_call 33; refine (H33.out _ (bl_alloc hl3 _)).mono ?_; rintro r w4r ⟨rfl, hbr4⟩; have hl4 := bl_then (bl_alloc hl3 _) hbr4; have hw4 := bl_then (bl_alloc hw3 _) hbr4; have hL4 := (hL3.alloc _).call hbr4; have hLc4 := fun j => hL4.cell j; have hE4 := Blk.get2 (Blk.call (Blk.new _ 82 #[_, _]) hbr4))
      rcases hpe2 with rfl | ⟨rfl, -⟩
      · rw [rounds_succ]
        go_wp2_with (go_at_call 35; refine (H35.out _ (bl_alloc hl4 _)).mono ?_; rintro r w5r ⟨rfl, hbr5⟩; have hl5 := bl_then (bl_alloc hl4 _) hbr5; have hw5 := bl_then (bl_alloc hw4 _) hbr5; have hL5 := (hL4.alloc _).call hbr5; have hLc5 := fun j => hL5.cell j; have hE5 := Blk.get2 (Blk.call (Blk.new _ 82 #[_, _]) hbr5))
        rw [rounds_succ]
        go_wp2_with fail
        go_ret
        exact ⟨by rw [HVV.out]; rw [ht]; rfl, bl_then HBW.out hl5⟩
      · rw [rounds_succ]
        go_wp2_with (go_at_call 35; refine (H35.out _ (bl_alloc hl4 _)).mono ?_; rintro r w5r ⟨rfl, hbr5⟩; have hl5 := bl_then (bl_alloc hl4 _) hbr5; have hw5 := bl_then (bl_alloc hw4 _) hbr5; have hL5 := (hL4.alloc _).call hbr5; have hLc5 := fun j => hL5.cell j; have hE5 := Blk.get2 (Blk.call (Blk.new _ 82 #[_, _]) hbr5))
        go_ret
        exact ⟨by rw [HVV.out]; rw [ht]; rfl, bl_then HBW.out hl5⟩
    · rw [rounds_succ]
      go_wp2_with (go_at_call 32; refine (cond32 _ _ mem a7 p4 _ (cell_call H7A.out (bl_alloc hw2 _)) (cell_call H7T.out (bl_alloc hw2 _)) (H4.out _ (bl_alloc hl2 _))).mono ?_; rintro r w3r ⟨rfl, hbr3⟩; have hl3 := bl_then (bl_alloc hl2 _) hbr3; have hw3 := bl_then (bl_alloc hw2 _) hbr3; have hL3 := (hL2.alloc _).call hbr3; have hLc3 := fun j => hL3.cell j; have hE3 := Blk.get2 (Blk.call (Blk.new _ 82 #[_, _]) hbr3))
      go_ret
      exact ⟨by rw [HVV.out]; rw [ht]; rfl, bl_then HBW.out hl3⟩
end Go.Proofs.YtongoicadcmfaaaGreatDoor.V
