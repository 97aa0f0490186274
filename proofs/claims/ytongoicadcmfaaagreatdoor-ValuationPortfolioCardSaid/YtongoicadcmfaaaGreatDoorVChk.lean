/- giroref21.Check, kind by kind: the setters' own error numbers. (Printed by gen_check.py.) -/
import Derived.Test.YtongoicadcmfaaaGreatDoorVSubj
import Derived.Test.YtongoicadcmfaaaGreatDoorVKeys
set_option linter.unusedSimpArgs false
set_option linter.unusedVariables false
namespace Go.Proofs.YtongoicadcmfaaaGreatDoor.V
open Go.RowKit

/-- What Check answers, from what subject answers. -/
def chkE (d : Int) (s : Int) (st : Bool) (dup : Bool) (oth : Bool) : Int := bif !dayB d then 28 else bif !(s == 0) then s else bif st then 20 else bif dup then 7 else bif oth then 11 else 0
theorem errM_chk (l : List E) (e : E) : errM l e = chkE e.day (subj0 e) (staleB (ser 0 l e.key) e.day) (nonE e.text && takenB l e) false := by
  unfold errM chkE subj0
  cases dayB e.day <;> cases okB 1 e.key <;> cases nonE e.text <;> cases okB 3 e.text <;> cases staleB (ser 0 l e.key) e.day <;> cases takenB l e <;> rfl
theorem errS_chk (l : List E) (e : E) : errS l e = chkE e.day (subj1 l e) (staleB (ser 1 l e.key) e.day) false (!(ser 1 l e.key).isEmpty && !((lastE (ser 1 l e.key)).text.toList == e.text.toList)) := by
  unfold errS chkE subj1
  cases dayB e.day <;> cases okB 0 e.key <;> cases (atE l 0 e.day e.text).isSome <;> cases lotB e.n <;> cases staleB (ser 1 l e.key) e.day <;> cases (!(ser 1 l e.key).isEmpty && !((lastE (ser 1 l e.key)).text.toList == e.text.toList)) <;> rfl
theorem errP_chk (l : List E) (e : E) : errP l e (prB e.n) = chkE e.day (subj2 l e) (staleB (ser 2 l e.key) e.day) false false := by
  unfold errP chkE subj2
  cases dayB e.day <;> cases (atE l 1 e.day e.key).isSome <;> cases prB e.n <;> cases staleB (ser 2 l e.key) e.day <;> rfl
theorem errH_chk (l : List E) (e : E) : errH l e (haB e) = chkE e.day (subj3 l e) (staleB (ser 3 l e.key) e.day) false false := by
  unfold errH chkE subj3
  cases dayB e.day <;> cases (atE l 1 e.day e.key).isSome <;> cases haB e <;> cases staleB (ser 3 l e.key) e.day <;> rfl

/-- How a key's last entry is found: the index, and what stands there. -/
structure LastAt (l : List E) (k : Int) (key : ByteArray) (i : Nat) (x : E) : Prop where
  lt : i < l.length
  at_ : l[i] = x
  num : lastN k key l = i + 1
theorem last_cases (l : List E) (k : Int) (key : ByteArray) : (lastN k key l = 0 ∧ (ser k l key).isEmpty = true) ∨ ∃ i, LastAt l k key i (lastE (ser k l key)) ∧ (ser k l key).isEmpty = false := by
  rcases lastN_ser k key l with ⟨h1, h2⟩ | ⟨n, hn, h1, h2, h3, _⟩
  · exact .inl ⟨h1, by rw [h2]; rfl⟩
  · refine .inr ⟨n, ⟨hn, h3, h1⟩, ?_⟩
    cases hs : ser k l key with
    | nil => exact absurd hs h2
    | cons a t => rfl

set_option maxRecDepth 20000 in
set_option maxHeartbeats 16000000 in
theorem check70_0 (A : Option Addr) (l : List E) (c : Nat) (e : E) (he : e.kind = 0) (s : Int) (w : World) (h : SlE w A l) (hl : l.length ≤ c) (hc : c ≤ 9223372036854775807) (hn : l.length ≤ 30)
    (hsub : ∀ W, SlE W A l → Calls Tryz.prog 95 #[.slice A l.length c, e.val] W fun r w' => r = .returned (.int .i64 s) ∧ Below W.heap.size W w') :
    Calls Tryz.prog 70 #[.slice A l.length c, e.val] w fun r w' => r = .returned (.int .i64 (chkE e.day s (staleB (ser e.kind l e.key) e.day) (nonE e.text && takenB l e) (false))) ∧ Below w.heap.size w w' := by
  have bx0 := Blk.new w 31 #[.int .i64 0, .int .i64 e.day, .string e.key, .string e.text, .int .i64 e.n, .int .i64 e.num, .int .i64 e.den, .bool e.act]
  have hb0 := bl1 w (.cells #[.int .i64 0, .int .i64 e.day, .string e.key, .string e.text, .int .i64 e.n, .int .i64 e.num, .int .i64 e.den, .bool e.act] 31)
  have h0 := Lib.hid (h.call hb0)
  have hla := fun (W : World) (H : SlE W A l) => last96 A l c e.kind e.key W H hl hc
  have HLA := Lib.hid hla
  have HSUB := Lib.hid hsub
  clear hla hsub
  unfold E.val at HSUB ⊢
  unfold chkE
  have hcs := last_cases l e.kind e.key
  rw [he] at HSUB HLA hcs ⊢
  have hky := fun (W : World) (H : SlE W A l) => keys97 A l c 0 W H hl hc hn
  have HKY := Lib.hid hky
  clear hky
  have cc0 := Blk.get8 bx0

  cases hd : dayB e.day
  · suffices hs : Calls Tryz.prog 70 #[.slice A l.length c, .agg #[.int .i64 0, .int .i64 e.day, .string e.key, .string e.text, .int .i64 e.n, .int .i64 e.num, .int .i64 e.den, .bool e.act]] w fun r w' => r = .returned (.int .i64 28) ∧ Below w.heap.size w w' from hs
    go_enter Tryz.func70, Tryz.ntmps70
    go_wp2_with (go_at_call 55; refine (day_any _ _).mono ?_; rintro r w0 ⟨rfl, rfl⟩)
    go_ret
    exact ⟨rfl, hb0⟩
  by_cases hs0 : s = 0
  case neg =>
    have hsb : (s == 0) = false := by simpa using hs0
    have hsb2 : (s != 0) = true := by simp [bne, hsb]
    rw [hsb]
    clear hs0
    suffices hs : Calls Tryz.prog 70 #[.slice A l.length c, .agg #[.int .i64 0, .int .i64 e.day, .string e.key, .string e.text, .int .i64 e.n, .int .i64 e.num, .int .i64 e.den, .bool e.act]] w fun r w' => r = .returned (.int .i64 s) ∧ Below w.heap.size w w' from hs
    go_enter Tryz.func70, Tryz.ntmps70
    go_wp2_with (first | (go_at_call 55; refine (day_any _ _).mono ?_; rintro r w0 ⟨rfl, rfl⟩) | (go_at_call 95; refine (HSUB.out _ h0.out).mono ?_; rintro r w1 ⟨rfl, hb1⟩; have bx1 := bx0.call hb1; have cc1 := Blk.get8 bx1; have hbl1 := bl_then hb0 hb1; have h1 := Lib.hid (h0.out.call hb1)))
    go_ret
    exact ⟨rfl, hbl1⟩
  subst hs0
  have hz : ((0 : Int) == 0) = true := rfl
  rw [hz]
  rcases hcs with ⟨hl0, hse⟩ | ⟨i, L, hse⟩
  · have hst : staleB (ser 0 l e.key) e.day = false := by unfold staleB; rw [hse]; rfl
    rw [hst]
    rw [hl0] at HLA
    have hl1 : ((0 : Nat) : Int) - 1 = -1 := rfl
    rw [hl1] at HLA
    have HL := HLA
    cases htx : nonE e.text
    · have hnl := nil_toList
      have htx2 := (nonE_eq _ _ htx).1
      have htx3 := (nonE_eq _ _ htx).2
      suffices hs : Calls Tryz.prog 70 #[.slice A l.length c, .agg #[.int .i64 0, .int .i64 e.day, .string e.key, .string e.text, .int .i64 e.n, .int .i64 e.num, .int .i64 e.den, .bool e.act]] w fun r w' => r = .returned (.int .i64 0) ∧ Below w.heap.size w w' from hs
      go_enter Tryz.func70, Tryz.ntmps70
      go_wp2_with (first | (go_at_call 55; refine (day_any _ _).mono ?_; rintro r w0 ⟨rfl, rfl⟩) | (go_at_call 95; refine (HSUB.out _ h0.out).mono ?_; rintro r w1 ⟨rfl, hb1⟩; have bx1 := bx0.call hb1; have cc1 := Blk.get8 bx1; have hbl1 := bl_then hb0 hb1; have h1 := Lib.hid (h0.out.call hb1)) | (go_at_call 96; refine (HL.out _ h1.out).mono ?_; rintro r w2 ⟨rfl, rfl⟩))
      go_quiet (fail)
      have bx4 := bx1.drewN nq
      have cc4 := Blk.get8 bx4
      have hbl4 := bl_drewN hbl1 nq
      have h4 := Lib.hid (Sl.drewN h1.out nq)
      generalize w1.drewN nq = w4 at *
      go_wp2_with fail
      go_quiet (fail)
      have bx5 := bx4.drewN nq
      have cc5 := Blk.get8 bx5
      have hbl5 := bl_drewN hbl4 nq
      have h5 := Lib.hid (Sl.drewN h4.out nq)
      generalize w4.drewN nq = w5 at *
      go_wp2_with (go_at_call 97; refine (HKY.out _ h5.out).mono ?_; rintro r w3 ⟨⟨A3, n3, c3, rfl, hn3⟩, hb3⟩; have hn4 : decide ((4096 : Int) ≤ (n3 : Int)) = false := decide_eq_false (by omega))
      go_ret
      exact ⟨rfl, bl_then hbl5 hb3⟩
    · have hnl := nil_toList
      have htx2 := (nonE_eq _ _ htx).1
      have htx3 := (nonE_eq _ _ htx).2
      cases htk : takenB l e
      · have hno : ∀ j (h : j < l.length), dupAt l e l[j] j = false := fun j h => by
          rw [Bool.eq_false_iff]
          exact fun h2 => by
            have := (takenB_iff l e).2 ((dup_taken l e).2 ⟨j, h, h2⟩)
            rw [htk] at this; cases this
        suffices hs : Calls Tryz.prog 70 #[.slice A l.length c, .agg #[.int .i64 0, .int .i64 e.day, .string e.key, .string e.text, .int .i64 e.n, .int .i64 e.num, .int .i64 e.den, .bool e.act]] w fun r w' => r = .returned (.int .i64 0) ∧ Below w.heap.size w w' from hs
        go_enter Tryz.func70, Tryz.ntmps70
        go_wp2_with (first | (go_at_call 55; refine (day_any _ _).mono ?_; rintro r w0 ⟨rfl, rfl⟩) | (go_at_call 95; refine (HSUB.out _ h0.out).mono ?_; rintro r w1 ⟨rfl, hb1⟩; have bx1 := bx0.call hb1; have cc1 := Blk.get8 bx1; have hbl1 := bl_then hb0 hb1; have h1 := Lib.hid (h0.out.call hb1)) | (go_at_call 96; refine (HL.out _ h1.out).mono ?_; rintro r w2 ⟨rfl, rfl⟩))
        go_quiet (fail)
        have bx4 := bx1.drewN nq
        have cc4 := Blk.get8 bx4
        have hbl4 := bl_drewN hbl1 nq
        have h4 := Lib.hid (Sl.drewN h1.out nq)
        generalize w1.drewN nq = w4 at *
        go_wp2_with fail
        have HNO := Lib.hid hno
        clear hno
        go_loopw [7] (fun v7 wr => ∃ j : Nat, j ≤ l.length ∧ v7 = .int .i64 j ∧ Below w.heap.size w wr ∧ Blk wr w.heap.size 31 #[.int .i64 0, .int .i64 e.day, .string e.key, .string e.text, .int .i64 e.n, .int .i64 e.num, .int .i64 e.den, .bool e.act] ∧ SlE wr A l ∧ ∀ t (ht : t < l.length), t < j → dupAt l e l[t] t = false) (fun v7 _ => l.length - (intOf v7).toNat)
        case atStart => exact ⟨0, Nat.zero_le _, rfl, hbl4, bx4, h4.out, fun t _ h => absurd h (Nat.not_lt_zero t)⟩
        case round =>
          obtain ⟨j, hj, rfl, hblr, bxr, hsr, hpre⟩ := hrel
          have HPRE := Lib.hid hpre
          clear hpre
          have ccr := Blk.get8 bxr
          have HSR := Lib.hid hsr
          clear hsr
          clear bx4 cc4 hbl4 h4 cc1 h1 bx1 hbl1
          by_cases hjl : j < l.length
          · obtain ⟨ad1, had1, hadb, c0, c1, c2, c3, c4, c5, c6, c7⟩ := HSR.out.get hjl
            subst had1
            have hdj := HNO.out j hjl
            have hlj := fun (W : World) (H : SlE W (some ad1) l) => last96 (some ad1) l c 0 l[j].key W H hl hc
            have HLJ := Lib.hid hlj
            clear hlj
            have step : dupAt l e l[j] j = false → ∀ t (ht : t < l.length), t < j + 1 → dupAt l e l[t] t = false := fun hj2 t ht h => by
              rcases Nat.lt_or_ge t j with h' | h'
              · exact HPRE.out t ht h'
              · have : t = j := by omega
                subst this; exact hj2
            have STEP := Lib.hid step
            clear step
            unfold dupAt at STEP hdj
            generalize lastN 0 l[j].key l = ln at *
            generalize l[j] = y at *
            have HDJ := Lib.hid hdj
            clear hdj
            have hln : ((ln : Int) - 1 == (j : Int)) = (ln == j + 1) := by
              rw [Bool.eq_iff_iff, beq_iff_eq, beq_iff_eq]; omega
            cases y0 : (y.kind == 0)
            · go_wp2_with fail
              go_quiet ((go_at_call 96; exact quiet_left (HLJ.out _ (Sl.drewN HSR.out _))))
              go_wp2_with fail
              exact ⟨⟨j + 1, by omega, by go_num, bl_drewN hblr _, bxr.drewN _, Sl.drewN HSR.out _, STEP.out (by simp [y0])⟩, by simp [intOf]; omega⟩
            · cases y1 : (y.key.toList == e.key.toList)
              · have y1' : (y.key.toList != e.key.toList) = true := by simp [bne, y1]
                cases y2 : (y.text.toList == e.text.toList)
                · go_wp2_with fail
                  go_quiet ((go_at_call 96; exact quiet_left (HLJ.out _ (Sl.drewN HSR.out _))))
                  go_wp2_with fail
                  exact ⟨⟨j + 1, by omega, by go_num, bl_drewN hblr _, bxr.drewN _, Sl.drewN HSR.out _, STEP.out (by simp [y0, y1, y2])⟩, by simp [intOf]; omega⟩
                · cases y3 : (ln == j + 1)
                  · rw [y3] at hln
                    go_wp2_with fail
                    go_quiet ((go_at_call 96; exact quiet_left (HLJ.out _ (Sl.drewN HSR.out _))))
                    go_wp2_with fail
                    exact ⟨⟨j + 1, by omega, by go_num, bl_drewN hblr _, bxr.drewN _, Sl.drewN HSR.out _, STEP.out (by simp [y0, y1, y2, y3])⟩, by simp [intOf]; omega⟩
                  · rw [y3] at hln
                    exact absurd HDJ.out (by simp [y0, y1, y2, y3])
              · have y1' : (y.key.toList != e.key.toList) = false := by simp [bne, y1]
                go_wp2_with fail
                go_quiet ((go_at_call 96; exact quiet_left (HLJ.out _ (Sl.drewN HSR.out _))))
                go_wp2_with fail
                exact ⟨⟨j + 1, by omega, by go_num, bl_drewN hblr _, bxr.drewN _, Sl.drewN HSR.out _, STEP.out (by simp [y0, y1])⟩, by simp [intOf]; omega⟩
          · obtain rfl : l.length = j := by omega
            go_wp2_with fail
            go_quiet (fail)
            have bx5 := bxr.drewN nq
            have cc5 := Blk.get8 bx5
            have hbl5 := bl_drewN hblr nq
            have h5 := Lib.hid (Sl.drewN HSR.out nq)
            generalize wr.drewN nq = w5 at *
            go_wp2_with (go_at_call 97; refine (HKY.out _ h5.out).mono ?_; rintro r w3 ⟨⟨A3, n3, c3, rfl, hn3⟩, hb3⟩; have hn4 : decide ((4096 : Int) ≤ (n3 : Int)) = false := decide_eq_false (by omega))
            go_ret
            exact ⟨rfl, bl_then hbl5 hb3⟩
      · have hno2 : ¬ ∀ j (h : j < l.length), dupAt l e l[j] j = false := fun hall => by
          obtain ⟨j, h, h2⟩ := (dup_taken l e).1 ((takenB_iff l e).1 htk)
          rw [hall j h] at h2; cases h2
        have HNO2 := Lib.hid hno2
        clear hno2
        suffices hs : Calls Tryz.prog 70 #[.slice A l.length c, .agg #[.int .i64 0, .int .i64 e.day, .string e.key, .string e.text, .int .i64 e.n, .int .i64 e.num, .int .i64 e.den, .bool e.act]] w fun r w' => r = .returned (.int .i64 7) ∧ Below w.heap.size w w' from hs
        go_enter Tryz.func70, Tryz.ntmps70
        go_wp2_with (first | (go_at_call 55; refine (day_any _ _).mono ?_; rintro r w0 ⟨rfl, rfl⟩) | (go_at_call 95; refine (HSUB.out _ h0.out).mono ?_; rintro r w1 ⟨rfl, hb1⟩; have bx1 := bx0.call hb1; have cc1 := Blk.get8 bx1; have hbl1 := bl_then hb0 hb1; have h1 := Lib.hid (h0.out.call hb1)) | (go_at_call 96; refine (HL.out _ h1.out).mono ?_; rintro r w2 ⟨rfl, rfl⟩))
        go_quiet (fail)
        have bx4 := bx1.drewN nq
        have cc4 := Blk.get8 bx4
        have hbl4 := bl_drewN hbl1 nq
        have h4 := Lib.hid (Sl.drewN h1.out nq)
        generalize w1.drewN nq = w4 at *
        go_wp2_with fail
        go_loopw [7] (fun v7 wr => ∃ j : Nat, j ≤ l.length ∧ v7 = .int .i64 j ∧ Below w.heap.size w wr ∧ Blk wr w.heap.size 31 #[.int .i64 0, .int .i64 e.day, .string e.key, .string e.text, .int .i64 e.n, .int .i64 e.num, .int .i64 e.den, .bool e.act] ∧ SlE wr A l ∧ ∀ t (ht : t < l.length), t < j → dupAt l e l[t] t = false) (fun v7 _ => l.length - (intOf v7).toNat)
        case atStart => exact ⟨0, Nat.zero_le _, rfl, hbl4, bx4, h4.out, fun t _ h => absurd h (Nat.not_lt_zero t)⟩
        case round =>
          obtain ⟨j, hj, rfl, hblr, bxr, hsr, hpre⟩ := hrel
          have HPRE := Lib.hid hpre
          clear hpre
          have ccr := Blk.get8 bxr
          have HSR := Lib.hid hsr
          clear hsr
          clear bx4 cc4 hbl4 h4 cc1 h1 bx1 hbl1
          by_cases hjl : j < l.length
          · obtain ⟨ad1, had1, hadb, c0, c1, c2, c3, c4, c5, c6, c7⟩ := HSR.out.get hjl
            subst had1
            have hlj := fun (W : World) (H : SlE W (some ad1) l) => last96 (some ad1) l c 0 l[j].key W H hl hc
            have HLJ := Lib.hid hlj
            clear hlj
            have step : dupAt l e l[j] j = false → ∀ t (ht : t < l.length), t < j + 1 → dupAt l e l[t] t = false := fun hj2 t ht h => by
              rcases Nat.lt_or_ge t j with h' | h'
              · exact HPRE.out t ht h'
              · have : t = j := by omega
                subst this; exact hj2
            have STEP := Lib.hid step
            clear step
            unfold dupAt at STEP
            generalize lastN 0 l[j].key l = ln at *
            generalize l[j] = y at *
            have hln : ((ln : Int) - 1 == (j : Int)) = (ln == j + 1) := by
              rw [Bool.eq_iff_iff, beq_iff_eq, beq_iff_eq]; omega
            cases y0 : (y.kind == 0)
            · go_wp2_with fail
              go_quiet ((go_at_call 96; exact quiet_left (HLJ.out _ (Sl.drewN HSR.out _))))
              go_wp2_with fail
              exact ⟨⟨j + 1, by omega, by go_num, bl_drewN hblr _, bxr.drewN _, Sl.drewN HSR.out _, STEP.out (by simp [y0])⟩, by simp [intOf]; omega⟩
            · cases y1 : (y.key.toList == e.key.toList)
              · have y1' : (y.key.toList != e.key.toList) = true := by simp [bne, y1]
                cases y2 : (y.text.toList == e.text.toList)
                · go_wp2_with fail
                  go_quiet ((go_at_call 96; exact quiet_left (HLJ.out _ (Sl.drewN HSR.out _))))
                  go_wp2_with fail
                  exact ⟨⟨j + 1, by omega, by go_num, bl_drewN hblr _, bxr.drewN _, Sl.drewN HSR.out _, STEP.out (by simp [y0, y1, y2])⟩, by simp [intOf]; omega⟩
                · cases y3 : (ln == j + 1)
                  · rw [y3] at hln
                    go_wp2_with fail
                    go_quiet ((go_at_call 96; exact quiet_left (HLJ.out _ (Sl.drewN HSR.out _))))
                    go_wp2_with fail
                    exact ⟨⟨j + 1, by omega, by go_num, bl_drewN hblr _, bxr.drewN _, Sl.drewN HSR.out _, STEP.out (by simp [y0, y1, y2, y3])⟩, by simp [intOf]; omega⟩
                  · rw [y3] at hln
                    go_wp2_with fail
                    go_quiet ((go_at_call 96; exact quiet_left (HLJ.out _ (Sl.drewN HSR.out _))))
                    go_wp2_with fail
                    go_ret
                    exact ⟨rfl, bl_drewN hblr _⟩
              · have y1' : (y.key.toList != e.key.toList) = false := by simp [bne, y1]
                go_wp2_with fail
                go_quiet ((go_at_call 96; exact quiet_left (HLJ.out _ (Sl.drewN HSR.out _))))
                go_wp2_with fail
                exact ⟨⟨j + 1, by omega, by go_num, bl_drewN hblr _, bxr.drewN _, Sl.drewN HSR.out _, STEP.out (by simp [y0, y1])⟩, by simp [intOf]; omega⟩
          · obtain rfl : l.length = j := by omega
            exact absurd (fun t ht => HPRE.out t ht ht) HNO2.out
  · have hlt := L.lt
    obtain ⟨ad, rfl, -⟩ := h.get L.lt
    have hix : ∀ W, SlE W (some ad) l → W.cell? ⟨(ad.add (i * 8)).block, (ad.add (i * 8)).off + 1, none⟩ = some (.int .i64 (lastE (ser 0 l e.key)).day) ∧ W.cell? ⟨(ad.add (i * 8)).block, (ad.add (i * 8)).off + 3, none⟩ = some (.string (lastE (ser 0 l e.key)).text) := fun W H => by
      obtain ⟨ad', e1, _, _, c1, _, c3, _⟩ := H.get L.lt
      injection e1 with e1
      subst e1
      rw [L.at_] at c1 c3
      exact ⟨c1, c3⟩
    have HIX := Lib.hid hix
    clear hix
    rw [L.num] at HLA
    have hl1 : ((i + 1 : Nat) : Int) - 1 = i := by omega
    rw [hl1] at HLA
    have HL := HLA
    have hi0 : (0 : Int) ≤ i := by omega
    have hi1 : decide ((0 : Int) ≤ i) = true := decide_eq_true hi0
    have hi2 : decide ((i : Int) < 0) = false := decide_eq_false (by omega)
    have hst : staleB (ser 0 l e.key) e.day = decide (e.day < (lastE (ser 0 l e.key)).day) := by unfold staleB; rw [hse]; rfl
    rw [hst]
    generalize lastE (ser 0 l e.key) = x at *
    clear L hst hse
    cases hdd : decide (e.day < x.day)
    · cases htx : nonE e.text
      · have hnl := nil_toList
        have htx2 := (nonE_eq _ _ htx).1
        have htx3 := (nonE_eq _ _ htx).2
        suffices hs : Calls Tryz.prog 70 #[.slice (some ad) l.length c, .agg #[.int .i64 0, .int .i64 e.day, .string e.key, .string e.text, .int .i64 e.n, .int .i64 e.num, .int .i64 e.den, .bool e.act]] w fun r w' => r = .returned (.int .i64 0) ∧ Below w.heap.size w w' from hs
        go_enter Tryz.func70, Tryz.ntmps70
        go_wp2_with (first | (go_at_call 55; refine (day_any _ _).mono ?_; rintro r w0 ⟨rfl, rfl⟩) | (go_at_call 95; refine (HSUB.out _ h0.out).mono ?_; rintro r w1 ⟨rfl, hb1⟩; have bx1 := bx0.call hb1; have cc1 := Blk.get8 bx1; have hbl1 := bl_then hb0 hb1; have h1 := Lib.hid (h0.out.call hb1); have hix1 := HIX.out _ h1.out) | (go_at_call 96; refine (HL.out _ h1.out).mono ?_; rintro r w2 ⟨rfl, rfl⟩))
        go_quiet (fail)
        have bx4 := bx1.drewN nq
        have cc4 := Blk.get8 bx4
        have hbl4 := bl_drewN hbl1 nq
        have h4 := Lib.hid (Sl.drewN h1.out nq)
        have hix4 := HIX.out _ h4.out
        generalize w1.drewN nq = w4 at *
        go_wp2_with fail
        go_quiet (fail)
        have bx5 := bx4.drewN nq
        have cc5 := Blk.get8 bx5
        have hbl5 := bl_drewN hbl4 nq
        have h5 := Lib.hid (Sl.drewN h4.out nq)
        have hix5 := HIX.out _ h5.out
        generalize w4.drewN nq = w5 at *
        go_wp2_with fail
        go_ret
        exact ⟨rfl, hbl5⟩
      · have hnl := nil_toList
        have htx2 := (nonE_eq _ _ htx).1
        have htx3 := (nonE_eq _ _ htx).2
        cases htk : takenB l e
        · have hno : ∀ j (h : j < l.length), dupAt l e l[j] j = false := fun j h => by
            rw [Bool.eq_false_iff]
            exact fun h2 => by
              have := (takenB_iff l e).2 ((dup_taken l e).2 ⟨j, h, h2⟩)
              rw [htk] at this; cases this
          suffices hs : Calls Tryz.prog 70 #[.slice (some ad) l.length c, .agg #[.int .i64 0, .int .i64 e.day, .string e.key, .string e.text, .int .i64 e.n, .int .i64 e.num, .int .i64 e.den, .bool e.act]] w fun r w' => r = .returned (.int .i64 0) ∧ Below w.heap.size w w' from hs
          go_enter Tryz.func70, Tryz.ntmps70
          go_wp2_with (first | (go_at_call 55; refine (day_any _ _).mono ?_; rintro r w0 ⟨rfl, rfl⟩) | (go_at_call 95; refine (HSUB.out _ h0.out).mono ?_; rintro r w1 ⟨rfl, hb1⟩; have bx1 := bx0.call hb1; have cc1 := Blk.get8 bx1; have hbl1 := bl_then hb0 hb1; have h1 := Lib.hid (h0.out.call hb1); have hix1 := HIX.out _ h1.out) | (go_at_call 96; refine (HL.out _ h1.out).mono ?_; rintro r w2 ⟨rfl, rfl⟩))
          go_quiet (fail)
          have bx4 := bx1.drewN nq
          have cc4 := Blk.get8 bx4
          have hbl4 := bl_drewN hbl1 nq
          have h4 := Lib.hid (Sl.drewN h1.out nq)
          have hix4 := HIX.out _ h4.out
          generalize w1.drewN nq = w4 at *
          go_wp2_with fail
          have HNO := Lib.hid hno
          clear hno
          go_loopw [7] (fun v7 wr => ∃ j : Nat, j ≤ l.length ∧ v7 = .int .i64 j ∧ Below w.heap.size w wr ∧ Blk wr w.heap.size 31 #[.int .i64 0, .int .i64 e.day, .string e.key, .string e.text, .int .i64 e.n, .int .i64 e.num, .int .i64 e.den, .bool e.act] ∧ SlE wr (some ad) l ∧ ∀ t (ht : t < l.length), t < j → dupAt l e l[t] t = false) (fun v7 _ => l.length - (intOf v7).toNat)
          case atStart => exact ⟨0, Nat.zero_le _, rfl, hbl4, bx4, h4.out, fun t _ h => absurd h (Nat.not_lt_zero t)⟩
          case round =>
            obtain ⟨j, hj, rfl, hblr, bxr, hsr, hpre⟩ := hrel
            have HPRE := Lib.hid hpre
            clear hpre
            have ccr := Blk.get8 bxr
            have hixr := HIX.out _ hsr
            have HSR := Lib.hid hsr
            clear hsr
            clear bx4 cc4 hbl4 h4 cc1 h1 bx1 hbl1 hix4 hix1
            by_cases hjl : j < l.length
            · obtain ⟨ad1, had1, hadb, c0, c1, c2, c3, c4, c5, c6, c7⟩ := HSR.out.get hjl
              injection had1 with had1
              subst had1
              have hdj := HNO.out j hjl
              have hlj := fun (W : World) (H : SlE W (some ad) l) => last96 (some ad) l c 0 l[j].key W H hl hc
              have HLJ := Lib.hid hlj
              clear hlj
              have step : dupAt l e l[j] j = false → ∀ t (ht : t < l.length), t < j + 1 → dupAt l e l[t] t = false := fun hj2 t ht h => by
                rcases Nat.lt_or_ge t j with h' | h'
                · exact HPRE.out t ht h'
                · have : t = j := by omega
                  subst this; exact hj2
              have STEP := Lib.hid step
              clear step
              unfold dupAt at STEP hdj
              generalize lastN 0 l[j].key l = ln at *
              generalize l[j] = y at *
              have HDJ := Lib.hid hdj
              clear hdj
              have hln : ((ln : Int) - 1 == (j : Int)) = (ln == j + 1) := by
                rw [Bool.eq_iff_iff, beq_iff_eq, beq_iff_eq]; omega
              cases y0 : (y.kind == 0)
              · go_wp2_with fail
                go_quiet ((go_at_call 96; exact quiet_left (HLJ.out _ (Sl.drewN HSR.out _))))
                go_wp2_with fail
                exact ⟨⟨j + 1, by omega, by go_num, bl_drewN hblr _, bxr.drewN _, Sl.drewN HSR.out _, STEP.out (by simp [y0])⟩, by simp [intOf]; omega⟩
              · cases y1 : (y.key.toList == e.key.toList)
                · have y1' : (y.key.toList != e.key.toList) = true := by simp [bne, y1]
                  cases y2 : (y.text.toList == e.text.toList)
                  · go_wp2_with fail
                    go_quiet ((go_at_call 96; exact quiet_left (HLJ.out _ (Sl.drewN HSR.out _))))
                    go_wp2_with fail
                    exact ⟨⟨j + 1, by omega, by go_num, bl_drewN hblr _, bxr.drewN _, Sl.drewN HSR.out _, STEP.out (by simp [y0, y1, y2])⟩, by simp [intOf]; omega⟩
                  · cases y3 : (ln == j + 1)
                    · rw [y3] at hln
                      go_wp2_with fail
                      go_quiet ((go_at_call 96; exact quiet_left (HLJ.out _ (Sl.drewN HSR.out _))))
                      go_wp2_with fail
                      exact ⟨⟨j + 1, by omega, by go_num, bl_drewN hblr _, bxr.drewN _, Sl.drewN HSR.out _, STEP.out (by simp [y0, y1, y2, y3])⟩, by simp [intOf]; omega⟩
                    · rw [y3] at hln
                      exact absurd HDJ.out (by simp [y0, y1, y2, y3])
                · have y1' : (y.key.toList != e.key.toList) = false := by simp [bne, y1]
                  go_wp2_with fail
                  go_quiet ((go_at_call 96; exact quiet_left (HLJ.out _ (Sl.drewN HSR.out _))))
                  go_wp2_with fail
                  exact ⟨⟨j + 1, by omega, by go_num, bl_drewN hblr _, bxr.drewN _, Sl.drewN HSR.out _, STEP.out (by simp [y0, y1])⟩, by simp [intOf]; omega⟩
            · obtain rfl : l.length = j := by omega
              go_wp2_with fail
              go_quiet (fail)
              have bx5 := bxr.drewN nq
              have cc5 := Blk.get8 bx5
              have hbl5 := bl_drewN hblr nq
              have h5 := Lib.hid (Sl.drewN HSR.out nq)
              generalize wr.drewN nq = w5 at *
              have hix5 := HIX.out _ h5.out
              go_wp2_with fail
              go_ret
              exact ⟨rfl, hbl5⟩
        · have hno2 : ¬ ∀ j (h : j < l.length), dupAt l e l[j] j = false := fun hall => by
            obtain ⟨j, h, h2⟩ := (dup_taken l e).1 ((takenB_iff l e).1 htk)
            rw [hall j h] at h2; cases h2
          have HNO2 := Lib.hid hno2
          clear hno2
          suffices hs : Calls Tryz.prog 70 #[.slice (some ad) l.length c, .agg #[.int .i64 0, .int .i64 e.day, .string e.key, .string e.text, .int .i64 e.n, .int .i64 e.num, .int .i64 e.den, .bool e.act]] w fun r w' => r = .returned (.int .i64 7) ∧ Below w.heap.size w w' from hs
          go_enter Tryz.func70, Tryz.ntmps70
          go_wp2_with (first | (go_at_call 55; refine (day_any _ _).mono ?_; rintro r w0 ⟨rfl, rfl⟩) | (go_at_call 95; refine (HSUB.out _ h0.out).mono ?_; rintro r w1 ⟨rfl, hb1⟩; have bx1 := bx0.call hb1; have cc1 := Blk.get8 bx1; have hbl1 := bl_then hb0 hb1; have h1 := Lib.hid (h0.out.call hb1); have hix1 := HIX.out _ h1.out) | (go_at_call 96; refine (HL.out _ h1.out).mono ?_; rintro r w2 ⟨rfl, rfl⟩))
          go_quiet (fail)
          have bx4 := bx1.drewN nq
          have cc4 := Blk.get8 bx4
          have hbl4 := bl_drewN hbl1 nq
          have h4 := Lib.hid (Sl.drewN h1.out nq)
          have hix4 := HIX.out _ h4.out
          generalize w1.drewN nq = w4 at *
          go_wp2_with fail
          go_loopw [7] (fun v7 wr => ∃ j : Nat, j ≤ l.length ∧ v7 = .int .i64 j ∧ Below w.heap.size w wr ∧ Blk wr w.heap.size 31 #[.int .i64 0, .int .i64 e.day, .string e.key, .string e.text, .int .i64 e.n, .int .i64 e.num, .int .i64 e.den, .bool e.act] ∧ SlE wr (some ad) l ∧ ∀ t (ht : t < l.length), t < j → dupAt l e l[t] t = false) (fun v7 _ => l.length - (intOf v7).toNat)
          case atStart => exact ⟨0, Nat.zero_le _, rfl, hbl4, bx4, h4.out, fun t _ h => absurd h (Nat.not_lt_zero t)⟩
          case round =>
            obtain ⟨j, hj, rfl, hblr, bxr, hsr, hpre⟩ := hrel
            have HPRE := Lib.hid hpre
            clear hpre
            have ccr := Blk.get8 bxr
            have hixr := HIX.out _ hsr
            have HSR := Lib.hid hsr
            clear hsr
            clear bx4 cc4 hbl4 h4 cc1 h1 bx1 hbl1 hix4 hix1
            by_cases hjl : j < l.length
            · obtain ⟨ad1, had1, hadb, c0, c1, c2, c3, c4, c5, c6, c7⟩ := HSR.out.get hjl
              injection had1 with had1
              subst had1
              have hlj := fun (W : World) (H : SlE W (some ad) l) => last96 (some ad) l c 0 l[j].key W H hl hc
              have HLJ := Lib.hid hlj
              clear hlj
              have step : dupAt l e l[j] j = false → ∀ t (ht : t < l.length), t < j + 1 → dupAt l e l[t] t = false := fun hj2 t ht h => by
                rcases Nat.lt_or_ge t j with h' | h'
                · exact HPRE.out t ht h'
                · have : t = j := by omega
                  subst this; exact hj2
              have STEP := Lib.hid step
              clear step
              unfold dupAt at STEP
              generalize lastN 0 l[j].key l = ln at *
              generalize l[j] = y at *
              have hln : ((ln : Int) - 1 == (j : Int)) = (ln == j + 1) := by
                rw [Bool.eq_iff_iff, beq_iff_eq, beq_iff_eq]; omega
              cases y0 : (y.kind == 0)
              · go_wp2_with fail
                go_quiet ((go_at_call 96; exact quiet_left (HLJ.out _ (Sl.drewN HSR.out _))))
                go_wp2_with fail
                exact ⟨⟨j + 1, by omega, by go_num, bl_drewN hblr _, bxr.drewN _, Sl.drewN HSR.out _, STEP.out (by simp [y0])⟩, by simp [intOf]; omega⟩
              · cases y1 : (y.key.toList == e.key.toList)
                · have y1' : (y.key.toList != e.key.toList) = true := by simp [bne, y1]
                  cases y2 : (y.text.toList == e.text.toList)
                  · go_wp2_with fail
                    go_quiet ((go_at_call 96; exact quiet_left (HLJ.out _ (Sl.drewN HSR.out _))))
                    go_wp2_with fail
                    exact ⟨⟨j + 1, by omega, by go_num, bl_drewN hblr _, bxr.drewN _, Sl.drewN HSR.out _, STEP.out (by simp [y0, y1, y2])⟩, by simp [intOf]; omega⟩
                  · cases y3 : (ln == j + 1)
                    · rw [y3] at hln
                      go_wp2_with fail
                      go_quiet ((go_at_call 96; exact quiet_left (HLJ.out _ (Sl.drewN HSR.out _))))
                      go_wp2_with fail
                      exact ⟨⟨j + 1, by omega, by go_num, bl_drewN hblr _, bxr.drewN _, Sl.drewN HSR.out _, STEP.out (by simp [y0, y1, y2, y3])⟩, by simp [intOf]; omega⟩
                    · rw [y3] at hln
                      go_wp2_with fail
                      go_quiet ((go_at_call 96; exact quiet_left (HLJ.out _ (Sl.drewN HSR.out _))))
                      go_wp2_with fail
                      go_ret
                      exact ⟨rfl, bl_drewN hblr _⟩
                · have y1' : (y.key.toList != e.key.toList) = false := by simp [bne, y1]
                  go_wp2_with fail
                  go_quiet ((go_at_call 96; exact quiet_left (HLJ.out _ (Sl.drewN HSR.out _))))
                  go_wp2_with fail
                  exact ⟨⟨j + 1, by omega, by go_num, bl_drewN hblr _, bxr.drewN _, Sl.drewN HSR.out _, STEP.out (by simp [y0, y1])⟩, by simp [intOf]; omega⟩
            · obtain rfl : l.length = j := by omega
              exact absurd (fun t ht => HPRE.out t ht ht) HNO2.out
    · suffices hs : Calls Tryz.prog 70 #[.slice (some ad) l.length c, .agg #[.int .i64 0, .int .i64 e.day, .string e.key, .string e.text, .int .i64 e.n, .int .i64 e.num, .int .i64 e.den, .bool e.act]] w fun r w' => r = .returned (.int .i64 20) ∧ Below w.heap.size w w' from hs
      go_enter Tryz.func70, Tryz.ntmps70
      go_wp2_with (first | (go_at_call 55; refine (day_any _ _).mono ?_; rintro r w0 ⟨rfl, rfl⟩) | (go_at_call 95; refine (HSUB.out _ h0.out).mono ?_; rintro r w1 ⟨rfl, hb1⟩; have bx1 := bx0.call hb1; have cc1 := Blk.get8 bx1; have hbl1 := bl_then hb0 hb1; have h1 := Lib.hid (h0.out.call hb1); have hix1 := HIX.out _ h1.out) | (go_at_call 96; refine (HL.out _ h1.out).mono ?_; rintro r w2 ⟨rfl, rfl⟩))
      go_quiet (fail)
      have bx4 := bx1.drewN nq
      have cc4 := Blk.get8 bx4
      have hbl4 := bl_drewN hbl1 nq
      have h4 := Lib.hid (Sl.drewN h1.out nq)
      have hix4 := HIX.out _ h4.out
      generalize w1.drewN nq = w4 at *
      go_wp2_with fail
      go_ret
      exact ⟨rfl, hbl4⟩

set_option maxRecDepth 20000 in
set_option maxHeartbeats 16000000 in
theorem check70_1 (A : Option Addr) (l : List E) (c : Nat) (e : E) (he : e.kind = 1) (s : Int) (w : World) (h : SlE w A l) (hl : l.length ≤ c) (hc : c ≤ 9223372036854775807) (hn : l.length ≤ 30)
    (hsub : ∀ W, SlE W A l → Calls Tryz.prog 95 #[.slice A l.length c, e.val] W fun r w' => r = .returned (.int .i64 s) ∧ Below W.heap.size W w') :
    Calls Tryz.prog 70 #[.slice A l.length c, e.val] w fun r w' => r = .returned (.int .i64 (chkE e.day s (staleB (ser e.kind l e.key) e.day) (false) (!(ser e.kind l e.key).isEmpty && !((lastE (ser e.kind l e.key)).text.toList == e.text.toList)))) ∧ Below w.heap.size w w' := by
  have bx0 := Blk.new w 31 #[.int .i64 1, .int .i64 e.day, .string e.key, .string e.text, .int .i64 e.n, .int .i64 e.num, .int .i64 e.den, .bool e.act]
  have hb0 := bl1 w (.cells #[.int .i64 1, .int .i64 e.day, .string e.key, .string e.text, .int .i64 e.n, .int .i64 e.num, .int .i64 e.den, .bool e.act] 31)
  have h0 := Lib.hid (h.call hb0)
  have hla := fun (W : World) (H : SlE W A l) => last96 A l c e.kind e.key W H hl hc
  have HLA := Lib.hid hla
  have HSUB := Lib.hid hsub
  clear hla hsub
  unfold E.val at HSUB ⊢
  unfold chkE
  have hcs := last_cases l e.kind e.key
  rw [he] at HSUB HLA hcs ⊢
  have hky := fun (W : World) (H : SlE W A l) => keys97 A l c 1 W H hl hc hn
  have HKY := Lib.hid hky
  clear hky
  have cc0 := Blk.get8 bx0

  cases hd : dayB e.day
  · suffices hs : Calls Tryz.prog 70 #[.slice A l.length c, .agg #[.int .i64 1, .int .i64 e.day, .string e.key, .string e.text, .int .i64 e.n, .int .i64 e.num, .int .i64 e.den, .bool e.act]] w fun r w' => r = .returned (.int .i64 28) ∧ Below w.heap.size w w' from hs
    go_enter Tryz.func70, Tryz.ntmps70
    go_wp2_with (go_at_call 55; refine (day_any _ _).mono ?_; rintro r w0 ⟨rfl, rfl⟩)
    go_ret
    exact ⟨rfl, hb0⟩
  by_cases hs0 : s = 0
  case neg =>
    have hsb : (s == 0) = false := by simpa using hs0
    have hsb2 : (s != 0) = true := by simp [bne, hsb]
    rw [hsb]
    clear hs0
    suffices hs : Calls Tryz.prog 70 #[.slice A l.length c, .agg #[.int .i64 1, .int .i64 e.day, .string e.key, .string e.text, .int .i64 e.n, .int .i64 e.num, .int .i64 e.den, .bool e.act]] w fun r w' => r = .returned (.int .i64 s) ∧ Below w.heap.size w w' from hs
    go_enter Tryz.func70, Tryz.ntmps70
    go_wp2_with (first | (go_at_call 55; refine (day_any _ _).mono ?_; rintro r w0 ⟨rfl, rfl⟩) | (go_at_call 95; refine (HSUB.out _ h0.out).mono ?_; rintro r w1 ⟨rfl, hb1⟩; have bx1 := bx0.call hb1; have cc1 := Blk.get8 bx1; have hbl1 := bl_then hb0 hb1; have h1 := Lib.hid (h0.out.call hb1)))
    go_ret
    exact ⟨rfl, hbl1⟩
  subst hs0
  have hz : ((0 : Int) == 0) = true := rfl
  rw [hz]
  rcases hcs with ⟨hl0, hse⟩ | ⟨i, L, hse⟩
  · have hst : staleB (ser 1 l e.key) e.day = false := by unfold staleB; rw [hse]; rfl
    rw [hst]
    rw [hl0] at HLA
    have hl1 : ((0 : Nat) : Int) - 1 = -1 := rfl
    rw [hl1] at HLA
    have HL := HLA
    rw [hse]
    suffices hs : Calls Tryz.prog 70 #[.slice A l.length c, .agg #[.int .i64 1, .int .i64 e.day, .string e.key, .string e.text, .int .i64 e.n, .int .i64 e.num, .int .i64 e.den, .bool e.act]] w fun r w' => r = .returned (.int .i64 0) ∧ Below w.heap.size w w' from hs
    go_enter Tryz.func70, Tryz.ntmps70
    go_wp2_with (first | (go_at_call 55; refine (day_any _ _).mono ?_; rintro r w0 ⟨rfl, rfl⟩) | (go_at_call 95; refine (HSUB.out _ h0.out).mono ?_; rintro r w1 ⟨rfl, hb1⟩; have bx1 := bx0.call hb1; have cc1 := Blk.get8 bx1; have hbl1 := bl_then hb0 hb1; have h1 := Lib.hid (h0.out.call hb1)) | (go_at_call 96; refine (HL.out _ h1.out).mono ?_; rintro r w2 ⟨rfl, rfl⟩))
    go_quiet (fail)
    have bx4 := bx1.drewN nq
    have cc4 := Blk.get8 bx4
    have hbl4 := bl_drewN hbl1 nq
    have h4 := Lib.hid (Sl.drewN h1.out nq)
    generalize w1.drewN nq = w4 at *
    go_wp2_with fail
    go_quiet (fail)
    have bx5 := bx4.drewN nq
    have cc5 := Blk.get8 bx5
    have hbl5 := bl_drewN hbl4 nq
    have h5 := Lib.hid (Sl.drewN h4.out nq)
    generalize w4.drewN nq = w5 at *
    go_wp2_with (go_at_call 97; refine (HKY.out _ h5.out).mono ?_; rintro r w3 ⟨⟨A3, n3, c3, rfl, hn3⟩, hb3⟩; have hn4 : decide ((4096 : Int) ≤ (n3 : Int)) = false := decide_eq_false (by omega))
    go_ret
    exact ⟨rfl, bl_then hbl5 hb3⟩
  · have hlt := L.lt
    obtain ⟨ad, rfl, -⟩ := h.get L.lt
    have hix : ∀ W, SlE W (some ad) l → W.cell? ⟨(ad.add (i * 8)).block, (ad.add (i * 8)).off + 1, none⟩ = some (.int .i64 (lastE (ser 1 l e.key)).day) ∧ W.cell? ⟨(ad.add (i * 8)).block, (ad.add (i * 8)).off + 3, none⟩ = some (.string (lastE (ser 1 l e.key)).text) := fun W H => by
      obtain ⟨ad', e1, _, _, c1, _, c3, _⟩ := H.get L.lt
      injection e1 with e1
      subst e1
      rw [L.at_] at c1 c3
      exact ⟨c1, c3⟩
    have HIX := Lib.hid hix
    clear hix
    rw [L.num] at HLA
    have hl1 : ((i + 1 : Nat) : Int) - 1 = i := by omega
    rw [hl1] at HLA
    have HL := HLA
    have hi0 : (0 : Int) ≤ i := by omega
    have hi1 : decide ((0 : Int) ≤ i) = true := decide_eq_true hi0
    have hi2 : decide ((i : Int) < 0) = false := decide_eq_false (by omega)
    have hst : staleB (ser 1 l e.key) e.day = decide (e.day < (lastE (ser 1 l e.key)).day) := by unfold staleB; rw [hse]; rfl
    rw [hst]
    rw [hse]
    generalize lastE (ser 1 l e.key) = x at *
    clear L hst hse
    cases hdd : decide (e.day < x.day)
    · cases hoth : (x.text.toList == e.text.toList)
      · have hoth2 : (x.text.toList != e.text.toList) = true := by simp [bne, hoth]
        suffices hs : Calls Tryz.prog 70 #[.slice (some ad) l.length c, .agg #[.int .i64 1, .int .i64 e.day, .string e.key, .string e.text, .int .i64 e.n, .int .i64 e.num, .int .i64 e.den, .bool e.act]] w fun r w' => r = .returned (.int .i64 11) ∧ Below w.heap.size w w' from hs
        go_enter Tryz.func70, Tryz.ntmps70
        go_wp2_with (first | (go_at_call 55; refine (day_any _ _).mono ?_; rintro r w0 ⟨rfl, rfl⟩) | (go_at_call 95; refine (HSUB.out _ h0.out).mono ?_; rintro r w1 ⟨rfl, hb1⟩; have bx1 := bx0.call hb1; have cc1 := Blk.get8 bx1; have hbl1 := bl_then hb0 hb1; have h1 := Lib.hid (h0.out.call hb1); have hix1 := HIX.out _ h1.out) | (go_at_call 96; refine (HL.out _ h1.out).mono ?_; rintro r w2 ⟨rfl, rfl⟩))
        go_quiet (fail)
        have bx4 := bx1.drewN nq
        have cc4 := Blk.get8 bx4
        have hbl4 := bl_drewN hbl1 nq
        have h4 := Lib.hid (Sl.drewN h1.out nq)
        have hix4 := HIX.out _ h4.out
        generalize w1.drewN nq = w4 at *
        go_wp2_with fail
        go_quiet (fail)
        have bx5 := bx4.drewN nq
        have cc5 := Blk.get8 bx5
        have hbl5 := bl_drewN hbl4 nq
        have h5 := Lib.hid (Sl.drewN h4.out nq)
        have hix5 := HIX.out _ h5.out
        generalize w4.drewN nq = w5 at *
        go_wp2_with fail
        go_ret
        exact ⟨rfl, hbl5⟩
      · have hoth2 : (x.text.toList != e.text.toList) = false := by simp [bne, hoth]
        suffices hs : Calls Tryz.prog 70 #[.slice (some ad) l.length c, .agg #[.int .i64 1, .int .i64 e.day, .string e.key, .string e.text, .int .i64 e.n, .int .i64 e.num, .int .i64 e.den, .bool e.act]] w fun r w' => r = .returned (.int .i64 0) ∧ Below w.heap.size w w' from hs
        go_enter Tryz.func70, Tryz.ntmps70
        go_wp2_with (first | (go_at_call 55; refine (day_any _ _).mono ?_; rintro r w0 ⟨rfl, rfl⟩) | (go_at_call 95; refine (HSUB.out _ h0.out).mono ?_; rintro r w1 ⟨rfl, hb1⟩; have bx1 := bx0.call hb1; have cc1 := Blk.get8 bx1; have hbl1 := bl_then hb0 hb1; have h1 := Lib.hid (h0.out.call hb1); have hix1 := HIX.out _ h1.out) | (go_at_call 96; refine (HL.out _ h1.out).mono ?_; rintro r w2 ⟨rfl, rfl⟩))
        go_quiet (fail)
        have bx4 := bx1.drewN nq
        have cc4 := Blk.get8 bx4
        have hbl4 := bl_drewN hbl1 nq
        have h4 := Lib.hid (Sl.drewN h1.out nq)
        have hix4 := HIX.out _ h4.out
        generalize w1.drewN nq = w4 at *
        go_wp2_with fail
        go_quiet (fail)
        have bx5 := bx4.drewN nq
        have cc5 := Blk.get8 bx5
        have hbl5 := bl_drewN hbl4 nq
        have h5 := Lib.hid (Sl.drewN h4.out nq)
        have hix5 := HIX.out _ h5.out
        generalize w4.drewN nq = w5 at *
        go_wp2_with fail
        go_ret
        exact ⟨rfl, hbl5⟩
    · suffices hs : Calls Tryz.prog 70 #[.slice (some ad) l.length c, .agg #[.int .i64 1, .int .i64 e.day, .string e.key, .string e.text, .int .i64 e.n, .int .i64 e.num, .int .i64 e.den, .bool e.act]] w fun r w' => r = .returned (.int .i64 20) ∧ Below w.heap.size w w' from hs
      go_enter Tryz.func70, Tryz.ntmps70
      go_wp2_with (first | (go_at_call 55; refine (day_any _ _).mono ?_; rintro r w0 ⟨rfl, rfl⟩) | (go_at_call 95; refine (HSUB.out _ h0.out).mono ?_; rintro r w1 ⟨rfl, hb1⟩; have bx1 := bx0.call hb1; have cc1 := Blk.get8 bx1; have hbl1 := bl_then hb0 hb1; have h1 := Lib.hid (h0.out.call hb1); have hix1 := HIX.out _ h1.out) | (go_at_call 96; refine (HL.out _ h1.out).mono ?_; rintro r w2 ⟨rfl, rfl⟩))
      go_quiet (fail)
      have bx4 := bx1.drewN nq
      have cc4 := Blk.get8 bx4
      have hbl4 := bl_drewN hbl1 nq
      have h4 := Lib.hid (Sl.drewN h1.out nq)
      have hix4 := HIX.out _ h4.out
      generalize w1.drewN nq = w4 at *
      go_wp2_with fail
      go_ret
      exact ⟨rfl, hbl4⟩

set_option maxRecDepth 20000 in
set_option maxHeartbeats 16000000 in
theorem check70_2 (A : Option Addr) (l : List E) (c : Nat) (e : E) (he : e.kind = 2) (s : Int) (w : World) (h : SlE w A l) (hl : l.length ≤ c) (hc : c ≤ 9223372036854775807) (hn : l.length ≤ 30)
    (hsub : ∀ W, SlE W A l → Calls Tryz.prog 95 #[.slice A l.length c, e.val] W fun r w' => r = .returned (.int .i64 s) ∧ Below W.heap.size W w') :
    Calls Tryz.prog 70 #[.slice A l.length c, e.val] w fun r w' => r = .returned (.int .i64 (chkE e.day s (staleB (ser e.kind l e.key) e.day) (false) (false))) ∧ Below w.heap.size w w' := by
  have bx0 := Blk.new w 31 #[.int .i64 2, .int .i64 e.day, .string e.key, .string e.text, .int .i64 e.n, .int .i64 e.num, .int .i64 e.den, .bool e.act]
  have hb0 := bl1 w (.cells #[.int .i64 2, .int .i64 e.day, .string e.key, .string e.text, .int .i64 e.n, .int .i64 e.num, .int .i64 e.den, .bool e.act] 31)
  have h0 := Lib.hid (h.call hb0)
  have hla := fun (W : World) (H : SlE W A l) => last96 A l c e.kind e.key W H hl hc
  have HLA := Lib.hid hla
  have HSUB := Lib.hid hsub
  clear hla hsub
  unfold E.val at HSUB ⊢
  unfold chkE
  have hcs := last_cases l e.kind e.key
  rw [he] at HSUB HLA hcs ⊢
  have hky := fun (W : World) (H : SlE W A l) => keys97 A l c 2 W H hl hc hn
  have HKY := Lib.hid hky
  clear hky
  have cc0 := Blk.get8 bx0

  cases hd : dayB e.day
  · suffices hs : Calls Tryz.prog 70 #[.slice A l.length c, .agg #[.int .i64 2, .int .i64 e.day, .string e.key, .string e.text, .int .i64 e.n, .int .i64 e.num, .int .i64 e.den, .bool e.act]] w fun r w' => r = .returned (.int .i64 28) ∧ Below w.heap.size w w' from hs
    go_enter Tryz.func70, Tryz.ntmps70
    go_wp2_with (go_at_call 55; refine (day_any _ _).mono ?_; rintro r w0 ⟨rfl, rfl⟩)
    go_ret
    exact ⟨rfl, hb0⟩
  by_cases hs0 : s = 0
  case neg =>
    have hsb : (s == 0) = false := by simpa using hs0
    have hsb2 : (s != 0) = true := by simp [bne, hsb]
    rw [hsb]
    clear hs0
    suffices hs : Calls Tryz.prog 70 #[.slice A l.length c, .agg #[.int .i64 2, .int .i64 e.day, .string e.key, .string e.text, .int .i64 e.n, .int .i64 e.num, .int .i64 e.den, .bool e.act]] w fun r w' => r = .returned (.int .i64 s) ∧ Below w.heap.size w w' from hs
    go_enter Tryz.func70, Tryz.ntmps70
    go_wp2_with (first | (go_at_call 55; refine (day_any _ _).mono ?_; rintro r w0 ⟨rfl, rfl⟩) | (go_at_call 95; refine (HSUB.out _ h0.out).mono ?_; rintro r w1 ⟨rfl, hb1⟩; have bx1 := bx0.call hb1; have cc1 := Blk.get8 bx1; have hbl1 := bl_then hb0 hb1; have h1 := Lib.hid (h0.out.call hb1)))
    go_ret
    exact ⟨rfl, hbl1⟩
  subst hs0
  have hz : ((0 : Int) == 0) = true := rfl
  rw [hz]
  rcases hcs with ⟨hl0, hse⟩ | ⟨i, L, hse⟩
  · have hst : staleB (ser 2 l e.key) e.day = false := by unfold staleB; rw [hse]; rfl
    rw [hst]
    rw [hl0] at HLA
    have hl1 : ((0 : Nat) : Int) - 1 = -1 := rfl
    rw [hl1] at HLA
    have HL := HLA
    suffices hs : Calls Tryz.prog 70 #[.slice A l.length c, .agg #[.int .i64 2, .int .i64 e.day, .string e.key, .string e.text, .int .i64 e.n, .int .i64 e.num, .int .i64 e.den, .bool e.act]] w fun r w' => r = .returned (.int .i64 0) ∧ Below w.heap.size w w' from hs
    go_enter Tryz.func70, Tryz.ntmps70
    go_wp2_with (first | (go_at_call 55; refine (day_any _ _).mono ?_; rintro r w0 ⟨rfl, rfl⟩) | (go_at_call 95; refine (HSUB.out _ h0.out).mono ?_; rintro r w1 ⟨rfl, hb1⟩; have bx1 := bx0.call hb1; have cc1 := Blk.get8 bx1; have hbl1 := bl_then hb0 hb1; have h1 := Lib.hid (h0.out.call hb1)) | (go_at_call 96; refine (HL.out _ h1.out).mono ?_; rintro r w2 ⟨rfl, rfl⟩))
    go_quiet (fail)
    have bx4 := bx1.drewN nq
    have cc4 := Blk.get8 bx4
    have hbl4 := bl_drewN hbl1 nq
    have h4 := Lib.hid (Sl.drewN h1.out nq)
    generalize w1.drewN nq = w4 at *
    go_wp2_with fail
    go_quiet (fail)
    have bx5 := bx4.drewN nq
    have cc5 := Blk.get8 bx5
    have hbl5 := bl_drewN hbl4 nq
    have h5 := Lib.hid (Sl.drewN h4.out nq)
    generalize w4.drewN nq = w5 at *
    go_wp2_with fail
    go_ret
    exact ⟨rfl, hbl5⟩
  · have hlt := L.lt
    obtain ⟨ad, rfl, -⟩ := h.get L.lt
    have hix : ∀ W, SlE W (some ad) l → W.cell? ⟨(ad.add (i * 8)).block, (ad.add (i * 8)).off + 1, none⟩ = some (.int .i64 (lastE (ser 2 l e.key)).day) ∧ W.cell? ⟨(ad.add (i * 8)).block, (ad.add (i * 8)).off + 3, none⟩ = some (.string (lastE (ser 2 l e.key)).text) := fun W H => by
      obtain ⟨ad', e1, _, _, c1, _, c3, _⟩ := H.get L.lt
      injection e1 with e1
      subst e1
      rw [L.at_] at c1 c3
      exact ⟨c1, c3⟩
    have HIX := Lib.hid hix
    clear hix
    rw [L.num] at HLA
    have hl1 : ((i + 1 : Nat) : Int) - 1 = i := by omega
    rw [hl1] at HLA
    have HL := HLA
    have hi0 : (0 : Int) ≤ i := by omega
    have hi1 : decide ((0 : Int) ≤ i) = true := decide_eq_true hi0
    have hi2 : decide ((i : Int) < 0) = false := decide_eq_false (by omega)
    have hst : staleB (ser 2 l e.key) e.day = decide (e.day < (lastE (ser 2 l e.key)).day) := by unfold staleB; rw [hse]; rfl
    rw [hst]
    generalize lastE (ser 2 l e.key) = x at *
    clear L hst hse
    cases hdd : decide (e.day < x.day)
    · suffices hs : Calls Tryz.prog 70 #[.slice (some ad) l.length c, .agg #[.int .i64 2, .int .i64 e.day, .string e.key, .string e.text, .int .i64 e.n, .int .i64 e.num, .int .i64 e.den, .bool e.act]] w fun r w' => r = .returned (.int .i64 0) ∧ Below w.heap.size w w' from hs
      go_enter Tryz.func70, Tryz.ntmps70
      go_wp2_with (first | (go_at_call 55; refine (day_any _ _).mono ?_; rintro r w0 ⟨rfl, rfl⟩) | (go_at_call 95; refine (HSUB.out _ h0.out).mono ?_; rintro r w1 ⟨rfl, hb1⟩; have bx1 := bx0.call hb1; have cc1 := Blk.get8 bx1; have hbl1 := bl_then hb0 hb1; have h1 := Lib.hid (h0.out.call hb1); have hix1 := HIX.out _ h1.out) | (go_at_call 96; refine (HL.out _ h1.out).mono ?_; rintro r w2 ⟨rfl, rfl⟩))
      go_quiet (fail)
      have bx4 := bx1.drewN nq
      have cc4 := Blk.get8 bx4
      have hbl4 := bl_drewN hbl1 nq
      have h4 := Lib.hid (Sl.drewN h1.out nq)
      have hix4 := HIX.out _ h4.out
      generalize w1.drewN nq = w4 at *
      go_wp2_with fail
      go_quiet (fail)
      have bx5 := bx4.drewN nq
      have cc5 := Blk.get8 bx5
      have hbl5 := bl_drewN hbl4 nq
      have h5 := Lib.hid (Sl.drewN h4.out nq)
      have hix5 := HIX.out _ h5.out
      generalize w4.drewN nq = w5 at *
      go_wp2_with fail
      go_ret
      exact ⟨rfl, hbl5⟩
    · suffices hs : Calls Tryz.prog 70 #[.slice (some ad) l.length c, .agg #[.int .i64 2, .int .i64 e.day, .string e.key, .string e.text, .int .i64 e.n, .int .i64 e.num, .int .i64 e.den, .bool e.act]] w fun r w' => r = .returned (.int .i64 20) ∧ Below w.heap.size w w' from hs
      go_enter Tryz.func70, Tryz.ntmps70
      go_wp2_with (first | (go_at_call 55; refine (day_any _ _).mono ?_; rintro r w0 ⟨rfl, rfl⟩) | (go_at_call 95; refine (HSUB.out _ h0.out).mono ?_; rintro r w1 ⟨rfl, hb1⟩; have bx1 := bx0.call hb1; have cc1 := Blk.get8 bx1; have hbl1 := bl_then hb0 hb1; have h1 := Lib.hid (h0.out.call hb1); have hix1 := HIX.out _ h1.out) | (go_at_call 96; refine (HL.out _ h1.out).mono ?_; rintro r w2 ⟨rfl, rfl⟩))
      go_quiet (fail)
      have bx4 := bx1.drewN nq
      have cc4 := Blk.get8 bx4
      have hbl4 := bl_drewN hbl1 nq
      have h4 := Lib.hid (Sl.drewN h1.out nq)
      have hix4 := HIX.out _ h4.out
      generalize w1.drewN nq = w4 at *
      go_wp2_with fail
      go_ret
      exact ⟨rfl, hbl4⟩

set_option maxRecDepth 20000 in
set_option maxHeartbeats 16000000 in
theorem check70_3 (A : Option Addr) (l : List E) (c : Nat) (e : E) (he : e.kind = 3) (s : Int) (w : World) (h : SlE w A l) (hl : l.length ≤ c) (hc : c ≤ 9223372036854775807) (hn : l.length ≤ 30)
    (hsub : ∀ W, SlE W A l → Calls Tryz.prog 95 #[.slice A l.length c, e.val] W fun r w' => r = .returned (.int .i64 s) ∧ Below W.heap.size W w') :
    Calls Tryz.prog 70 #[.slice A l.length c, e.val] w fun r w' => r = .returned (.int .i64 (chkE e.day s (staleB (ser e.kind l e.key) e.day) (false) (false))) ∧ Below w.heap.size w w' := by
  have bx0 := Blk.new w 31 #[.int .i64 3, .int .i64 e.day, .string e.key, .string e.text, .int .i64 e.n, .int .i64 e.num, .int .i64 e.den, .bool e.act]
  have hb0 := bl1 w (.cells #[.int .i64 3, .int .i64 e.day, .string e.key, .string e.text, .int .i64 e.n, .int .i64 e.num, .int .i64 e.den, .bool e.act] 31)
  have h0 := Lib.hid (h.call hb0)
  have hla := fun (W : World) (H : SlE W A l) => last96 A l c e.kind e.key W H hl hc
  have HLA := Lib.hid hla
  have HSUB := Lib.hid hsub
  clear hla hsub
  unfold E.val at HSUB ⊢
  unfold chkE
  have hcs := last_cases l e.kind e.key
  rw [he] at HSUB HLA hcs ⊢
  have hky := fun (W : World) (H : SlE W A l) => keys97 A l c 3 W H hl hc hn
  have HKY := Lib.hid hky
  clear hky
  have cc0 := Blk.get8 bx0

  cases hd : dayB e.day
  · suffices hs : Calls Tryz.prog 70 #[.slice A l.length c, .agg #[.int .i64 3, .int .i64 e.day, .string e.key, .string e.text, .int .i64 e.n, .int .i64 e.num, .int .i64 e.den, .bool e.act]] w fun r w' => r = .returned (.int .i64 28) ∧ Below w.heap.size w w' from hs
    go_enter Tryz.func70, Tryz.ntmps70
    go_wp2_with (go_at_call 55; refine (day_any _ _).mono ?_; rintro r w0 ⟨rfl, rfl⟩)
    go_ret
    exact ⟨rfl, hb0⟩
  by_cases hs0 : s = 0
  case neg =>
    have hsb : (s == 0) = false := by simpa using hs0
    have hsb2 : (s != 0) = true := by simp [bne, hsb]
    rw [hsb]
    clear hs0
    suffices hs : Calls Tryz.prog 70 #[.slice A l.length c, .agg #[.int .i64 3, .int .i64 e.day, .string e.key, .string e.text, .int .i64 e.n, .int .i64 e.num, .int .i64 e.den, .bool e.act]] w fun r w' => r = .returned (.int .i64 s) ∧ Below w.heap.size w w' from hs
    go_enter Tryz.func70, Tryz.ntmps70
    go_wp2_with (first | (go_at_call 55; refine (day_any _ _).mono ?_; rintro r w0 ⟨rfl, rfl⟩) | (go_at_call 95; refine (HSUB.out _ h0.out).mono ?_; rintro r w1 ⟨rfl, hb1⟩; have bx1 := bx0.call hb1; have cc1 := Blk.get8 bx1; have hbl1 := bl_then hb0 hb1; have h1 := Lib.hid (h0.out.call hb1)))
    go_ret
    exact ⟨rfl, hbl1⟩
  subst hs0
  have hz : ((0 : Int) == 0) = true := rfl
  rw [hz]
  rcases hcs with ⟨hl0, hse⟩ | ⟨i, L, hse⟩
  · have hst : staleB (ser 3 l e.key) e.day = false := by unfold staleB; rw [hse]; rfl
    rw [hst]
    rw [hl0] at HLA
    have hl1 : ((0 : Nat) : Int) - 1 = -1 := rfl
    rw [hl1] at HLA
    have HL := HLA
    suffices hs : Calls Tryz.prog 70 #[.slice A l.length c, .agg #[.int .i64 3, .int .i64 e.day, .string e.key, .string e.text, .int .i64 e.n, .int .i64 e.num, .int .i64 e.den, .bool e.act]] w fun r w' => r = .returned (.int .i64 0) ∧ Below w.heap.size w w' from hs
    go_enter Tryz.func70, Tryz.ntmps70
    go_wp2_with (first | (go_at_call 55; refine (day_any _ _).mono ?_; rintro r w0 ⟨rfl, rfl⟩) | (go_at_call 95; refine (HSUB.out _ h0.out).mono ?_; rintro r w1 ⟨rfl, hb1⟩; have bx1 := bx0.call hb1; have cc1 := Blk.get8 bx1; have hbl1 := bl_then hb0 hb1; have h1 := Lib.hid (h0.out.call hb1)) | (go_at_call 96; refine (HL.out _ h1.out).mono ?_; rintro r w2 ⟨rfl, rfl⟩))
    go_quiet (fail)
    have bx4 := bx1.drewN nq
    have cc4 := Blk.get8 bx4
    have hbl4 := bl_drewN hbl1 nq
    have h4 := Lib.hid (Sl.drewN h1.out nq)
    generalize w1.drewN nq = w4 at *
    go_wp2_with fail
    go_quiet (fail)
    have bx5 := bx4.drewN nq
    have cc5 := Blk.get8 bx5
    have hbl5 := bl_drewN hbl4 nq
    have h5 := Lib.hid (Sl.drewN h4.out nq)
    generalize w4.drewN nq = w5 at *
    go_wp2_with fail
    go_ret
    exact ⟨rfl, hbl5⟩
  · have hlt := L.lt
    obtain ⟨ad, rfl, -⟩ := h.get L.lt
    have hix : ∀ W, SlE W (some ad) l → W.cell? ⟨(ad.add (i * 8)).block, (ad.add (i * 8)).off + 1, none⟩ = some (.int .i64 (lastE (ser 3 l e.key)).day) ∧ W.cell? ⟨(ad.add (i * 8)).block, (ad.add (i * 8)).off + 3, none⟩ = some (.string (lastE (ser 3 l e.key)).text) := fun W H => by
      obtain ⟨ad', e1, _, _, c1, _, c3, _⟩ := H.get L.lt
      injection e1 with e1
      subst e1
      rw [L.at_] at c1 c3
      exact ⟨c1, c3⟩
    have HIX := Lib.hid hix
    clear hix
    rw [L.num] at HLA
    have hl1 : ((i + 1 : Nat) : Int) - 1 = i := by omega
    rw [hl1] at HLA
    have HL := HLA
    have hi0 : (0 : Int) ≤ i := by omega
    have hi1 : decide ((0 : Int) ≤ i) = true := decide_eq_true hi0
    have hi2 : decide ((i : Int) < 0) = false := decide_eq_false (by omega)
    have hst : staleB (ser 3 l e.key) e.day = decide (e.day < (lastE (ser 3 l e.key)).day) := by unfold staleB; rw [hse]; rfl
    rw [hst]
    generalize lastE (ser 3 l e.key) = x at *
    clear L hst hse
    cases hdd : decide (e.day < x.day)
    · suffices hs : Calls Tryz.prog 70 #[.slice (some ad) l.length c, .agg #[.int .i64 3, .int .i64 e.day, .string e.key, .string e.text, .int .i64 e.n, .int .i64 e.num, .int .i64 e.den, .bool e.act]] w fun r w' => r = .returned (.int .i64 0) ∧ Below w.heap.size w w' from hs
      go_enter Tryz.func70, Tryz.ntmps70
      go_wp2_with (first | (go_at_call 55; refine (day_any _ _).mono ?_; rintro r w0 ⟨rfl, rfl⟩) | (go_at_call 95; refine (HSUB.out _ h0.out).mono ?_; rintro r w1 ⟨rfl, hb1⟩; have bx1 := bx0.call hb1; have cc1 := Blk.get8 bx1; have hbl1 := bl_then hb0 hb1; have h1 := Lib.hid (h0.out.call hb1); have hix1 := HIX.out _ h1.out) | (go_at_call 96; refine (HL.out _ h1.out).mono ?_; rintro r w2 ⟨rfl, rfl⟩))
      go_quiet (fail)
      have bx4 := bx1.drewN nq
      have cc4 := Blk.get8 bx4
      have hbl4 := bl_drewN hbl1 nq
      have h4 := Lib.hid (Sl.drewN h1.out nq)
      have hix4 := HIX.out _ h4.out
      generalize w1.drewN nq = w4 at *
      go_wp2_with fail
      go_quiet (fail)
      have bx5 := bx4.drewN nq
      have cc5 := Blk.get8 bx5
      have hbl5 := bl_drewN hbl4 nq
      have h5 := Lib.hid (Sl.drewN h4.out nq)
      have hix5 := HIX.out _ h5.out
      generalize w4.drewN nq = w5 at *
      go_wp2_with fail
      go_ret
      exact ⟨rfl, hbl5⟩
    · suffices hs : Calls Tryz.prog 70 #[.slice (some ad) l.length c, .agg #[.int .i64 3, .int .i64 e.day, .string e.key, .string e.text, .int .i64 e.n, .int .i64 e.num, .int .i64 e.den, .bool e.act]] w fun r w' => r = .returned (.int .i64 20) ∧ Below w.heap.size w w' from hs
      go_enter Tryz.func70, Tryz.ntmps70
      go_wp2_with (first | (go_at_call 55; refine (day_any _ _).mono ?_; rintro r w0 ⟨rfl, rfl⟩) | (go_at_call 95; refine (HSUB.out _ h0.out).mono ?_; rintro r w1 ⟨rfl, hb1⟩; have bx1 := bx0.call hb1; have cc1 := Blk.get8 bx1; have hbl1 := bl_then hb0 hb1; have h1 := Lib.hid (h0.out.call hb1); have hix1 := HIX.out _ h1.out) | (go_at_call 96; refine (HL.out _ h1.out).mono ?_; rintro r w2 ⟨rfl, rfl⟩))
      go_quiet (fail)
      have bx4 := bx1.drewN nq
      have cc4 := Blk.get8 bx4
      have hbl4 := bl_drewN hbl1 nq
      have h4 := Lib.hid (Sl.drewN h1.out nq)
      have hix4 := HIX.out _ h4.out
      generalize w1.drewN nq = w4 at *
      go_wp2_with fail
      go_ret
      exact ⟨rfl, hbl4⟩
end Go.Proofs.YtongoicadcmfaaaGreatDoor.V
