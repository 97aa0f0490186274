/- giroref05.Check. (Printed by gen_rcheck.py.) -/
import Derived.Test.YtongoicadcmfaaaGreatDoorVRCheck
namespace Go.Proofs.YtongoicadcmfaaaGreatDoor.V
open Go.RowKit Go.Sort

set_option maxRecDepth 100000 in
set_option maxHeartbeats 4000000 in
theorem check122_0 (s : ByteArray) (hs : s.size ≤ 9223372036854775807) (hform : okForm fs0 12 s → s.size = 12 ∧ aln (s.extract 0 11) ∧ (s.extract 0 11).size = 11) (w : World) :
    Calls Tryz.prog 122 #[.int .i64 0, .string s] w fun e w' => (∃ at_ er : Int, e = .returned (.tuple #[.int .i64 at_, .int .i64 er]) ∧ (er = 0 ↔ okForm fs0 12 s ∧ chkR0 s)) ∧ Below w.heap.size w w' := by
  go_enter Tryz.func122, Tryz.ntmps122
  go_wp2_with (go_at_call 129; refine (lengths_0 _).mono ?_; rintro e w1 ⟨rfl, rfl⟩)
  go_loop [8] (fun v8 => ∃ i : Nat, i ≤ 12 ∧ v8 = .int .i64 i ∧ okP fs0 i s) (fun v8 => 12 - (intOf v8).toNat)
  case atStart => exact ⟨0, Nat.zero_le _, rfl, fun k hk => absurd hk (Nat.not_lt_zero _)⟩
  case round =>
    obtain ⟨i, hi, rfl, hok⟩ := hrel
    have HOK := Lib.hid hok
    clear hok
    by_cases hlt : i < 12
    · have hlt' : (i : Int) < 12 := by omega
      by_cases hsz : i < s.size
      · have hsz' : (i : Int) < (s.size : Int) := by omega
        obtain ⟨c, ec⟩ : ∃ c, s[i] = c := ⟨_, rfl⟩
        have ebat : bat s i = (c.toNat : Int) := by simp [bat, hsz, ec]
        have EB := Lib.hid ebat
        clear ebat
        obtain ⟨b, eb⟩ : ∃ b, cls (fs0.getD i 0) (c.toNat : Int) = b := ⟨_, rfl⟩
        have EBB := Lib.hid eb
        have hmay := fun w => may_0 i hlt (c.toNat : Int) w
        rw [eb] at hmay
        have HMAY := Lib.hid hmay
        clear hmay eb
        cases b
        · have hno : ¬ okPref fs0 s := fun h => by
            have h2 := (okP_pref fs0 s).2 h i hlt hsz
            rw [EB.out, EBB.out] at h2
            exact absurd h2 (by decide)
          have HNO := Lib.hid hno
          clear hno
          go_wp2_with (go_at_call 130; refine (HMAY.out _).mono ?_; rintro e w' ⟨rfl, rfl⟩)
          go_ret2
          refine ⟨⟨_, _, rfl, ?_⟩, Below.refl _ _⟩
          exact ⟨fun h => absurd h (by decide), fun h => absurd h.1.1 HNO.out⟩
        · have hok' : okP fs0 (i + 1) s := fun k hk hs' => by
            by_cases hki : k = i
            · subst hki; rw [EB.out]; exact EBB.out
            · exact HOK.out k (by omega) hs'
          have HOK' := Lib.hid hok'
          clear hok'
          go_wp2_with (go_at_call 130; refine (HMAY.out _).mono ?_; rintro e w' ⟨rfl, rfl⟩)
          refine ⟨⟨i + 1, hlt, by go_num, HOK'.out⟩, by simp [intOf]; omega⟩
      · have hpre : okPref fs0 s := (okP_pref fs0 s).1 fun k hk hs' => HOK.out k (by omega) hs'
        have HP := Lib.hid hpre
        have hsz' : ¬ (i : Int) < (s.size : Int) := by omega
        clear hpre
        by_cases h1 : (s.size : Int) < 12
        · have hno : ¬ okForm fs0 12 s := fun h => absurd h.2.1 (by omega)
          have HNO := Lib.hid hno
          clear hno
          go_wp2_with fail
          go_ret2
          refine ⟨⟨_, _, rfl, ?_⟩, Below.refl _ _⟩
          exact ⟨fun h => absurd h (by decide), fun h => absurd h.1 HNO.out⟩
        · by_cases h2 : (12 : Int) < (s.size : Int)
          · have hno : ¬ okForm fs0 12 s := fun h => absurd h.2.2 (by have : fs0.length = 12 := rfl; omega)
            have HNO := Lib.hid hno
            clear hno
            go_wp2_with fail
            go_ret2
            refine ⟨⟨_, _, rfl, ?_⟩, Below.refl _ _⟩
            exact ⟨fun h => absurd h (by decide), fun h => absurd h.1 HNO.out⟩
          · have hyes : okForm fs0 12 s := ⟨HP.out, by omega, by have : fs0.length = 12 := rfl; omega⟩
            have HY := Lib.hid hyes
            clear hyes
            exfalso
            have := HY.out.2.1
            omega
    · have hpre : okPref fs0 s := (okP_pref fs0 s).1 fun k hk hs' => HOK.out k (by have : fs0.length = 12 := rfl; omega) hs'
      have HP := Lib.hid hpre
      obtain rfl : i = 12 := by omega
      clear hpre
      by_cases h1 : (s.size : Int) < 12
      · have hno : ¬ okForm fs0 12 s := fun h => absurd h.2.1 (by omega)
        have HNO := Lib.hid hno
        clear hno
        go_wp2_with fail
        go_ret2
        refine ⟨⟨_, _, rfl, ?_⟩, Below.refl _ _⟩
        exact ⟨fun h => absurd h (by decide), fun h => absurd h.1 HNO.out⟩
      · by_cases h2 : (12 : Int) < (s.size : Int)
        · have hno : ¬ okForm fs0 12 s := fun h => absurd h.2.2 (by have : fs0.length = 12 := rfl; omega)
          have HNO := Lib.hid hno
          clear hno
          go_wp2_with fail
          go_ret2
          refine ⟨⟨_, _, rfl, ?_⟩, Below.refl _ _⟩
          exact ⟨fun h => absurd h (by decide), fun h => absurd h.1 HNO.out⟩
        · have hyes : okForm fs0 12 s := ⟨HP.out, by omega, by have : fs0.length = 12 := rfl; omega⟩
          have HY := Lib.hid hyes
          clear hyes
          obtain ⟨hsize, hal, hbs⟩ := hform HY.out
          have hi11 : 11 < s.size := by omega
          obtain ⟨c, ec⟩ : ∃ c, s[11] = c := ⟨_, rfl⟩
          have ebat : bat s 11 = (c.toNat : Int) := by simp [bat, hi11, ec]
          have hdg : digB (c.toNat : Int) = true := by
            have := HP.out 11 (by decide) hi11
            rw [ebat] at this
            exact this
          have hd1 : 48 ≤ (c.toNat : Int) := by simp only [digB, Bool.and_eq_true, decide_eq_true_eq] at hdg; exact hdg.1
          have hd2 : (c.toNat : Int) ≤ 57 := by simp only [digB, Bool.and_eq_true, decide_eq_true_eq] at hdg; exact hdg.2
          obtain ⟨L, eL⟩ : ∃ L, luhnD (exN (s.extract 0 11).data.toList) = L := ⟨_, rfl⟩
          have hcall : ∀ W, Calls Tryz.prog 131 #[.string (s.extract 0 11)] W fun e w' => e = .returned (.int .i64 L) ∧ Below W.heap.size W w' := fun W => by
            rw [← eL]; exact luhn131 (s.extract 0 11) (by rw [hbs]; decide) hal W
          have HCALL := Lib.hid hcall
          obtain ⟨b, hb⟩ : ∃ b, ((c.toNat : Int) - 48 == L) = b := ⟨_, rfl⟩
          have hchk : b = true ↔ chkR0 s := by
            unfold chkR0
            rw [← hb, beq_iff_eq, ebat, eL]
          have HCHK := Lib.hid hchk
          have hw1 : IntKind.u8.wrap ((c.toNat : Int) - 48) = (c.toNat : Int) - 48 := by rw [IntKind.wrap_u8]; omega
          have hw2 : IntKind.i64.wrap ((c.toNat : Int) - 48) = (c.toNat : Int) - 48 := by rw [IntKind.wrap_i64]; omega
          have hbn : ((c.toNat : Int) - 48 != L) = !b := by rw [bne, hb]
          clear hal hbs hcall hchk eL ebat hdg h1 h2
          clear hform
          cases b
          all_goals
          · go_wp2_with fail
            have cL : ∀ d os, Calls Tryz.prog 131 #[.string (s.extract 0 11)] (grow (redrawn w d) os) fun e w'' => e = .returned (.int .i64 L) ∧ ∃ p : Regrown, w'' = grow (redrawn w p.d) p.os := fun d os => Calls.regrown_of (HCALL.out _)
            refine wp_region_quiet_below (by kernel_rfl) (by kernel_rfl) ?_
            repeat (quiet_step (exact cL _ _))
            refine wpQuiet_nil ?_
            intro _ hw'
            obtain ⟨⟨dq, osq⟩, hw''⟩ := hw'
            subst hw''
            have hbl4 : Below w.heap.size w (grow (redrawn w dq) osq) := below_regrown w dq osq
            clear cL
            generalize grow (redrawn w dq) osq = w5 at *
            first
              | (go_wp2_with fail
                 go_ret2
                 refine ⟨⟨_, _, rfl, ?_⟩, hbl4⟩
                 exact ⟨fun h => absurd h (by decide), fun h => absurd (HCHK.out.2 h.2) (by decide)⟩)
              | (go_wp2_with fail
                 go_quiet (fail)
                 go_wp2_with fail
                 go_ret2
                 refine ⟨⟨_, _, rfl, ?_⟩, bl_drewN hbl4 _⟩
                 exact ⟨fun _ => ⟨HY.out, HCHK.out.1 trivial⟩, fun _ => rfl⟩)
end Go.Proofs.YtongoicadcmfaaaGreatDoor.V
