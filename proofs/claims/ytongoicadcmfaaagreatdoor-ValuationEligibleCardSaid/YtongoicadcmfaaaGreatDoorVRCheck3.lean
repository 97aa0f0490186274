/- giroref05.Check. (Printed by gen_rcheck.py.) -/
import Derived.Test.YtongoicadcmfaaaGreatDoorVRCheck
namespace Go.Proofs.YtongoicadcmfaaaGreatDoor.V
open Go.RowKit Go.Sort

set_option maxRecDepth 100000 in
set_option maxHeartbeats 4000000 in
theorem check122_3 (s : ByteArray) (hs : s.size ≤ 9223372036854775807) (hform : okForm fs3 20 s → s.size = 20 ∧ aln (s.extract 0 18) ∧ (s.extract 0 18).size = 18) (w : World) :
    Calls Tryz.prog 122 #[.int .i64 3, .string s] w fun e w' => (∃ at_ er : Int, e = .returned (.tuple #[.int .i64 at_, .int .i64 er]) ∧ (er = 0 ↔ okForm fs3 20 s ∧ chkR3 s)) ∧ Below w.heap.size w w' := by
  go_enter Tryz.func122, Tryz.ntmps122
  go_wp2_with (go_at_call 129; refine (lengths_3 _).mono ?_; rintro e w1 ⟨rfl, rfl⟩)
  go_loop [8] (fun v8 => ∃ i : Nat, i ≤ 20 ∧ v8 = .int .i64 i ∧ okP fs3 i s) (fun v8 => 20 - (intOf v8).toNat)
  case atStart => exact ⟨0, Nat.zero_le _, rfl, fun k hk => absurd hk (Nat.not_lt_zero _)⟩
  case round =>
    obtain ⟨i, hi, rfl, hok⟩ := hrel
    have HOK := Lib.hid hok
    clear hok
    by_cases hlt : i < 20
    · have hlt' : (i : Int) < 20 := by omega
      by_cases hsz : i < s.size
      · have hsz' : (i : Int) < (s.size : Int) := by omega
        obtain ⟨c, ec⟩ : ∃ c, s[i] = c := ⟨_, rfl⟩
        have ebat : bat s i = (c.toNat : Int) := by simp [bat, hsz, ec]
        have EB := Lib.hid ebat
        clear ebat
        obtain ⟨b, eb⟩ : ∃ b, cls (fs3.getD i 0) (c.toNat : Int) = b := ⟨_, rfl⟩
        have EBB := Lib.hid eb
        have hmay := fun w => may_3 i hlt (c.toNat : Int) w
        rw [eb] at hmay
        have HMAY := Lib.hid hmay
        clear hmay eb
        cases b
        · have hno : ¬ okPref fs3 s := fun h => by
            have h2 := (okP_pref fs3 s).2 h i hlt hsz
            rw [EB.out, EBB.out] at h2
            exact absurd h2 (by decide)
          have HNO := Lib.hid hno
          clear hno
          go_wp2_with (go_at_call 130; refine (HMAY.out _).mono ?_; rintro e w' ⟨rfl, rfl⟩)
          go_ret2
          refine ⟨⟨_, _, rfl, ?_⟩, Below.refl _ _⟩
          exact ⟨fun h => absurd h (by decide), fun h => absurd h.1.1 HNO.out⟩
        · have hok' : okP fs3 (i + 1) s := fun k hk hs' => by
            by_cases hki : k = i
            · subst hki; rw [EB.out]; exact EBB.out
            · exact HOK.out k (by omega) hs'
          have HOK' := Lib.hid hok'
          clear hok'
          go_wp2_with (go_at_call 130; refine (HMAY.out _).mono ?_; rintro e w' ⟨rfl, rfl⟩)
          refine ⟨⟨i + 1, hlt, by go_num, HOK'.out⟩, by simp [intOf]; omega⟩
      · have hpre : okPref fs3 s := (okP_pref fs3 s).1 fun k hk hs' => HOK.out k (by omega) hs'
        have HP := Lib.hid hpre
        have hsz' : ¬ (i : Int) < (s.size : Int) := by omega
        clear hpre
        by_cases h1 : (s.size : Int) < 20
        · have hno : ¬ okForm fs3 20 s := fun h => absurd h.2.1 (by omega)
          have HNO := Lib.hid hno
          clear hno
          go_wp2_with fail
          go_ret2
          refine ⟨⟨_, _, rfl, ?_⟩, Below.refl _ _⟩
          exact ⟨fun h => absurd h (by decide), fun h => absurd h.1 HNO.out⟩
        · by_cases h2 : (20 : Int) < (s.size : Int)
          · have hno : ¬ okForm fs3 20 s := fun h => absurd h.2.2 (by have : fs3.length = 20 := rfl; omega)
            have HNO := Lib.hid hno
            clear hno
            go_wp2_with fail
            go_ret2
            refine ⟨⟨_, _, rfl, ?_⟩, Below.refl _ _⟩
            exact ⟨fun h => absurd h (by decide), fun h => absurd h.1 HNO.out⟩
          · have hyes : okForm fs3 20 s := ⟨HP.out, by omega, by have : fs3.length = 20 := rfl; omega⟩
            have HY := Lib.hid hyes
            clear hyes
            exfalso
            have := HY.out.2.1
            omega
    · have hpre : okPref fs3 s := (okP_pref fs3 s).1 fun k hk hs' => HOK.out k (by have : fs3.length = 20 := rfl; omega) hs'
      have HP := Lib.hid hpre
      obtain rfl : i = 20 := by omega
      clear hpre
      by_cases h1 : (s.size : Int) < 20
      · have hno : ¬ okForm fs3 20 s := fun h => absurd h.2.1 (by omega)
        have HNO := Lib.hid hno
        clear hno
        go_wp2_with fail
        go_ret2
        refine ⟨⟨_, _, rfl, ?_⟩, Below.refl _ _⟩
        exact ⟨fun h => absurd h (by decide), fun h => absurd h.1 HNO.out⟩
      · by_cases h2 : (20 : Int) < (s.size : Int)
        · have hno : ¬ okForm fs3 20 s := fun h => absurd h.2.2 (by have : fs3.length = 20 := rfl; omega)
          have HNO := Lib.hid hno
          clear hno
          go_wp2_with fail
          go_ret2
          refine ⟨⟨_, _, rfl, ?_⟩, Below.refl _ _⟩
          exact ⟨fun h => absurd h (by decide), fun h => absurd h.1 HNO.out⟩
        · have hyes : okForm fs3 20 s := ⟨HP.out, by omega, by have : fs3.length = 20 := rfl; omega⟩
          have HY := Lib.hid hyes
          clear hyes
          obtain ⟨hsize, hal, hbs⟩ := hform HY.out
          obtain ⟨S2, eS2⟩ : ∃ S2, s.extract 0 18 ++ ⟨#[48, 48]⟩ = S2 := ⟨_, rfl⟩
          have hS2 := aln00 _ hal
          rw [eS2] at hS2
          have hS2s : S2.size = 20 := by rw [← eS2, ByteArray.size_append, hbs]; rfl
          obtain ⟨M, eM⟩ : ∃ M, m97 (exN S2.data.toList) = M := ⟨_, rfl⟩
          have hM := m97_bd (exN S2.data.toList)
          rw [eM] at hM
          obtain ⟨m1, m2⟩ := hM
          have hcall : ∀ W, Calls Tryz.prog 133 #[.string S2] W fun e w' => e = .returned (.int .i64 M) ∧ Below W.heap.size W w' := fun W => by
            rw [← eM]; exact mod133 S2 (by rw [hS2s]; decide) hS2 W
          have HCALL := Lib.hid hcall
          have HPAIR := Lib.hid (fun W => pair132 (98 - M) (by omega) (by omega) W)
          obtain ⟨b, hb⟩ : ∃ b, ((s.extract 18 20).toList == (pairB (98 - M)).toList) = b := ⟨_, rfl⟩
          have hchk : b = true ↔ chkR3 s := by
            unfold chkR3
            rw [← hb, str_beq, decide_eq_true_iff, eS2, eM]
          have HCHK := Lib.hid hchk
          have hw3 : IntKind.i64.wrap (98 - M) = 98 - M := by rw [IntKind.wrap_i64]; omega
          clear hal hcall hchk eM h1 h2 hS2 hS2s
          clear hform
          cases b
          all_goals
          · go_wp2_with fail
            go_quiet (fail)
            have hbl0 : Below w.heap.size w (w.drewN nq) := bl_drewN (Below.refl _ _) _
            generalize w.drewN nq = w2 at *
            go_wp2_with fail
            have cL : ∀ d os, Calls Tryz.prog 133 #[.string S2] (grow (redrawn w2 d) os) fun e w'' => e = .returned (.int .i64 M) ∧ ∃ p : Regrown, w'' = grow (redrawn w2 p.d) p.os := fun d os => Calls.regrown_of (HCALL.out _)
            have cP : ∀ d os, Calls Tryz.prog 132 #[.int .i64 (98 - M)] (grow (redrawn w2 d) os) fun e w'' => e = .returned (.string (pairB (98 - M))) ∧ ∃ p : Regrown, w'' = grow (redrawn w2 p.d) p.os := fun d os => Calls.regrown_of (HPAIR.out _)
            refine wp_region_quiet_below (by kernel_rfl) (by kernel_rfl) ?_
            repeat (quiet_step (first | exact cL _ _ | exact cP _ _))
            refine wpQuiet_nil ?_
            intro _ hw'
            obtain ⟨⟨dq, osq⟩, hw''⟩ := hw'
            subst hw''
            have hbl4 : Below w.heap.size w (grow (redrawn w2 dq) osq) := bl_then hbl0 (below_regrown w2 dq osq)
            clear cL cP
            generalize grow (redrawn w2 dq) osq = w5 at *
            go_wp2_with fail
            go_ret2
            refine ⟨⟨_, _, rfl, ?_⟩, hbl4⟩
            first
              | exact ⟨fun _ => ⟨HY.out, HCHK.out.1 trivial⟩, fun _ => rfl⟩
              | exact ⟨fun h => absurd h (by decide), fun h => absurd (HCHK.out.2 h.2) (by decide)⟩
end Go.Proofs.YtongoicadcmfaaaGreatDoor.V
