/- giroref05.Check. (Printed by gen_rcheck.py.) giroref05.Check. (Printed by gen_rcheck.py.) giroref05.Check. (Printed by gen_rcheck.py.) ident.Valid and giroref21.valid answer alike at the kinds 0, 1, 3. -/
import Derived.Test.YtongoicadcmfaaaGreatDoorVRLuhn
set_option linter.unusedSimpArgs false
set_option linter.unusedVariables false
namespace Go.Proofs.YtongoicadcmfaaaGreatDoor.V
open Go.RowKit Go.Sort
def okP (fs : List Nat) (n : Nat) (s : ByteArray) : Prop := ∀ k, k < n → k < s.size → cls (fs.getD k 0) (bat s k) = true
theorem okP_pref (fs : List Nat) (s : ByteArray) : okP fs fs.length s ↔ okPref fs s := by
  constructor
  · intro h i hi hs
    have := h i hi hs
    rwa [List.getD_eq_getElem?_getD, List.getElem?_eq_getElem hi] at this
  · intro h i hi hs
    have := h i hi hs
    rwa [List.getD_eq_getElem?_getD, List.getElem?_eq_getElem hi]

theorem lengths_0 (w : World) : Calls Tryz.prog 129 #[.int .i64 0] w fun e w' => e = .returned (.tuple #[.int .i64 12, .int .i64 12]) ∧ w = w' := by
  go_enter Tryz.func129, Tryz.ntmps129
  go_wp2
  go_ret2
  simp
theorem lengths_1 (w : World) : Calls Tryz.prog 129 #[.int .i64 1] w fun e w' => e = .returned (.tuple #[.int .i64 4, .int .i64 8]) ∧ w = w' := by
  go_enter Tryz.func129, Tryz.ntmps129
  go_wp2
  go_ret2
  simp
theorem lengths_3 (w : World) : Calls Tryz.prog 129 #[.int .i64 3] w fun e w' => e = .returned (.tuple #[.int .i64 20, .int .i64 20]) ∧ w = w' := by
  go_enter Tryz.func129, Tryz.ntmps129
  go_wp2
  go_ret2
  simp

set_option maxRecDepth 100000 in
set_option maxHeartbeats 4000000 in
theorem check122_1 (s : ByteArray) (hs : s.size ≤ 9223372036854775807) (w : World) :
    Calls Tryz.prog 122 #[.int .i64 1, .string s] w fun e w' => (∃ at_ er : Int, e = .returned (.tuple #[.int .i64 at_, .int .i64 er]) ∧ (er = 0 ↔ okForm fs1 4 s)) ∧ Below w.heap.size w w' := by
  go_enter Tryz.func122, Tryz.ntmps122
  go_wp2_with (go_at_call 129; refine (lengths_1 _).mono ?_; rintro e w1 ⟨rfl, rfl⟩)
  go_loop [8] (fun v8 => ∃ i : Nat, i ≤ 8 ∧ v8 = .int .i64 i ∧ okP fs1 i s) (fun v8 => 8 - (intOf v8).toNat)
  case atStart => exact ⟨0, Nat.zero_le _, rfl, fun k hk => absurd hk (Nat.not_lt_zero _)⟩
  case round =>
    obtain ⟨i, hi, rfl, hok⟩ := hrel
    have HOK := Lib.hid hok
    clear hok
    by_cases hlt : i < 8
    · have hlt' : (i : Int) < 8 := by omega
      by_cases hsz : i < s.size
      · have hsz' : (i : Int) < (s.size : Int) := by omega
        obtain ⟨c, ec⟩ : ∃ c, s[i] = c := ⟨_, rfl⟩
        have ebat : bat s i = (c.toNat : Int) := by simp [bat, hsz, ec]
        have EB := Lib.hid ebat
        clear ebat
        obtain ⟨b, eb⟩ : ∃ b, cls (fs1.getD i 0) (c.toNat : Int) = b := ⟨_, rfl⟩
        have EBB := Lib.hid eb
        have hmay := fun w => may_1 i hlt (c.toNat : Int) w
        rw [eb] at hmay
        have HMAY := Lib.hid hmay
        clear hmay eb
        cases b
        · have hno : ¬ okPref fs1 s := fun h => by
            have h2 := (okP_pref fs1 s).2 h i hlt hsz
            rw [EB.out, EBB.out] at h2
            exact absurd h2 (by decide)
          have HNO := Lib.hid hno
          clear hno
          go_wp2_with (go_at_call 130; refine (HMAY.out _).mono ?_; rintro e w' ⟨rfl, rfl⟩)
          go_ret2
          refine ⟨⟨_, _, rfl, ?_⟩, Below.refl _ _⟩
          exact ⟨fun h => absurd h (by decide), fun h => absurd h.1 HNO.out⟩
        · have hok' : okP fs1 (i + 1) s := fun k hk hs' => by
            by_cases hki : k = i
            · subst hki; rw [EB.out]; exact EBB.out
            · exact HOK.out k (by omega) hs'
          have HOK' := Lib.hid hok'
          clear hok'
          go_wp2_with (go_at_call 130; refine (HMAY.out _).mono ?_; rintro e w' ⟨rfl, rfl⟩)
          refine ⟨⟨i + 1, hlt, by go_num, HOK'.out⟩, by simp [intOf]; omega⟩
      · have hpre : okPref fs1 s := (okP_pref fs1 s).1 fun k hk hs' => HOK.out k (by omega) hs'
        have HP := Lib.hid hpre
        have hsz' : ¬ (i : Int) < (s.size : Int) := by omega
        clear hpre
        by_cases h1 : (s.size : Int) < 4
        · have hno : ¬ okForm fs1 4 s := fun h => absurd h.2.1 (by omega)
          have HNO := Lib.hid hno
          clear hno
          go_wp2_with fail
          go_ret2
          refine ⟨⟨_, _, rfl, ?_⟩, Below.refl _ _⟩
          exact ⟨fun h => absurd h (by decide), fun h => absurd h HNO.out⟩
        · by_cases h2 : (8 : Int) < (s.size : Int)
          · have hno : ¬ okForm fs1 4 s := fun h => absurd h.2.2 (by have : fs1.length = 8 := rfl; omega)
            have HNO := Lib.hid hno
            clear hno
            go_wp2_with fail
            go_ret2
            refine ⟨⟨_, _, rfl, ?_⟩, Below.refl _ _⟩
            exact ⟨fun h => absurd h (by decide), fun h => absurd h HNO.out⟩
          · have hyes : okForm fs1 4 s := ⟨HP.out, by omega, by have : fs1.length = 8 := rfl; omega⟩
            have HY := Lib.hid hyes
            clear hyes
            go_wp2_with fail
            go_quiet (fail)
            go_wp2_with fail
            go_quiet (fail)
            go_wp2_with fail
            go_ret2
            refine ⟨⟨_, _, rfl, ?_⟩, bl_drewN (bl_drewN (Below.refl _ _) _) _⟩
            exact ⟨fun _ => HY.out, fun _ => rfl⟩
    · have hpre : okPref fs1 s := (okP_pref fs1 s).1 fun k hk hs' => HOK.out k (by have : fs1.length = 8 := rfl; omega) hs'
      have HP := Lib.hid hpre
      obtain rfl : i = 8 := by omega
      clear hpre
      by_cases h1 : (s.size : Int) < 4
      · have hno : ¬ okForm fs1 4 s := fun h => absurd h.2.1 (by omega)
        have HNO := Lib.hid hno
        clear hno
        go_wp2_with fail
        go_ret2
        refine ⟨⟨_, _, rfl, ?_⟩, Below.refl _ _⟩
        exact ⟨fun h => absurd h (by decide), fun h => absurd h HNO.out⟩
      · by_cases h2 : (8 : Int) < (s.size : Int)
        · have hno : ¬ okForm fs1 4 s := fun h => absurd h.2.2 (by have : fs1.length = 8 := rfl; omega)
          have HNO := Lib.hid hno
          clear hno
          go_wp2_with fail
          go_ret2
          refine ⟨⟨_, _, rfl, ?_⟩, Below.refl _ _⟩
          exact ⟨fun h => absurd h (by decide), fun h => absurd h HNO.out⟩
        · have hyes : okForm fs1 4 s := ⟨HP.out, by omega, by have : fs1.length = 8 := rfl; omega⟩
          have HY := Lib.hid hyes
          clear hyes
          go_wp2_with fail
          go_quiet (fail)
          go_wp2_with fail
          go_quiet (fail)
          go_wp2_with fail
          go_ret2
          refine ⟨⟨_, _, rfl, ?_⟩, bl_drewN (bl_drewN (Below.refl _ _) _) _⟩
          exact ⟨fun _ => HY.out, fun _ => rfl⟩

def chkR0 (s : ByteArray) : Prop := bat s 11 - 48 = luhnD (exN (s.extract 0 11).data.toList)
def chkR3 (s : ByteArray) : Prop := s.extract 18 20 = pairB (98 - m97 (exN (s.extract 0 18 ++ ⟨#[48, 48]⟩).data.toList))
theorem aln00 (s : ByteArray) (h : aln s) : aln (s ++ ⟨#[48, 48]⟩) := by
  intro i hi
  rw [ByteArray.size_append] at hi
  rcases Nat.lt_or_ge i s.size with hl | hl
  · rw [ByteArray.getElem_append_left hl]; exact h i hl
  · rw [ByteArray.getElem_append_right hl]
    have h2 : (ByteArray.mk #[48, 48]).size = 2 := rfl
    rcases (by omega : i - s.size = 0 ∨ i - s.size = 1) with h3 | h3 <;> simp only [h3] <;> rfl
end Go.Proofs.YtongoicadcmfaaaGreatDoor.V

namespace Go.Proofs.YtongoicadcmfaaaGreatDoor.V
open Go.RowKit Go.Sort

set_option maxRecDepth 100000 in
set_option maxHeartbeats 4000000 in
theorem check122_0 (s : ByteArray) (hs : s.size ≤ 9223372036854775807) (hform : okForm fs0 12 s → s.size = 12 ∧ aln (s.extract 0 11) ∧ (s.extract 0 11).size = 11) (w : World) :
    Calls Tryz.prog 122 #[.int .i64 0, .string s] w fun e w' => (∃ at_ er : Int, e = .returned (.tuple #[.int .i64 at_, .int .i64 er]) ∧ (er = 0 ↔ okForm fs0 12 s ∧ chkR0 s)) ∧ Below w.heap.size w w' := by
  go_enter Tryz.func122, Tryz.ntmps122
  go_wp2_with (go_at_call 129; refine (lengths_0 _).mono ?_; rintro e w1 ⟨rfl, rfl⟩)
  go_loop [8] (fun v8 => ∃ i : Nat, i ≤ 12 ∧ v8 = .int .i64 i ∧ okP fs0 i s) (fun v8 => 12 - (intOf v8).toNat)
  case atStart => exact ⟨0, Nat.zero_le _, rfl, fun k hk => absurd hk (Nat.not_lt_zero _)⟩
  case round =>
    obtain ⟨i, hi, rfl, hok⟩ := hrel
    have HOK := Lib.hid hok
    clear hok
    by_cases hlt : i < 12
    · have hlt' : (i : Int) < 12 := by omega
      by_cases hsz : i < s.size
      · have hsz' : (i : Int) < (s.size : Int) := by omega
        obtain ⟨c, ec⟩ : ∃ c, s[i] = c := ⟨_, rfl⟩
        have ebat : bat s i = (c.toNat : Int) := by simp [bat, hsz, ec]
        have EB := Lib.hid ebat
        clear ebat
        obtain ⟨b, eb⟩ : ∃ b, cls (fs0.getD i 0) (c.toNat : Int) = b := ⟨_, rfl⟩
        have EBB := Lib.hid eb
        have hmay := fun w => may_0 i hlt (c.toNat : Int) w
        rw [eb] at hmay
        have HMAY := Lib.hid hmay
        clear hmay eb
        cases b
        · have hno : ¬ okPref fs0 s := fun h => by
            have h2 := (okP_pref fs0 s).2 h i hlt hsz
            rw [EB.out, EBB.out] at h2
            exact absurd h2 (by decide)
          have HNO := Lib.hid hno
          clear hno
          go_wp2_with (go_at_call 130; refine (HMAY.out _).mono ?_; rintro e w' ⟨rfl, rfl⟩)
          go_ret2
          refine ⟨⟨_, _, rfl, ?_⟩, Below.refl _ _⟩
          exact ⟨fun h => absurd h (by decide), fun h => absurd h.1.1 HNO.out⟩
        · have hok' : okP fs0 (i + 1) s := fun k hk hs' => by
            by_cases hki : k = i
            · subst hki; rw [EB.out]; exact EBB.out
            · exact HOK.out k (by omega) hs'
          have HOK' := Lib.hid hok'
          clear hok'
          go_wp2_with (go_at_call 130; refine (HMAY.out _).mono ?_; rintro e w' ⟨rfl, rfl⟩)
          refine ⟨⟨i + 1, hlt, by go_num, HOK'.out⟩, by simp [intOf]; omega⟩
      · have hpre : okPref fs0 s := (okP_pref fs0 s).1 fun k hk hs' => HOK.out k (by omega) hs'
        have HP := Lib.hid hpre
        have hsz' : ¬ (i : Int) < (s.size : Int) := by omega
        clear hpre
        by_cases h1 : (s.size : Int) < 12
        · have hno : ¬ okForm fs0 12 s := fun h => absurd h.2.1 (by omega)
          have HNO := Lib.hid hno
          clear hno
          go_wp2_with fail
          go_ret2
          refine ⟨⟨_, _, rfl, ?_⟩, Below.refl _ _⟩
          exact ⟨fun h => absurd h (by decide), fun h => absurd h.1 HNO.out⟩
        · by_cases h2 : (12 : Int) < (s.size : Int)
          · have hno : ¬ okForm fs0 12 s := fun h => absurd h.2.2 (by have : fs0.length = 12 := rfl; omega)
            have HNO := Lib.hid hno
            clear hno
            go_wp2_with fail
            go_ret2
            refine ⟨⟨_, _, rfl, ?_⟩, Below.refl _ _⟩
            exact ⟨fun h => absurd h (by decide), fun h => absurd h.1 HNO.out⟩
          · have hyes : okForm fs0 12 s := ⟨HP.out, by omega, by have : fs0.length = 12 := rfl; omega⟩
            have HY := Lib.hid hyes
            clear hyes
            exfalso
            have := HY.out.2.1
            omega
    · have hpre : okPref fs0 s := (okP_pref fs0 s).1 fun k hk hs' => HOK.out k (by have : fs0.length = 12 := rfl; omega) hs'
      have HP := Lib.hid hpre
      obtain rfl : i = 12 := by omega
      clear hpre
      by_cases h1 : (s.size : Int) < 12
      · have hno : ¬ okForm fs0 12 s := fun h => absurd h.2.1 (by omega)
        have HNO := Lib.hid hno
        clear hno
        go_wp2_with fail
        go_ret2
        refine ⟨⟨_, _, rfl, ?_⟩, Below.refl _ _⟩
        exact ⟨fun h => absurd h (by decide), fun h => absurd h.1 HNO.out⟩
      · by_cases h2 : (12 : Int) < (s.size : Int)
        · have hno : ¬ okForm fs0 12 s := fun h => absurd h.2.2 (by have : fs0.length = 12 := rfl; omega)
          have HNO := Lib.hid hno
          clear hno
          go_wp2_with fail
          go_ret2
          refine ⟨⟨_, _, rfl, ?_⟩, Below.refl _ _⟩
          exact ⟨fun h => absurd h (by decide), fun h => absurd h.1 HNO.out⟩
        · have hyes : okForm fs0 12 s := ⟨HP.out, by omega, by have : fs0.length = 12 := rfl; omega⟩
          have HY := Lib.hid hyes
          clear hyes
          obtain ⟨hsize, hal, hbs⟩ := hform HY.out
          have hi11 : 11 < s.size := by omega
          obtain ⟨c, ec⟩ : ∃ c, s[11] = c := ⟨_, rfl⟩
          have ebat : bat s 11 = (c.toNat : Int) := by simp [bat, hi11, ec]
          have hdg : digB (c.toNat : Int) = true := by
            have := HP.out 11 (by decide) hi11
            rw [ebat] at this
            exact this
          have hd1 : 48 ≤ (c.toNat : Int) := by simp only [digB, Bool.and_eq_true, decide_eq_true_eq] at hdg; exact hdg.1
          have hd2 : (c.toNat : Int) ≤ 57 := by simp only [digB, Bool.and_eq_true, decide_eq_true_eq] at hdg; exact hdg.2
          obtain ⟨L, eL⟩ : ∃ L, luhnD (exN (s.extract 0 11).data.toList) = L := ⟨_, rfl⟩
          have hcall : ∀ W, Calls Tryz.prog 131 #[.string (s.extract 0 11)] W fun e w' => e = .returned (.int .i64 L) ∧ Below W.heap.size W w' := fun W => by
            rw [← eL]; exact luhn131 (s.extract 0 11) (by rw [hbs]; decide) hal W
          have HCALL := Lib.hid hcall
          obtain ⟨b, hb⟩ : ∃ b, ((c.toNat : Int) - 48 == L) = b := ⟨_, rfl⟩
          have hchk : b = true ↔ chkR0 s := by
            unfold chkR0
            rw [← hb, beq_iff_eq, ebat, eL]
          have HCHK := Lib.hid hchk
          have hw1 : IntKind.u8.wrap ((c.toNat : Int) - 48) = (c.toNat : Int) - 48 := by rw [IntKind.wrap_u8]; omega
          have hw2 : IntKind.i64.wrap ((c.toNat : Int) - 48) = (c.toNat : Int) - 48 := by rw [IntKind.wrap_i64]; omega
          have hbn : ((c.toNat : Int) - 48 != L) = !b := by rw [bne, hb]
          clear hal hbs hcall hchk eL ebat hdg h1 h2
          clear hform
          cases b
          all_goals
          · go_wp2_with fail
            have cL : ∀ d os, Calls Tryz.prog 131 #[.string (s.extract 0 11)] (grow (redrawn w d) os) fun e w'' => e = .returned (.int .i64 L) ∧ ∃ p : Regrown, w'' = grow (redrawn w p.d) p.os := fun d os => Calls.regrown_of (HCALL.out _)
            refine wp_region_quiet_below (by kernel_rfl) (by kernel_rfl) ?_
            repeat (quiet_step (exact cL _ _))
            refine wpQuiet_nil ?_
            intro _ hw'
            obtain ⟨⟨dq, osq⟩, hw''⟩ := hw'
            subst hw''
            have hbl4 : Below w.heap.size w (grow (redrawn w dq) osq) := below_regrown w dq osq
            clear cL
            generalize grow (redrawn w dq) osq = w5 at *
            first
              | (go_wp2_with fail
                 go_ret2
                 refine ⟨⟨_, _, rfl, ?_⟩, hbl4⟩
                 exact ⟨fun h => absurd h (by decide), fun h => absurd (HCHK.out.2 h.2) (by decide)⟩)
              | (go_wp2_with fail
                 go_quiet (fail)
                 go_wp2_with fail
                 go_ret2
                 refine ⟨⟨_, _, rfl, ?_⟩, bl_drewN hbl4 _⟩
                 exact ⟨fun _ => ⟨HY.out, HCHK.out.1 trivial⟩, fun _ => rfl⟩)
end Go.Proofs.YtongoicadcmfaaaGreatDoor.V

namespace Go.Proofs.YtongoicadcmfaaaGreatDoor.V
open Go.RowKit Go.Sort

set_option maxRecDepth 100000 in
set_option maxHeartbeats 4000000 in
theorem check122_3 (s : ByteArray) (hs : s.size ≤ 9223372036854775807) (hform : okForm fs3 20 s → s.size = 20 ∧ aln (s.extract 0 18) ∧ (s.extract 0 18).size = 18) (w : World) :
    Calls Tryz.prog 122 #[.int .i64 3, .string s] w fun e w' => (∃ at_ er : Int, e = .returned (.tuple #[.int .i64 at_, .int .i64 er]) ∧ (er = 0 ↔ okForm fs3 20 s ∧ chkR3 s)) ∧ Below w.heap.size w w' := by
  go_enter Tryz.func122, Tryz.ntmps122
  go_wp2_with (go_at_call 129; refine (lengths_3 _).mono ?_; rintro e w1 ⟨rfl, rfl⟩)
  go_loop [8] (fun v8 => ∃ i : Nat, i ≤ 20 ∧ v8 = .int .i64 i ∧ okP fs3 i s) (fun v8 => 20 - (intOf v8).toNat)
  case atStart => exact ⟨0, Nat.zero_le _, rfl, fun k hk => absurd hk (Nat.not_lt_zero _)⟩
  case round =>
    obtain ⟨i, hi, rfl, hok⟩ := hrel
    have HOK := Lib.hid hok
    clear hok
    by_cases hlt : i < 20
    · have hlt' : (i : Int) < 20 := by omega
      by_cases hsz : i < s.size
      · have hsz' : (i : Int) < (s.size : Int) := by omega
        obtain ⟨c, ec⟩ : ∃ c, s[i] = c := ⟨_, rfl⟩
        have ebat : bat s i = (c.toNat : Int) := by simp [bat, hsz, ec]
        have EB := Lib.hid ebat
        clear ebat
        obtain ⟨b, eb⟩ : ∃ b, cls (fs3.getD i 0) (c.toNat : Int) = b := ⟨_, rfl⟩
        have EBB := Lib.hid eb
        have hmay := fun w => may_3 i hlt (c.toNat : Int) w
        rw [eb] at hmay
        have HMAY := Lib.hid hmay
        clear hmay eb
        cases b
        · have hno : ¬ okPref fs3 s := fun h => by
            have h2 := (okP_pref fs3 s).2 h i hlt hsz
            rw [EB.out, EBB.out] at h2
            exact absurd h2 (by decide)
          have HNO := Lib.hid hno
          clear hno
          go_wp2_with (go_at_call 130; refine (HMAY.out _).mono ?_; rintro e w' ⟨rfl, rfl⟩)
          go_ret2
          refine ⟨⟨_, _, rfl, ?_⟩, Below.refl _ _⟩
          exact ⟨fun h => absurd h (by decide), fun h => absurd h.1.1 HNO.out⟩
        · have hok' : okP fs3 (i + 1) s := fun k hk hs' => by
            by_cases hki : k = i
            · subst hki; rw [EB.out]; exact EBB.out
            · exact HOK.out k (by omega) hs'
          have HOK' := Lib.hid hok'
          clear hok'
          go_wp2_with (go_at_call 130; refine (HMAY.out _).mono ?_; rintro e w' ⟨rfl, rfl⟩)
          refine ⟨⟨i + 1, hlt, by go_num, HOK'.out⟩, by simp [intOf]; omega⟩
      · have hpre : okPref fs3 s := (okP_pref fs3 s).1 fun k hk hs' => HOK.out k (by omega) hs'
        have HP := Lib.hid hpre
        have hsz' : ¬ (i : Int) < (s.size : Int) := by omega
        clear hpre
        by_cases h1 : (s.size : Int) < 20
        · have hno : ¬ okForm fs3 20 s := fun h => absurd h.2.1 (by omega)
          have HNO := Lib.hid hno
          clear hno
          go_wp2_with fail
          go_ret2
          refine ⟨⟨_, _, rfl, ?_⟩, Below.refl _ _⟩
          exact ⟨fun h => absurd h (by decide), fun h => absurd h.1 HNO.out⟩
        · by_cases h2 : (20 : Int) < (s.size : Int)
          · have hno : ¬ okForm fs3 20 s := fun h => absurd h.2.2 (by have : fs3.length = 20 := rfl; omega)
            have HNO := Lib.hid hno
            clear hno
            go_wp2_with fail
            go_ret2
            refine ⟨⟨_, _, rfl, ?_⟩, Below.refl _ _⟩
            exact ⟨fun h => absurd h (by decide), fun h => absurd h.1 HNO.out⟩
          · have hyes : okForm fs3 20 s := ⟨HP.out, by omega, by have : fs3.length = 20 := rfl; omega⟩
            have HY := Lib.hid hyes
            clear hyes
            exfalso
            have := HY.out.2.1
            omega
    · have hpre : okPref fs3 s := (okP_pref fs3 s).1 fun k hk hs' => HOK.out k (by have : fs3.length = 20 := rfl; omega) hs'
      have HP := Lib.hid hpre
      obtain rfl : i = 20 := by omega
      clear hpre
      by_cases h1 : (s.size : Int) < 20
      · have hno : ¬ okForm fs3 20 s := fun h => absurd h.2.1 (by omega)
        have HNO := Lib.hid hno
        clear hno
        go_wp2_with fail
        go_ret2
        refine ⟨⟨_, _, rfl, ?_⟩, Below.refl _ _⟩
        exact ⟨fun h => absurd h (by decide), fun h => absurd h.1 HNO.out⟩
      · by_cases h2 : (20 : Int) < (s.size : Int)
        · have hno : ¬ okForm fs3 20 s := fun h => absurd h.2.2 (by have : fs3.length = 20 := rfl; omega)
          have HNO := Lib.hid hno
          clear hno
          go_wp2_with fail
          go_ret2
          refine ⟨⟨_, _, rfl, ?_⟩, Below.refl _ _⟩
          exact ⟨fun h => absurd h (by decide), fun h => absurd h.1 HNO.out⟩
        · have hyes : okForm fs3 20 s := ⟨HP.out, by omega, by have : fs3.length = 20 := rfl; omega⟩
          have HY := Lib.hid hyes
          clear hyes
          obtain ⟨hsize, hal, hbs⟩ := hform HY.out
          obtain ⟨S2, eS2⟩ : ∃ S2, s.extract 0 18 ++ ⟨#[48, 48]⟩ = S2 := ⟨_, rfl⟩
          have hS2 := aln00 _ hal
          rw [eS2] at hS2
          have hS2s : S2.size = 20 := by rw [← eS2, ByteArray.size_append, hbs]; rfl
          obtain ⟨M, eM⟩ : ∃ M, m97 (exN S2.data.toList) = M := ⟨_, rfl⟩
          have hM := m97_bd (exN S2.data.toList)
          rw [eM] at hM
          obtain ⟨m1, m2⟩ := hM
          have hcall : ∀ W, Calls Tryz.prog 133 #[.string S2] W fun e w' => e = .returned (.int .i64 M) ∧ Below W.heap.size W w' := fun W => by
            rw [← eM]; exact mod133 S2 (by rw [hS2s]; decide) hS2 W
          have HCALL := Lib.hid hcall
          have HPAIR := Lib.hid (fun W => pair132 (98 - M) (by omega) (by omega) W)
          obtain ⟨b, hb⟩ : ∃ b, ((s.extract 18 20).toList == (pairB (98 - M)).toList) = b := ⟨_, rfl⟩
          have hchk : b = true ↔ chkR3 s := by
            unfold chkR3
            rw [← hb, str_beq, decide_eq_true_iff, eS2, eM]
          have HCHK := Lib.hid hchk
          have hw3 : IntKind.i64.wrap (98 - M) = 98 - M := by rw [IntKind.wrap_i64]; omega
          clear hal hcall hchk eM h1 h2 hS2 hS2s
          clear hform
          cases b
          all_goals
          · go_wp2_with fail
            go_quiet (fail)
            have hbl0 : Below w.heap.size w (w.drewN nq) := bl_drewN (Below.refl _ _) _
            generalize w.drewN nq = w2 at *
            go_wp2_with fail
            have cL : ∀ d os, Calls Tryz.prog 133 #[.string S2] (grow (redrawn w2 d) os) fun e w'' => e = .returned (.int .i64 M) ∧ ∃ p : Regrown, w'' = grow (redrawn w2 p.d) p.os := fun d os => Calls.regrown_of (HCALL.out _)
            have cP : ∀ d os, Calls Tryz.prog 132 #[.int .i64 (98 - M)] (grow (redrawn w2 d) os) fun e w'' => e = .returned (.string (pairB (98 - M))) ∧ ∃ p : Regrown, w'' = grow (redrawn w2 p.d) p.os := fun d os => Calls.regrown_of (HPAIR.out _)
            refine wp_region_quiet_below (by kernel_rfl) (by kernel_rfl) ?_
            repeat (quiet_step (first | exact cL _ _ | exact cP _ _))
            refine wpQuiet_nil ?_
            intro _ hw'
            obtain ⟨⟨dq, osq⟩, hw''⟩ := hw'
            subst hw''
            have hbl4 : Below w.heap.size w (grow (redrawn w2 dq) osq) := bl_then hbl0 (below_regrown w2 dq osq)
            clear cL cP
            generalize grow (redrawn w2 dq) osq = w5 at *
            go_wp2_with fail
            go_ret2
            refine ⟨⟨_, _, rfl, ?_⟩, hbl4⟩
            first
              | exact ⟨fun _ => ⟨HY.out, HCHK.out.1 trivial⟩, fun _ => rfl⟩
              | exact ⟨fun h => absurd h (by decide), fun h => absurd (HCHK.out.2 h.2) (by decide)⟩
end Go.Proofs.YtongoicadcmfaaaGreatDoor.V

namespace Go.Proofs.YtongoicadcmfaaaGreatDoor.V
open Go.RowKit

theorem ext_size (s : ByteArray) (n : Nat) (h : n ≤ s.size) : (s.extract 0 n).size = n := by
  rw [ByteArray.size_extract]; omega
theorem ext_get (s : ByteArray) (n i : Nat) (h : i < (s.extract 0 n).size) (h' : i < s.size) : (s.extract 0 n)[i] = s[i] := by
  rw [ByteArray.getElem_extract]; simp
theorem form0 (s : ByteArray) (h : okForm fs0 12 s) : s.size = 12 ∧ aln (s.extract 0 11) ∧ (s.extract 0 11).size = 11 := by
  obtain ⟨hp, h1, h2⟩ := h
  have hl : fs0.length = 12 := rfl
  have hs : s.size = 12 := by omega
  refine ⟨hs, ?_, ext_size s 11 (by omega)⟩
  intro i hi
  rw [ext_size s 11 (by omega)] at hi
  have h3 := hp i (by omega) (by omega)
  rw [ext_get s 11 i (by rw [ext_size s 11 (by omega)]; exact hi) (by omega)]
  have hb : bat s i = (s[i].toNat : Int) := by simp [bat, show i < s.size by omega]
  rw [hb] at h3
  have : ∀ k : Fin 11, fs0.getD k.1 0 = 123 ∨ fs0.getD k.1 0 = 124 := by decide
  have h4 := this ⟨i, hi⟩
  rw [List.getD_eq_getElem?_getD, List.getElem?_eq_getElem (by omega)] at h4
  rcases h4 with h4 | h4 <;> simp only [Option.getD_some] at h4 <;> rw [h4] at h3 <;> simp [cls] at h3
  · simp [alnB, h3]
  · exact h3
theorem form3 (s : ByteArray) (h : okForm fs3 20 s) : s.size = 20 ∧ aln (s.extract 0 18) ∧ (s.extract 0 18).size = 18 := by
  obtain ⟨hp, h1, h2⟩ := h
  have hl : fs3.length = 20 := rfl
  have hs : s.size = 20 := by omega
  refine ⟨hs, ?_, ext_size s 18 (by omega)⟩
  intro i hi
  rw [ext_size s 18 (by omega)] at hi
  have h3 := hp i (by omega) (by omega)
  rw [ext_get s 18 i (by rw [ext_size s 18 (by omega)]; exact hi) (by omega)]
  have hb : bat s i = (s[i].toNat : Int) := by simp [bat, show i < s.size by omega]
  rw [hb] at h3
  have : ∀ k : Fin 18, fs3.getD k.1 0 = 124 := by decide
  have h4 := this ⟨i, hi⟩
  rw [List.getD_eq_getElem?_getD, List.getElem?_eq_getElem (by omega)] at h4
  simp only [Option.getD_some] at h4
  rw [h4] at h3
  simpa [cls] using h3

theorem luhnD_bd (ds : List Int) : 0 ≤ luhnD ds ∧ luhnD ds ≤ 9 := by unfold luhnD; omega
theorem ext_one (s : ByteArray) (k : Nat) (h : k < s.size) : s.extract k (k + 1) = ⟨#[s[k]]⟩ := by
  apply ByteArray.ext
  apply Array.ext
  · simp only [ByteArray.data_extract, Array.size_extract]
    have : s.data.size = s.size := rfl
    simp; omega
  · intro i h1 h2
    have h3 : i = 0 := by simpa using h2
    subst h3
    simp [ByteArray.getElem_eq_getElem_data]
theorem chk0_iff (s : ByteArray) (h : okForm fs0 12 s) : chk0 s ↔ chkR0 s := by
  obtain ⟨hs, _, _⟩ := form0 s h
  unfold chk0 chkR0 want0 exN
  rw [ext_one s 11 (by omega)]
  have hb : bat s 11 = (s[11].toNat : Int) := by simp [bat, show 11 < s.size by omega]
  rw [hb]
  obtain ⟨h0, h9⟩ := luhnD_bd (dsL (exU (s.extract 0 11).data.toList))
  generalize luhnD (dsL (exU (s.extract 0 11).data.toList)) = d at *
  have : ∀ k : Fin 10, Lib.decDigits k.1 = [UInt8.ofNat (48 + k.1)] := by decide +kernel
  rw [this ⟨d.toNat, by omega⟩]
  generalize s[11] = c
  rw [ByteArray.mk.injEq]
  constructor
  · intro h
    have h1 : UInt8.ofNat (48 + d.toNat) = c := by simpa using h
    rw [← h1]
    have : (UInt8.ofNat (48 + d.toNat)).toNat = 48 + d.toNat := by rw [UInt8.toNat_ofNat']; omega
    rw [this]; omega
  · intro h
    have h1 : UInt8.ofNat (48 + d.toNat) = c := by
      apply UInt8.toNat_inj.1
      rw [UInt8.toNat_ofNat']; omega
    rw [h1]
theorem chk3_iff (s : ByteArray) : chk3 s ↔ chkR3 s := by
  unfold chk3 chkR3 want3 exN
  have e : (s.extract 0 18 ++ ⟨#[48, 48]⟩ : ByteArray).data.toList = (s.extract 0 18).data.toList ++ [48, 48] := by simp
  rw [e]
  have e2 : exU ((s.extract 0 18).data.toList ++ [48, 48]) = exU (s.extract 0 18).data.toList ++ [48, 48] := by
    have : dgU 48 = [48] := by unfold dgU; rfl
    simp [exU, this]
  rw [e2]
  exact eq_comm

/-- An identifier of a kind. -/
def okId (k : Int) (s : ByteArray) : Prop := if k = 0 then okForm fs0 12 s ∧ chk0 s else if k = 1 then okForm fs1 4 s else okForm fs3 20 s ∧ chk3 s

theorem valid72 (k : Int) (hk : k = 0 ∨ k = 1 ∨ k = 3) (s : ByteArray) (hs : s.size ≤ 9223372036854775807) (b : Bool) (hb : b = true ↔ okId k s) (w : World) :
    Calls Tryz.prog 72 #[.int .i64 k, .string s] w fun e w' => e = .returned (.bool b) ∧ Below w.heap.size w w' := by
  have hc : ∀ w, Calls Tryz.prog 98 #[.int .i64 k, .string s] w fun e w' => (∃ at_ er : Int, e = .returned (.tuple #[.int .i64 at_, .int .i64 er]) ∧ (er == 0) = b) ∧ Below w.heap.size w w' := by
    intro w
    have key : ∀ er : Int, ∀ p : Prop, (er = 0 ↔ p) → (b = true ↔ p) → (er == 0) = b := by
      intro er p h1 h2
      rw [Bool.eq_iff_iff, beq_iff_eq, h1, h2]
    rcases hk with rfl | rfl | rfl
    · exact (check98_0 s hs (form0 s) w).mono fun _ _ ⟨⟨a, er, he, h⟩, hb'⟩ => ⟨⟨a, er, he, key _ _ h hb⟩, hb'⟩
    · exact (check98_1 s hs w).mono fun _ _ ⟨⟨a, er, he, h⟩, hb'⟩ => ⟨⟨a, er, he, key _ _ h hb⟩, hb'⟩
    · exact (check98_3 s hs (form3 s) w).mono fun _ _ ⟨⟨a, er, he, h⟩, hb'⟩ => ⟨⟨a, er, he, key _ _ h hb⟩, hb'⟩
  have HC := Lib.hid hc
  clear hc hb hk
  go_enter Tryz.func72, Tryz.ntmps72
  go_wp2_with (go_at_call 98; refine (HC.out _).mono ?_; rintro e w1 ⟨⟨at_, er, rfl, hb⟩, hbl⟩)
  go_ret
  exact ⟨by rw [← hb]; rfl, hbl⟩

theorem valid114 (k : Int) (hk : k = 0 ∨ k = 1 ∨ k = 3) (s : ByteArray) (hs : s.size ≤ 9223372036854775807) (b : Bool) (hb : b = true ↔ okId k s) (w : World) :
    Calls Tryz.prog 114 #[.int .i64 k, .string s] w fun e w' => e = .returned (.bool b) ∧ Below w.heap.size w w' := by
  have hc : ∀ w, Calls Tryz.prog 122 #[.int .i64 k, .string s] w fun e w' => (∃ at_ er : Int, e = .returned (.tuple #[.int .i64 at_, .int .i64 er]) ∧ (er == 0) = b) ∧ Below w.heap.size w w' := by
    intro w
    have key : ∀ er : Int, ∀ p : Prop, (er = 0 ↔ p) → (b = true ↔ p) → (er == 0) = b := by
      intro er p h1 h2
      rw [Bool.eq_iff_iff, beq_iff_eq, h1, h2]
    rcases hk with rfl | rfl | rfl
    · refine (check122_0 s hs (form0 s) w).mono fun _ _ ⟨⟨a, er, he, h⟩, hb'⟩ => ⟨⟨a, er, he, key _ _ h ?_⟩, hb'⟩
      rw [hb]
      exact ⟨fun h => ⟨h.1, (chk0_iff s h.1).1 h.2⟩, fun h => ⟨h.1, (chk0_iff s h.1).2 h.2⟩⟩
    · exact (check122_1 s hs w).mono fun _ _ ⟨⟨a, er, he, h⟩, hb'⟩ => ⟨⟨a, er, he, key _ _ h hb⟩, hb'⟩
    · refine (check122_3 s hs (form3 s) w).mono fun _ _ ⟨⟨a, er, he, h⟩, hb'⟩ => ⟨⟨a, er, he, key _ _ h ?_⟩, hb'⟩
      rw [hb]
      exact ⟨fun h => ⟨h.1, (chk3_iff s).1 h.2⟩, fun h => ⟨h.1, (chk3_iff s).2 h.2⟩⟩
  have HC := Lib.hid hc
  clear hc hb hk
  go_enter Tryz.func114, Tryz.ntmps114
  go_wp2_with (go_at_call 122; refine (HC.out _).mono ?_; rintro e w1 ⟨⟨at_, er, rfl, hb⟩, hbl⟩)
  go_ret
  exact ⟨by rw [← hb]; rfl, hbl⟩
end Go.Proofs.YtongoicadcmfaaaGreatDoor.V
