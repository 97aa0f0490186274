/- giroref05.Check. (Printed by gen_rcheck.py.) -/
import Derived.Test.YtongoicadcmfaaaGreatDoorVRLuhn
namespace Go.Proofs.YtongoicadcmfaaaGreatDoor.V
open Go.RowKit Go.Sort
def okP (fs : List Nat) (n : Nat) (s : ByteArray) : Prop := ∀ k, k < n → k < s.size → cls (fs.getD k 0) (bat s k) = true
theorem okP_pref (fs : List Nat) (s : ByteArray) : okP fs fs.length s ↔ okPref fs s := by
  constructor
  · intro h i hi hs
    have := h i hi hs
    rwa [List.getD_eq_getElem?_getD, List.getElem?_eq_getElem hi] at this
  · intro h i hi hs
    have := h i hi hs
    rwa [List.getD_eq_getElem?_getD, List.getElem?_eq_getElem hi]

theorem lengths_0 (w : World) : Calls Tryz.prog 129 #[.int .i64 0] w fun e w' => e = .returned (.tuple #[.int .i64 12, .int .i64 12]) ∧ w = w' := by
  go_enter Tryz.func129, Tryz.ntmps129
  go_wp2
  go_ret2
  simp
theorem lengths_1 (w : World) : Calls Tryz.prog 129 #[.int .i64 1] w fun e w' => e = .returned (.tuple #[.int .i64 4, .int .i64 8]) ∧ w = w' := by
  go_enter Tryz.func129, Tryz.ntmps129
  go_wp2
  go_ret2
  simp
theorem lengths_3 (w : World) : Calls Tryz.prog 129 #[.int .i64 3] w fun e w' => e = .returned (.tuple #[.int .i64 20, .int .i64 20]) ∧ w = w' := by
  go_enter Tryz.func129, Tryz.ntmps129
  go_wp2
  go_ret2
  simp

set_option maxRecDepth 100000 in
set_option maxHeartbeats 4000000 in
theorem check122_1 (s : ByteArray) (hs : s.size ≤ 9223372036854775807) (w : World) :
    Calls Tryz.prog 122 #[.int .i64 1, .string s] w fun e w' => (∃ at_ er : Int, e = .returned (.tuple #[.int .i64 at_, .int .i64 er]) ∧ (er = 0 ↔ okForm fs1 4 s)) ∧ Below w.heap.size w w' := by
  go_enter Tryz.func122, Tryz.ntmps122
  go_wp2_with (go_at_call 129; refine (lengths_1 _).mono ?_; rintro e w1 ⟨rfl, rfl⟩)
  go_loop [8] (fun v8 => ∃ i : Nat, i ≤ 8 ∧ v8 = .int .i64 i ∧ okP fs1 i s) (fun v8 => 8 - (intOf v8).toNat)
  case atStart => exact ⟨0, Nat.zero_le _, rfl, fun k hk => absurd hk (Nat.not_lt_zero _)⟩
  case round =>
    obtain ⟨i, hi, rfl, hok⟩ := hrel
    have HOK := Lib.hid hok
    clear hok
    by_cases hlt : i < 8
    · have hlt' : (i : Int) < 8 := by omega
      by_cases hsz : i < s.size
      · have hsz' : (i : Int) < (s.size : Int) := by omega
        obtain ⟨c, ec⟩ : ∃ c, s[i] = c := ⟨_, rfl⟩
        have ebat : bat s i = (c.toNat : Int) := by simp [bat, hsz, ec]
        have EB := Lib.hid ebat
        clear ebat
        obtain ⟨b, eb⟩ : ∃ b, cls (fs1.getD i 0) (c.toNat : Int) = b := ⟨_, rfl⟩
        have EBB := Lib.hid eb
        have hmay := fun w => may_1 i hlt (c.toNat : Int) w
        rw [eb] at hmay
        have HMAY := Lib.hid hmay
        clear hmay eb
        cases b
        · have hno : ¬ okPref fs1 s := fun h => by
            have h2 := (okP_pref fs1 s).2 h i hlt hsz
            rw [EB.out, EBB.out] at h2
            exact absurd h2 (by decide)
          have HNO := Lib.hid hno
          clear hno
          go_wp2_with (go_at_call 130; refine (HMAY.out _).mono ?_; rintro e w' ⟨rfl, rfl⟩)
          go_ret2
          refine ⟨⟨_, _, rfl, ?_⟩, Below.refl _ _⟩
          exact ⟨fun h => absurd h (by decide), fun h => absurd h.1 HNO.out⟩
        · have hok' : okP fs1 (i + 1) s := fun k hk hs' => by
            by_cases hki : k = i
            · subst hki; rw [EB.out]; exact EBB.out
            · exact HOK.out k (by omega) hs'
          have HOK' := Lib.hid hok'
          clear hok'
          go_wp2_with (go_at_call 130; refine (HMAY.out _).mono ?_; rintro e w' ⟨rfl, rfl⟩)
          refine ⟨⟨i + 1, hlt, by go_num, HOK'.out⟩, by simp [intOf]; omega⟩
      · have hpre : okPref fs1 s := (okP_pref fs1 s).1 fun k hk hs' => HOK.out k (by omega) hs'
        have HP := Lib.hid hpre
        have hsz' : ¬ (i : Int) < (s.size : Int) := by omega
        clear hpre
        by_cases h1 : (s.size : Int) < 4
        · have hno : ¬ okForm fs1 4 s := fun h => absurd h.2.1 (by omega)
          have HNO := Lib.hid hno
          clear hno
          go_wp2_with fail
          go_ret2
          refine ⟨⟨_, _, rfl, ?_⟩, Below.refl _ _⟩
          exact ⟨fun h => absurd h (by decide), fun h => absurd h HNO.out⟩
        · by_cases h2 : (8 : Int) < (s.size : Int)
          · have hno : ¬ okForm fs1 4 s := fun h => absurd h.2.2 (by have : fs1.length = 8 := rfl; omega)
            have HNO := Lib.hid hno
            clear hno
            go_wp2_with fail
            go_ret2
            refine ⟨⟨_, _, rfl, ?_⟩, Below.refl _ _⟩
            exact ⟨fun h => absurd h (by decide), fun h => absurd h HNO.out⟩
          · have hyes : okForm fs1 4 s := ⟨HP.out, by omega, by have : fs1.length = 8 := rfl; omega⟩
            have HY := Lib.hid hyes
            clear hyes
            go_wp2_with fail
            go_quiet (fail)
            go_wp2_with fail
            go_quiet (fail)
            go_wp2_with fail
            go_ret2
            refine ⟨⟨_, _, rfl, ?_⟩, bl_drewN (bl_drewN (Below.refl _ _) _) _⟩
            exact ⟨fun _ => HY.out, fun _ => rfl⟩
    · have hpre : okPref fs1 s := (okP_pref fs1 s).1 fun k hk hs' => HOK.out k (by have : fs1.length = 8 := rfl; omega) hs'
      have HP := Lib.hid hpre
      obtain rfl : i = 8 := by omega
      clear hpre
      by_cases h1 : (s.size : Int) < 4
      · have hno : ¬ okForm fs1 4 s := fun h => absurd h.2.1 (by omega)
        have HNO := Lib.hid hno
        clear hno
        go_wp2_with fail
        go_ret2
        refine ⟨⟨_, _, rfl, ?_⟩, Below.refl _ _⟩
        exact ⟨fun h => absurd h (by decide), fun h => absurd h HNO.out⟩
      · by_cases h2 : (8 : Int) < (s.size : Int)
        · have hno : ¬ okForm fs1 4 s := fun h => absurd h.2.2 (by have : fs1.length = 8 := rfl; omega)
          have HNO := Lib.hid hno
          clear hno
          go_wp2_with fail
          go_ret2
          refine ⟨⟨_, _, rfl, ?_⟩, Below.refl _ _⟩
          exact ⟨fun h => absurd h (by decide), fun h => absurd h HNO.out⟩
        · have hyes : okForm fs1 4 s := ⟨HP.out, by omega, by have : fs1.length = 8 := rfl; omega⟩
          have HY := Lib.hid hyes
          clear hyes
          go_wp2_with fail
          go_quiet (fail)
          go_wp2_with fail
          go_quiet (fail)
          go_wp2_with fail
          go_ret2
          refine ⟨⟨_, _, rfl, ?_⟩, bl_drewN (bl_drewN (Below.refl _ _) _) _⟩
          exact ⟨fun _ => HY.out, fun _ => rfl⟩

def chkR0 (s : ByteArray) : Prop := bat s 11 - 48 = luhnD (exN (s.extract 0 11).data.toList)
def chkR3 (s : ByteArray) : Prop := s.extract 18 20 = pairB (98 - m97 (exN (s.extract 0 18 ++ ⟨#[48, 48]⟩).data.toList))
theorem aln00 (s : ByteArray) (h : aln s) : aln (s ++ ⟨#[48, 48]⟩) := by
  intro i hi
  rw [ByteArray.size_append] at hi
  rcases Nat.lt_or_ge i s.size with hl | hl
  · rw [ByteArray.getElem_append_left hl]; exact h i hl
  · rw [ByteArray.getElem_append_right hl]
    have h2 : (ByteArray.mk #[48, 48]).size = 2 := rfl
    rcases (by omega : i - s.size = 0 ∨ i - s.size = 1) with h3 | h3 <;> simp only [h3] <;> rfl
end Go.Proofs.YtongoicadcmfaaaGreatDoor.V
