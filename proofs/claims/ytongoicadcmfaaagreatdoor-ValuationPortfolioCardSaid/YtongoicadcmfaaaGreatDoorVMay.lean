/- giroref05: letter, digit, may, Lengths. -/
import Derived.Test.YtongoicadcmfaaaGreatDoorVCheck
set_option linter.unusedSimpArgs false
set_option linter.unusedVariables false
namespace Go.Proofs.YtongoicadcmfaaaGreatDoor.V
open Go.RowKit

theorem let136 (c : Int) (w : World) : Calls Tryz.prog 136 #[.int .u8 c] w fun e w' => e = .returned (.bool (letB c)) ∧ w = w' := by
  unfold letB
  go_enter Tryz.func136, Tryz.ntmps136
  by_cases h : 65 ≤ c
  · have h' : decide (65 ≤ c) = true := decide_eq_true h
    go_wp2
    go_ret
    simp [h]
  · have h' : decide (65 ≤ c) = false := decide_eq_false h
    go_wp2
    go_ret
    simp [h']
theorem dig137 (c : Int) (w : World) : Calls Tryz.prog 137 #[.int .u8 c] w fun e w' => e = .returned (.bool (digB c)) ∧ w = w' := by
  unfold digB
  go_enter Tryz.func137, Tryz.ntmps137
  by_cases h : 48 ≤ c
  · have h' : decide (48 ≤ c) = true := decide_eq_true h
    go_wp2
    go_ret
    simp [h]
  · have h' : decide (48 ≤ c) = false := decide_eq_false h
    go_wp2
    go_ret
    simp [h']

theorem let_dig (c : Int) (h : letB c = true) : digB c = false := by
  simp only [letB, digB, Bool.and_eq_true, decide_eq_true_eq, Bool.and_eq_false_iff, decide_eq_false_iff_not] at *
  omega

/-- What the reference permits at an index. -/
theorem may_0 (i : Nat) (hi : i < 12) (c : Int) (w : World) : Calls Tryz.prog 130 #[.int .i64 0, .int .i64 i, .int .u8 c] w fun e w' => e = .returned (.bool (cls (fs0.getD i 0) c)) ∧ w = w' := by
  have hcls : cls (fs0.getD i 0) c = if i < 2 then letB c else if i < 11 then letB c || digB c else digB c := by
    have : ∀ i : Fin 12, fs0.getD i.1 0 = if i.1 < 2 then 123 else if i.1 < 11 then 124 else 125 := by decide
    rw [this ⟨i, hi⟩]
    simp only
    split
    · rfl
    · split <;> rfl
  rw [hcls]
  clear hcls
  go_enter Tryz.func130, Tryz.ntmps130
  cases hl : letB c <;> cases hd : digB c <;> rcases (by omega : i < 2 ∨ (2 ≤ i ∧ i < 11) ∨ i = 11) with h1 | ⟨h1, h2⟩ | h1
  all_goals first
    | subst h1
    | (have a1 : (i : Int) < 2 := by omega)
    | (have a1 : (2 : Int) ≤ i := by omega
       have a2 : (i : Int) < 11 := by omega)
  all_goals go_wp2_with (first | (go_at_call 136; refine (let136 _ _).mono ?_; rintro e w' ⟨rfl, rfl⟩) | (go_at_call 137; refine (dig137 _ _).mono ?_; rintro e w' ⟨rfl, rfl⟩))
  all_goals (go_ret; simp <;> omega)

theorem may_1 (i : Nat) (hi : i < 8) (c : Int) (w : World) : Calls Tryz.prog 130 #[.int .i64 1, .int .i64 i, .int .u8 c] w fun e w' => e = .returned (.bool (cls (fs1.getD i 0) c)) ∧ w = w' := by
  have hcls : cls (fs1.getD i 0) c = if i = 0 then letB c else letB c || digB c := by
    have : ∀ i : Fin 8, fs1.getD i.1 0 = if i.1 = 0 then 123 else 124 := by decide
    rw [this ⟨i, hi⟩]
    simp only
    split <;> rfl
  rw [hcls]
  clear hcls
  go_enter Tryz.func130, Tryz.ntmps130
  cases hl : letB c <;> cases hd : digB c <;> rcases (by omega : i = 0 ∨ 0 < i) with h1 | h1
  all_goals first
    | subst h1
    | (have a1 : (0 : Int) < i := by omega)
  all_goals go_wp2_with (first | (go_at_call 136; refine (let136 _ _).mono ?_; rintro e w' ⟨rfl, rfl⟩) | (go_at_call 137; refine (dig137 _ _).mono ?_; rintro e w' ⟨rfl, rfl⟩))
  all_goals (go_ret; simp <;> omega)

theorem may_3 (i : Nat) (hi : i < 20) (c : Int) (w : World) : Calls Tryz.prog 130 #[.int .i64 3, .int .i64 i, .int .u8 c] w fun e w' => e = .returned (.bool (cls (fs3.getD i 0) c)) ∧ w = w' := by
  have hcls : cls (fs3.getD i 0) c = if i < 18 then letB c || digB c else digB c := by
    have : ∀ i : Fin 20, fs3.getD i.1 0 = if i.1 < 18 then 124 else 125 := by decide
    rw [this ⟨i, hi⟩]
    simp only
    split <;> rfl
  rw [hcls]
  clear hcls
  go_enter Tryz.func130, Tryz.ntmps130
  cases hl : letB c <;> cases hd : digB c <;> rcases (by omega : i < 18 ∨ 18 ≤ i) with h1 | h1
  all_goals first
    | (have a1 : (i : Int) < 18 := by omega)
    | (have a1 : (18 : Int) ≤ i := by omega)
  all_goals go_wp2_with (first | (go_at_call 136; refine (let136 _ _).mono ?_; rintro e w' ⟨rfl, rfl⟩) | (go_at_call 137; refine (dig137 _ _).mono ?_; rintro e w' ⟨rfl, rfl⟩))
  all_goals (go_ret; simp <;> omega)

/-- The digits of the reference, as numbers. -/
def exN (l : List UInt8) : List Int := dsL (exU l)
theorem ei221 : EI Tryz.prog 221 3 1 8 (.int .i64 0) := ⟨Tryz.underlying221, by kernel_rfl, rfl, by omega⟩
def ints (l : List Int) : List Value := l.map fun d => .int .i64 d

theorem dgU_dig1 (c : UInt8) (h : digB c.toNat = true) : dsL (dgU c) = [(c.toNat : Int) - 48] := by unfold dgU; rw [h]; rfl
theorem dgU_let1 (c : UInt8) (h : digB c.toNat = false) (h1 : 65 ≤ (c.toNat : Int)) (h2 : (c.toNat : Int) ≤ 90) : dsL (dgU c) = [((c.toNat : Int) - 65 + 10) / 10, ((c.toNat : Int) - 65) % 10] := by
  unfold dgU
  rw [h]
  have : ∀ k : Fin 100, 10 ≤ k.1 → dsL (Lib.decDigits k.1) = [((k.1 : Int)) / 10, (k.1 : Int) % 10] := by decide +kernel
  have h3 := this ⟨c.toNat - 55, by omega⟩ (by simp only; omega)
  simp only [Bool.false_eq_true, if_false]
  rw [h3]
  have e : ((c.toNat - 55 : Nat) : Int) = (c.toNat : Int) - 65 + 10 := by omega
  rw [e, show ((c.toNat : Int) - 65 + 10) % 10 = ((c.toNat : Int) - 65) % 10 by omega]
theorem exN_snoc (s : ByteArray) (i : Nat) (h : i < s.size) : exN (s.data.toList.take (i + 1)) = exN (s.data.toList.take i) ++ dsL (dgU (s[i]'h)) := by
  unfold exN
  rw [exU_snoc s i h]
  simp [dsL]
theorem exN_len (l : List UInt8) : (exN l).length = (exU l).length := by simp [exN, dsL]

set_option maxRecDepth 20000 in
set_option maxHeartbeats 2000000 in
theorem expand138 (s : ByteArray) (hs : s.size ≤ 100) (ha : aln s) (w : World) :
    Calls Tryz.prog 138 #[.string s] w fun e w' => (∃ v, e = .returned v ∧ w'.ownsRow w.heap.size 3 1 v (exN s.data.toList).length (ints (exN s.data.toList))) ∧ Below w.heap.size w w' := by
  go_enter Tryz.func138, Tryz.ntmps138
  have HA := Lib.hid ha
  clear ha
  go_wp2_with fail
  go_loopw [3, 4] (fun v3 v4 wr => ∃ i : Nat, i ≤ s.size ∧ v4 = .int .i64 i ∧ wr.ownsRow w.heap.size 3 1 v3 (exN (s.data.toList.take i)).length (ints (exN (s.data.toList.take i))) ∧ Below w.heap.size w wr ∧ w.heap.size ≤ wr.heap.size) (fun _ v4 _ => s.size - (intOf v4).toNat)
  case atStart =>
    exact ⟨0, Nat.zero_le _, rfl, World.ownsRow_nil _ _ _ _, Below.refl _ _, Nat.le_refl _⟩
  case round =>
    obtain ⟨i, hi, rfl, hown, hbl, hsz⟩ := hrel
    by_cases hlt : i < s.size
    · have hal := HA.out i hlt
      have hsn := exN_snoc s i hlt
      have hln := exU_len (s.data.toList.take i) (aln_mem s HA.out i)
      rw [← exN_len, List.length_take] at hln
      have hln' : (exN (s.data.toList.take i)).length ≤ 200 := by omega
      obtain ⟨c, ec⟩ : ∃ c, s[i] = c := ⟨_, rfl⟩
      rw [ec] at hal hsn
      have HSN := Lib.hid hsn
      clear hi hln hsn
      generalize exN (s.data.toList.take i) = done at *
      obtain ⟨nd, hnd⟩ : ∃ nd, done.length = nd := ⟨_, rfl⟩
      rw [hnd] at hown hln'
      have HND := Lib.hid hnd
      clear hnd
      cases hd : digB (c.toNat : Int)
      · have hlet : 65 ≤ (c.toNat : Int) ∧ (c.toNat : Int) ≤ 90 := by
          simp only [alnB, hd, Bool.or_false, letB, Bool.and_eq_true, decide_eq_true_eq] at hal
          exact hal
        obtain ⟨l1, l2⟩ := hlet
        have HDG := Lib.hid (dgU_let1 c hd l1 l2)
        clear hal
        go_wp2_with (first
          | (go_at_call 137; refine (dig137 _ _).mono ?_; rintro e w1 ⟨rfl, rfl⟩)
          | (at_builtin; refine ap ei221 rfl _ _ rfl w.heap.size _ _ _ rfl hown 2 2 [.int .i64 (((c.toNat : Int) - 65 + 10) / 10), .int .i64 (((c.toNat : Int) - 65) % 10)] rfl rfl (by simp [Value.oneCell']) (by simp only [maxLen]; omega) (by omega) hsz ?_; intro v' w' ho' hg' hat'))
        refine ⟨⟨i + 1, hlt, by go_num, ?_, bl_grown hbl hg' hown (by omega) (by omega), by have := hg'.size; omega⟩, by simp [intOf]; omega⟩
        rw [HSN.out, HDG.out]
        simpa [ints, HND.out] using ho'
      · have HDG := Lib.hid (dgU_dig1 c hd)
        have hcd : 48 ≤ (c.toNat : Int) := by simp only [digB, Bool.and_eq_true, decide_eq_true_eq] at hd; exact hd.1
        have hcd2 : (c.toNat : Int) ≤ 57 := by simp only [digB, Bool.and_eq_true, decide_eq_true_eq] at hd; exact hd.2
        clear hal
        go_wp2_with (first
          | (go_at_call 137; refine (dig137 _ _).mono ?_; rintro e w1 ⟨rfl, rfl⟩)
          | (at_builtin; refine ap ei221 rfl _ _ rfl w.heap.size _ _ _ rfl hown 1 1 [.int .i64 ((c.toNat : Int) - 48)] rfl rfl (by simp [Value.oneCell']) (by simp only [maxLen]; omega) (by omega) hsz ?_; intro v' w' ho' hg' hat'))
        refine ⟨⟨i + 1, hlt, by go_num, ?_, bl_grown hbl hg' hown (by omega) (by omega), by have := hg'.size; omega⟩, by simp [intOf]; omega⟩
        rw [HSN.out, HDG.out]
        simpa [ints, HND.out] using ho'
    · obtain rfl : s.size = i := by omega
      have hfull : s.data.toList.take s.size = s.data.toList := List.take_of_length_le (by simp)
      rw [hfull] at hown
      go_wp2_with fail
      go_ret
      exact ⟨⟨_, rfl, hown⟩, hbl⟩
end Go.Proofs.YtongoicadcmfaaaGreatDoor.V
