/- The reference's Last: the index of a key's last entry, and the entry itself. -/
import Derived.Test.YtongoicadcmfaaaGreatDoorVTaken
set_option linter.unusedSimpArgs false
set_option linter.unusedVariables false
namespace Go.Proofs.YtongoicadcmfaaaGreatDoor.V
open Go.RowKit

def hit2 (k : Int) (key : ByteArray) (e : E) : Bool := (e.kind == k) && (e.key.toList == key.toList)
/-- The index of the last entry, plus one; 0 where there is none. -/
def lastN (k : Int) (key : ByteArray) (l : List E) : Nat := (l.reverse.dropWhile fun e => !hit2 k key e).length
theorem lastN_snoc (k : Int) (key : ByteArray) (l : List E) (e : E) : lastN k key (l ++ [e]) = if hit2 k key e then l.length + 1 else lastN k key l := by
  unfold lastN
  rw [List.reverse_append, List.reverse_singleton, List.singleton_append, List.dropWhile_cons]
  cases h : hit2 k key e <;> simp
theorem lastN_next (k : Int) (key : ByteArray) (l : List E) (i : Nat) (hi : i < l.length) : lastN k key (l.take (i + 1)) = if hit2 k key l[i] then i + 1 else lastN k key (l.take i) := by
  rw [take_snoc l i hi, lastN_snoc, List.length_take, Nat.min_eq_left (by omega)]
theorem ser_snoc (k : Int) (key : ByteArray) (l : List E) (e : E) : ser k (l ++ [e]) key = if hit2 k key e then ser k l key ++ [e] else ser k l key := by
  unfold ser hit2
  rw [List.filter_append]
  cases h : (e.kind == k) && (e.key.toList == key.toList) <;> simp [List.filter_cons, h]
theorem lastE_snoc (l : List E) (e : E) : lastE (l ++ [e]) = e := by unfold lastE; simp

theorem lastN_ser (k : Int) (key : ByteArray) (l : List E) : (lastN k key l = 0 ∧ ser k l key = []) ∨
    ∃ n, ∃ h : n < l.length, lastN k key l = n + 1 ∧ ser k l key ≠ [] ∧ l[n] = lastE (ser k l key) ∧ l[n].kind = k ∧ l[n].key = key := by
  have main : ∀ r : List E, (lastN k key r.reverse = 0 ∧ ser k r.reverse key = []) ∨
      ∃ n, ∃ h : n < r.reverse.length, lastN k key r.reverse = n + 1 ∧ ser k r.reverse key ≠ [] ∧ r.reverse[n] = lastE (ser k r.reverse key) ∧ r.reverse[n].kind = k ∧ r.reverse[n].key = key := by
    intro r
    induction r with
    | nil => exact .inl ⟨rfl, rfl⟩
    | cons e r ih =>
      rw [List.reverse_cons, lastN_snoc, ser_snoc]
      cases h : hit2 k key e
      · rcases ih with ih | ⟨n, hn, h1, h2, h3, h4, h5⟩
        · exact .inl ih
        · refine .inr ⟨n, by rw [List.length_append]; omega, h1, h2, ?_, ?_, ?_⟩
          · rw [List.getElem_append_left hn]; exact h3
          · rw [List.getElem_append_left hn]; exact h4
          · rw [List.getElem_append_left hn]; exact h5
      · refine .inr ⟨r.reverse.length, by simp, rfl, by simp, ?_, ?_, ?_⟩
        · rw [List.getElem_append_right (Nat.le_refl _)]; simp [lastE_snoc]
        · rw [List.getElem_append_right (Nat.le_refl _)]
          unfold hit2 at h
          rw [Bool.and_eq_true, beq_iff_eq] at h
          simpa using h.1
        · rw [List.getElem_append_right (Nat.le_refl _)]
          unfold hit2 at h
          rw [Bool.and_eq_true, str_beq, decide_eq_true_iff] at h
          simpa using h.2
  have := main l.reverse
  simpa only [List.reverse_reverse] using this
theorem lastN_le (k : Int) (key : ByteArray) (l : List E) : lastN k key l ≤ l.length := by
  unfold lastN
  have := (List.dropWhile_sublist (fun e => !hit2 k key e) (l := l.reverse)).length_le
  simpa using this

/-- The entry at i stands in the way of another member with the same text. -/
def dupAt (l : List E) (e x : E) (i : Nat) : Bool := (x.kind == 0) && !(x.key.toList == e.key.toList) && (x.text.toList == e.text.toList) && (lastN 0 x.key l == i + 1)
theorem dup_taken (l : List E) (e : E) : takenP l e ↔ ∃ i, ∃ h : i < l.length, dupAt l e l[i] i = true := by
  constructor
  · rintro ⟨key, hk, hs, ht⟩
    rcases lastN_ser 0 key l with ⟨_, h2⟩ | ⟨n, hn, h1, _, h3, h4, h5⟩
    · exact absurd h2 hs
    · refine ⟨n, hn, ?_⟩
      unfold dupAt
      rw [h4, str_beq, str_beq, h5, h1, h3, decide_eq_true ht, decide_eq_false hk]
      simp
  · rintro ⟨i, hi, h⟩
    unfold dupAt at h
    rw [Bool.and_eq_true, Bool.and_eq_true, Bool.and_eq_true, str_beq, str_beq, beq_iff_eq, beq_iff_eq, Bool.not_eq_true', decide_eq_false_iff_not, decide_eq_true_iff] at h
    obtain ⟨⟨⟨h1, h2⟩, h3⟩, h4⟩ := h
    rcases lastN_ser 0 l[i].key l with ⟨h5, _⟩ | ⟨n, hn, h5, h6, h7, _, _⟩
    · omega
    · have hni : n = i := by omega
      subst hni
      exact ⟨l[n].key, h2, h6, by rw [← h7]; exact h3⟩

set_option maxHeartbeats 1000000 in
theorem last96 (A : Option Addr) (l : List E) (c : Nat) (k : Int) (key : ByteArray) (w : World) (h : SlE w A l) (hl : l.length ≤ c) (hc : c ≤ 9223372036854775807) :
    Calls Tryz.prog 96 #[.slice A l.length c, .int .i64 k, .string key] w fun e w' => e = .returned (.int .i64 ((lastN k key l : Int) - 1)) ∧ w = w' := by
  go_enter Tryz.func96, Tryz.ntmps96
  go_wp2_with fail
  go_loopw [7, 8] (fun v7 v8 wr => ∃ i : Nat, ∃ a : Int, i ≤ l.length ∧ v8 = .int .i64 i ∧ v7 = .int .i64 a ∧ a = (lastN k key (l.take i) : Int) - 1 ∧ w = wr) (fun _ v8 _ => l.length - (intOf v8).toNat)
  case atStart => exact ⟨0, -1, Nat.zero_le _, rfl, rfl, by simp [lastN], rfl⟩
  case round =>
    obtain ⟨i, a, hi, rfl, rfl, ha, rfl⟩ := hrel
    by_cases hlt : i < l.length
    · have hn := Lib.hid (lastN_next k key l i hlt)
      have HA := Lib.hid ha
      clear ha
      obtain ⟨ad, rfl, hadb, c0, c1, c2, c3, c4, c5, c6, c7⟩ := h.get hlt
      generalize l[i] = e at *
      cases t1 : (e.kind == k) <;> cases t2 : (e.key.toList == key.toList)
      all_goals
        go_wp2
        refine ⟨⟨i + 1, _, by omega, by go_num, rfl, ?_, by first | rfl | trivial⟩, by simp [intOf]; omega⟩
        rw [hn.out]
        unfold hit2
        rw [t1, t2]
        first | exact HA.out | simp
    · obtain rfl : l.length = i := by omega
      rw [List.take_length] at ha
      have HA := Lib.hid ha
      clear ha
      go_wp2
      go_ret
      rw [HA.out]
      first | exact ⟨rfl, rfl⟩ | exact ⟨rfl, trivial⟩ | trivial | rfl
end Go.Proofs.YtongoicadcmfaaaGreatDoor.V
