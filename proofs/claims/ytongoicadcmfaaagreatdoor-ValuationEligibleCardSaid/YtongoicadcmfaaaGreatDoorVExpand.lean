/- ident.expand: the decimal digits of the values of letters and digits. -/
import Derived.Test.YtongoicadcmfaaaGreatDoorVBuild
import Derived.Test.YtongoicadcmfaaaGreatDoorVPrefix
namespace Go.Proofs.YtongoicadcmfaaaGreatDoor.V
open Go.RowKit

theorem itoa (x : Int) (n : Nat) (h0 : x = n) (h1 : n < 100) (w : World) :
    Calls Tryz.prog 135 #[.int .i64 x] w fun e w' => e = .returned (.string ⟨(Lib.decDigits n).toArray⟩) ∧ w = w' := by
  subst h0
  exact (Tryz.strconv_Itoa_small n (by omega) w).mono fun e w' ⟨he, hw⟩ => ⟨he, hw.symm⟩

/-- The digits that a character stands for, as bytes. -/
def dgU (c : UInt8) : List UInt8 := if digB c.toNat then [c] else Lib.decDigits (c.toNat - 55)
def exU (l : List UInt8) : List UInt8 := l.flatMap dgU
def aln (s : ByteArray) : Prop := ∀ i (h : i < s.size), alnB (s[i]'h).toNat = true

theorem dec_len (n : Nat) (h : n < 100) : (Lib.decDigits n).length ≤ 2 := by
  have : ∀ k : Fin 100, (Lib.decDigits k.1).length ≤ 2 := by decide +kernel
  exact this ⟨n, h⟩
theorem dgU_len (c : UInt8) (hc : alnB c.toNat = true) : (dgU c).length ≤ 2 := by
  unfold dgU
  split
  · simp
  · refine dec_len _ ?_
    simp only [alnB, letB, digB, Bool.or_eq_true, Bool.and_eq_true, decide_eq_true_eq] at hc
    omega
theorem exU_len (l : List UInt8) (hc : ∀ c ∈ l, alnB c.toNat = true) : (exU l).length ≤ 2 * l.length := by
  induction l with
  | nil => simp [exU]
  | cons a l ih =>
    have h1 := dgU_len a (hc a (by simp))
    have h2 := ih fun c h => hc c (by simp [h])
    simp only [exU, List.flatMap_cons, List.length_append, List.length_cons] at *
    omega
theorem exU_snoc (s : ByteArray) (i : Nat) (h : i < s.size) : exU (s.data.toList.take (i + 1)) = exU (s.data.toList.take i) ++ dgU (s[i]'h) := by
  have hl : i < s.data.toList.length := by simpa using h
  rw [List.take_add_one, List.getElem?_eq_getElem hl]
  simp [exU, ByteArray.getElem_eq_getElem_data]
theorem aln_mem (s : ByteArray) (h : aln s) (i : Nat) : ∀ c ∈ s.data.toList.take i, alnB c.toNat = true := by
  intro c hc
  obtain ⟨k, hk, rfl⟩ := List.mem_iff_getElem.1 (List.mem_of_mem_take hc)
  have := h k (by simpa using hk)
  simpa [ByteArray.getElem_eq_getElem_data] using this

theorem isB_call {w w' : World} {B b : Nat} {bs : List Value} (h : Lib.IsBuilder 226 5 B b bs w) (hw : w = w') : Lib.IsBuilder 226 5 B b bs w' := hw ▸ h

set_option maxRecDepth 20000 in
set_option maxHeartbeats 2000000 in
theorem expand134 (s : ByteArray) (hs : s.size ≤ 100) (ha : aln s) (w : World) :
    Calls Tryz.prog 134 #[.string s] w fun e w' => e = .returned (.string ⟨(exU s.data.toList).toArray⟩) ∧ Below w.heap.size w w' := by
  go_enter Tryz.func134, Tryz.ntmps134
  have HA := Lib.hid ha
  clear ha
  go_wp2_with fail
  go_loopw [7] (fun v7 wr => ∃ i : Nat, i ≤ s.size ∧ v7 = .int .i64 i ∧ Lib.IsBuilder 226 5 w.heap.size w.heap.size (Lib.byteCells (exU (s.data.toList.take i))) wr ∧ Below w.heap.size w wr ∧ w.heap.size ≤ wr.heap.size) (fun v7 _ => s.size - (intOf v7).toNat)
  case atStart =>
    refine ⟨0, Nat.zero_le _, rfl, .inl ⟨Nat.le_refl _, .slice none 0 0, Blk.new _ _ _, World.ownsRow_nil _ _ _ _, by simp [Value.ownBlock]⟩, bl_alloc (Below.refl _ _) _, by simp⟩
  case round =>
    obtain ⟨i, hi, rfl, hb, hbl, hsz⟩ := hrel
    by_cases hlt : i < s.size
    · have hal := HA.out i hlt
      have hsn := exU_snoc s i hlt
      have hln := exU_len (s.data.toList.take i) (aln_mem s HA.out i)
      rw [List.length_take] at hln
      have hln' : (exU (s.data.toList.take i)).length ≤ 200 := by omega
      obtain ⟨c, ec⟩ : ∃ c, s[i] = c := ⟨_, rfl⟩
      rw [ec] at hal hsn
      have HSN := Lib.hid hsn
      have EC := ec
      clear hi hln hsn
      generalize exU (s.data.toList.take i) = done at *
      cases hd : digB (c.toNat : Int)
      · have hlet : 65 ≤ (c.toNat : Int) ∧ (c.toNat : Int) ≤ 90 := by
          simp only [alnB, hd, Bool.or_false, letB, Bool.and_eq_true, decide_eq_true_eq] at hal
          exact hal
        obtain ⟨l1, l2⟩ := hlet
        obtain ⟨m, hm⟩ : ∃ m : Nat, m = c.toNat - 55 := ⟨_, rfl⟩
        have hdg : dgU c = Lib.decDigits m := by
          unfold dgU
          rw [hd, hm]
          simp only [Bool.false_eq_true, if_false]
        have hml : m < 100 := by omega
        have hmx : (c.toNat : Int) - 65 + 10 = m := by omega
        have HMX := Lib.hid hmx
        have hdl := dec_len m hml
        have HDG := Lib.hid hdg
        obtain ⟨D, hD⟩ : ∃ D : ByteArray, D = ⟨(Lib.decDigits m).toArray⟩ := ⟨_, rfl⟩
        have hDs : D.size ≤ 2 := by rw [hD]; exact hdl
        have HD := Lib.hid hD
        clear hdg hal hm hmx hdl hD
        go_wp2_with (first
          | (go_at_call 125; refine (dig125 _ _).mono ?_; rintro e w1 ⟨rfl, rfl⟩)
          | (go_at_call 135; refine (itoa _ m HMX.out hml _).mono ?_; rw [← HD.out]; rintro e w1 ⟨rfl, rfl⟩)
          | (go_at_call 140; refine (writeString _ _ _ _ _ hb (by rw [Lib.byteCells_length]; omega) hsz).mono ?_; rintro e w1 ⟨rfl, hb1, hbl1⟩))
        refine ⟨⟨i + 1, hlt, by go_num, ?_, hbl.trans hbl1, by have := hbl1.size; omega⟩, by simp [intOf]; omega⟩
        rw [HSN.out, HDG.out, Lib.byteCells_append]
        rw [HD.out] at hb1
        simpa [Lib.strCells_eq] using hb1
      · have hdg : dgU c = [c] := by unfold dgU; rw [hd]; rfl
        have HDG := Lib.hid hdg
        clear hdg hal
        go_wp2_with (first
          | (go_at_call 125; refine (dig125 _ _).mono ?_; rintro e w1 ⟨rfl, rfl⟩)
          | (go_at_call 139; refine (writeByte _ _ _ _ _ hb (by rw [Lib.byteCells_length]; omega) hsz).mono ?_; rintro e w1 ⟨rfl, hb1, hbl1⟩))
        refine ⟨⟨i + 1, hlt, by go_num, ?_, hbl.trans hbl1, by have := hbl1.size; omega⟩, by simp [intOf]; omega⟩
        rw [HSN.out, HDG.out, Lib.byteCells_append]
        simpa [Lib.byteCells] using hb1
    · obtain rfl : s.size = i := by omega
      have hfull : s.data.toList.take s.size = s.data.toList := List.take_of_length_le (by simp)
      rw [hfull] at hb
      go_wp2_with (go_at_call 141; refine (Tryz.Builder_String_any _ _ _ _ hb hsz).mono ?_; rintro e w1 ⟨rfl, hbl1⟩)
      go_ret
      exact ⟨rfl, hbl.trans hbl1⟩
end Go.Proofs.YtongoicadcmfaaaGreatDoor.V
