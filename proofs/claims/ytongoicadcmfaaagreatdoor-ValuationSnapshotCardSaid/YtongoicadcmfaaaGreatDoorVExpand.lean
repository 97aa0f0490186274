/- strings.Builder: what its writing methods do. (The texts of the shelf's walks, turned to this program's numbers by hand: the shelf's own laying does not fit this Go's text.) ident.expand: the decimal digits of the values of letters and digits. -/
import Derived.Test.YtongoicadcmfaaaGreatDoorV0
import Derived.Test.YtongoicadcmfaaaGreatDoorShelf
import Derived.Shelf.Strings.Builder1
import Derived.Test.YtongoicadcmfaaaGreatDoorVKinds
set_option linter.unusedSimpArgs false
set_option linter.unusedVariables false
namespace Go.Proofs.YtongoicadcmfaaaGreatDoor.V
open Go.Shelf Go.RowKit

theorem bx : Builder.Extra Tryz.prog Tryz.lays169_ren := Tryz.Builder_Extra_169

set_option maxHeartbeats 1000000 in
set_option maxRecDepth 100000 in
theorem copyCheck_used (b : Nat) (w : World) (h0 : w.cell? ⟨b, 0, none⟩ = some (.pointer (some ⟨b, 0, none⟩))) :
    Calls Tryz.prog 143 #[.pointer (some ⟨b, 0, none⟩)] w fun e w' => e = .returned (.tuple #[]) ∧ w' = w := by
  obtain ⟨j, hj, _⟩ := Option.map_eq_some_iff.1 bx.sizeBuilder
  go_enter Tryz.func143, Tryz.ntmps143
  go_wp2
  rw [Lib.run_neq_ptr_same w _ Tryz.underlying224 hj]
  go_wp2
  go_end0
  exact ⟨rfl, rfl⟩

set_option maxHeartbeats 1000000 in
set_option maxRecDepth 100000 in
theorem copyCheck_fresh (b : Nat) (w : World) (h0 : w.cell? ⟨b, 0, none⟩ = some (.pointer none)) (hsh : w.shape? b = some (226, 2)) (hfz : w.frozen? ⟨b, 0, none⟩ = false) :
    Calls Tryz.prog 143 #[.pointer (some ⟨b, 0, none⟩)] w fun e w' => e = .returned (.tuple #[]) ∧ w' = w.setCell ⟨b, 0, none⟩ (.pointer (some ⟨b, 0, none⟩)) := by
  obtain ⟨j, hj, hjs⟩ := Option.map_eq_some_iff.1 bx.sizeBuilder
  go_enter Tryz.func143, Tryz.ntmps143
  go_wp2
  rw [Lib.run_to_unsafe w ⟨b, 0, none⟩ Tryz.underlying224 Tryz.underlying233 hj (by rw [hjs]; decide) hsh (Nat.zero_lt_succ 1)]
  simp only [Result.andThen]
  rw [Oper.upon_value]
  go_wp2
  rw [run_callFunc_extern Tryz.func145 (by kernel_rfl) (by kernel_rfl) (by kernel_rfl) (e := Extern.AbiNoEscape.same) (by kernel_rfl)]
  rw [Lib.run_noEscape]
  simp only [Result.andThen]
  rw [Oper.upon_value]
  go_wp2
  rw [Lib.run_from_unsafe w ⟨b, 0, none⟩ Tryz.underlying233 Tryz.underlying224 hj hsh bx.liesBuilder]
  simp only [Result.andThen]
  rw [Oper.upon_value]
  go_wp2
  go_end0
  exact ⟨rfl, rfl⟩

theorem copyCheck (B b : Nat) (bs : List Value) (w : World) (h : Lib.IsBuilder 226 5 B b bs w) :
    Calls Tryz.prog 143 #[.pointer (some ⟨b, 0, none⟩)] w fun e w' => e = .returned (.tuple #[]) ∧ (Lib.BuilderAt 226 5 B b (.pointer (some ⟨b, 0, none⟩)) bs w' ∧ Below B w w') := by
  rcases h with h | h
  · refine (copyCheck_fresh b w h.cell0 h.shape h.frozen0).mono ?_
    rintro e w' ⟨rfl, rfl⟩
    exact ⟨rfl, h.used _, (Below.refl B w).setCell (p := ⟨b, 0, none⟩) h.1 _⟩
  · refine (copyCheck_used b w h.cell0).mono ?_
    rintro e w' ⟨rfl, rfl⟩
    exact ⟨rfl, h, Below.refl B _⟩

set_option maxHeartbeats 2000000 in
set_option maxRecDepth 100000 in
theorem writeByte (B b : Nat) (bs : List Value) (c : Int) (w : World) (h : Lib.IsBuilder 226 5 B b bs w) (hlen : bs.length + 1 ≤ 140737488355328) (hBw : B ≤ w.heap.size) :
    Calls Tryz.prog 139 #[.pointer (some ⟨b, 0, none⟩), .int .u8 c] w fun e w' => e = .returned .nilIface ∧ (Lib.IsBuilder 226 5 B b (bs ++ [.int .u8 c]) w' ∧ Below B w w') := by
  obtain ⟨i0, hi, hz0, hz1, hz2⟩ := info_parts bx.infoByte
  go_enter Tryz.func139, Tryz.ntmps139
  go_wp2_with (go_at_call 143; refine (copyCheck B b bs _ h).mono ?_)
  rintro e w1 ⟨rfl, h1, hb1⟩
  obtain ⟨hB, v, hbk, hown, hne⟩ := h1
  have c0 : w1.cell? ⟨b, 0, none⟩ = some (.pointer (some ⟨b, 0, none⟩)) := by rw [Lib.cell_of_heap hbk]; rfl
  have c1 : w1.cell? ⟨b, 1, none⟩ = some v := by rw [Lib.cell_of_heap hbk]; rfl
  go_wp2_with (at_builtin; refine wpList_append_own _ rfl _ _ 223 rfl B 5 i0 (.int .u8 0) 1 1 Tryz.underlying223 hi hz0 hz1 hz2 rfl (by decide) _ _ _ rfl (hown.alloc _) ⟨w1.heap.size, 0, none⟩ 1 1 [.int .u8 c] rfl rfl ?c1 ?c2 ?c3 ?c4 ?c5 ?_)
  case c1 =>
    intro j u hj
    match j, hj with
    | 0, hj => simp at hj; subst hj; simp [Addr.add]
  case c2 => intro u hu; simp at hu; subst hu; rfl
  case c3 => unfold maxLen; omega
  case c4 => omega
  case c5 => have := hb1.size; simp; omega
  intro v' w2 hown' hgrow _
  have hlt : b < w1.heap.size := by
    rcases Nat.lt_or_ge b w1.heap.size with h' | h'
    · exact h'
    · simp [Array.getElem?_eq_none h'] at hbk
  have hb2 : w2.heap[b]? = some (.cells #[.pointer (some ⟨b, 0, none⟩), v] 226 (0, 0)) := by
    rw [hgrow.block b (by simp; omega) (fun e => hne e.symm), Lib.alloc_old w1 _ b hlt]
    exact hbk
  have d0 : w2.cell? ⟨b, 0, none⟩ = some (.pointer (some ⟨b, 0, none⟩)) := by rw [Lib.cell_of_heap hb2]; rfl
  have d1 : w2.cell? ⟨b, 1, none⟩ = some v := by rw [Lib.cell_of_heap hb2]; rfl
  have f1 : w2.frozen? ⟨b, 1, none⟩ = false := Lib.frozen_of_heap hb2 1
  obtain ⟨g, cap, rfl⟩ : ∃ g cap, v' = .slice (some ⟨g, 0, none⟩) (bs.length + 1) cap := by
    rcases hown'.2 with ⟨_, h0⟩ | ⟨g, cap, cur, hv, _⟩
    · omega
    · exact ⟨g, cap, hv⟩
  go_wp2
  go_ret
  refine ⟨rfl, ?_, ?_⟩
  · exact .inr (Lib.BuilderAt.put (T := 226) (e := 5) hB hb2 (bs' := bs ++ [.int .u8 c]) (by simpa using hown') (by decide))
  · exact ((hb1.alloc (by have := hb1.size; omega) _).grown hgrow (by have := hb1.size; simp; omega) (fun k hk => (hown.lt k hk).1)).setCell (p := ⟨b, 1, none⟩) hB _

set_option maxHeartbeats 2000000 in
set_option maxRecDepth 100000 in
theorem writeString (B b : Nat) (bs : List Value) (s : ByteArray) (w : World) (h : Lib.IsBuilder 226 5 B b bs w) (hlen : bs.length + s.size ≤ 140737488355328) (hBw : B ≤ w.heap.size) :
    Calls Tryz.prog 140 #[.pointer (some ⟨b, 0, none⟩), .string s] w fun e w' => e = .returned (.tuple #[.int .i64 s.size, .nilIface]) ∧ (Lib.IsBuilder 226 5 B b (bs ++ Lib.strCells s) w' ∧ Below B w w') := by
  obtain ⟨i0, hi, hz0, hz1, hz2⟩ := info_parts bx.infoByte
  go_enter Tryz.func140, Tryz.ntmps140
  go_wp2_with (go_at_call 143; refine (copyCheck B b bs _ h).mono ?_)
  rintro e w1 ⟨rfl, h1, hb1⟩
  obtain ⟨hB, v, hbk, hown, hne⟩ := h1
  have c0 : w1.cell? ⟨b, 0, none⟩ = some (.pointer (some ⟨b, 0, none⟩)) := by rw [Lib.cell_of_heap hbk]; rfl
  have c1 : w1.cell? ⟨b, 1, none⟩ = some v := by rw [Lib.cell_of_heap hbk]; rfl
  go_wp2_with (at_builtin; refine Lib.wpList_append_own_string _ rfl _ _ 223 9 rfl B 5 i0 Tryz.underlying223 Tryz.underlying9 hi hz0 hz1 hz2 _ _ _ rfl hown s rfl ?c3 ?c4 ?c5 ?_)
  case c3 => unfold maxLen; omega
  case c4 => omega
  case c5 => have := hb1.size; omega
  intro v' w2 hown' hgrow _
  have hlt : b < w1.heap.size := by
    rcases Nat.lt_or_ge b w1.heap.size with h' | h'
    · exact h'
    · simp [Array.getElem?_eq_none h'] at hbk
  have hb2 : w2.heap[b]? = some (.cells #[.pointer (some ⟨b, 0, none⟩), v] 226 (0, 0)) := by
    rw [hgrow.block b hlt (fun e => hne e.symm)]
    exact hbk
  have d0 : w2.cell? ⟨b, 0, none⟩ = some (.pointer (some ⟨b, 0, none⟩)) := by rw [Lib.cell_of_heap hb2]; rfl
  have d1 : w2.cell? ⟨b, 1, none⟩ = some v := by rw [Lib.cell_of_heap hb2]; rfl
  have f1 : w2.frozen? ⟨b, 1, none⟩ = false := Lib.frozen_of_heap hb2 1
  obtain ⟨ao, n', cap, rfl⟩ : ∃ ao n' cap, v' = .slice ao n' cap := by
    rcases hown'.2 with ⟨hv, _⟩ | ⟨g, cap, cur, hv, _⟩
    · exact ⟨_, _, _, hv⟩
    · exact ⟨_, _, _, hv⟩
  go_wp2
  go_ret2
  refine ⟨rfl, ?_, ?_⟩
  · exact .inr (Lib.BuilderAt.put (T := 226) (e := 5) hB hb2 (bs' := bs ++ Lib.strCells s) (by simpa [Lib.strCells_length] using hown') (by decide))
  · exact (hb1.grown hgrow (by have := hb1.size; omega) (fun k hk => (hown.lt k hk).1)).setCell (p := ⟨b, 1, none⟩) hB _
end Go.Proofs.YtongoicadcmfaaaGreatDoor.V

namespace Go.Proofs.YtongoicadcmfaaaGreatDoor.V
open Go.RowKit

theorem itoa (x : Int) (n : Nat) (h0 : x = n) (h1 : n < 100) (w : World) :
    Calls Tryz.prog 135 #[.int .i64 x] w fun e w' => e = .returned (.string ⟨(Lib.decDigits n).toArray⟩) ∧ w = w' := by
  subst h0
  exact (Tryz.strconv_Itoa_small n (by omega) w).mono fun e w' ⟨he, hw⟩ => ⟨he, hw.symm⟩

/-- The digits that a character stands for, as bytes. -/
def dgU (c : UInt8) : List UInt8 := if digB c.toNat then [c] else Lib.decDigits (c.toNat - 55)
def exU (l : List UInt8) : List UInt8 := l.flatMap dgU
def aln (s : ByteArray) : Prop := ∀ i (h : i < s.size), alnB (s[i]'h).toNat = true

theorem dec_len (n : Nat) (h : n < 100) : (Lib.decDigits n).length ≤ 2 := by
  have : ∀ k : Fin 100, (Lib.decDigits k.1).length ≤ 2 := by decide +kernel
  exact this ⟨n, h⟩
theorem dgU_len (c : UInt8) (hc : alnB c.toNat = true) : (dgU c).length ≤ 2 := by
  unfold dgU
  split
  · simp
  · refine dec_len _ ?_
    simp only [alnB, letB, digB, Bool.or_eq_true, Bool.and_eq_true, decide_eq_true_eq] at hc
    omega
theorem exU_len (l : List UInt8) (hc : ∀ c ∈ l, alnB c.toNat = true) : (exU l).length ≤ 2 * l.length := by
  induction l with
  | nil => simp [exU]
  | cons a l ih =>
    have h1 := dgU_len a (hc a (by simp))
    have h2 := ih fun c h => hc c (by simp [h])
    simp only [exU, List.flatMap_cons, List.length_append, List.length_cons] at *
    omega
theorem exU_snoc (s : ByteArray) (i : Nat) (h : i < s.size) : exU (s.data.toList.take (i + 1)) = exU (s.data.toList.take i) ++ dgU (s[i]'h) := by
  have hl : i < s.data.toList.length := by simpa using h
  rw [List.take_add_one, List.getElem?_eq_getElem hl]
  simp [exU, ByteArray.getElem_eq_getElem_data]
theorem aln_mem (s : ByteArray) (h : aln s) (i : Nat) : ∀ c ∈ s.data.toList.take i, alnB c.toNat = true := by
  intro c hc
  obtain ⟨k, hk, rfl⟩ := List.mem_iff_getElem.1 (List.mem_of_mem_take hc)
  have := h k (by simpa using hk)
  simpa [ByteArray.getElem_eq_getElem_data] using this

theorem isB_call {w w' : World} {B b : Nat} {bs : List Value} (h : Lib.IsBuilder 226 5 B b bs w) (hw : w = w') : Lib.IsBuilder 226 5 B b bs w' := hw ▸ h

set_option maxRecDepth 20000 in
set_option maxHeartbeats 2000000 in
theorem expand134 (s : ByteArray) (hs : s.size ≤ 100) (ha : aln s) (w : World) :
    Calls Tryz.prog 134 #[.string s] w fun e w' => e = .returned (.string ⟨(exU s.data.toList).toArray⟩) ∧ Below w.heap.size w w' := by
  go_enter Tryz.func134, Tryz.ntmps134
  have HA := Lib.hid ha
  clear ha
  go_wp2_with fail
  go_loopw [7] (fun v7 wr => ∃ i : Nat, i ≤ s.size ∧ v7 = .int .i64 i ∧ Lib.IsBuilder 226 5 w.heap.size w.heap.size (Lib.byteCells (exU (s.data.toList.take i))) wr ∧ Below w.heap.size w wr ∧ w.heap.size ≤ wr.heap.size) (fun v7 _ => s.size - (intOf v7).toNat)
  case atStart =>
    refine ⟨0, Nat.zero_le _, rfl, .inl ⟨Nat.le_refl _, .slice none 0 0, Blk.new _ _ _, World.ownsRow_nil _ _ _ _, by simp [Value.ownBlock]⟩, bl_alloc (Below.refl _ _) _, by simp⟩
  case round =>
    obtain ⟨i, hi, rfl, hb, hbl, hsz⟩ := hrel
    by_cases hlt : i < s.size
    · have hal := HA.out i hlt
      have hsn := exU_snoc s i hlt
      have hln := exU_len (s.data.toList.take i) (aln_mem s HA.out i)
      rw [List.length_take] at hln
      have hln' : (exU (s.data.toList.take i)).length ≤ 200 := by omega
      obtain ⟨c, ec⟩ : ∃ c, s[i] = c := ⟨_, rfl⟩
      rw [ec] at hal hsn
      have HSN := Lib.hid hsn
      have EC := ec
      clear hi hln hsn
      generalize exU (s.data.toList.take i) = done at *
      cases hd : digB (c.toNat : Int)
      · have hlet : 65 ≤ (c.toNat : Int) ∧ (c.toNat : Int) ≤ 90 := by
          simp only [alnB, hd, Bool.or_false, letB, Bool.and_eq_true, decide_eq_true_eq] at hal
          exact hal
        obtain ⟨l1, l2⟩ := hlet
        obtain ⟨m, hm⟩ : ∃ m : Nat, m = c.toNat - 55 := ⟨_, rfl⟩
        have hdg : dgU c = Lib.decDigits m := by
          unfold dgU
          rw [hd, hm]
          simp only [Bool.false_eq_true, if_false]
        have hml : m < 100 := by omega
        have hmx : (c.toNat : Int) - 65 + 10 = m := by omega
        have HMX := Lib.hid hmx
        have hdl := dec_len m hml
        have HDG := Lib.hid hdg
        obtain ⟨D, hD⟩ : ∃ D : ByteArray, D = ⟨(Lib.decDigits m).toArray⟩ := ⟨_, rfl⟩
        have hDs : D.size ≤ 2 := by rw [hD]; exact hdl
        have HD := Lib.hid hD
        clear hdg hal hm hmx hdl hD
        go_wp2_with (first
          | (go_at_call 125; refine (dig125 _ _).mono ?_; rintro e w1 ⟨rfl, rfl⟩)
          | (go_at_call 135; refine (itoa _ m HMX.out hml _).mono ?_; rw [← HD.out]; rintro e w1 ⟨rfl, rfl⟩)
          | (go_at_call 140; refine (writeString _ _ _ _ _ hb (by rw [Lib.byteCells_length]; omega) hsz).mono ?_; rintro e w1 ⟨rfl, hb1, hbl1⟩))
        refine ⟨⟨i + 1, hlt, by go_num, ?_, hbl.trans hbl1, by have := hbl1.size; omega⟩, by simp [intOf]; omega⟩
        rw [HSN.out, HDG.out, Lib.byteCells_append]
        rw [HD.out] at hb1
        simpa [Lib.strCells_eq] using hb1
      · have hdg : dgU c = [c] := by unfold dgU; rw [hd]; rfl
        have HDG := Lib.hid hdg
        clear hdg hal
        go_wp2_with (first
          | (go_at_call 125; refine (dig125 _ _).mono ?_; rintro e w1 ⟨rfl, rfl⟩)
          | (go_at_call 139; refine (writeByte _ _ _ _ _ hb (by rw [Lib.byteCells_length]; omega) hsz).mono ?_; rintro e w1 ⟨rfl, hb1, hbl1⟩))
        refine ⟨⟨i + 1, hlt, by go_num, ?_, hbl.trans hbl1, by have := hbl1.size; omega⟩, by simp [intOf]; omega⟩
        rw [HSN.out, HDG.out, Lib.byteCells_append]
        simpa [Lib.byteCells] using hb1
    · obtain rfl : s.size = i := by omega
      have hfull : s.data.toList.take s.size = s.data.toList := List.take_of_length_le (by simp)
      rw [hfull] at hb
      go_wp2_with (go_at_call 141; refine (Tryz.Builder_String_any _ _ _ _ hb hsz).mono ?_; rintro e w1 ⟨rfl, hbl1⟩)
      go_ret
      exact ⟨rfl, hbl.trans hbl1⟩
end Go.Proofs.YtongoicadcmfaaaGreatDoor.V
