import Derived.Test.YtongoicadcmfaaaGreatDoorV0
set_option linter.unusedSimpArgs false
set_option linter.unusedVariables false
namespace Go.Proofs.YtongoicadcmfaaaGreatDoor.V
open Go.RowKit

def dayB (n : Int) : Bool := decide (0 ≤ n) && decide (n ≤ 73048)
theorem day_any (n : Int) (w : World) : Calls Tryz.prog 55 #[.int .i64 n] w fun e w' => e = .returned (.bool (dayB n)) ∧ w = w' := by
  unfold dayB
  go_enter Tryz.func55, Tryz.ntmps55
  by_cases h : 0 ≤ n
  · have h' : decide (0 ≤ n) = true := decide_eq_true h
    go_wp2
    go_ret
    simp [h]
  · have h' : decide (0 ≤ n) = false := decide_eq_false h
    go_wp2
    go_ret
    simp [h']

def hit (k day : Int) (key : ByteArray) (e : E) : Bool := (e.kind == k) && (e.key.toList == key.toList) && decide (e.day ≤ day) && dayB day
def atE (l : List E) (k day : Int) (key : ByteArray) : Option E := (l.filter (hit k day key)).getLast?
theorem atE_snoc (l : List E) (e : E) (k day : Int) (key : ByteArray) : atE (l ++ [e]) k day key = if hit k day key e then some e else atE l k day key := by
  unfold atE
  rw [List.filter_append]
  by_cases h : hit k day key e <;> simp [h, List.filter_cons]
theorem take_snoc {α : Type} (l : List α) (i : Nat) (h : i < l.length) : l.take (i + 1) = l.take i ++ [l[i]] := by
  rw [List.take_succ_eq_append_getElem h]
theorem atE_next (l : List E) (i : Nat) (hi : i < l.length) (k day : Int) (key : ByteArray) : atE (l.take (i + 1)) k day key = if hit k day key l[i] then some l[i] else atE (l.take i) k day key := by
  rw [take_snoc l i hi, atE_snoc]

set_option maxHeartbeats 1000000 in
theorem at_any (A : Option Addr) (l : List E) (c : Nat) (k day : Int) (key : ByteArray) (w : World) (h : SlE w A l) (hl : l.length ≤ c) (hc : c ≤ 9223372036854775807) :
    Calls Tryz.prog 37 #[.slice A l.length c, .int .i64 k, .int .i64 day, .string key] w fun e w' => e = .returned (.tuple #[((atE l k day key).getD E.zero).val, .bool (atE l k day key).isSome]) ∧ Below w.heap.size w w' := by
  go_enter Tryz.func37, Tryz.ntmps37
  go_wp2_with fail
  go_loopw [11, 12] (fun v11 v12 wr => ∃ i : Nat, i ≤ l.length ∧ v12 = .int .i64 i ∧ v11 = .bool (atE (l.take i) k day key).isSome ∧ Blk wr (w.heap.size + 1) 31 ((atE (l.take i) k day key).getD E.zero).cells.toArray ∧ Blk wr w.heap.size 31 E.zero.cells.toArray ∧ Below w.heap.size w wr) (fun _ v12 _ => l.length - (intOf v12).toNat)
  case atStart =>
    refine ⟨0, Nat.zero_le _, rfl, ?_, ?_, ?_, ?_⟩
    · simp [atE]
    · exact Blk.new1 _ _ _ _
    · exact (Blk.new _ _ _).alloc _
    · exact bl_alloc (bl_alloc (Below.refl _ _) _) _
  case round =>
    obtain ⟨i, hi, rfl, rfl, hb1, hb0, hbl⟩ := hrel
    by_cases hlt : i < l.length
    · have hn := Lib.hid (atE_next l i hlt k day key)
      obtain ⟨ad, rfl, hadb, c0, c1, c2, c3, c4, c5, c6, c7⟩ := (h.call hbl).get hlt
      generalize l[i] = e at *
      generalize atE (l.take i) k day key = r at *
      have F := fun j => hb1.frozen j
      obtain ⟨x0, x1, x2, x3, x4, x5, x6, x7⟩ := Blk.get8 hb1
      by_cases t1 : (e.kind == k) = true
      · by_cases t2 : (e.key.toList == key.toList) = true
        · by_cases t3 : decide (e.day ≤ day) = true
          · by_cases t4 : dayB day = true
            · go_wp2_with (go_at_call 55; refine (day_any _ _).mono ?_; rintro e w' ⟨rfl, rfl⟩)
              have hh : hit k day key e = true := by simp only [hit, t1, t2, t3, t4, Bool.and_self]
              refine ⟨⟨i + 1, by omega, by go_num, by rw [hn.out, hh]; rfl, ?_, ?_, ?_⟩, by simp [intOf]; omega⟩
              · rw [hn.out, hh]; exact hb1.store8 _ _ _ _ _ _ _ _
              · repeat (refine Blk.far ?_ (by simp) _)
                exact hb0
              · repeat (refine bl_set ?_ (by simp) _)
                exact hbl
            · have t4 := Bool.eq_false_iff.mpr t4
              have hh : hit k day key e = false := by simp [hit, t1, t2, t3, t4]
              go_wp2_with (go_at_call 55; refine (day_any _ _).mono ?_; rintro e w' ⟨rfl, rfl⟩)
              exact ⟨⟨i + 1, by omega, by go_num, by rw [hn.out, hh]; rfl, by rw [hn.out, hh]; exact hb1, hb0, hbl⟩, by simp [intOf]; omega⟩
          · have t3 := Bool.eq_false_iff.mpr t3
            have hh : hit k day key e = false := by simp [hit, t1, t2, t3]
            go_wp2_with (go_at_call 55; refine (day_any _ _).mono ?_; rintro e w' ⟨rfl, rfl⟩)
            exact ⟨⟨i + 1, by omega, by go_num, by rw [hn.out, hh]; rfl, by rw [hn.out, hh]; exact hb1, hb0, hbl⟩, by simp [intOf]; omega⟩
        · have t2 := Bool.eq_false_iff.mpr t2
          have hh : hit k day key e = false := by simp [hit, t1, t2]
          go_wp2_with (go_at_call 55; refine (day_any _ _).mono ?_; rintro e w' ⟨rfl, rfl⟩)
          exact ⟨⟨i + 1, by omega, by go_num, by rw [hn.out, hh]; rfl, by rw [hn.out, hh]; exact hb1, hb0, hbl⟩, by simp [intOf]; omega⟩
      · have t1 := Bool.eq_false_iff.mpr t1
        have hh : hit k day key e = false := by simp [hit, t1]
        go_wp2_with (go_at_call 55; refine (day_any _ _).mono ?_; rintro e w' ⟨rfl, rfl⟩)
        exact ⟨⟨i + 1, by omega, by go_num, by rw [hn.out, hh]; rfl, by rw [hn.out, hh]; exact hb1, hb0, hbl⟩, by simp [intOf]; omega⟩
    · obtain rfl : l.length = i := by omega
      rw [List.take_length] at *
      generalize hr : atE l k day key = r at *
      have HR := Lib.hid hr
      clear hr
      obtain ⟨x0, x1, x2, x3, x4, x5, x6, x7⟩ := Blk.get8 hb1
      obtain ⟨y0, y1, y2, y3, y4, y5, y6, y7⟩ := Blk.get8 hb0
      have F := fun j => hb0.frozen j
      go_wp2
      refine bodyPost_ret (v := .tuple #[(r.getD E.zero).val, .bool r.isSome]) (by simp [results, Tryz.results37, go_sem, E.val, y0, y1, y2, y3, y4, y5, y6, y7]) rfl ⟨by rw [HR.out], ?_⟩
      repeat (refine bl_set ?_ (by simp) _)
      exact hbl
end Go.Proofs.YtongoicadcmfaaaGreatDoor.V
