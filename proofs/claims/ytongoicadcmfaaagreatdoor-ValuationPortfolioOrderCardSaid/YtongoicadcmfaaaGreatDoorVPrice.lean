/- valuation.Valuer: the relation; price; the conditions of Eligible. (Printed by gen_val.py.) -/
import Derived.Test.YtongoicadcmfaaaGreatDoorVGood
import Derived.Deep.RegionHeld3
set_option linter.unusedSimpArgs false
set_option linter.unusedVariables false
namespace Go.Proofs.YtongoicadcmfaaaGreatDoor.V
open Go.RowKit

/-- Block vb is a valuer of day d over a table that stands for l. -/
structure Val (w : World) (vb tb m0 m1 m2 m3 N : Nat) (l : List E) (d : Int) : Prop where
  blk : Blk w vb 75 #[.pointer (some ⟨tb, 0, none⟩), .int .i64 d]
  tab : Tab w tb m0 m1 m2 m3 N l
theorem Val.call {w w' : World} {vb tb m0 m1 m2 m3 N : Nat} {l : List E} {d : Int} (h : Val w vb tb m0 m1 m2 m3 N l d) (hb : Below w.heap.size w w') : Val w' vb tb m0 m1 m2 m3 N l d := ⟨h.blk.call hb, h.tab.call hb⟩
theorem cell_lt {w : World} {b o : Nat} {v : Value} (h : w.cell? ⟨b, o, none⟩ = some v) : b < w.heap.size := World.block_lt_of_cell? w ⟨b, o, none⟩ h
theorem cell_call {w w' : World} {b o : Nat} {v : Value} (h : w.cell? ⟨b, o, none⟩ = some v) (hb : Below w.heap.size w w') : w'.cell? ⟨b, o, none⟩ = some v := (hb.cell (p := ⟨b, o, none⟩) (cell_lt h)).trans h
theorem fz_call {X w1 : World} (hb : Below X.heap.size X w1) : ∀ b o, b < X.heap.size → w1.frozen? ⟨b, o, none⟩ = X.frozen? ⟨b, o, none⟩ := (bcell hb).2
theorem first_blk (w : World) (t : TypeId) (cs : Array Value) : Blk (w.drew.alloc (.cells cs t)) w.heap.size t cs := Blk.new w.drew t cs
theorem k5 {a b c d e : Prop} (h : a ∧ b ∧ c ∧ d ∧ e) : e := h.2.2.2.2
theorem k4 {a b c d : Prop} (h : a ∧ b ∧ c ∧ d) : d := h.2.2.2
theorem k3 {a b c : Prop} (h : a ∧ b ∧ c) : c := h.2.2

set_option maxRecDepth 20000 in
set_option maxHeartbeats 4000000 in
theorem price36 (vb tb m0 m1 m2 m3 N : Nat) (l : List E) (d : Int) (key : ByteArray) (w : World) (V : Val w vb tb m0 m1 m2 m3 N l d) (hi : Inv l) (hg : Good l) (hk : key.size ≤ maxLen) :
    Calls Tryz.prog 36 #[.pointer (some ⟨vb, 0, none⟩), .string key] w fun r w' => r = .returned (.tuple #[.int .i64 (prN (atE l 2 d key) d), .int .i64 (prE (atE l 2 d key) d)]) ∧ Below w.heap.size w w' := by
  have hp := fun W T => price63 tb m0 m1 m2 m3 N l d key W T hi hk
  have hdd : (atE l 2 d key).isSome = true → dayB d = true := fun hs => by
    obtain ⟨e, he⟩ := Option.isSome_iff_exists.1 hs
    exact (at_mem he).2.2.2.1
  obtain ⟨g1, g2, -⟩ := (at_good hg 2 d key).b
  generalize atE l 2 d key = o at *
  unfold prN prE prB2
  generalize o.getD E.zero = x at *
  generalize o.isSome = b at *
  have HP := Lib.hid hp
  have hc : ∀ w', Below w.heap.size w w' → w'.cell? ⟨vb, 0, none⟩ = some (.pointer (some ⟨tb, 0, none⟩)) ∧ w'.cell? ⟨vb, 1, none⟩ = some (.int .i64 d) ∧ Below w.heap.size w w' := fun w' h => ⟨(V.call h).blk.cell 0, (V.call h).blk.cell 1, h⟩
  have HC := Lib.hid hc
  have HV := Lib.hid V
  clear hp hc V
  have hcases : (b = true ∧ dayB d = true ∧ IntKind.i64.wrap (d - x.day) = d - x.day) ∨ b = false := by
    cases b
    · exact .inr rfl
    · have hd := (dayB_iff d).1 (hdd rfl)
      exact .inl ⟨rfl, hdd rfl, by rw [IntKind.wrap_i64]; omega⟩
  clear hdd
  have main : ∀ n er, (n = bif b && !decide (5 < d - x.day) then x.n else 0) → (er = bif b && !decide (5 < d - x.day) then 0 else 20) → Calls Tryz.prog 36 #[.pointer (some ⟨vb, 0, none⟩), .string key] w fun r w' => r = .returned (.tuple #[.int .i64 n, .int .i64 er]) ∧ Below w.heap.size w w' := by
    intro n er hn he
    rcases hcases with ⟨rfl, _, hw⟩ | rfl
    · cases h5 : decide (5 < d - x.day) <;> rw [h5] at hn he <;> (replace hn : n = _ := hn) <;> (replace he : er = _ := he) <;> subst hn <;> subst he
      all_goals
        go_enter Tryz.func36, Tryz.ntmps36
        go_wp2_with fail
        go_region_held3 (fun w' => w'.cell? ⟨vb, 0, none⟩ = some (.pointer (some ⟨tb, 0, none⟩)) ∧ w'.cell? ⟨vb, 1, none⟩ = some (.int .i64 d) ∧ Below w.heap.size w w')
          (first | exact HC.out _ (bl_drew (Below.refl _ _)) | exact HC.out _ (bl_then (k3 (by assumption)) hb1))
          (first | (go_at_call 63; refine (HP.out _ (HV.out.tab.call (k3 (by assumption)))).mono ?_; rintro r w1 ⟨rfl, hb1⟩) | fail "no arm")
        all_goals
          go_split_ands
          go_wp2_with fail
          go_ret2
          exact ⟨rfl, by assumption⟩
    · replace hn : n = 0 := hn
      replace he : er = 20 := he
      subst hn
      subst he
      go_enter Tryz.func36, Tryz.ntmps36
      go_wp2_with fail
      go_region_held3 (fun w' => w'.cell? ⟨vb, 0, none⟩ = some (.pointer (some ⟨tb, 0, none⟩)) ∧ w'.cell? ⟨vb, 1, none⟩ = some (.int .i64 d) ∧ Below w.heap.size w w')
        (first | exact HC.out _ (bl_drew (Below.refl _ _)) | exact HC.out _ (bl_then (k3 (by assumption)) hb1))
        (first | (go_at_call 63; refine (HP.out _ (HV.out.tab.call (k3 (by assumption)))).mono ?_; rintro r w1 ⟨rfl, hb1⟩) | fail "no arm")
      all_goals
        go_split_ands
        go_wp2_with fail
        go_ret2
        exact ⟨rfl, by assumption⟩
  exact main _ _ rfl rfl

set_option maxRecDepth 20000 in
set_option maxHeartbeats 4000000 in
theorem cond29 (vb tb m0 m1 m2 m3 N : Nat) (l : List E) (d : Int) (key : ByteArray) (pv pm : Nat) (w : World) (V : Val w vb tb m0 m1 m2 m3 N l d) (hi : Inv l) (hk : key.size ≤ maxLen)
    (h1 : w.cell? ⟨pv, 0, none⟩ = some (.pointer (some ⟨vb, 0, none⟩))) (h2 : w.cell? ⟨pm, 0, none⟩ = some (.string key)) :
    Calls Tryz.prog 29 #[.pointer (some ⟨pv, 0, none⟩), .pointer (some ⟨pm, 0, none⟩)] w fun r w' => r = .returned (.bool (atE l 0 d key).isSome) ∧ Below w.heap.size w w' := by
  have hm := fun W T => member30 tb m0 m1 m2 m3 N l d key W T hi hk
  generalize (atE l 0 d key).getD E.zero = x at *
  generalize (atE l 0 d key).isSome = b at *
  have HM := Lib.hid hm
  have hc : ∀ w', Below w.heap.size w w' → w'.cell? ⟨pv, 0, none⟩ = some (.pointer (some ⟨vb, 0, none⟩)) ∧ w'.cell? ⟨pm, 0, none⟩ = some (.string key) ∧ w'.cell? ⟨vb, 0, none⟩ = some (.pointer (some ⟨tb, 0, none⟩)) ∧ w'.cell? ⟨vb, 1, none⟩ = some (.int .i64 d) ∧ Below w.heap.size w w' := fun w' h => ⟨cell_call h1 h, cell_call h2 h, (V.call h).blk.cell 0, (V.call h).blk.cell 1, h⟩
  have HC := Lib.hid hc
  have HV := Lib.hid V
  clear hm hc V h1 h2
  go_enter Tryz.func29, Tryz.ntmps29
  go_wp2_with fail
  go_region_held3 (fun w' => w'.cell? ⟨pv, 0, none⟩ = some (.pointer (some ⟨vb, 0, none⟩)) ∧ w'.cell? ⟨pm, 0, none⟩ = some (.string key) ∧ w'.cell? ⟨vb, 0, none⟩ = some (.pointer (some ⟨tb, 0, none⟩)) ∧ w'.cell? ⟨vb, 1, none⟩ = some (.int .i64 d) ∧ Below w.heap.size w w')
    ((refine HC.out _ ?_; (repeat (refine bl_set ?_ (by first | (simp; done) | (simp; omega) | omega) _)); first | exact bl_drew (Below.refl _ _) | exact k5 (by assumption) | exact bl_alloc (k5 (by assumption)) _ | exact bl_then (k5 (by assumption)) hb1 | exact bl_alloc (bl_then hb0 hb1) _))
    (first | (go_at_call 30; have hb0 : Below w.heap.size w _ := k5 (by assumption); have hsz0 := hb0.size; refine (HM.out _ (HV.out.tab.call (k5 (by assumption)))).mono ?_; rintro r w1 ⟨rfl, hb1⟩; (try (have hB : Blk w1 w.heap.size 78 #[.string ⟨#[]⟩, .string ⟨#[]⟩, .bool false] := (first_blk w 78 #[.string ⟨#[]⟩, .string ⟨#[]⟩, .bool false]).call hb1; have hF := fun j => hB.frozen j; first | have hCl := Blk.get4 hB | have hCl := Blk.get3 hB | have hCl := Blk.get2 hB)); have hsz1 := hb1.size) | fail "no arm")
  all_goals
    go_split_ands
    go_wp2_with fail
    go_ret
    exact ⟨rfl, by assumption⟩

set_option maxRecDepth 20000 in
set_option maxHeartbeats 4000000 in
theorem cond33 (vb tb m0 m1 m2 m3 N : Nat) (l : List E) (d : Int) (key : ByteArray) (pv pm : Nat) (w : World) (V : Val w vb tb m0 m1 m2 m3 N l d) (hi : Inv l) (hk : key.size ≤ maxLen)
    (h1 : w.cell? ⟨pv, 0, none⟩ = some (.pointer (some ⟨vb, 0, none⟩))) (h2 : w.cell? ⟨pm, 0, none⟩ = some (.string key)) :
    Calls Tryz.prog 33 #[.pointer (some ⟨pv, 0, none⟩), .pointer (some ⟨pm, 0, none⟩)] w fun r w' => r = .returned (.bool (atE l 3 d key).isSome) ∧ Below w.heap.size w w' := by
  have hm := fun W T => haircut34 tb m0 m1 m2 m3 N l d key W T hi hk
  generalize (atE l 3 d key).getD E.zero = x at *
  generalize (atE l 3 d key).isSome = b at *
  have HM := Lib.hid hm
  have hc : ∀ w', Below w.heap.size w w' → w'.cell? ⟨pv, 0, none⟩ = some (.pointer (some ⟨vb, 0, none⟩)) ∧ w'.cell? ⟨pm, 0, none⟩ = some (.string key) ∧ w'.cell? ⟨vb, 0, none⟩ = some (.pointer (some ⟨tb, 0, none⟩)) ∧ w'.cell? ⟨vb, 1, none⟩ = some (.int .i64 d) ∧ Below w.heap.size w w' := fun w' h => ⟨cell_call h1 h, cell_call h2 h, (V.call h).blk.cell 0, (V.call h).blk.cell 1, h⟩
  have HC := Lib.hid hc
  have HV := Lib.hid V
  clear hm hc V h1 h2
  go_enter Tryz.func33, Tryz.ntmps33
  go_wp2_with fail
  go_region_held3 (fun w' => w'.cell? ⟨pv, 0, none⟩ = some (.pointer (some ⟨vb, 0, none⟩)) ∧ w'.cell? ⟨pm, 0, none⟩ = some (.string key) ∧ w'.cell? ⟨vb, 0, none⟩ = some (.pointer (some ⟨tb, 0, none⟩)) ∧ w'.cell? ⟨vb, 1, none⟩ = some (.int .i64 d) ∧ Below w.heap.size w w')
    ((refine HC.out _ ?_; (repeat (refine bl_set ?_ (by first | (simp; done) | (simp; omega) | omega) _)); first | exact bl_drew (Below.refl _ _) | exact k5 (by assumption) | exact bl_alloc (k5 (by assumption)) _ | exact bl_then (k5 (by assumption)) hb1 | exact bl_alloc (bl_then hb0 hb1) _))
    (first | (go_at_call 34; have hb0 : Below w.heap.size w _ := k5 (by assumption); have hsz0 := hb0.size; refine (HM.out _ (HV.out.tab.call (k5 (by assumption)))).mono ?_; rintro r w1 ⟨rfl, hb1⟩; (try (have hB : Blk w1 w.heap.size 69 #[.int .i64 0, .int .i64 0] := (first_blk w 69 #[.int .i64 0, .int .i64 0]).call hb1; have hF := fun j => hB.frozen j; first | have hCl := Blk.get4 hB | have hCl := Blk.get3 hB | have hCl := Blk.get2 hB)); have hsz1 := hb1.size) | fail "no arm")
  all_goals
    go_split_ands
    go_wp2_with fail
    go_ret
    exact ⟨rfl, by assumption⟩

set_option maxRecDepth 20000 in
set_option maxHeartbeats 4000000 in
theorem cond31 (b : Bool) (pb : Nat) (w : World) (h1 : w.cell? ⟨pb, 0, none⟩ = some (.bool b)) :
    Calls Tryz.prog 31 #[.pointer (some ⟨pb, 0, none⟩)] w fun r w' => r = .returned (.bool b) ∧ Below w.heap.size w w' := by
  go_enter Tryz.func31, Tryz.ntmps31
  go_wp2_with fail
  go_ret
  exact ⟨rfl, Below.refl _ _⟩

set_option maxRecDepth 20000 in
set_option maxHeartbeats 4000000 in
theorem cond32 (act : Bool) (text mem : ByteArray) (ps pm : Nat) (w : World) (h1 : w.cell? ⟨ps, 3, none⟩ = some (.bool act)) (h2 : w.cell? ⟨ps, 1, none⟩ = some (.string text)) (h3 : w.cell? ⟨pm, 0, none⟩ = some (.string mem)) :
    Calls Tryz.prog 32 #[.pointer (some ⟨ps, 0, none⟩), .pointer (some ⟨pm, 0, none⟩)] w fun r w' => r = .returned (.bool (act && !(text.toList == mem.toList))) ∧ Below w.heap.size w w' := by
  cases act <;> cases hb : (text.toList == mem.toList)
  all_goals
    go_enter Tryz.func32, Tryz.ntmps32
    go_wp2_with fail
    go_ret
    exact ⟨rfl, Below.refl _ _⟩

set_option maxRecDepth 20000 in
set_option maxHeartbeats 4000000 in
theorem cond35 (vb tb m0 m1 m2 m3 N : Nat) (l : List E) (d : Int) (key : ByteArray) (pv pm : Nat) (w : World) (V : Val w vb tb m0 m1 m2 m3 N l d) (hi : Inv l) (hg : Good l) (hk : key.size ≤ maxLen)
    (h1 : w.cell? ⟨pv, 0, none⟩ = some (.pointer (some ⟨vb, 0, none⟩))) (h2 : w.cell? ⟨pm, 0, none⟩ = some (.string key)) :
    Calls Tryz.prog 35 #[.pointer (some ⟨pv, 0, none⟩), .pointer (some ⟨pm, 0, none⟩)] w fun r w' => r = .returned (.bool (prE (atE l 2 d key) d == 0)) ∧ Below w.heap.size w w' := by
  have hm := price36 vb tb m0 m1 m2 m3 N l d key w V hi hg hk
  generalize prN (atE l 2 d key) d = x at *
  generalize prE (atE l 2 d key) d = er at *
  have HM := Lib.hid hm
  clear hm V
  go_enter Tryz.func35, Tryz.ntmps35
  go_wp2_with (go_at_call 36; refine HM.out.mono ?_; rintro r w1 ⟨rfl, hb1⟩)
  go_ret
  exact ⟨rfl, hb1⟩
end Go.Proofs.YtongoicadcmfaaaGreatDoor.V
