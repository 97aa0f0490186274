/- valuation: the methods of a nil valuer; New of a nil table; a clone's maps are new. -/
import Derived.Test.YtongoicadcmfaaaGreatDoorVVal2
import Derived.Test.YtongoicadcmfaaaGreatDoorVNew
set_option linter.unusedSimpArgs false
set_option linter.unusedVariables false
namespace Go.Proofs.YtongoicadcmfaaaGreatDoor.V
open Go.RowKit Go.MapKept

set_option maxRecDepth 20000 in
set_option maxHeartbeats 4000000 in
theorem elig10_nil (mem isin : ByteArray) (w : World) : Calls Tryz.prog 10 #[.pointer none, .string mem, .string isin] w fun r w' => r = .returned (.int .i64 1) ∧ Below w.heap.size w w' := by
  have hb := bl_alloc (bl_alloc (bl1 w (.cells #[.pointer none] 23)) (.cells #[.string mem] 9)) (.cells #[.string isin] 9)
  have bx := Blk.get1 (((Blk.new w 23 #[.pointer none]).alloc (.cells #[.string mem] 9)).alloc (.cells #[.string isin] 9))
  go_enter Tryz.func10, Tryz.ntmps10
  go_wp2_with fail
  go_ret
  exact ⟨rfl, hb⟩

set_option maxRecDepth 20000 in
set_option maxHeartbeats 4000000 in
theorem terms39_nil (mem isin : ByteArray) (w : World) : Calls Tryz.prog 39 #[.pointer none, .string mem, .string isin] w fun r w' => r = .returned (.tuple #[.int .i64 0, .agg #[.int .i64 0, .int .i64 0], .int .i64 0, .int .i64 1]) ∧ Below w.heap.size w w' := by
  have hb0 := bl1 w (.cells #[.int .i64 0, .int .i64 0] 69)
  have bx := Blk.new w 69 #[.int .i64 0, .int .i64 0]
  have hel := elig10_nil mem isin
  have HEL := Lib.hid hel
  clear hel
  go_enter Tryz.func39, Tryz.ntmps39
  go_wp2_with (go_at_call 10; refine (HEL.out _).mono ?_; rintro r w1 ⟨rfl, hb1⟩; have bx1 := bx.call hb1; have cc1 := Blk.get2 bx1; have fz := fun j => bx1.frozen j; have hbl1 := bl_then hb0 hb1)
  refine bodyPost_ret (v := .tuple #[.int .i64 0, .agg #[.int .i64 0, .int .i64 0], .int .i64 0, .int .i64 1]) (by simp [results, Tryz.results39, go_sem, cc1, fz]) rfl ⟨rfl, ?_⟩
  repeat (refine bl_set ?_ (by simp) _)
  exact hbl1

set_option maxRecDepth 20000 in
set_option maxHeartbeats 4000000 in
theorem value12_nil (mem isin : ByteArray) (q : Int) (w : World) : Calls Tryz.prog 12 #[.pointer none, .string mem, .agg #[.string isin, .int .i64 q]] w fun r w' => r = .returned (.tuple #[.int .i64 0, .int .i64 1]) ∧ Below w.heap.size w w' := by
  have hb0 := bl1 w (.cells #[.string isin, .int .i64 q] 40)
  have bx0 := Blk.new w 40 #[.string isin, .int .i64 q]
  have cc0 := Blk.get2 bx0
  have ht := terms39_nil mem isin
  have HT := Lib.hid ht
  clear ht
  go_enter Tryz.func12, Tryz.ntmps12
  go_wp2_with (go_at_call 39; refine (HT.out _).mono ?_; rintro r w1 ⟨rfl, hb1⟩; have hbl1 := bl_then hb0 hb1; have bx1 := bx0.call hb1; have cc1 := Blk.get2 bx1; have ca1 := fun o => Blk.get2 (bx1.alloc o))
  go_ret2
  exact ⟨rfl, bl_alloc hbl1 _⟩

set_option maxRecDepth 20000 in
set_option maxHeartbeats 4000000 in
theorem needed13_nil (mem isin : ByteArray) (a : Int) (w : World) : Calls Tryz.prog 13 #[.pointer none, .string mem, .string isin, .int .i64 a] w fun r w' => r = .returned (.tuple #[.int .i64 0, .int .i64 1]) ∧ Below w.heap.size w w' := by
  have ht := terms39_nil mem isin
  have HT := Lib.hid ht
  clear ht
  go_enter Tryz.func13, Tryz.ntmps13
  go_wp2_with (go_at_call 39; refine (HT.out _).mono ?_; rintro r w1 ⟨rfl, hb1⟩)
  go_ret2
  exact ⟨rfl, bl_alloc hb1 _⟩

set_option maxRecDepth 20000 in
set_option maxHeartbeats 4000000 in
theorem market14_nil (isin : ByteArray) (q : Int) (w : World) : Calls Tryz.prog 14 #[.pointer none, .agg #[.string isin, .int .i64 q]] w fun r w' => r = .returned (.tuple #[.int .i64 0, .int .i64 1]) ∧ Below w.heap.size w w' := by
  have hb0 := bl1 w (.cells #[.string isin, .int .i64 q] 40)
  go_enter Tryz.func14, Tryz.ntmps14
  go_wp2_with fail
  go_ret2
  exact ⟨rfl, hb0⟩

set_option maxRecDepth 20000 in
set_option maxHeartbeats 4000000 in
theorem portfolio18_nil (mem : ByteArray) (v : Value) (w : World) : Calls Tryz.prog 18 #[.pointer none, .string mem, v] w fun r w' => r = .returned (.tuple #[.int .i64 0, .slice none 0 0, .int .i64 1]) ∧ Below w.heap.size w w' := by
  go_enter Tryz.func18, Tryz.ntmps18
  go_wp2_with fail
  go_ret3
  exact ⟨rfl, Below.refl _ _⟩

set_option maxRecDepth 20000 in
set_option maxHeartbeats 4000000 in
theorem new21_nil (d : Int) (w : World) : Calls Tryz.prog 21 #[.pointer none, .int .i64 d] w fun r w' => r = .returned (.tuple #[.pointer none, .int .i64 1]) ∧ w = w' := by
  go_enter Tryz.func21, Tryz.ntmps21
  go_wp2_with fail
  go_ret2
  exact ⟨rfl, rfl⟩

set_option maxRecDepth 20000 in
set_option maxHeartbeats 4000000 in
theorem day22_nil (w : World) : Calls Tryz.prog 22 #[.pointer none] w fun r w' => r = .returned (.int .i64 0) ∧ w = w' := by
  go_enter Tryz.func22, Tryz.ntmps22
  go_wp2_with fail
  go_ret
  exact ⟨rfl, rfl⟩

set_option maxRecDepth 20000 in
set_option maxHeartbeats 16000000 in
theorem clone45_new (tb m0 m1 m2 m3 N : Nat) (l : List E) (w : World) (T : Tab w tb m0 m1 m2 m3 N l) :
    Calls Tryz.prog 45 #[.pointer (some ⟨tb, 0, none⟩)] w fun r w' => ∃ tb' n0 n1 n2 n3, r = .returned (.pointer (some ⟨tb', 0, none⟩)) ∧ (w.heap.size ≤ n0 ∧ w.heap.size ≤ n1 ∧ w.heap.size ≤ n2 ∧ w.heap.size ≤ n3) ∧ Tab w' tb' n0 n1 n2 n3 N l ∧ Below w.heap.size w w' := by
  obtain ⟨f0, g0, r0⟩ := T.mem
  obtain ⟨f1, g1, r1⟩ := T.sec
  obtain ⟨f2, g2, r2⟩ := T.pri
  obtain ⟨f3, g3, r3⟩ := T.hair
  have hk := T.blk
  have G0 := Lib.hid g0
  have G1 := Lib.hid g1
  have G2 := Lib.hid g2
  have G3 := Lib.hid g3
  have R0 := Lib.hid r0
  have R1 := Lib.hid r1
  have R2 := Lib.hid r2
  have R3 := Lib.hid r3
  have HK := Lib.hid hk
  clear g0 g1 g2 g3 r0 r1 r2 r3 hk T
  go_enter Tryz.func45, Tryz.ntmps45
  go_wp2_with fail
  go_region_held3 (fun w' => w'.cell? ⟨tb, 0, none⟩ = some (.map (some m0)) ∧ w'.cell? ⟨tb, 1, none⟩ = some (.map (some m1)) ∧ w'.cell? ⟨tb, 2, none⟩ = some (.map (some m2)) ∧ w'.cell? ⟨tb, 3, none⟩ = some (.map (some m3)) ∧ Below w.heap.size w w')
    (first
      | exact cS (bl_drew (Below.refl _ _)) HK.out
      | exact cS (bl_then (cB (by assumption)) bA) HK.out
      | exact cS (bl_then (cB (by assumption)) bB) HK.out
      | exact cS (bl_then (cB (by assumption)) bC) HK.out
      | exact cS (bl_then (cB (by assumption)) bD) HK.out
      | exact cS (bl_alloc (cB (by assumption)) _) HK.out)
    (first
      | (go_at_call 66; refine (mapsClone66 _ m0 N f0 (G0.out.call (cB (by assumption)))).mono ?_; rintro r wA ⟨rfl, hA, bA⟩; (try have dBA := hB.lt); (try have hB := hB.call bA); (try have dCA := hC.lt); (try have hC := hC.call bA); (try have dDA := hD.lt); (try have hD := hD.call bA))
      | (go_at_call 67; refine (mapsClone67 _ m1 N f1 (G1.out.call (cB (by assumption)))).mono ?_; rintro r wB ⟨rfl, hB, bB⟩; (try have dAB := hA.lt); (try have hA := hA.call bB); (try have dCB := hC.lt); (try have hC := hC.call bB); (try have dDB := hD.lt); (try have hD := hD.call bB))
      | (go_at_call 68; refine (mapsClone68 _ m2 N f2 (G2.out.call (cB (by assumption)))).mono ?_; rintro r wC ⟨rfl, hC, bC⟩; (try have dAC := hA.lt); (try have hA := hA.call bC); (try have dBC := hB.lt); (try have hB := hB.call bC); (try have dDC := hD.lt); (try have hD := hD.call bC))
      | (go_at_call 69; refine (mapsClone69 _ m3 N f3 (G3.out.call (cB (by assumption)))).mono ?_; rintro r wD ⟨rfl, hD, bD⟩; (try have dAD := hA.lt); (try have hA := hA.call bD); (try have dBD := hB.lt); (try have hB := hB.call bD); (try have dCD := hC.lt); (try have hC := hC.call bD))
      | fail "no arm")
  all_goals
    have hbl := cB (by assumption)
    go_wp2_with fail
    go_ret
    refine ⟨_, _, _, _, _, rfl, ⟨?_, ?_, ?_, ?_⟩, ⟨Blk.new _ _ _, ⟨f0, hA.alloc _, R0.out.call hbl⟩, ⟨f1, hB.alloc _, R1.out.call hbl⟩, ⟨f2, hC.alloc _, R2.out.call hbl⟩, ⟨f3, hD.alloc _, R3.out.call hbl⟩, ?_, ?_, ?_, ?_, ?_, ?_⟩, hbl⟩
    all_goals first | exact (cB (by assumption)).size | (have hdr : w.drew.heap.size = w.heap.size := rfl; omega)
end Go.Proofs.YtongoicadcmfaaaGreatDoor.V
