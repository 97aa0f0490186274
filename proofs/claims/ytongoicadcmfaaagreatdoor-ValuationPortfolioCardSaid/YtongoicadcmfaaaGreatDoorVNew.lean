/- refdata.New, maps.Clone at the four maps, refdata.(*Table).Clone. -/
import Derived.Test.YtongoicadcmfaaaGreatDoorVTaken
import Derived.Shelf.SlMaps.Clone
import Derived.Deep.RegionHeld3
set_option linter.unusedSimpArgs false
set_option linter.unusedVariables false
namespace Go.Proofs.YtongoicadcmfaaaGreatDoor.V
open Go.RowKit Go.MapKept

theorem Map1.new {w : World} {m : Nat} (h : MapB w m (fun _ => none) 0) (k : Int) (sz : Nat) (row : E → List Value) : Map1 w m 0 k [] sz row :=
  ⟨_, h, fun key => .inl ⟨rfl, rfl⟩⟩
theorem Inv.nil : Inv [] := ⟨fun _ _ => List.Pairwise.nil, by simp⟩

set_option maxHeartbeats 1000000 in
theorem new46 (w : World) : Calls Tryz.prog 46 #[] w fun r w' => ∃ tb m0 m1 m2 m3, r = .returned (.pointer (some ⟨tb, 0, none⟩)) ∧ w.heap.size ≤ m0 ∧ w.heap.size ≤ m1 ∧ w.heap.size ≤ m2 ∧ w.heap.size ≤ m3 ∧ Tab w' tb m0 m1 m2 m3 0 [] ∧ Below w.heap.size w w' := by
  have e0 : ∀ (w : World) t k e, Tryz.prog.underlying t = some (.map k e) → (Instr.makeMap t none).run Tryz.prog w = .ok (.map (some w.heap.size)) (w.alloc (.map #[] 0)) := fun w t k e h => by
    simp [Instr.makeMap, run_underlying h, go_sem, Result.andThen]
  have e1 := fun w => e0 w 118 _ _ Tryz.underlying118
  have e2 := fun w => e0 w 120 _ _ Tryz.underlying120
  have e3 := fun w => e0 w 122 _ _ Tryz.underlying122
  have e4 := fun w => e0 w 124 _ _ Tryz.underlying124
  clear e0
  go_enter Tryz.func46, Tryz.ntmps46
  go_wp2_with fail
  go_ret
  have b0 := bl1 w (.map #[] 0)
  have h0 := MapB.new w
  have h1 : MapB ((w.alloc (.map #[] 0)).alloc (.map #[] 0)) (w.heap.size + 1) (fun _ => none) 0 := by simpa using MapB.new (w.alloc (.map #[] 0))
  have h2 : MapB (((w.alloc (.map #[] 0)).alloc (.map #[] 0)).alloc (.map #[] 0)) (w.heap.size + 2) (fun _ => none) 0 := by simpa using MapB.new ((w.alloc (.map #[] 0)).alloc (.map #[] 0))
  have h3 : MapB ((((w.alloc (.map #[] 0)).alloc (.map #[] 0)).alloc (.map #[] 0)).alloc (.map #[] 0)) (w.heap.size + 3) (fun _ => none) 0 := by simpa using MapB.new (((w.alloc (.map #[] 0)).alloc (.map #[] 0)).alloc (.map #[] 0))
  have hb : Blk (((((w.alloc (.map #[] 0)).alloc (.map #[] 0)).alloc (.map #[] 0)).alloc (.map #[] 0)).alloc (.cells #[.map (some w.heap.size), .map (some (w.heap.size + 1)), .map (some (w.heap.size + 2)), .map (some (w.heap.size + 3))] 126)) (w.heap.size + 4) 126 #[.map (some w.heap.size), .map (some (w.heap.size + 1)), .map (some (w.heap.size + 2)), .map (some (w.heap.size + 3))] := by
    simpa using Blk.new ((((w.alloc (.map #[] 0)).alloc (.map #[] 0)).alloc (.map #[] 0)).alloc (.map #[] 0)) 126 #[.map (some w.heap.size), .map (some (w.heap.size + 1)), .map (some (w.heap.size + 2)), .map (some (w.heap.size + 3))]
  refine ⟨w.heap.size + 4, w.heap.size, w.heap.size + 1, w.heap.size + 2, w.heap.size + 3, rfl, by omega, by omega, by omega, by omega, ⟨hb, .new ?_ _ _ _, .new ?_ _ _ _, .new ?_ _ _ _, .new ?_ _ _ _, by omega, by omega, by omega, by omega, by omega, by omega⟩, ?_⟩
  · exact (((h0.alloc _).alloc _).alloc _).alloc _
  · exact ((h1.alloc _).alloc _).alloc _
  · exact (h2.alloc _).alloc _
  · exact h3.alloc _
  · exact bl_alloc (bl_alloc (bl_alloc (bl_alloc b0 _) _) _) _

/-- What maps.clone makes. -/
theorem MapB.cloned {w : World} {m N : Nat} {f : ByteArray → Option Value} (h : MapB w m f N) : ∃ es clock, w.heap[m]? = some (.map es clock) ∧ MapB (w.alloc (.map es clock)) w.heap.size f N := by
  obtain ⟨es, clock, hb, h1, h2, h3, h4⟩ := h
  exact ⟨es, clock, hb, es, clock, (MapKept.heap_alloc w _).1, h1, h2, h3, h4⟩

set_option maxRecDepth 20000 in
set_option maxHeartbeats 2000000 in
theorem mapsClone66 (w : World) (m N : Nat) (f : ByteArray → Option Value) (h : MapB w m f N) :
    Calls Tryz.prog 66 #[.map (some m)] w fun r w' => r = .returned (.map (some w.heap.size)) ∧ MapB w' w.heap.size f N ∧ Below w.heap.size w w' := by
  obtain ⟨es, clock, hb, hm⟩ := h.cloned
  have hq := fun w => run_eql_map_nil_sl (P := Tryz.prog) w 118 _ _ (some m) Tryz.underlying118
  go_enter Tryz.func66, Tryz.ntmps66
  go_wp2
  rw [run_callFunc_extern Tryz.func94 (by kernel_rfl) (by kernel_rfl) (by kernel_rfl) (e := Extern.MapsClone.clone) (by kernel_rfl), run_maps_clone_sl w 118 hb]
  simp only [Result.andThen]
  rw [Oper.upon_value]
  go_wp2
  rw [run_typeAssert_map_sl _ 118 _ _ _ _ Tryz.underlying118]
  simp only [Result.andThen]
  rw [Oper.upon_value]
  go_wp2
  go_ret
  exact ⟨rfl, hm, bl1 w _⟩

set_option maxRecDepth 20000 in
set_option maxHeartbeats 2000000 in
theorem mapsClone67 (w : World) (m N : Nat) (f : ByteArray → Option Value) (h : MapB w m f N) :
    Calls Tryz.prog 67 #[.map (some m)] w fun r w' => r = .returned (.map (some w.heap.size)) ∧ MapB w' w.heap.size f N ∧ Below w.heap.size w w' := by
  obtain ⟨es, clock, hb, hm⟩ := h.cloned
  have hq := fun w => run_eql_map_nil_sl (P := Tryz.prog) w 120 _ _ (some m) Tryz.underlying120
  go_enter Tryz.func67, Tryz.ntmps67
  go_wp2
  rw [run_callFunc_extern Tryz.func94 (by kernel_rfl) (by kernel_rfl) (by kernel_rfl) (e := Extern.MapsClone.clone) (by kernel_rfl), run_maps_clone_sl w 120 hb]
  simp only [Result.andThen]
  rw [Oper.upon_value]
  go_wp2
  rw [run_typeAssert_map_sl _ 120 _ _ _ _ Tryz.underlying120]
  simp only [Result.andThen]
  rw [Oper.upon_value]
  go_wp2
  go_ret
  exact ⟨rfl, hm, bl1 w _⟩

set_option maxRecDepth 20000 in
set_option maxHeartbeats 2000000 in
theorem mapsClone68 (w : World) (m N : Nat) (f : ByteArray → Option Value) (h : MapB w m f N) :
    Calls Tryz.prog 68 #[.map (some m)] w fun r w' => r = .returned (.map (some w.heap.size)) ∧ MapB w' w.heap.size f N ∧ Below w.heap.size w w' := by
  obtain ⟨es, clock, hb, hm⟩ := h.cloned
  have hq := fun w => run_eql_map_nil_sl (P := Tryz.prog) w 122 _ _ (some m) Tryz.underlying122
  go_enter Tryz.func68, Tryz.ntmps68
  go_wp2
  rw [run_callFunc_extern Tryz.func94 (by kernel_rfl) (by kernel_rfl) (by kernel_rfl) (e := Extern.MapsClone.clone) (by kernel_rfl), run_maps_clone_sl w 122 hb]
  simp only [Result.andThen]
  rw [Oper.upon_value]
  go_wp2
  rw [run_typeAssert_map_sl _ 122 _ _ _ _ Tryz.underlying122]
  simp only [Result.andThen]
  rw [Oper.upon_value]
  go_wp2
  go_ret
  exact ⟨rfl, hm, bl1 w _⟩

set_option maxRecDepth 20000 in
set_option maxHeartbeats 2000000 in
theorem mapsClone69 (w : World) (m N : Nat) (f : ByteArray → Option Value) (h : MapB w m f N) :
    Calls Tryz.prog 69 #[.map (some m)] w fun r w' => r = .returned (.map (some w.heap.size)) ∧ MapB w' w.heap.size f N ∧ Below w.heap.size w w' := by
  obtain ⟨es, clock, hb, hm⟩ := h.cloned
  have hq := fun w => run_eql_map_nil_sl (P := Tryz.prog) w 124 _ _ (some m) Tryz.underlying124
  go_enter Tryz.func69, Tryz.ntmps69
  go_wp2
  rw [run_callFunc_extern Tryz.func94 (by kernel_rfl) (by kernel_rfl) (by kernel_rfl) (e := Extern.MapsClone.clone) (by kernel_rfl), run_maps_clone_sl w 124 hb]
  simp only [Result.andThen]
  rw [Oper.upon_value]
  go_wp2
  rw [run_typeAssert_map_sl _ 124 _ _ _ _ Tryz.underlying124]
  simp only [Result.andThen]
  rw [Oper.upon_value]
  go_wp2
  go_ret
  exact ⟨rfl, hm, bl1 w _⟩


theorem cB {tb : Nat} {w w' : World} {m0 m1 m2 m3 : Nat} (h : w'.cell? ⟨tb, 0, none⟩ = some (.map (some m0)) ∧ w'.cell? ⟨tb, 1, none⟩ = some (.map (some m1)) ∧ w'.cell? ⟨tb, 2, none⟩ = some (.map (some m2)) ∧ w'.cell? ⟨tb, 3, none⟩ = some (.map (some m3)) ∧ Below w.heap.size w w') : Below w.heap.size w w' := h.2.2.2.2
theorem cS {tb : Nat} {w w' : World} {m0 m1 m2 m3 : Nat} (hb : Below w.heap.size w w') (h : Blk w tb 126 #[.map (some m0), .map (some m1), .map (some m2), .map (some m3)]) : w'.cell? ⟨tb, 0, none⟩ = some (.map (some m0)) ∧ w'.cell? ⟨tb, 1, none⟩ = some (.map (some m1)) ∧ w'.cell? ⟨tb, 2, none⟩ = some (.map (some m2)) ∧ w'.cell? ⟨tb, 3, none⟩ = some (.map (some m3)) ∧ Below w.heap.size w w' :=
  ⟨(h.call hb).cell 0, (h.call hb).cell 1, (h.call hb).cell 2, (h.call hb).cell 3, hb⟩

set_option maxRecDepth 20000 in
set_option maxHeartbeats 16000000 in
theorem clone45 (tb m0 m1 m2 m3 N : Nat) (l : List E) (w : World) (T : Tab w tb m0 m1 m2 m3 N l) :
    Calls Tryz.prog 45 #[.pointer (some ⟨tb, 0, none⟩)] w fun r w' => ∃ tb' n0 n1 n2 n3, r = .returned (.pointer (some ⟨tb', 0, none⟩)) ∧ Tab w' tb' n0 n1 n2 n3 N l ∧ Below w.heap.size w w' := by
  obtain ⟨f0, g0, r0⟩ := T.mem
  obtain ⟨f1, g1, r1⟩ := T.sec
  obtain ⟨f2, g2, r2⟩ := T.pri
  obtain ⟨f3, g3, r3⟩ := T.hair
  have hk := T.blk
  have G0 := Lib.hid g0
  have G1 := Lib.hid g1
  have G2 := Lib.hid g2
  have G3 := Lib.hid g3
  have R0 := Lib.hid r0
  have R1 := Lib.hid r1
  have R2 := Lib.hid r2
  have R3 := Lib.hid r3
  have HK := Lib.hid hk
  clear g0 g1 g2 g3 r0 r1 r2 r3 hk T
  go_enter Tryz.func45, Tryz.ntmps45
  go_wp2_with fail
  go_region_held3 (fun w' => w'.cell? ⟨tb, 0, none⟩ = some (.map (some m0)) ∧ w'.cell? ⟨tb, 1, none⟩ = some (.map (some m1)) ∧ w'.cell? ⟨tb, 2, none⟩ = some (.map (some m2)) ∧ w'.cell? ⟨tb, 3, none⟩ = some (.map (some m3)) ∧ Below w.heap.size w w')
    (first
      | exact cS (bl_drew (Below.refl _ _)) HK.out
      | exact cS (bl_then (cB (by assumption)) bA) HK.out
      | exact cS (bl_then (cB (by assumption)) bB) HK.out
      | exact cS (bl_then (cB (by assumption)) bC) HK.out
      | exact cS (bl_then (cB (by assumption)) bD) HK.out
      | exact cS (bl_alloc (cB (by assumption)) _) HK.out)
    (first
      | (go_at_call 66; refine (mapsClone66 _ m0 N f0 (G0.out.call (cB (by assumption)))).mono ?_; rintro r wA ⟨rfl, hA, bA⟩; (try have dBA := hB.lt); (try have hB := hB.call bA); (try have dCA := hC.lt); (try have hC := hC.call bA); (try have dDA := hD.lt); (try have hD := hD.call bA))
      | (go_at_call 67; refine (mapsClone67 _ m1 N f1 (G1.out.call (cB (by assumption)))).mono ?_; rintro r wB ⟨rfl, hB, bB⟩; (try have dAB := hA.lt); (try have hA := hA.call bB); (try have dCB := hC.lt); (try have hC := hC.call bB); (try have dDB := hD.lt); (try have hD := hD.call bB))
      | (go_at_call 68; refine (mapsClone68 _ m2 N f2 (G2.out.call (cB (by assumption)))).mono ?_; rintro r wC ⟨rfl, hC, bC⟩; (try have dAC := hA.lt); (try have hA := hA.call bC); (try have dBC := hB.lt); (try have hB := hB.call bC); (try have dDC := hD.lt); (try have hD := hD.call bC))
      | (go_at_call 69; refine (mapsClone69 _ m3 N f3 (G3.out.call (cB (by assumption)))).mono ?_; rintro r wD ⟨rfl, hD, bD⟩; (try have dAD := hA.lt); (try have hA := hA.call bD); (try have dBD := hB.lt); (try have hB := hB.call bD); (try have dCD := hC.lt); (try have hC := hC.call bD))
      | fail "no arm")
  all_goals
    have hbl := cB (by assumption)
    go_wp2_with fail
    go_ret
    refine ⟨_, _, _, _, _, rfl, ⟨Blk.new _ _ _, ⟨f0, hA.alloc _, R0.out.call hbl⟩, ⟨f1, hB.alloc _, R1.out.call hbl⟩, ⟨f2, hC.alloc _, R2.out.call hbl⟩, ⟨f3, hD.alloc _, R3.out.call hbl⟩, ?_, ?_, ?_, ?_, ?_, ?_⟩, hbl⟩
    all_goals (have hdr : w.drew.heap.size = w.heap.size := rfl; omega)
end Go.Proofs.YtongoicadcmfaaaGreatDoor.V
