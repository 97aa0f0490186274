import Derived.Test.YtongoicadcmfaaaGreatDoorV0
namespace Go.Proofs.YtongoicadcmfaaaGreatDoor.V
open Go.RowKit
def fn (k : Nat) : Value := .func (.func k) #[] #[]
def int64 (n : Int) : Value := .int .i64 n
theorem ei214 : EI Tryz.prog 205 214 1 8 .nilFunc := ⟨Tryz.underlying205, by kernel_rfl, rfl, by omega⟩

/-- What a kind's spans hold: how many characters of which class. -/
def spanCells (sp : List (Nat × Nat)) : List Value := sp.flatMap fun p => [int64 p.1, fn p.2]
def spanFns (sp : List (Nat × Nat)) : List Value := sp.flatMap fun p => List.replicate p.1 (fn p.2)

theorem spanFns_snoc (sp : List (Nat × Nat)) (i : Nat) (h : i < sp.length) : spanFns (sp.take (i + 1)) = spanFns (sp.take i) ++ List.replicate sp[i].1 (fn sp[i].2) := by
  rw [List.take_succ_eq_append_getElem h]
  unfold spanFns
  rw [List.flatMap_append]
  simp
theorem spanFns_take (sp : List (Nat × Nat)) (i : Nat) (h : i < sp.length) : (spanFns (sp.take i)).length + sp[i].1 ≤ (spanFns sp).length := by
  have h1 := congrArg List.length (spanFns_snoc sp i h)
  rw [List.length_append, List.length_replicate] at h1
  have h2 : (spanFns (sp.take (i + 1) ++ sp.drop (i + 1))).length = (spanFns sp).length := by rw [List.take_append_drop]
  unfold spanFns at *
  rw [List.flatMap_append, List.length_append] at h2
  omega
theorem spanCells_get (sp : List (Nat × Nat)) (i : Nat) (h : i < sp.length) : (spanCells sp)[i * 2]? = some (int64 sp[i].1) ∧ (spanCells sp)[i * 2 + 1]? = some (fn sp[i].2) := by
  induction sp generalizing i with
  | nil => simp at h
  | cons p r ih =>
    cases i with
    | zero => simp [spanCells]
    | succ i =>
      have := ih i (by simpa using h)
      simp only [spanCells, List.flatMap_cons] at *
      rw [show (i + 1) * 2 = i * 2 + 2 by omega]
      simpa using this

set_option maxHeartbeats 1000000 in
theorem classes117 (g : Nat) (sp : List (Nat × Nat)) (a b : Int) (c : Value) (w : World) (hg : Blk w g 216 (spanCells sp).toArray) (hs : (spanFns sp).length ≤ 100) (hsp : sp.length ≤ 10) :
    Calls Tryz.prog 117 #[.agg #[.int .i64 a, .slice (some ⟨g, 0, none⟩) sp.length sp.length, .int .i64 b, c]] w fun e w' => (∃ v, e = .returned v ∧ w'.ownsRow w.heap.size 214 1 v (spanFns sp).length (spanFns sp)) ∧ Below w.heap.size w w' := by
  go_enter Tryz.func117, Tryz.ntmps117
  go_wp2_with fail
  have hglt := hg.lt
  go_loopw [3, 9] (fun v3 v9 wr => ∃ (i : Nat), i ≤ sp.length ∧ v9 = .int .i64 i ∧ wr.ownsRow (w.heap.size + 1) 214 1 v3 (spanFns (sp.take i)).length (spanFns (sp.take i)) ∧ Blk wr w.heap.size 201 #[.int .i64 a, .slice (some ⟨g, 0, none⟩) sp.length sp.length, .int .i64 b, c] ∧ Below w.heap.size w wr ∧ w.heap.size + 1 ≤ wr.heap.size) (fun _ v9 _ => sp.length - (intOf v9).toNat)
  case atStart =>
    exact ⟨0, Nat.zero_le _, rfl, by simp [spanFns]; exact World.ownsRow_nil _ _ _ _, Blk.new _ _ _, bl_alloc (Below.refl _ _) _, by simp⟩
  case round =>
    obtain ⟨i, hi, rfl, hown, hbox, hbl, hsz⟩ := hrel
    by_cases hlt : i < sp.length
    · obtain ⟨z1, z2⟩ := spanCells_get sp i hlt
      have hgw := hg.below hbl hglt
      have y1 := (hgw.cell (i * 2)).trans ((List.getElem?_toArray ..).trans z1)
      have y2 := (hgw.cell (i * 2 + 1)).trans ((List.getElem?_toArray ..).trans z2)
      have hsn := Lib.hid (spanFns_snoc sp i hlt)
      have hle := spanFns_take sp i hlt
      clear z1 z2
      generalize sp[i] = p at *
      obtain ⟨n, f⟩ := p
      simp only at y1 y2 hsn hle
      unfold int64 at y1
      unfold fn at y2
      generalize hdone : spanFns (sp.take i) = done at *
      go_wp2_with fail
      go_loopw [3, 15] (fun v3 v15 wi => ∃ (j : Nat), j ≤ n ∧ v15 = .int .i64 j ∧ wi.ownsRow (w.heap.size + 1) 214 1 v3 (done.length + j) (done ++ List.replicate j (fn f)) ∧ Blk wi wr.heap.size 216 #[.int .i64 n, .func (.func f) #[] #[]] ∧ Blk wi w.heap.size 201 #[.int .i64 a, .slice (some ⟨g, 0, none⟩) sp.length sp.length, .int .i64 b, c] ∧ Below w.heap.size w wi ∧ w.heap.size + 1 ≤ wi.heap.size) (fun _ v15 _ => n - (intOf v15).toNat)
      case atStart =>
        exact ⟨0, Nat.zero_le _, rfl, by simpa using hown.alloc _, Blk.new _ _ _, hbox.alloc _, bl_alloc hbl _, by simp; omega⟩
      case round =>
        obtain ⟨j, hj, rfl, hown2, hspan, hbox2, hbl2, hsz2⟩ := hrel
        by_cases hltj : j < n
        · obtain ⟨q0, q1⟩ := Blk.get2 hspan
          go_wp2_with (at_builtin; refine ap ei214 rfl _ _ rfl (w.heap.size + 1) _ _ _ rfl hown2 1 1 [.func (.func f) #[] #[]] rfl rfl (by simp [Value.oneCell']) (by simp only [maxLen]; omega) (by omega) hsz2 ?_; intro v' w' ho' hg' hat')
          refine ⟨⟨j + 1, by omega, by go_num, ?_, hspan.grown hg' (own_blk_ne hown2 hspan (by decide)), hbox2.grown hg' (own_blk_ne hown2 hbox2 (by decide)), bl_grown hbl2 hg' hown2 (by omega) (by omega), by have := hg'.size; omega⟩, by simp [intOf]; omega⟩
          rw [List.replicate_succ', ← List.append_assoc]
          exact ho'
        · obtain rfl : n = j := by omega
          go_wp2
          refine ⟨⟨i + 1, by omega, by go_num, ?_, hbox2, hbl2, hsz2⟩, by simp [intOf]; omega⟩
          rw [hsn.out, List.length_append, List.length_replicate]
          exact hown2
    · obtain rfl : sp.length = i := by omega
      rw [List.take_length] at hown
      go_wp2
      go_ret
      exact ⟨⟨_, rfl, own_lower hown (by omega)⟩, hbl⟩
end Go.Proofs.YtongoicadcmfaaaGreatDoor.V
