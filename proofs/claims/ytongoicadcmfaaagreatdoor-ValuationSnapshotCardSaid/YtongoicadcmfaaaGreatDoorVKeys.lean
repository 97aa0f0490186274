/- giroref21.keys: as far as the number of the keys. (Printed by gen_keys.py.) -/
import Derived.Test.YtongoicadcmfaaaGreatDoorVOwn
import Derived.Test.YtongoicadcmfaaaGreatDoorVLast
import Derived.Deep.RegionHeld3
set_option linter.unusedSimpArgs false
set_option linter.unusedVariables false
namespace Go.Proofs.YtongoicadcmfaaaGreatDoor.V
open Go.RowKit

theorem StrS.new (w : World) (s : ByteArray) : StrS (w.alloc (.cells #[.string s] 9)) (.slice (some ⟨w.heap.size, 0, none⟩) 1 1) 1 :=
  .inr ⟨_, 1, rfl, fun j hj => ⟨s, cells_new w [.string s] 9 j _ (by
    have e : j = 0 := by omega
    rw [e]
    rfl)⟩⟩
theorem StrS.blk {w w' : World} {g c m : Nat} (h : StrS w (.slice (some ⟨g, 0, none⟩) m c) m) (hb : w'.heap[g]? = w.heap[g]?) : StrS w' (.slice (some ⟨g, 0, none⟩) m c) m :=
  h.keep fun ad l c' e p hp => by
    injection e with e
    injection e with e
    subst e
    exact World.cell?_of_block (by rw [hp]; exact hb)
theorem StrS.part {w : World} {b g n cap : Nat} (h : Own w b (.slice (some ⟨g, 0, none⟩) n cap) n) (a c k m : Nat) (hk : k ≤ n) (hm : a + m ≤ n) : StrS w (.slice (some ⟨g, a, none⟩) m c) m := by
  rcases h.form with ⟨h1, _⟩ | ⟨g', cap', h1, _, _, _, _, h2⟩
  · cases h1
  · injection h1 with h1 h3 h4
    injection h1 with h1
    injection h1 with h1
    subst h1
    refine .inr ⟨_, c, rfl, fun j hj => ?_⟩
    obtain ⟨s, hs⟩ := h2 (a + j) (by omega)
    refine ⟨s, ?_⟩
    have e : (⟨g, a, none⟩ : Addr).add j = ⟨g, a + j, none⟩ := by unfold Addr.add; split <;> simp_all
    rw [e]; exact hs
theorem kA {w w' : World} {p : Addr} {key : ByteArray} {v : Value} {n : Nat} (h : w'.cell? p = some (.string key) ∧ Below w.heap.size w w' ∧ Own w' w.heap.size v n) (o : Obj) :
    (w'.alloc o).cell? p = some (.string key) ∧ Below w.heap.size w (w'.alloc o) ∧ Own (w'.alloc o) w.heap.size v n :=
  ⟨((bl_alloc (Below.refl _ w') o).cell (World.block_lt_of_cell? w' p h.1)).trans h.1, bl_alloc h.2.1 o, h.2.2.alloc o⟩
theorem kG {w w' w'' : World} {p : Addr} {key : ByteArray} {v u : Value} {n m B : Nat} (hg : w'.grownBy w'' u.ownBlock) (hu : Own w' B u m) (h : w'.cell? p = some (.string key) ∧ Below w.heap.size w w' ∧ Own w' w.heap.size v n) (hB : w.heap.size ≤ B) (hp : p.block < w.heap.size) (hv : ∀ k, v.ownBlock = some k → k < B) :
    w''.cell? p = some (.string key) ∧ Below w.heap.size w w'' ∧ Own w'' w.heap.size v n :=
  ⟨hg.cell h.1 (fun e => by have := (hu.lt _ e.symm).1; omega), h.2.1.grown hg h.2.1.size (fun k hk => Nat.le_trans hB (hu.lt k hk).1), h.2.2.grown hg (fun k hk e => by have := (hu.lt k e.symm).1; have := hv k hk; omega)⟩
theorem kOwn {w w' : World} {p : Addr} {key : ByteArray} {b n : Nat} {v : Value} (h : w'.cell? p = some (.string key) ∧ Below w.heap.size w w' ∧ Own w' b v n) : Own w' b v n := h.2.2
theorem Own.lower {w : World} {b b' : Nat} {v : Value} {n : Nat} (h : Own w b v n) (hb : b' ≤ b) : Own w b' v n := by
  obtain ⟨xs, h1, h2⟩ := h
  exact ⟨xs, own_lower h1 hb, h2⟩
theorem Own.to {w : World} {b : Nat} {v : Value} {n : Nat} (h : Own w b v n) {m : Nat} (e : n = m) : Own w b v m := e ▸ h
theorem blk_of_grown {w w' : World} {row : Option Nat} (hg : w.grownBy w' row) (k : Nat) (hk : k < w.heap.size) (hne : some k ≠ row) : w'.heap[k]? = w.heap[k]? := hg.block k hk hne

set_option maxRecDepth 20000 in
set_option maxHeartbeats 16000000 in
theorem keys97 (A : Option Addr) (l : List E) (c : Nat) (k : Int) (w : World) (h : SlE w A l) (hl : l.length ≤ c) (hc : c ≤ 9223372036854775807) (hn : l.length ≤ 30) :
    Calls Tryz.prog 97 #[.slice A l.length c, .int .i64 k] w fun r w' => (∃ A' n c', r = .returned (.slice A' n c') ∧ n ≤ 30) ∧ Below w.heap.size w w' := by
  have hT := Tryz.underlying183
  have hI : (Tryz.prog.info? 9).map (fun i => (i.zero, i.size, i.bytes)) = some (some (.string ⟨#[]⟩), 1, 16) := by kernel_rfl
  have HI := Lib.hid hI
  clear hI
  go_enter Tryz.func97, Tryz.ntmps97
  go_wp2_with fail
  go_loopw [5, 6] (fun v5 v6 wr => ∃ i n : Nat, i ≤ l.length ∧ n ≤ i ∧ v6 = .int .i64 i ∧ Own wr w.heap.size v5 n ∧ Below w.heap.size w wr) (fun _ v6 _ => l.length - (intOf v6).toNat)
  case atStart => exact ⟨0, 0, Nat.zero_le _, Nat.le_refl _, rfl, Own.nil _ _, Below.refl _ _⟩
  case round =>
    obtain ⟨i, n, hi, hni, rfl, hown, hbl⟩ := hrel
    have hform := hown.form
    by_cases hlt : i < l.length
    · have HSL := Lib.hid (h.call hbl)
      obtain ⟨ad, rfl, hadb, c0, c1, c2, c3, c4, c5, c6, c7⟩ := (h.call hbl).get hlt
      have hpb : (ad.add (i * 8)).block < w.heap.size := by
        obtain ⟨ad', e, hb', _⟩ := h.get hlt
        injection e with e
        subst e
        rw [block_of_add]; exact hb'
      have hla := fun (W : World) (H : SlE W (some ad) l) => last96 (some ad) (l.take i) c k l[i].key W (by
        have H' := Sl.take H i
        rwa [← List.map_take] at H') (by rw [List.length_take]; omega) hc
      rw [List.length_take, Nat.min_eq_left (by omega)] at hla
      have HLA := Lib.hid hla
      clear hla
      generalize l[i] = e at *
      generalize lastN k e.key (l.take i) = ln at *
      have hic : (0 : Int) ≤ i := by omega
      have hic2 : i ≤ c := by omega
      cases t1 : (e.kind == k)
      · have t2 : (e.kind != k) = true := by simp [bne, t1]
        rcases hform with ⟨rfl, rfl⟩ | ⟨g, cap, rfl, hf1, hf2, hf3, hf4, hf5⟩
        all_goals
          go_wp2_with fail
          go_quiet (fail)
          go_wp2_with fail
          exact ⟨⟨i + 1, _, by omega, by omega, by go_num, hown.drewN _, bl_drewN hbl _⟩, by simp [intOf]; omega⟩
      · have t2 : (e.kind != k) = false := by simp [bne, t1]
        by_cases hln : ln = 0
        · have t3 : decide ((0 : Int) ≤ (ln : Int) - 1) = false := decide_eq_false (by omega)
          rcases hform with ⟨rfl, rfl⟩ | ⟨g, cap, rfl, hf1, hf2, hf3, hf4, hf5⟩
          · go_wp2_with fail
            go_quiet ((go_at_call 96; exact quiet_left (HLA.out _ (Sl.drewN HSL.out _))))
            go_wp2_with fail
            have k2 : (wr.drewN nq).cell? ⟨(ad.add (i * 8)).block, (ad.add (i * 8)).off + 2, none⟩ = some (.string e.key) := c2
            have hbi := bl_drewN hbl nq
            have hoi := hown.drewN nq
            clear c0 c1 c2 c3 c4 c5 c6 c7 hadb hbl hown HSL HLA 
            generalize wr.drewN nq = wi at *
            go_loopw [7] (fun v7 wk => v7 = .int .i64 (0 : Nat) ∧ wi = wk) (fun _ _ => 0)
            case atStart => exact ⟨rfl, rfl⟩
            case round =>
              obtain ⟨rfl, rfl⟩ := hrel
              go_wp2_with fail
              go_quiet (fail)
              go_wp2_with fail
              have hS := And.intro (show (wi.drewN nq).cell? ⟨(ad.add (i * 8)).block, (ad.add (i * 8)).off + 2, none⟩ = some (.string e.key) from k2) (And.intro (bl_drewN hbi nq) (hoi.drewN nq))
              have hBi : w.heap.size ≤ (wi.drewN nq).heap.size := hbi.size
              have HV : ∀ k, Value.ownBlock (.slice none 0 0) = some k → k < (wi.drewN nq).heap.size := (fun k hk => by cases hk)
              generalize wi.drewN nq = wj at *
              have made0 : Own (wj.drew.alloc (.cells #[] 9)) wj.heap.size (.slice (some ⟨wj.heap.size, 0, none⟩) 0 0) 0 := Own.made wj.drew _ (Nat.le_refl _)
              have made1 : ∀ o, Own ((wj.drew.alloc o).alloc (.cells #[] 9)) wj.heap.size (.slice (some ⟨wj.heap.size + 1, 0, none⟩) 0 0) 0 := fun o => by simpa using Own.made (wj.drew.alloc o) wj.heap.size (by simp)
              have new0 : StrS (wj.drew.alloc (.cells #[.string e.key] 9)) (.slice (some ⟨wj.heap.size, 0, none⟩) 1 1) 1 := StrS.new wj.drew e.key
              have new1 : ∀ o, StrS ((wj.drew.alloc o).alloc (.cells #[.string e.key] 9)) (.slice (some ⟨wj.heap.size + 1, 0, none⟩) 1 1) 1 := fun o => by simpa using StrS.new (wj.drew.alloc o) e.key
              have HS := Lib.hid hS
              have M0 := Lib.hid made0
              have M1 := Lib.hid made1
              have N0 := Lib.hid new0
              have N1 := Lib.hid new1
              clear hS made0 made1 new0 new1
              have HVh := Lib.hid HV
              clear HV
              go_region_held3 (fun w' => w'.cell? ⟨(ad.add (i * 8)).block, (ad.add (i * 8)).off + 2, none⟩ = some (.string e.key) ∧ Below w.heap.size w w' ∧ Own w' w.heap.size (.slice none 0 0) 0)
                (first
                  | exact ⟨HS.out.1, HS.out.2.1.drew, HS.out.2.2.drew⟩
                  | exact kA (by assumption) _
                  | exact kG (by assumption) hown4 (by assumption) hBi hpb HVh.out
                  | exact kG (by assumption) (hown4.alloc _) (by assumption) hBi hpb HVh.out
                  | exact kG (by assumption) hown5 (by assumption) hBi hpb HVh.out
                  | exact kG (by assumption) M0.out (by assumption) hBi hpb HVh.out
                  | exact kG (by assumption) (M0.out.alloc _) (by assumption) hBi hpb HVh.out
                  | exact kG (by assumption) (M1.out _) (by assumption) hBi hpb HVh.out)
                (first
                  | (refine step_app _ hT HI.out (by rfl) _ _ (by rfl) (b := wj.heap.size) (n := 0) (m := 0) (v := .slice (some ⟨wj.heap.size, 0, none⟩) 0 0) (x' := .slice none 0 0) (by rfl) (by rfl) M0.out (Or.inl ⟨rfl, rfl⟩) (by omega) (by first | (simp; done) | (simp; omega)) ?_; intro v4 w4 hown4 hg4 _; have hx4 := true)
                  | (refine step_app _ hT HI.out (by rfl) _ _ (by rfl) (b := wj.heap.size) (n := 0) (m := 0) (v := .slice (some ⟨wj.heap.size, 0, none⟩) 0 0) (x' := .slice none 0 0) (by rfl) (by rfl) (M0.out.alloc _) (Or.inl ⟨rfl, rfl⟩) (by omega) (by first | (simp; done) | (simp; omega)) ?_; intro v4 w4 hown4 hg4 _; have hx4 := (N1.out (.cells #[] 9)).blk (blk_of_grown hg4 (wj.heap.size + 1) (by first | (simp; done) | (simp; omega)) (by simp [Value.ownBlock])))
                  | (refine step_app _ hT HI.out (by rfl) _ _ (by rfl) (b := wj.heap.size) (n := 0) (m := 0) (v := .slice (some ⟨wj.heap.size + 1, 0, none⟩) 0 0) (x' := .slice none 0 0) (by rfl) (by rfl) (M1.out _) (Or.inl ⟨rfl, rfl⟩) (by omega) (by first | (simp; done) | (simp; omega)) ?_; intro v4 w4 hown4 hg4 _; have hx4 := N0.out.blk ((blk_of_grown hg4 wj.heap.size (by first | (simp; done) | (simp; omega)) (by simp [Value.ownBlock])).trans (Below.heap_alloc _ _ _ (by simp))))
                  | (refine step_app _ hT HI.out (by rfl) _ _ (by rfl) (b := wj.heap.size) (m := 1) (v := v4) (by rfl) (by rfl) hown4 hx4 (by omega) (by have := hg4.size; simp at this; omega) ?_; intro v5 w5 hown5 hg5 _)
                  | (refine step_app _ hT HI.out (by rfl) _ _ (by rfl) (b := wj.heap.size) (m := 1) (v := v4) (by rfl) (by rfl) (hown4.alloc _) (StrS.new w4 e.key) (by omega) (by have := hg4.size; simp at this ⊢; omega) ?_; intro v5 w5 hown5 hg5 _)
                  | (refine step_app _ hT HI.out (by rfl) _ _ (by rfl) (b := wj.heap.size) (m := 0) (v := v5) (x' := .slice none 0 0) (by rfl) (by rfl) hown5 (Or.inl ⟨rfl, rfl⟩) (by omega) (by have := hg4.size; have := hg5.size; simp at *; omega) ?_; intro v6 w6 hown6 hg6 _)
                  | fail "no arm")
              all_goals
                go_split_ands
                go_wp2_with fail
                exact ⟨⟨i + 1, 0 + 1, by omega, by omega, by go_num, (hown6.lower hBi).to (by omega), by assumption⟩, by simp [intOf]; omega⟩
          · go_wp2_with fail
            go_quiet ((go_at_call 96; exact quiet_left (HLA.out _ (Sl.drewN HSL.out _))))
            go_wp2_with fail
            have k2 : (wr.drewN nq).cell? ⟨(ad.add (i * 8)).block, (ad.add (i * 8)).off + 2, none⟩ = some (.string e.key) := c2
            have hbi := bl_drewN hbl nq
            have hoi := hown.drewN nq
            have hgi : g < (wr.drewN nq).heap.size := hf4
            have hfi : ∀ j, j < n → ∃ s : ByteArray, (wr.drewN nq).cell? ⟨g, j, none⟩ = some (.string s) := hf5
            clear c0 c1 c2 c3 c4 c5 c6 c7 hadb hbl hown HSL HLA hf4 hf5
            generalize wr.drewN nq = wi at *
            have HFI := Lib.hid hfi
            clear hfi
            go_loopw [7] (fun v7 wk => ∃ a : Nat, a ≤ n ∧ v7 = .int .i64 a ∧ ∃ q, wk = wi.drewN q) (fun v7 _ => n - (intOf v7).toNat)
            case atStart => exact ⟨0, Nat.zero_le _, rfl, 0, rfl⟩
            case round =>
              obtain ⟨a, han, rfl, q, rfl⟩ := hrel
              have k2' : (wi.drewN q).cell? ⟨(ad.add (i * 8)).block, (ad.add (i * 8)).off + 2, none⟩ = some (.string e.key) := k2
              have hbi' := bl_drewN hbi q
              have hoi' := hoi.drewN q
              have hgi' : g < (wi.drewN q).heap.size := hgi
              have hfi' : ∀ j, j < n → ∃ s : ByteArray, (wi.drewN q).cell? ⟨g, j, none⟩ = some (.string s) := HFI.out
              have hac : (0 : Int) ≤ a := by omega
              have hac2 : (a : Int) ≤ n := by omega
              have hac3 : a ≤ cap := by omega
              by_cases han2 : a < n
              · obtain ⟨s, hs⟩ := hfi' a han2
                clear hfi'
                have hca : ¬ (cap = a) := by omega
                cases hbs : Op.bytesLess s.toList e.key.toList
                · clear k2 hbi hoi hgi
                  generalize wi.drewN q = wz at *
                  go_wp2_with fail
                  go_quiet (fail)
                  go_wp2_with fail
                  have hS := And.intro (show (wz.drewN nq).cell? ⟨(ad.add (i * 8)).block, (ad.add (i * 8)).off + 2, none⟩ = some (.string e.key) from k2') (And.intro (bl_drewN hbi' nq) (hoi'.drewN nq))
                  have hBi : w.heap.size ≤ (wz.drewN nq).heap.size := hbi'.size
                  have HV : ∀ k, Value.ownBlock (.slice (some ⟨g, 0, none⟩) n cap) = some k → k < (wz.drewN nq).heap.size := fun k hk => (show g = k by simpa [Value.ownBlock] using hk) ▸ hgi'
                  generalize wz.drewN nq = wj at *
                  have made0 : Own (wj.drew.alloc (.cells #[] 9)) wj.heap.size (.slice (some ⟨wj.heap.size, 0, none⟩) 0 0) 0 := Own.made wj.drew _ (Nat.le_refl _)
                  have made1 : ∀ o, Own ((wj.drew.alloc o).alloc (.cells #[] 9)) wj.heap.size (.slice (some ⟨wj.heap.size + 1, 0, none⟩) 0 0) 0 := fun o => by simpa using Own.made (wj.drew.alloc o) wj.heap.size (by simp)
                  have new0 : StrS (wj.drew.alloc (.cells #[.string e.key] 9)) (.slice (some ⟨wj.heap.size, 0, none⟩) 1 1) 1 := StrS.new wj.drew e.key
                  have new1 : ∀ o, StrS ((wj.drew.alloc o).alloc (.cells #[.string e.key] 9)) (.slice (some ⟨wj.heap.size + 1, 0, none⟩) 1 1) 1 := fun o => by simpa using StrS.new (wj.drew.alloc o) e.key
                  have HS := Lib.hid hS
                  have M0 := Lib.hid made0
                  have M1 := Lib.hid made1
                  have N0 := Lib.hid new0
                  have N1 := Lib.hid new1
                  clear hS made0 made1 new0 new1
                  have HVh := Lib.hid HV
                  clear HV
                  go_region_held3 (fun w' => w'.cell? ⟨(ad.add (i * 8)).block, (ad.add (i * 8)).off + 2, none⟩ = some (.string e.key) ∧ Below w.heap.size w w' ∧ Own w' w.heap.size (.slice (some ⟨g, 0, none⟩) n cap) n)
                    (first
                      | exact ⟨HS.out.1, HS.out.2.1.drew, HS.out.2.2.drew⟩
                      | exact kA (by assumption) _
                      | exact kG (by assumption) hown4 (by assumption) hBi hpb HVh.out
                      | exact kG (by assumption) (hown4.alloc _) (by assumption) hBi hpb HVh.out
                      | exact kG (by assumption) hown5 (by assumption) hBi hpb HVh.out
                      | exact kG (by assumption) M0.out (by assumption) hBi hpb HVh.out
                      | exact kG (by assumption) (M0.out.alloc _) (by assumption) hBi hpb HVh.out
                      | exact kG (by assumption) (M1.out _) (by assumption) hBi hpb HVh.out)
                    (first
                      | (refine step_app _ hT HI.out (by rfl) _ _ (by rfl) (b := wj.heap.size) (n := 0) (m := a) (v := .slice (some ⟨wj.heap.size, 0, none⟩) 0 0) (x' := .slice (some ⟨g, 0, none⟩) a cap) (by rfl) (by rfl) M0.out (StrS.part (kOwn (by assumption)) 0 _ n _ (Nat.le_refl _) (by omega)) (by omega) (by first | (simp; done) | (simp; omega)) ?_; intro v4 w4 hown4 hg4 _; have hx4 := true)
                      | (refine step_app _ hT HI.out (by rfl) _ _ (by rfl) (b := wj.heap.size) (n := 0) (m := a) (v := .slice (some ⟨wj.heap.size, 0, none⟩) 0 0) (x' := .slice (some ⟨g, 0, none⟩) a cap) (by rfl) (by rfl) (M0.out.alloc _) (StrS.part (kOwn (by assumption)) 0 _ n _ (Nat.le_refl _) (by omega)) (by omega) (by first | (simp; done) | (simp; omega)) ?_; intro v4 w4 hown4 hg4 _; have hx4 := (N1.out (.cells #[] 9)).blk (blk_of_grown hg4 (wj.heap.size + 1) (by first | (simp; done) | (simp; omega)) (by simp [Value.ownBlock])))
                      | (refine step_app _ hT HI.out (by rfl) _ _ (by rfl) (b := wj.heap.size) (n := 0) (m := a) (v := .slice (some ⟨wj.heap.size + 1, 0, none⟩) 0 0) (x' := .slice (some ⟨g, 0, none⟩) a cap) (by rfl) (by rfl) (M1.out _) (StrS.part (kOwn (by assumption)) 0 _ n _ (Nat.le_refl _) (by omega)) (by omega) (by first | (simp; done) | (simp; omega)) ?_; intro v4 w4 hown4 hg4 _; have hx4 := N0.out.blk ((blk_of_grown hg4 wj.heap.size (by first | (simp; done) | (simp; omega)) (by simp [Value.ownBlock])).trans (Below.heap_alloc _ _ _ (by simp))))
                      | (refine step_app _ hT HI.out (by rfl) _ _ (by rfl) (b := wj.heap.size) (m := 1) (v := v4) (by rfl) (by rfl) hown4 hx4 (by omega) (by have := hg4.size; simp at this; omega) ?_; intro v5 w5 hown5 hg5 _)
                      | (refine step_app _ hT HI.out (by rfl) _ _ (by rfl) (b := wj.heap.size) (m := 1) (v := v4) (by rfl) (by rfl) (hown4.alloc _) (StrS.new w4 e.key) (by omega) (by have := hg4.size; simp at this ⊢; omega) ?_; intro v5 w5 hown5 hg5 _)
                      | (refine step_app _ hT HI.out (by rfl) _ _ (by rfl) (b := wj.heap.size) (m := n - a) (v := v5) (x' := .slice (some ⟨g, a, none⟩) (n - a) (cap - a)) (by rfl) (by rfl) hown5 (StrS.part (kOwn (by assumption)) _ _ n _ (Nat.le_refl _) (by omega)) (by omega) (by have := hg4.size; have := hg5.size; simp at *; omega) ?_; intro v6 w6 hown6 hg6 _)
                      | fail "no arm")
                  all_goals
                    go_split_ands
                    go_wp2_with fail
                    exact ⟨⟨i + 1, n + 1, by omega, by omega, by go_num, (hown6.lower hBi).to (by omega), by assumption⟩, by simp [intOf]; omega⟩
                · generalize hwz : wi.drewN q = wz at *
                  have HWZ := Lib.hid hwz
                  clear hwz k2 hbi hoi hgi HFI
                  go_wp2_with fail
                  go_quiet (fail)
                  go_wp2_with fail
                  exact ⟨⟨a + 1, by omega, by go_num, q + nq, by rw [← HWZ.out, World.drewN_drewN]⟩, by simp [intOf]; omega⟩
              · obtain rfl : a = n := by omega
                clear hfi' k2 hbi hoi hgi
                generalize wi.drewN q = wz at *
                by_cases hca : cap = a
                · subst hca
                  have hcc : (0 : Int) ≤ cap := hac
                  go_wp2_with fail
                  go_quiet (fail)
                  go_wp2_with fail
                  have hS := And.intro (show (wz.drewN nq).cell? ⟨(ad.add (i * 8)).block, (ad.add (i * 8)).off + 2, none⟩ = some (.string e.key) from k2') (And.intro (bl_drewN hbi' nq) (hoi'.drewN nq))
                  have hBi : w.heap.size ≤ (wz.drewN nq).heap.size := hbi'.size
                  have HV : ∀ k, Value.ownBlock (.slice (some ⟨g, 0, none⟩) cap cap) = some k → k < (wz.drewN nq).heap.size := fun k hk => (show g = k by simpa [Value.ownBlock] using hk) ▸ hgi'
                  generalize wz.drewN nq = wj at *
                  have made0 : Own (wj.drew.alloc (.cells #[] 9)) wj.heap.size (.slice (some ⟨wj.heap.size, 0, none⟩) 0 0) 0 := Own.made wj.drew _ (Nat.le_refl _)
                  have made1 : ∀ o, Own ((wj.drew.alloc o).alloc (.cells #[] 9)) wj.heap.size (.slice (some ⟨wj.heap.size + 1, 0, none⟩) 0 0) 0 := fun o => by simpa using Own.made (wj.drew.alloc o) wj.heap.size (by simp)
                  have new0 : StrS (wj.drew.alloc (.cells #[.string e.key] 9)) (.slice (some ⟨wj.heap.size, 0, none⟩) 1 1) 1 := StrS.new wj.drew e.key
                  have new1 : ∀ o, StrS ((wj.drew.alloc o).alloc (.cells #[.string e.key] 9)) (.slice (some ⟨wj.heap.size + 1, 0, none⟩) 1 1) 1 := fun o => by simpa using StrS.new (wj.drew.alloc o) e.key
                  have HS := Lib.hid hS
                  have M0 := Lib.hid made0
                  have M1 := Lib.hid made1
                  have N0 := Lib.hid new0
                  have N1 := Lib.hid new1
                  clear hS made0 made1 new0 new1
                  have HVh := Lib.hid HV
                  clear HV
                  go_region_held3 (fun w' => w'.cell? ⟨(ad.add (i * 8)).block, (ad.add (i * 8)).off + 2, none⟩ = some (.string e.key) ∧ Below w.heap.size w w' ∧ Own w' w.heap.size (.slice (some ⟨g, 0, none⟩) cap cap) cap)
                    (first
                      | exact ⟨HS.out.1, HS.out.2.1.drew, HS.out.2.2.drew⟩
                      | exact kA (by assumption) _
                      | exact kG (by assumption) hown4 (by assumption) hBi hpb HVh.out
                      | exact kG (by assumption) (hown4.alloc _) (by assumption) hBi hpb HVh.out
                      | exact kG (by assumption) hown5 (by assumption) hBi hpb HVh.out
                      | exact kG (by assumption) M0.out (by assumption) hBi hpb HVh.out
                      | exact kG (by assumption) (M0.out.alloc _) (by assumption) hBi hpb HVh.out
                      | exact kG (by assumption) (M1.out _) (by assumption) hBi hpb HVh.out)
                    (first
                      | (refine step_app _ hT HI.out (by rfl) _ _ (by rfl) (b := wj.heap.size) (n := 0) (m := cap) (v := .slice (some ⟨wj.heap.size, 0, none⟩) 0 0) (x' := .slice (some ⟨g, 0, none⟩) cap cap) (by rfl) (by rfl) M0.out (StrS.part (kOwn (by assumption)) 0 _ cap _ (Nat.le_refl _) (by omega)) (by omega) (by first | (simp; done) | (simp; omega)) ?_; intro v4 w4 hown4 hg4 _; have hx4 := true)
                      | (refine step_app _ hT HI.out (by rfl) _ _ (by rfl) (b := wj.heap.size) (n := 0) (m := cap) (v := .slice (some ⟨wj.heap.size, 0, none⟩) 0 0) (x' := .slice (some ⟨g, 0, none⟩) cap cap) (by rfl) (by rfl) (M0.out.alloc _) (StrS.part (kOwn (by assumption)) 0 _ cap _ (Nat.le_refl _) (by omega)) (by omega) (by first | (simp; done) | (simp; omega)) ?_; intro v4 w4 hown4 hg4 _; have hx4 := (N1.out (.cells #[] 9)).blk (blk_of_grown hg4 (wj.heap.size + 1) (by first | (simp; done) | (simp; omega)) (by simp [Value.ownBlock])))
                      | (refine step_app _ hT HI.out (by rfl) _ _ (by rfl) (b := wj.heap.size) (n := 0) (m := cap) (v := .slice (some ⟨wj.heap.size + 1, 0, none⟩) 0 0) (x' := .slice (some ⟨g, 0, none⟩) cap cap) (by rfl) (by rfl) (M1.out _) (StrS.part (kOwn (by assumption)) 0 _ cap _ (Nat.le_refl _) (by omega)) (by omega) (by first | (simp; done) | (simp; omega)) ?_; intro v4 w4 hown4 hg4 _; have hx4 := N0.out.blk ((blk_of_grown hg4 wj.heap.size (by first | (simp; done) | (simp; omega)) (by simp [Value.ownBlock])).trans (Below.heap_alloc _ _ _ (by simp))))
                      | (refine step_app _ hT HI.out (by rfl) _ _ (by rfl) (b := wj.heap.size) (m := 1) (v := v4) (by rfl) (by rfl) hown4 hx4 (by omega) (by have := hg4.size; simp at this; omega) ?_; intro v5 w5 hown5 hg5 _)
                      | (refine step_app _ hT HI.out (by rfl) _ _ (by rfl) (b := wj.heap.size) (m := 1) (v := v4) (by rfl) (by rfl) (hown4.alloc _) (StrS.new w4 e.key) (by omega) (by have := hg4.size; simp at this ⊢; omega) ?_; intro v5 w5 hown5 hg5 _)
                      | (refine step_app _ hT HI.out (by rfl) _ _ (by rfl) (b := wj.heap.size) (m := 0) (v := v5) (x' := .slice (some ⟨g, 0, none⟩) 0 0) (by rfl) (by rfl) hown5 (Or.inr ⟨_, _, rfl, fun j hj => absurd hj (Nat.not_lt_zero j)⟩) (by omega) (by have := hg4.size; have := hg5.size; simp at *; omega) ?_; intro v6 w6 hown6 hg6 _)
                      | fail "no arm")
                  all_goals
                    go_split_ands
                    go_wp2_with fail
                    exact ⟨⟨i + 1, cap + 1, by omega, by omega, by go_num, (hown6.lower hBi).to (by omega), by assumption⟩, by simp [intOf]; omega⟩
                · go_wp2_with fail
                  go_quiet (fail)
                  go_wp2_with fail
                  have hS := And.intro (show (wz.drewN nq).cell? ⟨(ad.add (i * 8)).block, (ad.add (i * 8)).off + 2, none⟩ = some (.string e.key) from k2') (And.intro (bl_drewN hbi' nq) (hoi'.drewN nq))
                  have hBi : w.heap.size ≤ (wz.drewN nq).heap.size := hbi'.size
                  have HV : ∀ k, Value.ownBlock (.slice (some ⟨g, 0, none⟩) a cap) = some k → k < (wz.drewN nq).heap.size := fun k hk => (show g = k by simpa [Value.ownBlock] using hk) ▸ hgi'
                  generalize wz.drewN nq = wj at *
                  have made0 : Own (wj.drew.alloc (.cells #[] 9)) wj.heap.size (.slice (some ⟨wj.heap.size, 0, none⟩) 0 0) 0 := Own.made wj.drew _ (Nat.le_refl _)
                  have made1 : ∀ o, Own ((wj.drew.alloc o).alloc (.cells #[] 9)) wj.heap.size (.slice (some ⟨wj.heap.size + 1, 0, none⟩) 0 0) 0 := fun o => by simpa using Own.made (wj.drew.alloc o) wj.heap.size (by simp)
                  have new0 : StrS (wj.drew.alloc (.cells #[.string e.key] 9)) (.slice (some ⟨wj.heap.size, 0, none⟩) 1 1) 1 := StrS.new wj.drew e.key
                  have new1 : ∀ o, StrS ((wj.drew.alloc o).alloc (.cells #[.string e.key] 9)) (.slice (some ⟨wj.heap.size + 1, 0, none⟩) 1 1) 1 := fun o => by simpa using StrS.new (wj.drew.alloc o) e.key
                  have HS := Lib.hid hS
                  have M0 := Lib.hid made0
                  have M1 := Lib.hid made1
                  have N0 := Lib.hid new0
                  have N1 := Lib.hid new1
                  clear hS made0 made1 new0 new1
                  have HVh := Lib.hid HV
                  clear HV
                  go_region_held3 (fun w' => w'.cell? ⟨(ad.add (i * 8)).block, (ad.add (i * 8)).off + 2, none⟩ = some (.string e.key) ∧ Below w.heap.size w w' ∧ Own w' w.heap.size (.slice (some ⟨g, 0, none⟩) a cap) a)
                    (first
                      | exact ⟨HS.out.1, HS.out.2.1.drew, HS.out.2.2.drew⟩
                      | exact kA (by assumption) _
                      | exact kG (by assumption) hown4 (by assumption) hBi hpb HVh.out
                      | exact kG (by assumption) (hown4.alloc _) (by assumption) hBi hpb HVh.out
                      | exact kG (by assumption) hown5 (by assumption) hBi hpb HVh.out
                      | exact kG (by assumption) M0.out (by assumption) hBi hpb HVh.out
                      | exact kG (by assumption) (M0.out.alloc _) (by assumption) hBi hpb HVh.out
                      | exact kG (by assumption) (M1.out _) (by assumption) hBi hpb HVh.out)
                    (first
                      | (refine step_app _ hT HI.out (by rfl) _ _ (by rfl) (b := wj.heap.size) (n := 0) (m := a) (v := .slice (some ⟨wj.heap.size, 0, none⟩) 0 0) (x' := .slice (some ⟨g, 0, none⟩) a cap) (by rfl) (by rfl) M0.out (StrS.part (kOwn (by assumption)) 0 _ a _ (Nat.le_refl _) (by omega)) (by omega) (by first | (simp; done) | (simp; omega)) ?_; intro v4 w4 hown4 hg4 _; have hx4 := true)
                      | (refine step_app _ hT HI.out (by rfl) _ _ (by rfl) (b := wj.heap.size) (n := 0) (m := a) (v := .slice (some ⟨wj.heap.size, 0, none⟩) 0 0) (x' := .slice (some ⟨g, 0, none⟩) a cap) (by rfl) (by rfl) (M0.out.alloc _) (StrS.part (kOwn (by assumption)) 0 _ a _ (Nat.le_refl _) (by omega)) (by omega) (by first | (simp; done) | (simp; omega)) ?_; intro v4 w4 hown4 hg4 _; have hx4 := (N1.out (.cells #[] 9)).blk (blk_of_grown hg4 (wj.heap.size + 1) (by first | (simp; done) | (simp; omega)) (by simp [Value.ownBlock])))
                      | (refine step_app _ hT HI.out (by rfl) _ _ (by rfl) (b := wj.heap.size) (n := 0) (m := a) (v := .slice (some ⟨wj.heap.size + 1, 0, none⟩) 0 0) (x' := .slice (some ⟨g, 0, none⟩) a cap) (by rfl) (by rfl) (M1.out _) (StrS.part (kOwn (by assumption)) 0 _ a _ (Nat.le_refl _) (by omega)) (by omega) (by first | (simp; done) | (simp; omega)) ?_; intro v4 w4 hown4 hg4 _; have hx4 := N0.out.blk ((blk_of_grown hg4 wj.heap.size (by first | (simp; done) | (simp; omega)) (by simp [Value.ownBlock])).trans (Below.heap_alloc _ _ _ (by simp))))
                      | (refine step_app _ hT HI.out (by rfl) _ _ (by rfl) (b := wj.heap.size) (m := 1) (v := v4) (by rfl) (by rfl) hown4 hx4 (by omega) (by have := hg4.size; simp at this; omega) ?_; intro v5 w5 hown5 hg5 _)
                      | (refine step_app _ hT HI.out (by rfl) _ _ (by rfl) (b := wj.heap.size) (m := 1) (v := v4) (by rfl) (by rfl) (hown4.alloc _) (StrS.new w4 e.key) (by omega) (by have := hg4.size; simp at this ⊢; omega) ?_; intro v5 w5 hown5 hg5 _)
                      | (refine step_app _ hT HI.out (by rfl) _ _ (by rfl) (b := wj.heap.size) (m := 0) (v := v5) (x' := .slice (some ⟨g, a, none⟩) 0 (cap - a)) (by rfl) (by rfl) hown5 (Or.inr ⟨_, _, rfl, fun j hj => absurd hj (Nat.not_lt_zero j)⟩) (by omega) (by have := hg4.size; have := hg5.size; simp at *; omega) ?_; intro v6 w6 hown6 hg6 _)
                      | fail "no arm")
                  all_goals
                    go_split_ands
                    go_wp2_with fail
                    exact ⟨⟨i + 1, a + 1, by omega, by omega, by go_num, (hown6.lower hBi).to (by omega), by assumption⟩, by simp [intOf]; omega⟩
        · have t3 : decide ((0 : Int) ≤ (ln : Int) - 1) = true := decide_eq_true (by omega)
          rcases hform with ⟨rfl, rfl⟩ | ⟨g, cap, rfl, hf1, hf2, hf3, hf4, hf5⟩
          all_goals
            go_wp2_with fail
            go_quiet ((go_at_call 96; exact quiet_left (HLA.out _ (Sl.drewN HSL.out _))))
            go_wp2_with fail
            exact ⟨⟨i + 1, _, by omega, by omega, by go_num, hown.drewN _, bl_drewN hbl _⟩, by simp [intOf]; omega⟩
    · obtain rfl : l.length = i := by omega
      rcases hform with ⟨rfl, rfl⟩ | ⟨g, cap, rfl, hf1, hf2, hf3, hf4, hf5⟩
      all_goals
        go_wp2_with fail
        go_ret
        exact ⟨⟨_, _, _, rfl, by omega⟩, hbl⟩
end Go.Proofs.YtongoicadcmfaaaGreatDoor.V
