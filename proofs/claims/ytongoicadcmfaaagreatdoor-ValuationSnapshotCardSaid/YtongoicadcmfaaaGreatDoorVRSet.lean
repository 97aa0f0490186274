/- giroref21.Set: one entry more. -/
import Derived.Test.YtongoicadcmfaaaGreatDoorVTab
set_option linter.unusedSimpArgs false
set_option linter.unusedVariables false
namespace Go.Proofs.YtongoicadcmfaaaGreatDoor.V
open Go.RowKit

theorem eiE : EI Tryz.prog 24 31 8 80 E.zero.val := ⟨Tryz.underlying24, by kernel_rfl, rfl, by omega⟩
theorem oneE (e : E) : ∀ u ∈ e.cells, u.oneCell' = true := by
  intro u hu
  simp only [E.cells, List.mem_cons, List.mem_nil_iff, or_false] at hu
  rcases hu with rfl | rfl | rfl | rfl | rfl | rfl | rfl | rfl <;> rfl
/-- What stays of the first i entries. -/
def kept (l : List E) (e : E) (i : Nat) : List (List Value) := ((l.take i).filter fun x => !sameKD e x).map E.cells
theorem kept_next (l : List E) (e : E) (i : Nat) (hi : i < l.length) : kept l e (i + 1) = if sameKD e l[i] then kept l e i else kept l e i ++ [l[i].cells] := by
  unfold kept
  rw [take_snoc l i hi, List.filter_append, List.map_append]
  cases h : sameKD e l[i] <;> simp [List.filter_cons, h]
theorem kept_len (l : List E) (e : E) (i : Nat) : (kept l e i).length ≤ i := by
  unfold kept
  rw [List.length_map]
  exact Nat.le_trans (List.length_filter_le ..) (by rw [List.length_take]; omega)
theorem kept_row (l : List E) (e : E) (i : Nat) : ∀ r ∈ kept l e i, r.length = 8 := by
  intro r hr
  unfold kept at hr
  obtain ⟨x, _, rfl⟩ := List.mem_map.1 hr
  rfl

set_option maxRecDepth 20000 in
set_option maxHeartbeats 16000000 in
theorem set48 (A : Option Addr) (l : List E) (c : Nat) (e : E) (er : Int) (w : World) (h : SlE w A l) (hl : l.length ≤ c) (hc : c ≤ 9223372036854775807) (hn : l.length ≤ 30)
    (hchk : ∀ W, SlE W A l → Calls Tryz.prog 70 #[.slice A l.length c, e.val] W fun r w' => r = .returned (.int .i64 er) ∧ Below W.heap.size W w') :
    Calls Tryz.prog 48 #[.slice A l.length c, e.val] w fun r w' => (∃ A' c', r = .returned (.tuple #[.slice A' (if er = 0 then setL l e else l).length c', .int .i64 er]) ∧ SlE w' A' (if er = 0 then setL l e else l) ∧ (if er = 0 then setL l e else l).length ≤ c' ∧ c' ≤ 9223372036854775807) ∧ Below w.heap.size w w' := by
  have bx0 := Blk.new w 31 e.cells.toArray
  have hb0 := bl1 w (.cells e.cells.toArray 31)
  have h0 := Lib.hid (h.call hb0)
  have HCHK := Lib.hid hchk
  clear hchk
  have cc0 := Blk.get8 bx0
  by_cases he0 : er = 0
  case neg =>
    have her : (er != 0) = true := by simp [bne, he0]
    rw [if_neg he0]
    suffices hs : Calls Tryz.prog 48 #[.slice A l.length c, e.val] w fun r w' => (∃ A' c', r = .returned (.tuple #[.slice A' l.length c', .int .i64 er]) ∧ SlE w' A' l ∧ l.length ≤ c' ∧ c' ≤ 9223372036854775807) ∧ Below w.heap.size w w' from hs
    clear he0
    unfold E.val at HCHK ⊢
    unfold E.cells at bx0 hb0 h0 cc0
    go_enter Tryz.func48, Tryz.ntmps48
    go_wp2_with (go_at_call 70; refine (HCHK.out _ h0.out).mono ?_; rintro r w1 ⟨rfl, hb1⟩; have hbl1 := bl_then hb0 hb1; have h1 := h0.out.call hb1)
    go_ret2
    exact ⟨⟨_, _, rfl, h1, hl, hc⟩, hbl1⟩
  subst he0
  have hite : (if (0 : Int) = 0 then setL l e else l) = setL l e := rfl
  rw [hite]
  have hset : (setL l e).map E.cells = kept l e l.length ++ [e.cells] := by
    unfold setL kept
    rw [List.map_append, List.take_length]; rfl
  have hsetl : (setL l e).length = (kept l e l.length).length + 1 := by
    have := congrArg List.length hset
    simpa using this
  have HSET := Lib.hid hset
  have HSETL := Lib.hid hsetl
  clear hset hsetl hite
  have HR8 := Lib.hid (kept_row l e l.length)
  suffices hs : Calls Tryz.prog 48 #[.slice A l.length c, e.val] w fun r w' => (∃ A' n' c', r = .returned (.tuple #[.slice A' n' c', .int .i64 0]) ∧ n' = (kept l e l.length).length + 1 ∧ Sl w' 8 A' (kept l e l.length ++ [e.cells]) ∧ n' ≤ c' ∧ c' ≤ 9223372036854775807) ∧ Below w.heap.size w w' by
    refine hs.mono fun r w' ⟨⟨A', n', c', h1, h2, h3, h4, h5⟩, hb⟩ => ⟨⟨A', c', ?_, ?_, ?_, h5⟩, hb⟩
    · rw [HSETL.out, ← h2]; exact h1
    · unfold SlE; rw [HSET.out]; exact h3
    · rw [HSETL.out, ← h2]; exact h4
  unfold E.val at HCHK ⊢
  unfold E.cells at bx0 hb0 h0 cc0
  go_enter Tryz.func48, Tryz.ntmps48
  go_wp2_with (go_at_call 70; refine (HCHK.out _ h0.out).mono ?_; rintro r w1 ⟨rfl, hb1⟩; have hbl1 := bl_then hb0 hb1; have bx1 := bx0.call hb1; have cc1 := Blk.get8 bx1; have h1 := h0.out.call hb1)
  have hsz1 : w.heap.size + 1 ≤ w1.heap.size := by have := hb1.size; simpa using this
  go_loopw [7, 8] (fun v7 v8 wr => ∃ i n : Nat, i ≤ l.length ∧ v8 = .int .i64 i ∧ n = (kept l e i).length ∧ wr.ownsRow (w.heap.size + 1) 31 8 v7 n (kept l e i).flatten ∧ Blk wr w.heap.size 31 #[.int .i64 e.kind, .int .i64 e.day, .string e.key, .string e.text, .int .i64 e.n, .int .i64 e.num, .int .i64 e.den, .bool e.act] ∧ Below w.heap.size w wr ∧ w.heap.size + 1 ≤ wr.heap.size) (fun _ v8 _ => l.length - (intOf v8).toNat)
  case atStart => exact ⟨0, 0, Nat.zero_le _, rfl, rfl, w1.ownsRow_nil _ _ _, bx1, hbl1, hsz1⟩
  case round =>
    obtain ⟨i, n, hi, rfl, hnn, hown, hbx, hbl, hsz⟩ := hrel
    have hcx := Blk.get8 hbx
    clear cc1 bx1 h1 hbl1 hsz1 cc0 bx0
    by_cases hlt : i < l.length
    · have hkn := Lib.hid (kept_next l e i hlt)
      have hni : n ≤ i := hnn ▸ kept_len l e i
      obtain ⟨ad, rfl, hadb, c0, c1, c2, c3, c4, c5, c6, c7⟩ := (h.call hbl).get hlt
      generalize l[i] = y at *
      generalize kept l e i = xs at *
      have HNN := Lib.hid hnn
      clear hnn
      have go : ∀ wz : World, wz.cell? (ad.add (i * 8)) = some (.int .i64 y.kind) → True := fun _ _ => trivial
      clear go
      cases t1 : (y.kind == e.kind) <;> cases t2 : (y.key.toList == e.key.toList) <;> cases t3 : (y.day == e.day)
      all_goals
        have t1' : (y.kind != e.kind) = !(y.kind == e.kind) := rfl
        have t2' : (y.key.toList != e.key.toList) = !(y.key.toList == e.key.toList) := rfl
        have t3' : (y.day != e.day) = !(y.day == e.day) := rfl
        rw [t1] at t1'
        rw [t2] at t2'
        rw [t3] at t3'
        simp only [Bool.not_true, Bool.not_false] at t1' t2' t3'
        go_wp2_with fail
        go_quiet (fail)
        have hown2 : (wr.drewN nq).ownsRow (w.heap.size + 1) 31 8 u7 n xs.flatten := hown
        have hbx2 := hbx.drewN nq
        have hbl2 := bl_drewN hbl nq
        have hsz2 : w.heap.size + 1 ≤ (wr.drewN nq).heap.size := hsz
        have k0 : (wr.drewN nq).cell? (ad.add (i * 8)) = some (.int .i64 y.kind) ∧ (wr.drewN nq).cell? ⟨(ad.add (i * 8)).block, (ad.add (i * 8)).off + 1, none⟩ = some (.int .i64 y.day) ∧ (wr.drewN nq).cell? ⟨(ad.add (i * 8)).block, (ad.add (i * 8)).off + 2, none⟩ = some (.string y.key) ∧ (wr.drewN nq).cell? ⟨(ad.add (i * 8)).block, (ad.add (i * 8)).off + 3, none⟩ = some (.string y.text) ∧ (wr.drewN nq).cell? ⟨(ad.add (i * 8)).block, (ad.add (i * 8)).off + 4, none⟩ = some (.int .i64 y.n) ∧ (wr.drewN nq).cell? ⟨(ad.add (i * 8)).block, (ad.add (i * 8)).off + 5, none⟩ = some (.int .i64 y.num) ∧ (wr.drewN nq).cell? ⟨(ad.add (i * 8)).block, (ad.add (i * 8)).off + 6, none⟩ = some (.int .i64 y.den) ∧ (wr.drewN nq).cell? ⟨(ad.add (i * 8)).block, (ad.add (i * 8)).off + 7, none⟩ = some (.bool y.act) := ⟨c0, c1, c2, c3, c4, c5, c6, c7⟩
        clear c0 c1 c2 c3 c4 c5 c6 c7 hcx hown hbx hbl hsz hadb
        generalize wr.drewN nq = wz at *
        first
          | (go_wp2_with (at_builtin; refine ap eiE rfl _ _ rfl (w.heap.size + 1) _ _ _ rfl hown2 1 1 [.int .i64 y.kind, .int .i64 y.day, .string y.key, .string y.text, .int .i64 y.n, .int .i64 y.num, .int .i64 y.den, .bool y.act] rfl rfl (by simp [Value.oneCell']) (by simp only [maxLen]; omega) (by omega) hsz2 ?_; intro v' w' ho' hg' hat')
             refine ⟨⟨i + 1, n + 1, by omega, by go_num, ?_, ?_, hbx2.grown hg' ?_, bl_grown hbl2 hg' hown2 (by omega) hbl2.size, Nat.le_trans hsz2 hg'.size⟩, by simp [intOf]; omega⟩
             · rw [hkn.out, HNN.out]; simp [sameKD, t1, t2, t3]
             · have e1 : kept l e (i + 1) = xs ++ [y.cells] := by rw [hkn.out]; simp [sameKD, t1, t2, t3]
               rw [e1, List.flatten_append]
               exact ho'
             · exact fun hk => by have := own_base hown2 _ hk.symm; omega)
          | (go_wp2_with fail
             exact ⟨⟨i + 1, n, by omega, by go_num, by rw [hkn.out, HNN.out]; simp [sameKD, t1, t2, t3], by rw [hkn.out]; simpa [sameKD, t1, t2, t3] using hown2, hbx2, hbl2, hsz2⟩, by simp [intOf]; omega⟩)
    · obtain rfl : l.length = i := by omega
      have hni : n ≤ l.length := hnn ▸ kept_len l e l.length
      have HNN := Lib.hid hnn
      clear hnn
      go_wp2_with (at_builtin; refine ap eiE rfl _ _ rfl (w.heap.size + 1) _ _ _ rfl hown 1 1 [.int .i64 e.kind, .int .i64 e.day, .string e.key, .string e.text, .int .i64 e.n, .int .i64 e.num, .int .i64 e.den, .bool e.act] rfl rfl (by simp [Value.oneCell']) (by simp only [maxLen]; omega) (by omega) hsz ?_; intro v' w' ho' hg' hat')
      obtain ⟨A', cap, rfl, d1, d2, d3⟩ := with_done' ho' HR8.out rfl (by omega) HNN.out.symm
      go_wp2_with fail
      go_ret2
      exact ⟨⟨_, _, _, rfl, by rw [HNN.out], d3, d1, d2⟩, bl_grown hbl hg' hown (by omega) hbl.size⟩
end Go.Proofs.YtongoicadcmfaaaGreatDoor.V
