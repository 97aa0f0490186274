/- refdata.series at one element type. (Printed by gen_series.py.) refdata.series at one element type. (Printed by gen_series.py.) -/
import Derived.Test.YtongoicadcmfaaaGreatDoorVSer
set_option linter.unusedSimpArgs false
set_option linter.unusedVariables false
namespace Go.Proofs.YtongoicadcmfaaaGreatDoor.V
open Go.RowKit

theorem Sl.getM {w : World} {A : Option Addr} {l : List E} (h : Sl w 4 A (l.map rowM)) {i : Nat} (hi : i < l.length) :
    ∃ ad, A = some ad ∧ ad.block < w.heap.size ∧ w.cell? (ad.add (i * 4)) = some (.int .i64 l[i].day) ∧ w.cell? ⟨(ad.add (i * 4)).block, (ad.add (i * 4)).off + 1, none⟩ = some (.string l[i].key) ∧ w.cell? ⟨(ad.add (i * 4)).block, (ad.add (i * 4)).off + 2, none⟩ = some (.string l[i].text) ∧ w.cell? ⟨(ad.add (i * 4)).block, (ad.add (i * 4)).off + 3, none⟩ = some (.bool l[i].act) := by
  obtain ⟨ad, e, hb, hc⟩ := Sl.get h (i := i) (by simpa using hi)
  have hr : (l.map rowM)[i]'(by simpa using hi) = rowM l[i] := by simp
  rw [hr] at hc
  refine ⟨ad, e, hb, hc 0 _ rfl, ?_, ?_, ?_⟩ <;> rw [← add_field _ _ _ (by omega)] <;> exact hc _ _ rfl

set_option maxHeartbeats 1000000 in
theorem cmpM (e : E) (t : Int) (w : World) : Calls Tryz.prog 89 #[aggM e, .int .i64 t] w fun r w' => r = .returned (.int .i64 (Lib.compareInt e.day t)) ∧ Below w.heap.size w w' := by
  unfold aggM
  go_enter Tryz.func89, Tryz.ntmps89
  go_wp2_with (go_at_call 87; refine (Tryz.cmp_Compare_int _ _ _).mono ?_; rintro r w' ⟨rfl, rfl⟩)
  go_ret
  exact ⟨rfl, bl_alloc (Below.refl _ _) _⟩

set_option maxRecDepth 20000 in
set_option maxHeartbeats 2000000 in
theorem searchM (A : Option Addr) (l : List E) (c : Nat) (d : Int) (w : World) (h : Sl w 4 A (l.map rowM)) (hl : l.length ≤ c) (hc : c ≤ 9223372036854775807) (hn : l.length ≤ 1000000) (hinc : inc l) :
    Calls Tryz.prog 88 #[.slice A l.length c, .int .i64 d, .func (.func 89) #[] #[]] w fun r w' => r = .returned (.tuple #[.int .i64 (lo l d), .bool (foundB l d (lo l d))]) ∧ Below w.heap.size w w' := by
  have HINC := Lib.hid hinc
  clear hinc
  go_enter Tryz.func88, Tryz.ntmps88
  go_wp2_with fail
  go_loopw [9, 10] (fun v9 v10 wr => ∃ i j : Nat, i ≤ j ∧ j ≤ l.length ∧ v9 = .int .i64 i ∧ v10 = .int .i64 j ∧ (∀ k (h : k < l.length), k < i → l[k].day < d) ∧ (∀ k (h : k < l.length), j ≤ k → d ≤ l[k].day) ∧ Below w.heap.size w wr) (fun v9 v10 _ => (intOf v10).toNat - (intOf v9).toNat)
  case atStart =>
    exact ⟨0, l.length, Nat.zero_le _, Nat.le_refl _, rfl, rfl, fun k h hk => absurd hk (Nat.not_lt_zero _), fun k h hk => absurd h (by omega), Below.refl _ _⟩
  case round =>
    obtain ⟨i, j, hij, hj, rfl, rfl, hlo, hhi, hbl⟩ := hrel
    have HLO := Lib.hid hlo
    have HHI := Lib.hid hhi
    clear hlo hhi
    by_cases hlt : i < j
    · obtain ⟨m, hm⟩ : ∃ m, m = (i + j) / 2 := ⟨_, rfl⟩
      have hm1 : i ≤ m := by omega
      have hm2 : m < j := by omega
      have hml : m < l.length := by omega
      have hmi : ((i : Int) + j) / 2 = m := by omega
      obtain ⟨ad, rfl, hadb, c0, c1, c2, c3⟩ := (h.call hbl).getM hml
      obtain ⟨e, ee⟩ : ∃ e, l[m] = e := ⟨_, rfl⟩
      rw [ee] at c0 c1 c2 c3
      have EE := Lib.hid ee
      clear ee hm
      have hcmp := fun w => cmpM e d w
      unfold aggM at hcmp
      by_cases hd : e.day < d
      · have hci : Lib.compareInt e.day d = -1 := by unfold Lib.compareInt; rw [if_pos hd]
        rw [hci] at hcmp
        have HCMP := Lib.hid hcmp
        clear hcmp hci
        go_wp2_with (go_at_call 89; refine (HCMP.out _).mono ?_; rintro r w' ⟨rfl, hb1⟩)
        refine ⟨⟨m + 1, j, hm2, hj, by go_num, rfl, fun k h hk => ?_, HHI.out, bl_then hbl hb1⟩, by simp [intOf]; omega⟩
        rcases Nat.lt_or_ge k m with h' | h'
        · have := inc_lt HINC.out hml h'
          have h2 := congrArg E.day EE.out
          omega
        · obtain rfl : k = m := by omega
          rw [EE.out]; exact hd
      · have hci : (0 : Int) ≤ Lib.compareInt e.day d := by unfold Lib.compareInt; rw [if_neg hd]; split <;> omega
        have HCMP := Lib.hid hcmp
        generalize Lib.compareInt e.day d = r at *
        clear hcmp
        go_wp2_with (go_at_call 89; refine (HCMP.out _).mono ?_; rintro r w' ⟨rfl, hb1⟩)
        refine ⟨⟨i, m, hm1, by omega, rfl, by go_num, HLO.out, fun k h hk => ?_, bl_then hbl hb1⟩, by simp [intOf]; omega⟩
        rcases Nat.lt_or_ge m k with h' | h'
        · have := inc_lt HINC.out h h'
          have h2 := congrArg E.day EE.out
          omega
        · obtain rfl : k = m := by omega
          rw [EE.out]; omega
    · obtain rfl : i = j := by omega
      have F : Found l d i := ⟨hj, HLO.out, HHI.out⟩
      have hlo := Lib.hid (found_lo l d i F)
      by_cases hin : i < l.length
      · obtain ⟨ad, rfl, hadb, c0, c1, c2, c3⟩ := (h.call hbl).getM hin
        have hfb : foundB l d i = (l[i].day == d) := by
          unfold foundB
          rw [List.getD_eq_getElem?_getD, List.getElem?_eq_getElem hin]; simp [hin]
        obtain ⟨e, ee⟩ : ∃ e, l[i] = e := ⟨_, rfl⟩
        rw [ee] at c0 c1 c2 c3 hfb
        clear ee F
        have hcmp := fun w => cmpM e d w
        unfold aggM at hcmp
        have hcz : (Lib.compareInt e.day d == 0) = (e.day == d) := by
          unfold Lib.compareInt
          rcases Int.lt_trichotomy e.day d with h | h | h
          · rw [if_pos h]; have : e.day ≠ d := by omega
            simp [this]
          · rw [if_neg (by omega), if_neg (by omega)]; simp [h]
          · rw [if_neg (by omega), if_pos (by omega)]; have : e.day ≠ d := by omega
            simp [this]
        obtain ⟨r, hr⟩ : ∃ r, Lib.compareInt e.day d = r := ⟨_, rfl⟩
        rw [hr] at hcmp hcz
        have HCMP := Lib.hid hcmp
        have HFB := Lib.hid hfb
        clear hcmp hr hfb
        cases hb : (e.day == d)
        · rw [hb] at hcz
          go_wp2_with (go_at_call 89; refine (HCMP.out _).mono ?_; rintro r w' ⟨rfl, hb1⟩)
          go_ret2
          exact ⟨by rw [hlo.out, HFB.out, hb]; rfl, bl_then hbl hb1⟩
        · rw [hb] at hcz
          go_wp2_with (go_at_call 89; refine (HCMP.out _).mono ?_; rintro r w' ⟨rfl, hb1⟩)
          go_ret2
          exact ⟨by rw [hlo.out, HFB.out, hb]; rfl, bl_then hbl hb1⟩
      · have hfb : foundB l d i = false := by unfold foundB; simp [hin]
        have HFB := Lib.hid hfb
        have hin' : decide ((i : Int) < l.length) = false := by simp; omega
        obtain rfl : i = l.length := by omega
        clear hfb F
        go_wp2_with fail
        go_ret2
        exact ⟨by rw [hlo.out, HFB.out]; rfl, hbl⟩

set_option maxRecDepth 20000 in
set_option maxHeartbeats 2000000 in
theorem atM (A : Option Addr) (l : List E) (c : Nat) (d : Int) (w : World) (h : Sl w 4 A (l.map rowM)) (hl : l.length ≤ c) (hc : c ≤ 9223372036854775807) (hn : l.length ≤ 1000000) (hinc : inc l) :
    Calls Tryz.prog 61 #[.slice A l.length c, .int .i64 d] w fun r w' => r = .returned (.tuple #[aggM ((onDay l d).getD E.zero), .bool (onDay l d).isSome]) ∧ Below w.heap.size w w' := by
  have ho := onDay_eq l d hinc
  have hse := Lib.hid (fun w h => searchM A l c d w h hl hc hn hinc)
  have hlt := foundB_lt l d
  have hle := (found_at l d hinc).le
  generalize lo l d = i at *
  clear hinc
  have hb0 := Blk.new w 129 #[.int .i64 E.zero.day, .string E.zero.key, .string E.zero.text, .bool E.zero.act]
  have hs0 := h.alloc (.cells #[.int .i64 E.zero.day, .string E.zero.key, .string E.zero.text, .bool E.zero.act] 129)
  have hbl0 := bl_alloc (Below.refl w.heap.size w) (.cells #[.int .i64 E.zero.day, .string E.zero.key, .string E.zero.text, .bool E.zero.act] 129)
  cases hf : foundB l d i
  · rw [hf] at ho hse
    clear hlt
    cases i with
    | zero =>
      have ho' : onDay l d = none := by rw [ho]; simp
      rw [ho']
      clear ho ho'
      go_enter Tryz.func61, Tryz.ntmps61
      go_wp2_with (first | (go_at_call 88; refine (hse.out _ hs0).mono ?_; rintro r w2 ⟨rfl, hb2⟩; have hb0' := hb0.call hb2; have hbl := bl_then hbl0 hb2; obtain ⟨y0, y1, y2, y3⟩ := Blk.get4 hb0'; have FZ := fun j => hb0'.frozen j) | (go_at_call 71; refine (isDay71 _ _).mono ?_; rintro r w3 ⟨rfl, rfl⟩))
      refine bodyPost_ret (v := .tuple #[aggM E.zero, .bool false]) (by simp [results, Tryz.results61, go_sem, aggM, E.zero, y0, y1, y2, y3]) rfl ⟨rfl, ?_⟩
      repeat (refine bl_set ?_ (by simp) _)
      exact hbl
    | succ k =>
      have hkl : k < l.length := by omega
      cases hd : dayB d
      · have ho' : onDay l d = none := by rw [ho, hd]; simp
        rw [ho']
        clear ho ho'
        go_enter Tryz.func61, Tryz.ntmps61
        go_wp2_with (first | (go_at_call 88; refine (hse.out _ hs0).mono ?_; rintro r w2 ⟨rfl, hb2⟩; have hb0' := hb0.call hb2; have hbl := bl_then hbl0 hb2; obtain ⟨y0, y1, y2, y3⟩ := Blk.get4 hb0'; have FZ := fun j => hb0'.frozen j) | (go_at_call 71; refine (isDay71 _ _).mono ?_; rintro r w3 ⟨rfl, rfl⟩))
        refine bodyPost_ret (v := .tuple #[aggM E.zero, .bool false]) (by simp [results, Tryz.results61, go_sem, aggM, E.zero, y0, y1, y2, y3]) rfl ⟨rfl, ?_⟩
        repeat (refine bl_set ?_ (by simp) _)
        exact hbl
      · have ho' : onDay l d = some l[k] := by rw [ho, hd]; simp [List.getElem?_eq_getElem hkl]
        rw [ho']
        clear ho ho'
        obtain ⟨e, ee⟩ : ∃ e, l[k] = e := ⟨_, rfl⟩
        rw [ee]
        go_enter Tryz.func61, Tryz.ntmps61
        go_wp2_with (first | (go_at_call 88; refine (hse.out _ hs0).mono ?_; rintro r w2 ⟨rfl, hb2⟩; have hb0' := hb0.call hb2; have hbl := bl_then hbl0 hb2; obtain ⟨y0, y1, y2, y3⟩ := Blk.get4 hb0'; have FZ := fun j => hb0'.frozen j; obtain ⟨ad, rfl, hadb, c0, c1, c2, c3⟩ := (hs0.call hb2).getM hkl; rw [ee] at c0 c1 c2 c3) | (go_at_call 71; refine (isDay71 _ _).mono ?_; rintro r w3 ⟨rfl, rfl⟩))
        refine bodyPost_ret (v := .tuple #[aggM e, .bool true]) (by simp [results, Tryz.results61, go_sem, aggM, y0, y1, y2, y3]) rfl ⟨rfl, ?_⟩
        repeat (refine bl_set ?_ (by simp) _)
        exact hbl
  · have hkl : i < l.length := hlt hf
    rw [hf] at ho hse
    cases hd : dayB d
    · have ho' : onDay l d = none := by rw [ho, hd]; simp
      rw [ho']
      clear ho ho'
      go_enter Tryz.func61, Tryz.ntmps61
      go_wp2_with (first | (go_at_call 88; refine (hse.out _ hs0).mono ?_; rintro r w2 ⟨rfl, hb2⟩; have hb0' := hb0.call hb2; have hbl := bl_then hbl0 hb2; obtain ⟨y0, y1, y2, y3⟩ := Blk.get4 hb0'; have FZ := fun j => hb0'.frozen j) | (go_at_call 71; refine (isDay71 _ _).mono ?_; rintro r w3 ⟨rfl, rfl⟩))
      refine bodyPost_ret (v := .tuple #[aggM E.zero, .bool false]) (by simp [results, Tryz.results61, go_sem, aggM, E.zero, y0, y1, y2, y3]) rfl ⟨rfl, ?_⟩
      repeat (refine bl_set ?_ (by simp) _)
      exact hbl
    · have ho' : onDay l d = some l[i] := by rw [ho, hd]; simp [List.getElem?_eq_getElem hkl]
      rw [ho']
      clear ho ho'
      obtain ⟨e, ee⟩ : ∃ e, l[i] = e := ⟨_, rfl⟩
      rw [ee]
      go_enter Tryz.func61, Tryz.ntmps61
      go_wp2_with (first | (go_at_call 88; refine (hse.out _ hs0).mono ?_; rintro r w2 ⟨rfl, hb2⟩; have hb0' := hb0.call hb2; have hbl := bl_then hbl0 hb2; obtain ⟨y0, y1, y2, y3⟩ := Blk.get4 hb0'; have FZ := fun j => hb0'.frozen j; obtain ⟨ad, rfl, hadb, c0, c1, c2, c3⟩ := (hs0.call hb2).getM hkl; rw [ee] at c0 c1 c2 c3) | (go_at_call 71; refine (isDay71 _ _).mono ?_; rintro r w3 ⟨rfl, rfl⟩))
      refine bodyPost_ret (v := .tuple #[aggM e, .bool true]) (by simp [results, Tryz.results61, go_sem, aggM, y0, y1, y2, y3]) rfl ⟨rfl, ?_⟩
      repeat (refine bl_set ?_ (by simp) _)
      exact hbl

set_option maxRecDepth 20000 in
set_option maxHeartbeats 2000000 in
theorem lastM (A : Option Addr) (l : List E) (c : Nat) (w : World) (h : Sl w 4 A (l.map rowM)) (hl : l.length ≤ c) (hc : c ≤ 9223372036854775807) (hn : l.length ≤ 1000000) :
    Calls Tryz.prog 99 #[.slice A l.length c] w fun r w' => r = .returned (.tuple #[aggM (lastE l), .bool (!l.isEmpty)]) ∧ Below w.heap.size w w' := by
  have hb0 := Blk.new w 129 #[.int .i64 E.zero.day, .string E.zero.key, .string E.zero.text, .bool E.zero.act]
  have hs0 := h.alloc (.cells #[.int .i64 E.zero.day, .string E.zero.key, .string E.zero.text, .bool E.zero.act] 129)
  have hbl := bl_alloc (Below.refl w.heap.size w) (.cells #[.int .i64 E.zero.day, .string E.zero.key, .string E.zero.text, .bool E.zero.act] 129)
  obtain ⟨y0, y1, y2, y3⟩ := Blk.get4 hb0
  rcases Nat.eq_zero_or_pos l.length with h0 | h0
  · obtain rfl := List.length_eq_zero_iff.1 h0
    go_enter Tryz.func99, Tryz.ntmps99
    go_wp2_with fail
    refine bodyPost_ret (v := .tuple #[aggM E.zero, .bool false]) (by simp [results, Tryz.results99, go_sem, aggM, E.zero]) rfl ⟨rfl, ?_⟩
    exact hbl
  · obtain ⟨k, hk⟩ : ∃ k, l.length = k + 1 := ⟨l.length - 1, by omega⟩
    have hkl : k < l.length := by omega
    have hlast := lastE_get l k hk
    have hne : l.isEmpty = false := by cases l with | nil => simp at h0 | cons a t => rfl
    rw [hlast, hne]
    have hix : (l.length : Int) - 1 = k := by omega
    have hne0 : ((l.length : Int) == 0) = false := by rw [beq_eq_false_iff_ne]; omega
    have hs1 : Sl (w.alloc (.cells #[.int .i64 0, .string ⟨#[]⟩, .string ⟨#[]⟩, .bool false] 129)) 4 A (l.map rowM) := hs0
    obtain ⟨ad, rfl, hadb, c0, c1, c2, c3⟩ := hs1.getM hkl
    obtain ⟨e, ee⟩ : ∃ e, l[k] = e := ⟨_, rfl⟩
    rw [ee] at c0 c1 c2 c3
    rw [ee]
    clear hlast hne h0 hs0 hb0 hk hs1 y0 y1 y2 y3
    go_enter Tryz.func99, Tryz.ntmps99
    go_wp2_with fail
    refine bodyPost_ret (v := .tuple #[aggM e, .bool true]) (by simp [results, Tryz.results99, go_sem, aggM]) rfl ⟨rfl, ?_⟩
    repeat (refine bl_set ?_ (by simp) _)
    exact bl_alloc (Below.refl _ _) _

set_option maxRecDepth 20000 in
set_option maxHeartbeats 2000000 in
theorem staleM (A : Option Addr) (l : List E) (c : Nat) (d : Int) (w : World) (h : Sl w 4 A (l.map rowM)) (hl : l.length ≤ c) (hc : c ≤ 9223372036854775807) (hn : l.length ≤ 1000000) :
    Calls Tryz.prog 73 #[.slice A l.length c, .int .i64 d] w fun r w' => r = .returned (.bool (staleB l d)) ∧ Below w.heap.size w w' := by
  have hla := Lib.hid (lastM A l c w h hl hc hn)
  unfold staleB
  cases hne : l.isEmpty
  · rw [hne] at hla
    generalize lastE l = e at *
    have hla2 := hla.out
    unfold aggM at hla2
    have HLA := Lib.hid hla2
    clear hla hla2
    cases hd : decide (d < e.day)
    all_goals
      go_enter Tryz.func73, Tryz.ntmps73
      go_wp2_with (go_at_call 99; refine HLA.out.mono ?_; rintro r w1 ⟨rfl, hb1⟩)
      go_ret
      exact ⟨rfl, bl_alloc hb1 _⟩
  · rw [hne] at hla
    generalize lastE l = e at *
    have hla2 := hla.out
    unfold aggM at hla2
    have HLA := Lib.hid hla2
    clear hla hla2
    go_enter Tryz.func73, Tryz.ntmps73
    go_wp2_with (go_at_call 99; refine HLA.out.mono ?_; rintro r w1 ⟨rfl, hb1⟩)
    go_ret
    exact ⟨rfl, bl_alloc hb1 _⟩

theorem eiM : EI Tryz.prog 132 129 4 48 (.agg #[.int .i64 0, .string ⟨#[]⟩, .string ⟨#[]⟩, .bool false]) := ⟨Tryz.underlying132, by kernel_rfl, rfl, by omega⟩
theorem rowM_len : ∀ (l : List E), ∀ r ∈ l.map rowM, r.length = 4 := by
  intro l r hr
  obtain ⟨e, _, rfl⟩ := List.mem_map.1 hr
  rfl
theorem rowM_one (l : List E) : ∀ u ∈ (l.map rowM).flatten, u.oneCell' = true := by
  intro u hu
  obtain ⟨r, hr, hu⟩ := List.mem_flatten.1 hu
  obtain ⟨e, _, rfl⟩ := List.mem_map.1 hr
  simp only [rowM, List.mem_cons, List.mem_nil_iff, or_false] at hu
  rcases hu with rfl | rfl | rfl | rfl <;> rfl

set_option maxRecDepth 20000 in
set_option maxHeartbeats 2000000 in
theorem cloneM (A : Option Addr) (l : List E) (c : Nat) (w : World) (h : Sl w 4 A (l.map rowM)) (hl : l.length ≤ c) (hc : c ≤ 9223372036854775807) (hn : l.length ≤ 1000000) :
    Calls Tryz.prog 100 #[.slice A l.length c] w fun r w' => (∃ v, r = .returned v ∧ w'.ownsRow w.heap.size 129 4 v l.length (l.map rowM).flatten) ∧ Below w.heap.size w w' := by
  cases A with
  | none =>
    have hl0 : l = [] := by
      rcases Nat.eq_zero_or_pos l.length with h0 | h0
      · exact List.length_eq_zero_iff.1 h0
      · obtain ⟨ad, e, _⟩ := h.2 (by simpa using h0)
        cases e
    subst hl0
    have hq : ∀ w, (binOp .eql 132 (.slice none 0 c) (.slice none 0 0)).run Tryz.prog w = .ok (.bool true) w := fun w => Lib.run_eql_slice_nil (P := Tryz.prog) w 132 129 none 0 c 0 0 Tryz.underlying132
    go_enter Tryz.func100, Tryz.ntmps100
    go_wp2_with fail
    go_ret
    exact ⟨⟨_, rfl, World.ownsRow_nil _ _ _ _⟩, Below.refl _ _⟩
  | some ad =>
    have hfl := flat_len (l.map rowM) (rowM_len l)
    rw [List.length_map] at hfl
    have hone := rowM_one l
    have hq : ∀ w, (binOp .eql 132 (.slice (some ad) l.length c) (.slice none 0 0)).run Tryz.prog w = .ok (.bool false) w := fun w => Lib.run_eql_slice_nil (P := Tryz.prog) w 132 129 (some ad) l.length c 0 0 Tryz.underlying132
    have HFL := Lib.hid hfl
    have HONE := Lib.hid hone
    clear hfl hone
    go_enter Tryz.func100, Tryz.ntmps100
    obtain ⟨i, hi, hz, hsize, hby⟩ := info_parts eiM.info
    have hown : (w.alloc (.cells #[] 129)).ownsRow w.heap.size 129 4 (.slice (some ⟨w.heap.size, 0, none⟩) 0 0) 0 [] :=
      ⟨rfl, .inr ⟨w.heap.size, 0, #[], rfl, Nat.le_refl _, Blk.new _ _ _, Nat.le_refl _, by simp [maxLen], rfl, rfl⟩⟩
    have HOWN := Lib.hid hown
    have HCELL := Lib.hid (Sl.flat (h.alloc (.cells #[] 129)) (by omega) ad rfl)
    clear hown
    go_wp2_with (at_builtin; refine wpList_append_own_at _ rfl _ _ 132 rfl w.heap.size 129 i (.agg #[.int .i64 0, .string ⟨#[]⟩, .string ⟨#[]⟩, .bool false]) 4 48 Tryz.underlying132 hi hz hsize hby rfl (by omega) _ 0 [] rfl HOWN.out ad l.length c _ rfl HFL.out HCELL.out HONE.out (by simp only [maxLen]; omega) (by omega) (by simp) ?_; intro v' w' ho' hg' hnil hat')
    go_ret
    rw [Nat.zero_add, List.nil_append] at ho'
    refine ⟨⟨_, rfl, ho'⟩, ?_⟩
    exact bl_grown (bl_alloc (Below.refl _ _) _) hg' HOWN.out (Nat.le_refl _) (by simp)
end Go.Proofs.YtongoicadcmfaaaGreatDoor.V

namespace Go.Proofs.YtongoicadcmfaaaGreatDoor.V
open Go.RowKit

theorem oneM (e : E) : ∀ u ∈ rowM e, u.oneCell' = true := by
  intro u hu
  simp only [rowM, List.mem_cons, List.mem_nil_iff, or_false] at hu
  rcases hu with rfl | rfl | rfl | rfl <;> rfl
theorem builtM (e : E) (wq w3 : World) (hb : Below (wq.drew.alloc (.cells (rowM e).toArray 129)).heap.size (wq.drew.alloc (.cells (rowM e).toArray 129)) w3) : ∀ j u, (rowM e)[j]? = some u → w3.cell? ((⟨wq.heap.size, 0, none⟩ : Addr).add j) = some u := by
  intro j u hj
  have h := ((Blk.new wq.drew 129 (rowM e).toArray).call hb).cell j
  have e1 : (⟨wq.heap.size, 0, none⟩ : Addr).add j = ⟨wq.heap.size, j, none⟩ := by unfold Addr.add; split <;> simp_all
  rw [e1]
  refine h.trans ?_
  simpa using hj

set_option maxRecDepth 20000 in
set_option maxHeartbeats 4000000 in
theorem withM (A : Option Addr) (l : List E) (c : Nat) (e : E) (w : World) (h : Sl w 4 A (l.map rowM)) (hl : l.length ≤ c) (hc : c ≤ 9223372036854775807) (hn : l.length ≤ 1000000) :
    Calls Tryz.prog 75 #[.slice A l.length c, .int .i64 e.day, .agg #[.string e.key, .string e.text, .bool e.act]] w fun r w' => (∃ A' c', r = .returned (.slice A' (withE l e).length c') ∧ (withE l e).length ≤ c' ∧ c' ≤ 9223372036854775807 ∧ Sl w' 4 A' ((withE l e).map rowM)) ∧ Below w.heap.size w w' := by
  obtain ⟨i, hi, hz, hsize, hby⟩ := info_parts eiM.info
  have HI := Lib.hid hi
  have HZ := Lib.hid hz
  have HS := Lib.hid hsize
  have HB := Lib.hid hby
  clear hi hz hsize hby
  have hlast := lastM A l c _ (h.alloc (.cells #[.string e.key, .string e.text, .bool e.act] 78)) hl hc hn
  unfold aggM at hlast
  have hlk : ∀ k, l.length = k + 1 → l.dropLast = l.take k := fun k hk => by rw [List.dropLast_eq_take, hk]; rfl
  have HLK := Lib.hid hlk
  clear hlk
  unfold withE
  generalize lastE l = el at *
  cases hemp : l.isEmpty
  · rw [hemp] at hlast
    have HLAST := Lib.hid hlast
    clear hlast
    cases hd : (el.day == e.day)
    · have hl' : (if (!false && false) = true then l.dropLast else l) = l := rfl
      rw [hl']
      go_enter Tryz.func75, Tryz.ntmps75
      go_wp2_with (go_at_call 99; refine HLAST.out.mono ?_; rintro r w1 ⟨rfl, hb1⟩)
      have hsl := ((h.alloc (.cells #[.string e.key, .string e.text, .bool e.act] 78)).call hb1).alloc (.cells #[.int .i64 el.day, .string el.key, .string el.text, .bool el.act] 129)
      have hbx := ((Blk.new w 78 #[.string e.key, .string e.text, .bool e.act]).call hb1).alloc (.cells #[.int .i64 el.day, .string el.key, .string el.text, .bool el.act] 129)
      have hbq := bl_alloc (bl_then (bl_alloc (Below.refl w.heap.size w) (.cells #[.string e.key, .string e.text, .bool e.act] 78)) hb1) (.cells #[.int .i64 el.day, .string el.key, .string el.text, .bool el.act] 129)
      clear HLAST hb1
      generalize w1.alloc (.cells #[.int .i64 el.day, .string el.key, .string el.text, .bool el.act] 129) = wq at *
      generalize hbe : w.heap.size = b at *
      have HBE := Lib.hid hbe
      clear hbe
      have HSL := Lib.hid hsl
      have HBX := Lib.hid hbx
      have HCL := Lib.hid (fun W h => cloneM A l c W h hl hc hn)
      clear hsl hbx
      go_region_held3 (fun w' => w'.cell? ⟨b, 0, none⟩ = some (.string e.key) ∧ w'.cell? ⟨b, 1, none⟩ = some (.string e.text) ∧ w'.cell? ⟨b, 2, none⟩ = some (.bool e.act)) (first | exact Blk.get3 HBX.out.drew | exact Blk.get3 (HBX.out.drew.call hb3) | exact Blk.get3 (HBX.out.drew.alloc _) | exact Blk.get3 ((HBX.out.drew.call hb3).alloc _) | exact Blk.get3 ((HBX.out.drew.alloc _).call hb3) | exact Blk.get3 (blk_keepA (HBX.out.drew.call hb3) hown hgrow (by decide)) | exact Blk.get3 (blk_keepB ((HBX.out.drew.alloc _).call hb3) hown hgrow (by decide)))
        (first
          | (go_at_call 100; refine (HCL.out _ HSL.out.drew).mono ?_; rintro r w3 ⟨⟨v, rfl, hown⟩, hb3⟩)
          | (go_at_call 100; refine (HCL.out _ (HSL.out.drew.alloc _)).mono ?_; rintro r w3 ⟨⟨v, rfl, hown⟩, hb3⟩)
          | (refine step_append_lies _ (by rfl) _ _ 132 (by rfl) _ 129 i (.agg #[.int .i64 0, .string ⟨#[]⟩, .string ⟨#[]⟩, .bool false]) 4 48 Tryz.underlying132 HI.out HZ.out HS.out HB.out rfl (by omega) v l.length _ (by rfl) (hown.alloc _) ⟨w3.heap.size, 0, none⟩ 1 1 (rowM e) (by rfl) rfl (cells_new _ _ _) (oneM e) (by omega) (by simp only [maxLen]; omega) (by omega) (Nat.le_trans hb3.size (by simp)) _ rfl ?_; intro g cap w4 hown4 hgrow hat hlt4)
          | (refine step_append_lies _ (by rfl) _ _ 132 (by rfl) _ 129 i (.agg #[.int .i64 0, .string ⟨#[]⟩, .string ⟨#[]⟩, .bool false]) 4 48 Tryz.underlying132 HI.out HZ.out HS.out HB.out rfl (by omega) v l.length _ (by rfl) hown ⟨wq.heap.size, 0, none⟩ 1 1 (rowM e) (by rfl) rfl (builtM e wq w3 hb3) (oneM e) (by omega) (by simp only [maxLen]; omega) (by omega) hb3.size _ rfl ?_; intro g cap w4 hown4 hgrow hat hlt4))
      all_goals
        go_wp2_with fail
        go_ret
        obtain ⟨d1, d2, d3⟩ := with_done hown4 (rowM_len _) rfl (by omega) (by rw [List.length_map])
        refine ⟨⟨some ⟨g, 0, none⟩, cap, by rw [List.length_append]; rfl, by rw [List.length_append]; exact d1, d2, by rw [List.map_append]; exact d3⟩, ?_⟩
        have hbs := hbq.size
        rw [HBE.out] at hbs ⊢
        first
          | exact bl_grown (bl_alloc_ge (bl_call hbq.drew hb3 hbs) _ (Nat.le_trans hbs hb3.size)) hgrow (hown.alloc _) hbs (by have := hb3.size; simp at this ⊢; omega)
          | exact bl_grown (bl_call (bl_alloc_ge hbq.drew _ hbs) hb3 (by simp; omega)) hgrow hown (by simp; omega) (by have := hb3.size; simp at this ⊢; omega)
    · have hl' : (if (!false && true) = true then l.dropLast else l) = l.dropLast := rfl
      rw [hl']
      obtain ⟨k, hk⟩ : ∃ k, l.length = k + 1 := ⟨l.length - 1, by
        cases l with
        | nil => simp at hemp
        | cons a t => simp⟩
      rw [HLK.out k hk]
      have hix : (l.length : Int) - 1 = k := by omega
      have hkc : k ≤ c := by omega
      have h' : Sl w 4 A ((l.take k).map rowM) := by rw [List.map_take]; exact h.take k
      have hlen : (l.take k).length = k := by rw [List.length_take]; omega
      obtain ⟨l', el'⟩ : ∃ l', l.take k = l' := ⟨_, rfl⟩
      rw [el'] at h' hlen ⊢
      have hlc : k ≤ l.length := by omega
      clear hk el'
      go_enter Tryz.func75, Tryz.ntmps75
      go_wp2_with (go_at_call 99; refine HLAST.out.mono ?_; rintro r w1 ⟨rfl, hb1⟩)
      have hsl := ((h'.alloc (.cells #[.string e.key, .string e.text, .bool e.act] 78)).call hb1).alloc (.cells #[.int .i64 el.day, .string el.key, .string el.text, .bool el.act] 129)
      have hbx := ((Blk.new w 78 #[.string e.key, .string e.text, .bool e.act]).call hb1).alloc (.cells #[.int .i64 el.day, .string el.key, .string el.text, .bool el.act] 129)
      have hbq := bl_alloc (bl_then (bl_alloc (Below.refl w.heap.size w) (.cells #[.string e.key, .string e.text, .bool e.act] 78)) hb1) (.cells #[.int .i64 el.day, .string el.key, .string el.text, .bool el.act] 129)
      clear HLAST hb1
      generalize w1.alloc (.cells #[.int .i64 el.day, .string el.key, .string el.text, .bool el.act] 129) = wq at *
      generalize hbe : w.heap.size = b at *
      have HBE := Lib.hid hbe
      clear hbe
      have HSL := Lib.hid hsl
      have HBX := Lib.hid hbx
      have hcl := fun W h => cloneM A l' c W h (by omega) hc (by omega)
      rw [hlen] at hcl
      have HCL := Lib.hid hcl
      clear hcl
      clear hsl hbx
      go_region_held3 (fun w' => w'.cell? ⟨b, 0, none⟩ = some (.string e.key) ∧ w'.cell? ⟨b, 1, none⟩ = some (.string e.text) ∧ w'.cell? ⟨b, 2, none⟩ = some (.bool e.act)) (first | exact Blk.get3 HBX.out.drew | exact Blk.get3 (HBX.out.drew.call hb3) | exact Blk.get3 (HBX.out.drew.alloc _) | exact Blk.get3 ((HBX.out.drew.call hb3).alloc _) | exact Blk.get3 ((HBX.out.drew.alloc _).call hb3) | exact Blk.get3 (blk_keepA (HBX.out.drew.call hb3) hown hgrow (by decide)) | exact Blk.get3 (blk_keepB ((HBX.out.drew.alloc _).call hb3) hown hgrow (by decide)))
        (first
          | (go_at_call 100; refine (HCL.out _ HSL.out.drew).mono ?_; rintro r w3 ⟨⟨v, rfl, hown⟩, hb3⟩)
          | (go_at_call 100; refine (HCL.out _ (HSL.out.drew.alloc _)).mono ?_; rintro r w3 ⟨⟨v, rfl, hown⟩, hb3⟩)
          | (refine step_append_lies _ (by rfl) _ _ 132 (by rfl) _ 129 i (.agg #[.int .i64 0, .string ⟨#[]⟩, .string ⟨#[]⟩, .bool false]) 4 48 Tryz.underlying132 HI.out HZ.out HS.out HB.out rfl (by omega) v k _ (by rfl) (hown.alloc _) ⟨w3.heap.size, 0, none⟩ 1 1 (rowM e) (by rfl) rfl (cells_new _ _ _) (oneM e) (by omega) (by simp only [maxLen]; omega) (by omega) (Nat.le_trans hb3.size (by simp)) _ rfl ?_; intro g cap w4 hown4 hgrow hat hlt4)
          | (refine step_append_lies _ (by rfl) _ _ 132 (by rfl) _ 129 i (.agg #[.int .i64 0, .string ⟨#[]⟩, .string ⟨#[]⟩, .bool false]) 4 48 Tryz.underlying132 HI.out HZ.out HS.out HB.out rfl (by omega) v k _ (by rfl) hown ⟨wq.heap.size, 0, none⟩ 1 1 (rowM e) (by rfl) rfl (builtM e wq w3 hb3) (oneM e) (by omega) (by simp only [maxLen]; omega) (by omega) hb3.size _ rfl ?_; intro g cap w4 hown4 hgrow hat hlt4))
      all_goals
        go_wp2_with fail
        go_ret
        obtain ⟨d1, d2, d3⟩ := with_done hown4 (rowM_len _) rfl (by omega) (by rw [List.length_map]; exact hlen)
        refine ⟨⟨some ⟨g, 0, none⟩, cap, by rw [List.length_append, hlen]; rfl, by rw [List.length_append, hlen]; exact d1, d2, by rw [List.map_append]; exact d3⟩, ?_⟩
        have hbs := hbq.size
        rw [HBE.out] at hbs ⊢
        first
          | exact bl_grown (bl_alloc_ge (bl_call hbq.drew hb3 hbs) _ (Nat.le_trans hbs hb3.size)) hgrow (hown.alloc _) hbs (by have := hb3.size; simp at this ⊢; omega)
          | exact bl_grown (bl_call (bl_alloc_ge hbq.drew _ hbs) hb3 (by simp; omega)) hgrow hown (by simp; omega) (by have := hb3.size; simp at this ⊢; omega)
  · rw [hemp] at hlast
    have HLAST := Lib.hid hlast
    clear hlast
    have hl' : (if (!true && el.day == e.day) = true then l.dropLast else l) = l := by simp
    rw [hl']
    go_enter Tryz.func75, Tryz.ntmps75
    go_wp2_with (go_at_call 99; refine HLAST.out.mono ?_; rintro r w1 ⟨rfl, hb1⟩)
    have hsl := ((h.alloc (.cells #[.string e.key, .string e.text, .bool e.act] 78)).call hb1).alloc (.cells #[.int .i64 el.day, .string el.key, .string el.text, .bool el.act] 129)
    have hbx := ((Blk.new w 78 #[.string e.key, .string e.text, .bool e.act]).call hb1).alloc (.cells #[.int .i64 el.day, .string el.key, .string el.text, .bool el.act] 129)
    have hbq := bl_alloc (bl_then (bl_alloc (Below.refl w.heap.size w) (.cells #[.string e.key, .string e.text, .bool e.act] 78)) hb1) (.cells #[.int .i64 el.day, .string el.key, .string el.text, .bool el.act] 129)
    clear HLAST hb1
    generalize w1.alloc (.cells #[.int .i64 el.day, .string el.key, .string el.text, .bool el.act] 129) = wq at *
    generalize hbe : w.heap.size = b at *
    have HBE := Lib.hid hbe
    clear hbe
    have HSL := Lib.hid hsl
    have HBX := Lib.hid hbx
    have HCL := Lib.hid (fun W h => cloneM A l c W h hl hc hn)
    clear hsl hbx
    go_region_held3 (fun w' => w'.cell? ⟨b, 0, none⟩ = some (.string e.key) ∧ w'.cell? ⟨b, 1, none⟩ = some (.string e.text) ∧ w'.cell? ⟨b, 2, none⟩ = some (.bool e.act)) (first | exact Blk.get3 HBX.out.drew | exact Blk.get3 (HBX.out.drew.call hb3) | exact Blk.get3 (HBX.out.drew.alloc _) | exact Blk.get3 ((HBX.out.drew.call hb3).alloc _) | exact Blk.get3 ((HBX.out.drew.alloc _).call hb3) | exact Blk.get3 (blk_keepA (HBX.out.drew.call hb3) hown hgrow (by decide)) | exact Blk.get3 (blk_keepB ((HBX.out.drew.alloc _).call hb3) hown hgrow (by decide)))
      (first
        | (go_at_call 100; refine (HCL.out _ HSL.out.drew).mono ?_; rintro r w3 ⟨⟨v, rfl, hown⟩, hb3⟩)
        | (go_at_call 100; refine (HCL.out _ (HSL.out.drew.alloc _)).mono ?_; rintro r w3 ⟨⟨v, rfl, hown⟩, hb3⟩)
        | (refine step_append_lies _ (by rfl) _ _ 132 (by rfl) _ 129 i (.agg #[.int .i64 0, .string ⟨#[]⟩, .string ⟨#[]⟩, .bool false]) 4 48 Tryz.underlying132 HI.out HZ.out HS.out HB.out rfl (by omega) v l.length _ (by rfl) (hown.alloc _) ⟨w3.heap.size, 0, none⟩ 1 1 (rowM e) (by rfl) rfl (cells_new _ _ _) (oneM e) (by omega) (by simp only [maxLen]; omega) (by omega) (Nat.le_trans hb3.size (by simp)) _ rfl ?_; intro g cap w4 hown4 hgrow hat hlt4)
        | (refine step_append_lies _ (by rfl) _ _ 132 (by rfl) _ 129 i (.agg #[.int .i64 0, .string ⟨#[]⟩, .string ⟨#[]⟩, .bool false]) 4 48 Tryz.underlying132 HI.out HZ.out HS.out HB.out rfl (by omega) v l.length _ (by rfl) hown ⟨wq.heap.size, 0, none⟩ 1 1 (rowM e) (by rfl) rfl (builtM e wq w3 hb3) (oneM e) (by omega) (by simp only [maxLen]; omega) (by omega) hb3.size _ rfl ?_; intro g cap w4 hown4 hgrow hat hlt4))
    all_goals
      go_wp2_with fail
      go_ret
      obtain ⟨d1, d2, d3⟩ := with_done hown4 (rowM_len _) rfl (by omega) (by rw [List.length_map])
      refine ⟨⟨some ⟨g, 0, none⟩, cap, by rw [List.length_append]; rfl, by rw [List.length_append]; exact d1, d2, by rw [List.map_append]; exact d3⟩, ?_⟩
      have hbs := hbq.size
      rw [HBE.out] at hbs ⊢
      first
        | exact bl_grown (bl_alloc_ge (bl_call hbq.drew hb3 hbs) _ (Nat.le_trans hbs hb3.size)) hgrow (hown.alloc _) hbs (by have := hb3.size; simp at this ⊢; omega)
        | exact bl_grown (bl_call (bl_alloc_ge hbq.drew _ hbs) hb3 (by simp; omega)) hgrow hown (by simp; omega) (by have := hb3.size; simp at this ⊢; omega)
end Go.Proofs.YtongoicadcmfaaaGreatDoor.V
