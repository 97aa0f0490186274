/- giroref05: Luhn, Mod97, pair. -/
import Derived.Test.YtongoicadcmfaaaGreatDoorVMay
import Derived.Laws.BytesArg
set_option linter.unusedSimpArgs false
set_option linter.unusedVariables false
namespace Go.Proofs.YtongoicadcmfaaaGreatDoor.V
open Go.RowKit

theorem own_form {w : World} {base : Nat} {e : TypeId} {v : Value} {n : Nat} {xs : List Value} (h : w.ownsRow base e 1 v n xs) :
    ∃ A cap, v = .slice A n cap ∧ n ≤ cap ∧ cap ≤ 9223372036854775807 ∧ (0 < n → ∃ g, A = some ⟨g, 0, none⟩ ∧ ∀ j u, xs[j]? = some u → w.cell? ⟨g, j, none⟩ = some u) := by
  rcases h.2 with ⟨rfl, rfl⟩ | ⟨g, cap, cur, rfl, hb, hg, hn, hc, _⟩
  · exact ⟨none, 0, rfl, Nat.le_refl _, by omega, fun h => absurd h (by omega)⟩
  · refine ⟨_, cap, rfl, hn, by unfold maxLen at hc; omega, fun _ => ⟨g, rfl, fun j u hj => ?_⟩⟩
    have := h.cells (g := g) rfl j u hj
    unfold Addr.add at this
    split at this <;> simp_all

set_option maxRecDepth 20000 in
set_option maxHeartbeats 2000000 in
theorem luhn131 (s : ByteArray) (hs : s.size ≤ 100) (ha : aln s) (w : World) :
    Calls Tryz.prog 131 #[.string s] w fun e w' => e = .returned (.int .i64 (luhnD (exN s.data.toList))) ∧ Below w.heap.size w w' := by
  have HE := Lib.hid (fun w => expand138 s hs ha w)
  have hlen := exU_len _ (aln_all s ha)
  rw [← exN_len, show s.data.toList.length = s.size by simp] at hlen
  have HBD := Lib.hid (dsL_bd _ (exU_dig _ (aln_all s ha)))
  obtain ⟨ds, eds⟩ : ∃ ds, exN s.data.toList = ds := ⟨_, rfl⟩
  have HDS := Lib.hid eds
  have HB' : Hid (∀ d ∈ ds, 0 ≤ d ∧ d ≤ 9) := Lib.hid (by rw [← eds]; exact HBD.out)
  have hl2 : ds.length ≤ 200 := by rw [← eds]; omega
  have HSB := Lib.hid (lsum_bd ds HB'.out)
  rw [eds]
  obtain ⟨N, hN⟩ : ∃ N, ds.length = N := ⟨_, rfl⟩
  rw [hN] at hl2
  have HN := Lib.hid hN
  clear eds hlen ha HBD hN
  go_enter Tryz.func131, Tryz.ntmps131
  go_wp2_with (go_at_call 138; refine (HE.out _).mono ?_; rw [HDS.out]; rintro e w1 ⟨⟨v, rfl, hown⟩, hbl⟩)
  rw [HN.out] at hown
  obtain ⟨A, cap, rfl, _, _, hcells⟩ := own_form hown
  have HC := Lib.hid hcells
  clear hcells hown
  go_wp2_with fail
  go_loop [4, 5] (fun v4 v5 => ∃ i : Nat, i ≤ N ∧ v5 = .int .i64 i ∧ v4 = .int .i64 (lsum ds i)) (fun _ v5 => N - (intOf v5).toNat)
  case atStart => exact ⟨0, Nat.zero_le _, rfl, rfl⟩
  case round =>
    obtain ⟨i, hi, rfl, rfl⟩ := hrel
    by_cases hlt : i < N
    · obtain ⟨q1, q2⟩ := HSB.out i
      have hsu : lsum ds (i + 1) = lsum ds i + lstep i (ds.getD (N - 1 - i) 0) := by rw [← HN.out]; rfl
      obtain ⟨k, hk⟩ : ∃ k, k = N - 1 - i := ⟨_, rfl⟩
      have hkl : k < N := by omega
      have hkl' : k < ds.length := by rw [HN.out]; exact hkl
      have hget : ds.getD k 0 = ds[k] := by rw [List.getD_eq_getElem?_getD, List.getElem?_eq_getElem hkl']; rfl
      have hbd := HB'.out _ (List.getElem_mem hkl')
      obtain ⟨g, rfl, hc⟩ := HC.out (by omega)
      have hcell := hc k (.int .i64 ds[k]) (by simp [ints, List.getElem?_eq_getElem hkl'])
      rw [← hk, hget] at hsu
      obtain ⟨c, ec⟩ : ∃ c, ds[k] = c := ⟨_, rfl⟩
      rw [ec] at hbd hsu hcell
      obtain ⟨b1, b2⟩ := hbd
      have hix : (N : Int) - 1 - i = k := by omega
      have HSU := Lib.hid hsu
      clear hi hsu hget hk hc ec hkl'
      generalize lsum ds i = S at *
      by_cases hp : i % 2 = 0
      · go_wp2_with fail
        refine ⟨⟨i + 1, hlt, by go_num, ?_⟩, by simp [intOf]; omega⟩
        rw [HSU.out]
        unfold lstep
        rw [if_pos hp]
        congr 1; omega
      · go_wp2_with fail
        refine ⟨⟨i + 1, hlt, by go_num, ?_⟩, by simp [intOf]; omega⟩
        rw [HSU.out]
        unfold lstep
        rw [if_neg hp]
        congr 1; omega
    · obtain rfl : N = i := by omega
      obtain ⟨q1, q2⟩ := HSB.out N
      have hlu : luhnD ds = (10 - lsum ds N % 10) % 10 := by rw [← HN.out]; rfl
      have HLU := Lib.hid hlu
      clear hlu hi
      generalize lsum ds N = S at *
      go_wp2_with fail
      go_ret
      rw [HLU.out, show (10 - S % 10) % 10 = -(S % 10) % 10 by omega]
      exact ⟨rfl, hbl⟩

set_option maxRecDepth 20000 in
set_option maxHeartbeats 2000000 in
theorem mod133 (s : ByteArray) (hs : s.size ≤ 100) (ha : aln s) (w : World) :
    Calls Tryz.prog 133 #[.string s] w fun e w' => e = .returned (.int .i64 (m97 (exN s.data.toList))) ∧ Below w.heap.size w w' := by
  have HE := Lib.hid (fun w => expand138 s hs ha w)
  have hlen := exU_len _ (aln_all s ha)
  rw [← exN_len, show s.data.toList.length = s.size by simp] at hlen
  have HBD := Lib.hid (dsL_bd _ (exU_dig _ (aln_all s ha)))
  obtain ⟨ds, eds⟩ : ∃ ds, exN s.data.toList = ds := ⟨_, rfl⟩
  have HDS := Lib.hid eds
  have HB' : Hid (∀ d ∈ ds, 0 ≤ d ∧ d ≤ 9) := Lib.hid (by rw [← eds]; exact HBD.out)
  have hl2 : ds.length ≤ 200 := by rw [← eds]; omega
  rw [eds]
  obtain ⟨N, hN⟩ : ∃ N, ds.length = N := ⟨_, rfl⟩
  rw [hN] at hl2
  have HN := Lib.hid hN
  clear eds hlen ha HBD hN
  go_enter Tryz.func133, Tryz.ntmps133
  go_wp2_with (go_at_call 138; refine (HE.out _).mono ?_; rw [HDS.out]; rintro e w1 ⟨⟨v, rfl, hown⟩, hbl⟩)
  rw [HN.out] at hown
  obtain ⟨A, cap, rfl, _, _, hcells⟩ := own_form hown
  have HC := Lib.hid hcells
  clear hcells hown
  go_wp2_with fail
  go_loop [4, 5] (fun v4 v5 => ∃ i : Nat, i ≤ N ∧ v5 = .int .i64 i ∧ v4 = .int .i64 (m97 (ds.take i))) (fun _ v5 => N - (intOf v5).toNat)
  case atStart => exact ⟨0, Nat.zero_le _, rfl, rfl⟩
  case round =>
    obtain ⟨i, hi, rfl, rfl⟩ := hrel
    by_cases hlt : i < N
    · obtain ⟨q1, q2⟩ := m97_bd (ds.take i)
      have hkl' : i < ds.length := by rw [HN.out]; exact hlt
      have hsn : m97 (ds.take (i + 1)) = (10 * m97 (ds.take i) + ds[i]) % 97 := by
        rw [List.take_add_one, List.getElem?_eq_getElem hkl']; exact m97_snoc _ _
      have hbd := HB'.out _ (List.getElem_mem hkl')
      obtain ⟨g, rfl, hc⟩ := HC.out (by omega)
      have hcell := hc i (.int .i64 ds[i]) (by simp [ints, List.getElem?_eq_getElem hkl'])
      obtain ⟨c, ec⟩ : ∃ c, ds[i] = c := ⟨_, rfl⟩
      rw [ec] at hbd hsn hcell
      obtain ⟨b1, b2⟩ := hbd
      have HSN := Lib.hid hsn
      clear hi hsn hc ec hkl'
      generalize m97 (ds.take i) = r at *
      go_wp2_with fail
      refine ⟨⟨i + 1, hlt, by go_num, by rw [HSN.out]⟩, by simp [intOf]; omega⟩
    · obtain rfl : N = i := by omega
      have hfull : ds.take N = ds := by rw [← HN.out, List.take_length]
      rw [hfull]
      go_wp2_with fail
      go_ret
      exact ⟨rfl, hbl⟩

theorem conv2 (w : World) (a b : Int) :
    (convert 223 9 (.slice (some ⟨w.heap.size, 0, none⟩) 2 2)).run Tryz.prog (w.alloc (.cells #[.int .u8 a, .int .u8 b] 5)) = .ok (.string (strOfNums [a, b])) (w.alloc (.cells #[.int .u8 a, .int .u8 b] 5)) := by
  refine run_convert_bytes_arg _ 223 5 Tryz.underlying223 Tryz.underlying5 w.heap.size 0 2 2 [a, b] rfl ?_ 9 Tryz.underlying9
  intro i hi
  have h := Blk.get2 (Blk.new w 5 #[.int .u8 a, .int .u8 b])
  match i, hi with
  | 0, _ => exact h.1
  | 1, _ => exact h.2

set_option maxRecDepth 20000 in
set_option maxHeartbeats 2000000 in
theorem pair132 (n : Int) (h0 : 0 ≤ n) (h1 : n < 100) (w : World) :
    Calls Tryz.prog 132 #[.int .i64 n] w fun e w' => e = .returned (.string (pairB n)) ∧ Below w.heap.size w w' := by
  have hc := conv2 w (48 + n / 10) (48 + n % 10)
  have hp : strOfNums [48 + n / 10, 48 + n % 10] = pairB n := by
    have e1 : (48 + n / 10).toNat = 48 + n.toNat / 10 := by omega
    have e2 : (48 + n % 10).toNat = 48 + n.toNat % 10 := by omega
    simp [strOfNums, pairB, e1, e2]
  rw [hp] at hc
  clear hp
  go_enter Tryz.func132, Tryz.ntmps132
  go_wp2_with fail
  go_ret
  exact ⟨rfl, bl_alloc (Below.refl _ _) _⟩
end Go.Proofs.YtongoicadcmfaaaGreatDoor.V
