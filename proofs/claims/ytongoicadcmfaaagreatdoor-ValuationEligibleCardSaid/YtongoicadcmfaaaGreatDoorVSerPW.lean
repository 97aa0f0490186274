/- refdata.series at one element type. (Printed by gen_series.py.) -/
import Derived.Test.YtongoicadcmfaaaGreatDoorVSerP
namespace Go.Proofs.YtongoicadcmfaaaGreatDoor.V
open Go.RowKit

theorem oneP (e : E) : ∀ u ∈ rowP e, u.oneCell' = true := by
  intro u hu
  simp only [rowP, List.mem_cons, List.mem_nil_iff, or_false] at hu
  rcases hu with rfl | rfl <;> rfl
theorem builtP (e : E) (wq w3 : World) (hb : Below (wq.drew.alloc (.cells (rowP e).toArray 177)).heap.size (wq.drew.alloc (.cells (rowP e).toArray 177)) w3) : ∀ j u, (rowP e)[j]? = some u → w3.cell? ((⟨wq.heap.size, 0, none⟩ : Addr).add j) = some u := by
  intro j u hj
  have h := ((Blk.new wq.drew 177 (rowP e).toArray).call hb).cell j
  have e1 : (⟨wq.heap.size, 0, none⟩ : Addr).add j = ⟨wq.heap.size, j, none⟩ := by unfold Addr.add; split <;> simp_all
  rw [e1]
  refine h.trans ?_
  simpa using hj

set_option maxRecDepth 20000 in
set_option maxHeartbeats 4000000 in
theorem withP (A : Option Addr) (l : List E) (c : Nat) (e : E) (w : World) (h : Sl w 2 A (l.map rowP)) (hl : l.length ≤ c) (hc : c ≤ 9223372036854775807) (hn : l.length ≤ 1000000) :
    Calls Tryz.prog 103 #[.slice A l.length c, .int .i64 e.day, .int .i64 e.n] w fun r w' => (∃ A' c', r = .returned (.slice A' (withE l e).length c') ∧ (withE l e).length ≤ c' ∧ c' ≤ 9223372036854775807 ∧ Sl w' 2 A' ((withE l e).map rowP)) ∧ Below w.heap.size w w' := by
  obtain ⟨i, hi, hz, hsize, hby⟩ := info_parts eiP.info
  have HI := Lib.hid hi
  have HZ := Lib.hid hz
  have HS := Lib.hid hsize
  have HB := Lib.hid hby
  clear hi hz hsize hby
  have hlast := lastP A l c _ h hl hc hn
  unfold aggP at hlast
  have hlk : ∀ k, l.length = k + 1 → l.dropLast = l.take k := fun k hk => by rw [List.dropLast_eq_take, hk]; rfl
  have HLK := Lib.hid hlk
  clear hlk
  unfold withE
  generalize lastE l = el at *
  cases hemp : l.isEmpty
  · rw [hemp] at hlast
    have HLAST := Lib.hid hlast
    clear hlast
    cases hd : (el.day == e.day)
    · have hl' : (if (!false && false) = true then l.dropLast else l) = l := rfl
      rw [hl']
      have HCL := Lib.hid (fun W h => cloneP A l c W h hl hc hn)
      have HSL := Lib.hid h
      go_enter Tryz.func103, Tryz.ntmps103
      go_wp2_with (first
        | (go_at_call 118; refine HLAST.out.mono ?_; rintro r w1 ⟨rfl, hb1⟩)
        | (go_at_call 119; refine (HCL.out _ ((HSL.out.call hb1).alloc (.cells #[.int .i64 el.day, .int .i64 el.n] 177))).mono ?_; rintro r w3 ⟨⟨v, rfl, hown⟩, hb3⟩)
        | (at_builtin; refine ap eiP rfl _ _ rfl _ v l.length _ rfl hown 1 1 (rowP e) rfl rfl (oneP e) (by simp only [maxLen]; omega) (by omega) hb3.size ?_; intro v' w4 hown4 hgrow hat))
      obtain ⟨A', cap, rfl, d1, d2, d3⟩ := with_done' hown4 (rowP_len _) rfl (by omega) (by rw [List.length_map])
      go_ret
      refine ⟨⟨A', cap, by rw [List.length_append]; rfl, by rw [List.length_append]; exact d1, d2, by rw [List.map_append]; exact d3⟩, ?_⟩
      have hbq : Below w.heap.size w w3 := bl_then (bl_alloc hb1 (.cells #[.int .i64 el.day, .int .i64 el.n] 177)) hb3
      have hz1 := hb1.size
      exact bl_grown hbq hgrow hown (by simp; omega) hbq.size
    · have hl' : (if (!false && true) = true then l.dropLast else l) = l.dropLast := rfl
      rw [hl']
      obtain ⟨k, hk⟩ : ∃ k, l.length = k + 1 := ⟨l.length - 1, by
        cases l with
        | nil => simp at hemp
        | cons a t => simp⟩
      rw [HLK.out k hk]
      have hix : (l.length : Int) - 1 = k := by omega
      have hkc : k ≤ c := by omega
      have h' : Sl w 2 A ((l.take k).map rowP) := by rw [List.map_take]; exact h.take k
      have hlen : (l.take k).length = k := by rw [List.length_take]; omega
      obtain ⟨l', el'⟩ : ∃ l', l.take k = l' := ⟨_, rfl⟩
      rw [el'] at h' hlen ⊢
      have hlc : k ≤ l.length := by omega
      clear hk el'
      have hcl := fun W h => cloneP A l' c W h (by omega) hc (by omega)
      rw [hlen] at hcl
      have HCL := Lib.hid hcl
      clear hcl
      have HSL := Lib.hid h'
      go_enter Tryz.func103, Tryz.ntmps103
      go_wp2_with (first
        | (go_at_call 118; refine HLAST.out.mono ?_; rintro r w1 ⟨rfl, hb1⟩)
        | (go_at_call 119; refine (HCL.out _ ((HSL.out.call hb1).alloc (.cells #[.int .i64 el.day, .int .i64 el.n] 177))).mono ?_; rintro r w3 ⟨⟨v, rfl, hown⟩, hb3⟩)
        | (at_builtin; refine ap eiP rfl _ _ rfl _ v k _ rfl hown 1 1 (rowP e) rfl rfl (oneP e) (by simp only [maxLen]; omega) (by omega) hb3.size ?_; intro v' w4 hown4 hgrow hat))
      obtain ⟨A', cap, rfl, d1, d2, d3⟩ := with_done' hown4 (rowP_len _) rfl (by omega) (by rw [List.length_map]; exact hlen)
      go_ret
      refine ⟨⟨A', cap, by rw [List.length_append, hlen]; rfl, by rw [List.length_append, hlen]; exact d1, d2, by rw [List.map_append]; exact d3⟩, ?_⟩
      have hbq : Below w.heap.size w w3 := bl_then (bl_alloc hb1 (.cells #[.int .i64 el.day, .int .i64 el.n] 177)) hb3
      have hz1 := hb1.size
      exact bl_grown hbq hgrow hown (by simp; omega) hbq.size
  · rw [hemp] at hlast
    have HLAST := Lib.hid hlast
    clear hlast
    have hl' : (if (!true && el.day == e.day) = true then l.dropLast else l) = l := by simp
    rw [hl']
    have HCL := Lib.hid (fun W h => cloneP A l c W h hl hc hn)
    have HSL := Lib.hid h
    go_enter Tryz.func103, Tryz.ntmps103
    go_wp2_with (first
      | (go_at_call 118; refine HLAST.out.mono ?_; rintro r w1 ⟨rfl, hb1⟩)
      | (go_at_call 119; refine (HCL.out _ ((HSL.out.call hb1).alloc (.cells #[.int .i64 el.day, .int .i64 el.n] 177))).mono ?_; rintro r w3 ⟨⟨v, rfl, hown⟩, hb3⟩)
      | (at_builtin; refine ap eiP rfl _ _ rfl _ v l.length _ rfl hown 1 1 (rowP e) rfl rfl (oneP e) (by simp only [maxLen]; omega) (by omega) hb3.size ?_; intro v' w4 hown4 hgrow hat))
    obtain ⟨A', cap, rfl, d1, d2, d3⟩ := with_done' hown4 (rowP_len _) rfl (by omega) (by rw [List.length_map])
    go_ret
    refine ⟨⟨A', cap, by rw [List.length_append]; rfl, by rw [List.length_append]; exact d1, d2, by rw [List.map_append]; exact d3⟩, ?_⟩
    have hbq : Below w.heap.size w w3 := bl_then (bl_alloc hb1 (.cells #[.int .i64 el.day, .int .i64 el.n] 177)) hb3
    have hz1 := hb1.size
    exact bl_grown hbq hgrow hown (by simp; omega) hbq.size
end Go.Proofs.YtongoicadcmfaaaGreatDoor.V
