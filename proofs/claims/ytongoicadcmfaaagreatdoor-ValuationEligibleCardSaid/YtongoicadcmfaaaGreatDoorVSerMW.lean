/- refdata.series at one element type. (Printed by gen_series.py.) -/
import Derived.Test.YtongoicadcmfaaaGreatDoorVSerM
namespace Go.Proofs.YtongoicadcmfaaaGreatDoor.V
open Go.RowKit

theorem oneM (e : E) : ∀ u ∈ rowM e, u.oneCell' = true := by
  intro u hu
  simp only [rowM, List.mem_cons, List.mem_nil_iff, or_false] at hu
  rcases hu with rfl | rfl | rfl | rfl <;> rfl
theorem builtM (e : E) (wq w3 : World) (hb : Below (wq.drew.alloc (.cells (rowM e).toArray 129)).heap.size (wq.drew.alloc (.cells (rowM e).toArray 129)) w3) : ∀ j u, (rowM e)[j]? = some u → w3.cell? ((⟨wq.heap.size, 0, none⟩ : Addr).add j) = some u := by
  intro j u hj
  have h := ((Blk.new wq.drew 129 (rowM e).toArray).call hb).cell j
  have e1 : (⟨wq.heap.size, 0, none⟩ : Addr).add j = ⟨wq.heap.size, j, none⟩ := by unfold Addr.add; split <;> simp_all
  rw [e1]
  refine h.trans ?_
  simpa using hj

set_option maxRecDepth 20000 in
set_option maxHeartbeats 4000000 in
theorem withM (A : Option Addr) (l : List E) (c : Nat) (e : E) (w : World) (h : Sl w 4 A (l.map rowM)) (hl : l.length ≤ c) (hc : c ≤ 9223372036854775807) (hn : l.length ≤ 1000000) :
    Calls Tryz.prog 75 #[.slice A l.length c, .int .i64 e.day, .agg #[.string e.key, .string e.text, .bool e.act]] w fun r w' => (∃ A' c', r = .returned (.slice A' (withE l e).length c') ∧ (withE l e).length ≤ c' ∧ c' ≤ 9223372036854775807 ∧ Sl w' 4 A' ((withE l e).map rowM)) ∧ Below w.heap.size w w' := by
  obtain ⟨i, hi, hz, hsize, hby⟩ := info_parts eiM.info
  have HI := Lib.hid hi
  have HZ := Lib.hid hz
  have HS := Lib.hid hsize
  have HB := Lib.hid hby
  clear hi hz hsize hby
  have hlast := lastM A l c _ (h.alloc (.cells #[.string e.key, .string e.text, .bool e.act] 78)) hl hc hn
  unfold aggM at hlast
  have hlk : ∀ k, l.length = k + 1 → l.dropLast = l.take k := fun k hk => by rw [List.dropLast_eq_take, hk]; rfl
  have HLK := Lib.hid hlk
  clear hlk
  unfold withE
  generalize lastE l = el at *
  cases hemp : l.isEmpty
  · rw [hemp] at hlast
    have HLAST := Lib.hid hlast
    clear hlast
    cases hd : (el.day == e.day)
    · have hl' : (if (!false && false) = true then l.dropLast else l) = l := rfl
      rw [hl']
      go_enter Tryz.func75, Tryz.ntmps75
      go_wp2_with (go_at_call 99; refine HLAST.out.mono ?_; rintro r w1 ⟨rfl, hb1⟩)
      have hsl := ((h.alloc (.cells #[.string e.key, .string e.text, .bool e.act] 78)).call hb1).alloc (.cells #[.int .i64 el.day, .string el.key, .string el.text, .bool el.act] 129)
      have hbx := ((Blk.new w 78 #[.string e.key, .string e.text, .bool e.act]).call hb1).alloc (.cells #[.int .i64 el.day, .string el.key, .string el.text, .bool el.act] 129)
      have hbq := bl_alloc (bl_then (bl_alloc (Below.refl w.heap.size w) (.cells #[.string e.key, .string e.text, .bool e.act] 78)) hb1) (.cells #[.int .i64 el.day, .string el.key, .string el.text, .bool el.act] 129)
      clear HLAST hb1
      generalize w1.alloc (.cells #[.int .i64 el.day, .string el.key, .string el.text, .bool el.act] 129) = wq at *
      generalize hbe : w.heap.size = b at *
      have HBE := Lib.hid hbe
      clear hbe
      have HSL := Lib.hid hsl
      have HBX := Lib.hid hbx
      have HCL := Lib.hid (fun W h => cloneM A l c W h hl hc hn)
      clear hsl hbx
      go_region_held3 (fun w' => w'.cell? ⟨b, 0, none⟩ = some (.string e.key) ∧ w'.cell? ⟨b, 1, none⟩ = some (.string e.text) ∧ w'.cell? ⟨b, 2, none⟩ = some (.bool e.act)) (first | exact Blk.get3 HBX.out.drew | exact Blk.get3 (HBX.out.drew.call hb3) | exact Blk.get3 (HBX.out.drew.alloc _) | exact Blk.get3 ((HBX.out.drew.call hb3).alloc _) | exact Blk.get3 ((HBX.out.drew.alloc _).call hb3) | exact Blk.get3 (blk_keepA (HBX.out.drew.call hb3) hown hgrow (by decide)) | exact Blk.get3 (blk_keepB ((HBX.out.drew.alloc _).call hb3) hown hgrow (by decide)))
        (first
          | (go_at_call 100; refine (HCL.out _ HSL.out.drew).mono ?_; rintro r w3 ⟨⟨v, rfl, hown⟩, hb3⟩)
          | (go_at_call 100; refine (HCL.out _ (HSL.out.drew.alloc _)).mono ?_; rintro r w3 ⟨⟨v, rfl, hown⟩, hb3⟩)
          | (refine step_append_lies _ (by rfl) _ _ 132 (by rfl) _ 129 i (.agg #[.int .i64 0, .string ⟨#[]⟩, .string ⟨#[]⟩, .bool false]) 4 48 Tryz.underlying132 HI.out HZ.out HS.out HB.out rfl (by omega) v l.length _ (by rfl) (hown.alloc _) ⟨w3.heap.size, 0, none⟩ 1 1 (rowM e) (by rfl) rfl (cells_new _ _ _) (oneM e) (by omega) (by simp only [maxLen]; omega) (by omega) (Nat.le_trans hb3.size (by simp)) _ rfl ?_; intro g cap w4 hown4 hgrow hat hlt4)
          | (refine step_append_lies _ (by rfl) _ _ 132 (by rfl) _ 129 i (.agg #[.int .i64 0, .string ⟨#[]⟩, .string ⟨#[]⟩, .bool false]) 4 48 Tryz.underlying132 HI.out HZ.out HS.out HB.out rfl (by omega) v l.length _ (by rfl) hown ⟨wq.heap.size, 0, none⟩ 1 1 (rowM e) (by rfl) rfl (builtM e wq w3 hb3) (oneM e) (by omega) (by simp only [maxLen]; omega) (by omega) hb3.size _ rfl ?_; intro g cap w4 hown4 hgrow hat hlt4))
      all_goals
        go_wp2_with fail
        go_ret
        obtain ⟨d1, d2, d3⟩ := with_done hown4 (rowM_len _) rfl (by omega) (by rw [List.length_map])
        refine ⟨⟨some ⟨g, 0, none⟩, cap, by rw [List.length_append]; rfl, by rw [List.length_append]; exact d1, d2, by rw [List.map_append]; exact d3⟩, ?_⟩
        have hbs := hbq.size
        rw [HBE.out] at hbs ⊢
        first
          | exact bl_grown (bl_alloc_ge (bl_call hbq.drew hb3 hbs) _ (Nat.le_trans hbs hb3.size)) hgrow (hown.alloc _) hbs (by have := hb3.size; simp at this ⊢; omega)
          | exact bl_grown (bl_call (bl_alloc_ge hbq.drew _ hbs) hb3 (by simp; omega)) hgrow hown (by simp; omega) (by have := hb3.size; simp at this ⊢; omega)
    · have hl' : (if (!false && true) = true then l.dropLast else l) = l.dropLast := rfl
      rw [hl']
      obtain ⟨k, hk⟩ : ∃ k, l.length = k + 1 := ⟨l.length - 1, by
        cases l with
        | nil => simp at hemp
        | cons a t => simp⟩
      rw [HLK.out k hk]
      have hix : (l.length : Int) - 1 = k := by omega
      have hkc : k ≤ c := by omega
      have h' : Sl w 4 A ((l.take k).map rowM) := by rw [List.map_take]; exact h.take k
      have hlen : (l.take k).length = k := by rw [List.length_take]; omega
      obtain ⟨l', el'⟩ : ∃ l', l.take k = l' := ⟨_, rfl⟩
      rw [el'] at h' hlen ⊢
      have hlc : k ≤ l.length := by omega
      clear hk el'
      go_enter Tryz.func75, Tryz.ntmps75
      go_wp2_with (go_at_call 99; refine HLAST.out.mono ?_; rintro r w1 ⟨rfl, hb1⟩)
      have hsl := ((h'.alloc (.cells #[.string e.key, .string e.text, .bool e.act] 78)).call hb1).alloc (.cells #[.int .i64 el.day, .string el.key, .string el.text, .bool el.act] 129)
      have hbx := ((Blk.new w 78 #[.string e.key, .string e.text, .bool e.act]).call hb1).alloc (.cells #[.int .i64 el.day, .string el.key, .string el.text, .bool el.act] 129)
      have hbq := bl_alloc (bl_then (bl_alloc (Below.refl w.heap.size w) (.cells #[.string e.key, .string e.text, .bool e.act] 78)) hb1) (.cells #[.int .i64 el.day, .string el.key, .string el.text, .bool el.act] 129)
      clear HLAST hb1
      generalize w1.alloc (.cells #[.int .i64 el.day, .string el.key, .string el.text, .bool el.act] 129) = wq at *
      generalize hbe : w.heap.size = b at *
      have HBE := Lib.hid hbe
      clear hbe
      have HSL := Lib.hid hsl
      have HBX := Lib.hid hbx
      have hcl := fun W h => cloneM A l' c W h (by omega) hc (by omega)
      rw [hlen] at hcl
      have HCL := Lib.hid hcl
      clear hcl
      clear hsl hbx
      go_region_held3 (fun w' => w'.cell? ⟨b, 0, none⟩ = some (.string e.key) ∧ w'.cell? ⟨b, 1, none⟩ = some (.string e.text) ∧ w'.cell? ⟨b, 2, none⟩ = some (.bool e.act)) (first | exact Blk.get3 HBX.out.drew | exact Blk.get3 (HBX.out.drew.call hb3) | exact Blk.get3 (HBX.out.drew.alloc _) | exact Blk.get3 ((HBX.out.drew.call hb3).alloc _) | exact Blk.get3 ((HBX.out.drew.alloc _).call hb3) | exact Blk.get3 (blk_keepA (HBX.out.drew.call hb3) hown hgrow (by decide)) | exact Blk.get3 (blk_keepB ((HBX.out.drew.alloc _).call hb3) hown hgrow (by decide)))
        (first
          | (go_at_call 100; refine (HCL.out _ HSL.out.drew).mono ?_; rintro r w3 ⟨⟨v, rfl, hown⟩, hb3⟩)
          | (go_at_call 100; refine (HCL.out _ (HSL.out.drew.alloc _)).mono ?_; rintro r w3 ⟨⟨v, rfl, hown⟩, hb3⟩)
          | (refine step_append_lies _ (by rfl) _ _ 132 (by rfl) _ 129 i (.agg #[.int .i64 0, .string ⟨#[]⟩, .string ⟨#[]⟩, .bool false]) 4 48 Tryz.underlying132 HI.out HZ.out HS.out HB.out rfl (by omega) v k _ (by rfl) (hown.alloc _) ⟨w3.heap.size, 0, none⟩ 1 1 (rowM e) (by rfl) rfl (cells_new _ _ _) (oneM e) (by omega) (by simp only [maxLen]; omega) (by omega) (Nat.le_trans hb3.size (by simp)) _ rfl ?_; intro g cap w4 hown4 hgrow hat hlt4)
          | (refine step_append_lies _ (by rfl) _ _ 132 (by rfl) _ 129 i (.agg #[.int .i64 0, .string ⟨#[]⟩, .string ⟨#[]⟩, .bool false]) 4 48 Tryz.underlying132 HI.out HZ.out HS.out HB.out rfl (by omega) v k _ (by rfl) hown ⟨wq.heap.size, 0, none⟩ 1 1 (rowM e) (by rfl) rfl (builtM e wq w3 hb3) (oneM e) (by omega) (by simp only [maxLen]; omega) (by omega) hb3.size _ rfl ?_; intro g cap w4 hown4 hgrow hat hlt4))
      all_goals
        go_wp2_with fail
        go_ret
        obtain ⟨d1, d2, d3⟩ := with_done hown4 (rowM_len _) rfl (by omega) (by rw [List.length_map]; exact hlen)
        refine ⟨⟨some ⟨g, 0, none⟩, cap, by rw [List.length_append, hlen]; rfl, by rw [List.length_append, hlen]; exact d1, d2, by rw [List.map_append]; exact d3⟩, ?_⟩
        have hbs := hbq.size
        rw [HBE.out] at hbs ⊢
        first
          | exact bl_grown (bl_alloc_ge (bl_call hbq.drew hb3 hbs) _ (Nat.le_trans hbs hb3.size)) hgrow (hown.alloc _) hbs (by have := hb3.size; simp at this ⊢; omega)
          | exact bl_grown (bl_call (bl_alloc_ge hbq.drew _ hbs) hb3 (by simp; omega)) hgrow hown (by simp; omega) (by have := hb3.size; simp at this ⊢; omega)
  · rw [hemp] at hlast
    have HLAST := Lib.hid hlast
    clear hlast
    have hl' : (if (!true && el.day == e.day) = true then l.dropLast else l) = l := by simp
    rw [hl']
    go_enter Tryz.func75, Tryz.ntmps75
    go_wp2_with (go_at_call 99; refine HLAST.out.mono ?_; rintro r w1 ⟨rfl, hb1⟩)
    have hsl := ((h.alloc (.cells #[.string e.key, .string e.text, .bool e.act] 78)).call hb1).alloc (.cells #[.int .i64 el.day, .string el.key, .string el.text, .bool el.act] 129)
    have hbx := ((Blk.new w 78 #[.string e.key, .string e.text, .bool e.act]).call hb1).alloc (.cells #[.int .i64 el.day, .string el.key, .string el.text, .bool el.act] 129)
    have hbq := bl_alloc (bl_then (bl_alloc (Below.refl w.heap.size w) (.cells #[.string e.key, .string e.text, .bool e.act] 78)) hb1) (.cells #[.int .i64 el.day, .string el.key, .string el.text, .bool el.act] 129)
    clear HLAST hb1
    generalize w1.alloc (.cells #[.int .i64 el.day, .string el.key, .string el.text, .bool el.act] 129) = wq at *
    generalize hbe : w.heap.size = b at *
    have HBE := Lib.hid hbe
    clear hbe
    have HSL := Lib.hid hsl
    have HBX := Lib.hid hbx
    have HCL := Lib.hid (fun W h => cloneM A l c W h hl hc hn)
    clear hsl hbx
    go_region_held3 (fun w' => w'.cell? ⟨b, 0, none⟩ = some (.string e.key) ∧ w'.cell? ⟨b, 1, none⟩ = some (.string e.text) ∧ w'.cell? ⟨b, 2, none⟩ = some (.bool e.act)) (first | exact Blk.get3 HBX.out.drew | exact Blk.get3 (HBX.out.drew.call hb3) | exact Blk.get3 (HBX.out.drew.alloc _) | exact Blk.get3 ((HBX.out.drew.call hb3).alloc _) | exact Blk.get3 ((HBX.out.drew.alloc _).call hb3) | exact Blk.get3 (blk_keepA (HBX.out.drew.call hb3) hown hgrow (by decide)) | exact Blk.get3 (blk_keepB ((HBX.out.drew.alloc _).call hb3) hown hgrow (by decide)))
      (first
        | (go_at_call 100; refine (HCL.out _ HSL.out.drew).mono ?_; rintro r w3 ⟨⟨v, rfl, hown⟩, hb3⟩)
        | (go_at_call 100; refine (HCL.out _ (HSL.out.drew.alloc _)).mono ?_; rintro r w3 ⟨⟨v, rfl, hown⟩, hb3⟩)
        | (refine step_append_lies _ (by rfl) _ _ 132 (by rfl) _ 129 i (.agg #[.int .i64 0, .string ⟨#[]⟩, .string ⟨#[]⟩, .bool false]) 4 48 Tryz.underlying132 HI.out HZ.out HS.out HB.out rfl (by omega) v l.length _ (by rfl) (hown.alloc _) ⟨w3.heap.size, 0, none⟩ 1 1 (rowM e) (by rfl) rfl (cells_new _ _ _) (oneM e) (by omega) (by simp only [maxLen]; omega) (by omega) (Nat.le_trans hb3.size (by simp)) _ rfl ?_; intro g cap w4 hown4 hgrow hat hlt4)
        | (refine step_append_lies _ (by rfl) _ _ 132 (by rfl) _ 129 i (.agg #[.int .i64 0, .string ⟨#[]⟩, .string ⟨#[]⟩, .bool false]) 4 48 Tryz.underlying132 HI.out HZ.out HS.out HB.out rfl (by omega) v l.length _ (by rfl) hown ⟨wq.heap.size, 0, none⟩ 1 1 (rowM e) (by rfl) rfl (builtM e wq w3 hb3) (oneM e) (by omega) (by simp only [maxLen]; omega) (by omega) hb3.size _ rfl ?_; intro g cap w4 hown4 hgrow hat hlt4))
    all_goals
      go_wp2_with fail
      go_ret
      obtain ⟨d1, d2, d3⟩ := with_done hown4 (rowM_len _) rfl (by omega) (by rw [List.length_map])
      refine ⟨⟨some ⟨g, 0, none⟩, cap, by rw [List.length_append]; rfl, by rw [List.length_append]; exact d1, d2, by rw [List.map_append]; exact d3⟩, ?_⟩
      have hbs := hbq.size
      rw [HBE.out] at hbs ⊢
      first
        | exact bl_grown (bl_alloc_ge (bl_call hbq.drew hb3 hbs) _ (Nat.le_trans hbs hb3.size)) hgrow (hown.alloc _) hbs (by have := hb3.size; simp at this ⊢; omega)
        | exact bl_grown (bl_call (bl_alloc_ge hbq.drew _ hbs) hb3 (by simp; omega)) hgrow hown (by simp; omega) (by have := hb3.size; simp at this ⊢; omega)
end Go.Proofs.YtongoicadcmfaaaGreatDoor.V
