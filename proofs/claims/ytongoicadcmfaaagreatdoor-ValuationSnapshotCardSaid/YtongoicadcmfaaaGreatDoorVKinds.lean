/- ident.kinds: the four kinds of identifiers as the program builds them. ident.prefix: the characters of a string against their classes. -/
import Derived.Test.YtongoicadcmfaaaGreatDoorV0
set_option linter.unusedSimpArgs false
set_option linter.unusedVariables false
namespace Go.Proofs.YtongoicadcmfaaaGreatDoor.V
open Go.RowKit
def fn (k : Nat) : Value := .func (.func k) #[] #[]
def int64 (n : Int) : Value := .int .i64 n
theorem ei214 : EI Tryz.prog 205 214 1 8 .nilFunc := ⟨Tryz.underlying205, by kernel_rfl, rfl, by omega⟩

/-- What a kind's spans hold: how many characters of which class. -/
def spanCells (sp : List (Nat × Nat)) : List Value := sp.flatMap fun p => [int64 p.1, fn p.2]
def spanFns (sp : List (Nat × Nat)) : List Value := sp.flatMap fun p => List.replicate p.1 (fn p.2)

theorem spanFns_snoc (sp : List (Nat × Nat)) (i : Nat) (h : i < sp.length) : spanFns (sp.take (i + 1)) = spanFns (sp.take i) ++ List.replicate sp[i].1 (fn sp[i].2) := by
  rw [List.take_succ_eq_append_getElem h]
  unfold spanFns
  rw [List.flatMap_append]
  simp
theorem spanFns_take (sp : List (Nat × Nat)) (i : Nat) (h : i < sp.length) : (spanFns (sp.take i)).length + sp[i].1 ≤ (spanFns sp).length := by
  have h1 := congrArg List.length (spanFns_snoc sp i h)
  rw [List.length_append, List.length_replicate] at h1
  have h2 : (spanFns (sp.take (i + 1) ++ sp.drop (i + 1))).length = (spanFns sp).length := by rw [List.take_append_drop]
  unfold spanFns at *
  rw [List.flatMap_append, List.length_append] at h2
  omega
theorem spanCells_get (sp : List (Nat × Nat)) (i : Nat) (h : i < sp.length) : (spanCells sp)[i * 2]? = some (int64 sp[i].1) ∧ (spanCells sp)[i * 2 + 1]? = some (fn sp[i].2) := by
  induction sp generalizing i with
  | nil => simp at h
  | cons p r ih =>
    cases i with
    | zero => simp [spanCells]
    | succ i =>
      have := ih i (by simpa using h)
      simp only [spanCells, List.flatMap_cons] at *
      rw [show (i + 1) * 2 = i * 2 + 2 by omega]
      simpa using this

set_option maxHeartbeats 1000000 in
theorem classes117 (g : Nat) (sp : List (Nat × Nat)) (a b : Int) (c : Value) (w : World) (hg : Blk w g 216 (spanCells sp).toArray) (hs : (spanFns sp).length ≤ 100) (hsp : sp.length ≤ 10) :
    Calls Tryz.prog 117 #[.agg #[.int .i64 a, .slice (some ⟨g, 0, none⟩) sp.length sp.length, .int .i64 b, c]] w fun e w' => (∃ v, e = .returned v ∧ w'.ownsRow w.heap.size 214 1 v (spanFns sp).length (spanFns sp)) ∧ Below w.heap.size w w' := by
  go_enter Tryz.func117, Tryz.ntmps117
  go_wp2_with fail
  have hglt := hg.lt
  go_loopw [3, 9] (fun v3 v9 wr => ∃ (i : Nat), i ≤ sp.length ∧ v9 = .int .i64 i ∧ wr.ownsRow (w.heap.size + 1) 214 1 v3 (spanFns (sp.take i)).length (spanFns (sp.take i)) ∧ Blk wr w.heap.size 201 #[.int .i64 a, .slice (some ⟨g, 0, none⟩) sp.length sp.length, .int .i64 b, c] ∧ Below w.heap.size w wr ∧ w.heap.size + 1 ≤ wr.heap.size) (fun _ v9 _ => sp.length - (intOf v9).toNat)
  case atStart =>
    exact ⟨0, Nat.zero_le _, rfl, by simp [spanFns]; exact World.ownsRow_nil _ _ _ _, Blk.new _ _ _, bl_alloc (Below.refl _ _) _, by simp⟩
  case round =>
    obtain ⟨i, hi, rfl, hown, hbox, hbl, hsz⟩ := hrel
    by_cases hlt : i < sp.length
    · obtain ⟨z1, z2⟩ := spanCells_get sp i hlt
      have hgw := hg.below hbl hglt
      have y1 := (hgw.cell (i * 2)).trans ((List.getElem?_toArray ..).trans z1)
      have y2 := (hgw.cell (i * 2 + 1)).trans ((List.getElem?_toArray ..).trans z2)
      have hsn := Lib.hid (spanFns_snoc sp i hlt)
      have hle := spanFns_take sp i hlt
      clear z1 z2
      generalize sp[i] = p at *
      obtain ⟨n, f⟩ := p
      simp only at y1 y2 hsn hle
      unfold int64 at y1
      unfold fn at y2
      generalize hdone : spanFns (sp.take i) = done at *
      go_wp2_with fail
      go_loopw [3, 15] (fun v3 v15 wi => ∃ (j : Nat), j ≤ n ∧ v15 = .int .i64 j ∧ wi.ownsRow (w.heap.size + 1) 214 1 v3 (done.length + j) (done ++ List.replicate j (fn f)) ∧ Blk wi wr.heap.size 216 #[.int .i64 n, .func (.func f) #[] #[]] ∧ Blk wi w.heap.size 201 #[.int .i64 a, .slice (some ⟨g, 0, none⟩) sp.length sp.length, .int .i64 b, c] ∧ Below w.heap.size w wi ∧ w.heap.size + 1 ≤ wi.heap.size) (fun _ v15 _ => n - (intOf v15).toNat)
      case atStart =>
        exact ⟨0, Nat.zero_le _, rfl, by simpa using hown.alloc _, Blk.new _ _ _, hbox.alloc _, bl_alloc hbl _, by simp; omega⟩
      case round =>
        obtain ⟨j, hj, rfl, hown2, hspan, hbox2, hbl2, hsz2⟩ := hrel
        by_cases hltj : j < n
        · obtain ⟨q0, q1⟩ := Blk.get2 hspan
          go_wp2_with (at_builtin; refine ap ei214 rfl _ _ rfl (w.heap.size + 1) _ _ _ rfl hown2 1 1 [.func (.func f) #[] #[]] rfl rfl (by simp [Value.oneCell']) (by simp only [maxLen]; omega) (by omega) hsz2 ?_; intro v' w' ho' hg' hat')
          refine ⟨⟨j + 1, by omega, by go_num, ?_, hspan.grown hg' (own_blk_ne hown2 hspan (by decide)), hbox2.grown hg' (own_blk_ne hown2 hbox2 (by decide)), bl_grown hbl2 hg' hown2 (by omega) (by omega), by have := hg'.size; omega⟩, by simp [intOf]; omega⟩
          rw [List.replicate_succ', ← List.append_assoc]
          exact ho'
        · obtain rfl : n = j := by omega
          go_wp2
          refine ⟨⟨i + 1, by omega, by go_num, ?_, hbox2, hbl2, hsz2⟩, by simp [intOf]; omega⟩
          rw [hsn.out, List.length_append, List.length_replicate]
          exact hown2
    · obtain rfl : sp.length = i := by omega
      rw [List.take_length] at hown
      go_wp2
      go_ret
      exact ⟨⟨_, rfl, own_lower hown (by omega)⟩, hbl⟩
end Go.Proofs.YtongoicadcmfaaaGreatDoor.V

namespace Go.Proofs.YtongoicadcmfaaaGreatDoor.V
open Go.RowKit

def spanSl (g n : Nat) : Value := .slice (some ⟨g, 0, none⟩) n n
def spans0 : Array Value := #[int64 2, fn 123, int64 9, fn 124, int64 1, fn 125]
def spans1 : Array Value := #[int64 1, fn 123, int64 7, fn 124]
def spans2 : Array Value := #[int64 16, fn 127]
def spans3 : Array Value := #[int64 18, fn 124, int64 2, fn 125]
def kindsVal (g : Nat) : Value := .agg #[int64 12, spanSl g 3, int64 11, fn 126, int64 4, spanSl (g + 1) 2, int64 0, .nilFunc, int64 1, spanSl (g + 2) 1, int64 0, .nilFunc, int64 20, spanSl (g + 3) 2, int64 18, fn 128]

set_option maxHeartbeats 4000000 in
theorem kinds115 (w : World) : Calls Tryz.prog 115 #[] w fun e w' => e = .returned (kindsVal (w.heap.size + 1)) ∧ Blk w' (w.heap.size + 1) 216 spans0 ∧ Blk w' (w.heap.size + 2) 216 spans1 ∧ Blk w' (w.heap.size + 3) 216 spans2 ∧ Blk w' (w.heap.size + 4) 216 spans3 ∧ Below w.heap.size w w' := by
  go_enter Tryz.func115, Tryz.ntmps115
  go_wp2
  refine bodyPost_ret (v := kindsVal (w.heap.size + 1)) (by simp [results, Tryz.results115, go_sem, kindsVal, int64, spanSl, fn]) rfl ⟨rfl, ?_, ?_, ?_, ?_, ?_⟩
  · exact ((Blk.new1 _ _ _ _).alloc _).alloc _ |>.alloc _
  · exact (Blk.new2 _ _ _ _ _).alloc _ |>.alloc _
  · exact (Blk.new3 _ _ _ _ _ _).alloc _
  · exact Blk.new4 _ _ _ _ _ _ _
  · exact bl_alloc (bl_alloc (bl_alloc (bl_alloc (bl_alloc (Below.refl _ _) _) _) _) _) _
end Go.Proofs.YtongoicadcmfaaaGreatDoor.V

namespace Go.Proofs.YtongoicadcmfaaaGreatDoor.V
open Go.RowKit

def letB (c : Int) : Bool := decide (65 ≤ c) && decide (c ≤ 90)
def digB (c : Int) : Bool := decide (48 ≤ c) && decide (c ≤ 57)
def alnB (c : Int) : Bool := letB c || digB c
/-- The class that a function's number stands for. -/
def cls (f : Nat) (c : Int) : Bool := if f = 123 then letB c else if f = 124 then alnB c else digB c
def bat (s : ByteArray) (i : Nat) : Int := if h : i < s.size then ((s[i]'h).toNat : Int) else 0
theorem bat_at (s : ByteArray) (i : Nat) (h : i < s.size) : ((s[i]'h).toNat : Int) = bat s i := by simp [bat, h]
theorem bat_bd (s : ByteArray) (i : Nat) : 0 ≤ bat s i ∧ bat s i ≤ 255 := by
  unfold bat
  split
  · have := (s[i]).toNat_lt; omega
  · omega

theorem let123 (c : Int) (w : World) : Calls Tryz.prog 123 #[.int .u8 c] w fun e w' => e = .returned (.bool (letB c)) ∧ w = w' := by
  unfold letB
  go_enter Tryz.func123, Tryz.ntmps123
  by_cases h : 65 ≤ c
  · have h' : decide (65 ≤ c) = true := decide_eq_true h
    go_wp2
    go_ret
    simp [h]
  · have h' : decide (65 ≤ c) = false := decide_eq_false h
    go_wp2
    go_ret
    simp [h']
theorem dig125 (c : Int) (w : World) : Calls Tryz.prog 125 #[.int .u8 c] w fun e w' => e = .returned (.bool (digB c)) ∧ w = w' := by
  unfold digB
  go_enter Tryz.func125, Tryz.ntmps125
  by_cases h : 48 ≤ c
  · have h' : decide (48 ≤ c) = true := decide_eq_true h
    go_wp2
    go_ret
    simp [h]
  · have h' : decide (48 ≤ c) = false := decide_eq_false h
    go_wp2
    go_ret
    simp [h']
theorem aln124 (c : Int) (w : World) : Calls Tryz.prog 124 #[.int .u8 c] w fun e w' => e = .returned (.bool (alnB c)) ∧ w = w' := by
  unfold alnB
  go_enter Tryz.func124, Tryz.ntmps124
  cases h : letB c
  · go_wp2_with (first | (go_at_call 123; refine (let123 _ _).mono ?_; rintro e w' ⟨rfl, rfl⟩) | (go_at_call 125; refine (dig125 _ _).mono ?_; rintro e w' ⟨rfl, rfl⟩))
    go_ret
    simp
  · go_wp2_with (first | (go_at_call 123; refine (let123 _ _).mono ?_; rintro e w' ⟨rfl, rfl⟩) | (go_at_call 125; refine (dig125 _ _).mono ?_; rintro e w' ⟨rfl, rfl⟩))
    go_ret
    simp
theorem cls_any (f : Nat) (hf : f = 123 ∨ f = 124 ∨ f = 125) (c : Int) (w : World) : Calls Tryz.prog f #[.int .u8 c] w fun e w' => e = .returned (.bool (cls f c)) ∧ w = w' := by
  rcases hf with rfl | rfl | rfl
  · exact let123 c w
  · exact aln124 c w
  · exact dig125 c w

def okPref (fs : List Nat) (s : ByteArray) : Prop := ∀ i (h : i < fs.length), i < s.size → cls fs[i] (bat s i) = true
def fnsOf (fs : List Nat) : List Value := fs.map fn

set_option maxRecDepth 20000 in
set_option maxHeartbeats 1000000 in
theorem prefix116 (g cap : Nat) (fs : List Nat) (lo : Int) (s : ByteArray) (w : World) (hfs : ∀ f ∈ fs, f = 123 ∨ f = 124 ∨ f = 125) (hlen : fs.length ≤ cap) (hc : cap ≤ 9223372036854775807)
    (hg : ∀ j u, (fnsOf fs)[j]? = some u → w.cell? ((⟨g, 0, none⟩ : Addr).add j) = some u) (hs : s.size ≤ 9223372036854775807) :
    Calls Tryz.prog 116 #[.slice (some ⟨g, 0, none⟩) fs.length cap, .int .i64 lo, .string s] w fun e w' => (∃ at_ er : Int, e = .returned (.tuple #[.int .i64 at_, .int .i64 er]) ∧ (er = 0 ↔ okPref fs s ∧ lo ≤ s.size ∧ s.size ≤ fs.length)) ∧ w = w' := by
  go_enter Tryz.func116, Tryz.ntmps116
  go_wp2_with fail
  go_loop [12] (fun v12 => ∃ i : Nat, i ≤ fs.length ∧ v12 = .int .i64 i ∧ ∀ k (h : k < fs.length), k < i → k < s.size → cls fs[k] (bat s k) = true) (fun v12 => fs.length - (intOf v12).toNat)
  case atStart => exact ⟨0, Nat.zero_le _, rfl, fun k h hk => by omega⟩
  case round =>
    obtain ⟨i, hi, rfl, hok⟩ := hrel
    have HOK := Lib.hid hok
    clear hok
    by_cases hlt : i < fs.length
    · have hcell := hg i (fn fs[i]) (by simp [fnsOf, List.getElem?_eq_getElem hlt])
      have hf := hfs fs[i] (List.getElem_mem hlt)
      have hadd : (⟨g, 0, none⟩ : Addr).add i = ⟨g, i, none⟩ := by unfold Addr.add; split <;> simp_all
      rw [hadd] at hcell
      obtain ⟨f, ef⟩ : ∃ f, fs[i] = f := ⟨_, rfl⟩
      have EF := Lib.hid ef
      rw [ef] at hcell hf
      unfold fn at hcell
      clear ef hadd
      clear hi
      by_cases hsz : i < s.size
      · obtain ⟨c, ec⟩ : ∃ c, s[i] = c := ⟨_, rfl⟩
        have ebat : bat s i = (c.toNat : Int) := by simp [bat, hsz, ec]
        obtain ⟨b, eb⟩ : ∃ b, cls f (c.toNat : Int) = b := ⟨_, rfl⟩
        have EB := Lib.hid ebat
        clear ebat hc hlen
        cases b
        · have hno : ¬ okPref fs s := fun h => by
            have := h i hlt hsz
            rw [EF.out, EB.out, eb] at this
            exact absurd this (by decide)
          have HNO := Lib.hid hno
          clear hno
          rcases hf with rfl | rfl | rfl <;>
          · go_wp2_with (first | (go_at_call 123; refine (cls_any 123 (by decide) _ _).mono ?_; rintro e w' ⟨rfl, rfl⟩) | (go_at_call 124; refine (cls_any 124 (by decide) _ _).mono ?_; rintro e w' ⟨rfl, rfl⟩) | (go_at_call 125; refine (cls_any 125 (by decide) _ _).mono ?_; rintro e w' ⟨rfl, rfl⟩))
            go_ret2
            refine ⟨⟨_, _, rfl, ?_⟩, rfl⟩
            constructor
            · intro h; simp at h
            · intro h; exact absurd h.1 HNO.out
        · have hok' : ∀ k (h : k < fs.length), k < i + 1 → k < s.size → cls fs[k] (bat s k) = true := fun k h hk hs' => by
            by_cases hki : k = i
            · subst hki; rw [EF.out, EB.out, eb]
            · exact HOK.out k h (by omega) hs'
          have HOK' := Lib.hid hok'
          clear hok'
          rcases hf with rfl | rfl | rfl <;>
          · go_wp2_with (first | (go_at_call 123; refine (cls_any 123 (by decide) _ _).mono ?_; rintro e w' ⟨rfl, rfl⟩) | (go_at_call 124; refine (cls_any 124 (by decide) _ _).mono ?_; rintro e w' ⟨rfl, rfl⟩) | (go_at_call 125; refine (cls_any 125 (by decide) _ _).mono ?_; rintro e w' ⟨rfl, rfl⟩))
            refine ⟨⟨i + 1, hlt, by go_num, HOK'.out⟩, by simp [intOf]; omega⟩
      · have hok' : ∀ k (h : k < fs.length), k < i + 1 → k < s.size → cls fs[k] (bat s k) = true := fun k h hk hs' =>
          HOK.out k h (by omega) hs'
        have HOK' := Lib.hid hok'
        clear hok'
        go_wp2_with fail
        refine ⟨⟨i + 1, hlt, by go_num, HOK'.out⟩, by simp [intOf]; omega⟩
    · have hyes : okPref fs s := fun k h hs' => HOK.out k h (by omega) hs'
      have HY := Lib.hid hyes
      clear hyes
      by_cases h1 : (s.size : Int) < lo
      · have h1' : decide ((s.size : Int) < lo) = true := decide_eq_true h1
        go_wp2_with fail
        go_ret2
        refine ⟨⟨_, _, rfl, ?_⟩, rfl⟩
        simp; omega
      · have h1' : decide ((s.size : Int) < lo) = false := decide_eq_false h1
        by_cases h2 : (fs.length : Int) < s.size
        · have h2' : decide ((fs.length : Int) < s.size) = true := decide_eq_true h2
          go_wp2_with fail
          go_ret2
          refine ⟨⟨_, _, rfl, ?_⟩, rfl⟩
          simp; omega
        · have h2' : decide ((fs.length : Int) < s.size) = false := decide_eq_false h2
          go_wp2_with fail
          go_ret2
          refine ⟨⟨_, _, rfl, ?_⟩, rfl⟩
          simp [HY.out]; omega
end Go.Proofs.YtongoicadcmfaaaGreatDoor.V
