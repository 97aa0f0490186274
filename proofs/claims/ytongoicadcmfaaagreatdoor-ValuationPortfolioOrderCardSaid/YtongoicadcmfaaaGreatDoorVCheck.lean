/- ident.Check and ident.Valid at the kinds 0, 1, 3. -/
import Derived.Test.YtongoicadcmfaaaGreatDoorVKinds
import Derived.Test.YtongoicadcmfaaaGreatDoorVLuhn
import Derived.Deep.RegionHeld3
import Derived.Lib.QuietBelow
set_option linter.unusedSimpArgs false
set_option linter.unusedVariables false
namespace Go.Proofs.YtongoicadcmfaaaGreatDoor.V
open Go.RowKit Go.Sort

def fnl (sp : List (Nat × Nat)) : List Nat := sp.flatMap fun p => List.replicate p.1 p.2
theorem fnl_fns (sp : List (Nat × Nat)) : spanFns sp = fnsOf (fnl sp) := by
  induction sp with
  | nil => rfl
  | cons p r ih =>
    simp only [spanFns, fnl, fnsOf, List.flatMap_cons, List.map_append, List.map_replicate] at *
    rw [ih]
def sp0 : List (Nat × Nat) := [(2, 123), (9, 124), (1, 125)]
def sp1 : List (Nat × Nat) := [(1, 123), (7, 124)]
def sp3 : List (Nat × Nat) := [(18, 124), (2, 125)]
def fs0 : List Nat := fnl sp0
def fs1 : List Nat := fnl sp1
def fs3 : List Nat := fnl sp3
/-- The characters and the length. -/
def okForm (fs : List Nat) (lo : Int) (s : ByteArray) : Prop := okPref fs s ∧ lo ≤ s.size ∧ s.size ≤ fs.length

theorem prefix_own (base v : Nat → Nat) : True := trivial

/-- prefix at an owned row of functions. -/
theorem prefix_row (base : Nat) (v : Value) (fs : List Nat) (lo : Int) (s : ByteArray) (w : World) (hfs : ∀ f ∈ fs, f = 123 ∨ f = 124 ∨ f = 125) (h0 : 0 < fs.length) (hown : w.ownsRow base 214 1 v fs.length (fnsOf fs)) (hs : s.size ≤ 9223372036854775807) :
    Calls Tryz.prog 116 #[v, .int .i64 lo, .string s] w fun e w' => (∃ at_ er : Int, e = .returned (.tuple #[.int .i64 at_, .int .i64 er]) ∧ (er = 0 ↔ okForm fs lo s)) ∧ w = w' := by
  rcases hown.2 with ⟨_, h⟩ | ⟨g, cap, cur, rfl, hb, hg, hn, hc, _⟩
  · omega
  · refine prefix116 g cap fs lo s w hfs hn (by unfold maxLen at hc; omega) ?_ hs
    intro j u hj
    exact hown.cells rfl j u hj

theorem prefix_ok (base : Nat) (v : Value) (fs : List Nat) (lo : Int) (s : ByteArray) (w : World) (hfs : ∀ f ∈ fs, f = 123 ∨ f = 124 ∨ f = 125) (h0 : 0 < fs.length) (hown : w.ownsRow base 214 1 v fs.length (fnsOf fs)) (hs : s.size ≤ 9223372036854775807) (h : okForm fs lo s) :
    Calls Tryz.prog 116 #[v, .int .i64 lo, .string s] w fun e w' => (∃ at_ : Int, e = .returned (.tuple #[.int .i64 at_, .int .i64 0])) ∧ w = w' :=
  (prefix_row base v fs lo s w hfs h0 hown hs).mono fun _ _ ⟨⟨a, er, he, h'⟩, hw⟩ => ⟨⟨a, by rw [he, h'.2 h]⟩, hw⟩
theorem prefix_no (base : Nat) (v : Value) (fs : List Nat) (lo : Int) (s : ByteArray) (w : World) (hfs : ∀ f ∈ fs, f = 123 ∨ f = 124 ∨ f = 125) (h0 : 0 < fs.length) (hown : w.ownsRow base 214 1 v fs.length (fnsOf fs)) (hs : s.size ≤ 9223372036854775807) (h : ¬ okForm fs lo s) :
    Calls Tryz.prog 116 #[v, .int .i64 lo, .string s] w fun e w' => (∃ at_ er : Int, e = .returned (.tuple #[.int .i64 at_, .int .i64 er]) ∧ (er == 0) = false) ∧ w = w' :=
  (prefix_row base v fs lo s w hfs h0 hown hs).mono fun _ _ ⟨⟨a, er, he, h'⟩, hw⟩ => ⟨⟨a, er, he, by
    rw [beq_eq_false_iff_ne]; exact fun e0 => h (h'.1 e0)⟩, hw⟩

theorem spans1_eq : spans1 = (spanCells sp1).toArray := rfl
theorem spans0_eq : spans0 = (spanCells sp0).toArray := rfl
theorem spans3_eq : spans3 = (spanCells sp3).toArray := rfl

theorem run_index_kinds0 (w : World) (a0 a1 a2 a3 b0 b1 b2 b3 c0 c1 c2 c3 d0 d1 d2 d3 : Value) :
    (Instr.index 202 (.agg #[a0, a1, a2, a3, b0, b1, b2, b3, c0, c1, c2, c3, d0, d1, d2, d3]) (.int .i64 0)).run Tryz.prog w = .ok (.agg #[a0, a1, a2, a3]) w := by
  simp [Instr.index, Tryz.underlying202, run_underlying Tryz.underlying202, asIntOf, go_sem]
theorem run_index_kinds1 (w : World) (a0 a1 a2 a3 b0 b1 b2 b3 c0 c1 c2 c3 d0 d1 d2 d3 : Value) :
    (Instr.index 202 (.agg #[a0, a1, a2, a3, b0, b1, b2, b3, c0, c1, c2, c3, d0, d1, d2, d3]) (.int .i64 1)).run Tryz.prog w = .ok (.agg #[b0, b1, b2, b3]) w := by
  simp [Instr.index, Tryz.underlying202, run_underlying Tryz.underlying202, asIntOf, go_sem]
theorem run_index_kinds2 (w : World) (a0 a1 a2 a3 b0 b1 b2 b3 c0 c1 c2 c3 d0 d1 d2 d3 : Value) :
    (Instr.index 202 (.agg #[a0, a1, a2, a3, b0, b1, b2, b3, c0, c1, c2, c3, d0, d1, d2, d3]) (.int .i64 2)).run Tryz.prog w = .ok (.agg #[c0, c1, c2, c3]) w := by
  simp [Instr.index, Tryz.underlying202, run_underlying Tryz.underlying202, asIntOf, go_sem]
theorem run_index_kinds3 (w : World) (a0 a1 a2 a3 b0 b1 b2 b3 c0 c1 c2 c3 d0 d1 d2 d3 : Value) :
    (Instr.index 202 (.agg #[a0, a1, a2, a3, b0, b1, b2, b3, c0, c1, c2, c3, d0, d1, d2, d3]) (.int .i64 3)).run Tryz.prog w = .ok (.agg #[d0, d1, d2, d3]) w := by
  simp [Instr.index, Tryz.underlying202, run_underlying Tryz.underlying202, asIntOf, go_sem]
theorem run_neq_nf (w : World) : (binOp .neq 199 .nilFunc .nilFunc).run Tryz.prog w = .ok (.bool false) w := by
  simp only [binOp, Op.equal, Op.maxDepth]
  unfold Op.equalIn
  simp [Tryz.underlying199, run_underlying Tryz.underlying199, go_sem]
theorem run_neq_fn (w : World) (f : Fn) (a b : Array Value) : (binOp .neq 199 (.func f a b) .nilFunc).run Tryz.prog w = .ok (.bool true) w := by
  simp only [binOp, Op.equal, Op.maxDepth]
  unfold Op.equalIn
  simp [Tryz.underlying199, run_underlying Tryz.underlying199, go_sem]
attribute [local go_sem ↓] run_index_kinds0 run_index_kinds1 run_index_kinds3 run_neq_nf run_neq_fn
def kv (g1 g2 g3 g4 : Nat) : Value := .agg #[.int .i64 12, .slice (some ⟨g1, 0, none⟩) 3 3, .int .i64 11, .func (.func 126) #[] #[], .int .i64 4, .slice (some ⟨g2, 0, none⟩) 2 2, .int .i64 0, .nilFunc, .int .i64 1, .slice (some ⟨g3, 0, none⟩) 1 1, .int .i64 0, .nilFunc, .int .i64 20, .slice (some ⟨g4, 0, none⟩) 2 2, .int .i64 18, .func (.func 128) #[] #[]]
theorem kinds_g (w : World) : Calls Tryz.prog 115 #[] w fun e w' => (∃ g1 g2 g3 g4, e = .returned (kv g1 g2 g3 g4) ∧ Blk w' g1 216 (spanCells sp0).toArray ∧ Blk w' g2 216 (spanCells sp1).toArray ∧ Blk w' g4 216 (spanCells sp3).toArray) ∧ Below w.heap.size w w' :=
  (kinds115 w).mono fun _ _ ⟨he, h1, h2, _, h4, hb⟩ => ⟨⟨_, _, _, _, he, h1, h2, h4⟩, hb⟩

theorem classes1 (g : Nat) (w : World) (hg : Blk w g 216 (spanCells sp1).toArray) :
    Calls Tryz.prog 117 #[.agg #[.int .i64 4, .slice (some ⟨g, 0, none⟩) 2 2, .int .i64 0, .nilFunc]] w fun e w' => (∃ v, e = .returned v ∧ w'.ownsRow w.heap.size 214 1 v fs1.length (fnsOf fs1)) ∧ Below w.heap.size w w' :=
  (classes117 g sp1 4 0 .nilFunc w hg (by decide) (by decide)).mono fun e w' ⟨⟨v, he, ho⟩, hb⟩ => ⟨⟨v, he, by rw [fnl_fns, show (fnsOf (fnl sp1)).length = fs1.length from rfl] at ho; exact ho⟩, hb⟩
theorem fs1_ok : ∀ f ∈ fs1, f = 123 ∨ f = 124 ∨ f = 125 := by decide
theorem classes0 (g : Nat) (w : World) (hg : Blk w g 216 (spanCells sp0).toArray) :
    Calls Tryz.prog 117 #[.agg #[.int .i64 12, .slice (some ⟨g, 0, none⟩) 3 3, .int .i64 11, .func (.func 126) #[] #[]]] w fun e w' => (∃ v, e = .returned v ∧ w'.ownsRow w.heap.size 214 1 v fs0.length (fnsOf fs0)) ∧ Below w.heap.size w w' :=
  (classes117 g sp0 12 11 (.func (.func 126) #[] #[]) w hg (by decide) (by decide)).mono fun e w' ⟨⟨v, he, ho⟩, hb⟩ => ⟨⟨v, he, by rw [fnl_fns, show (fnsOf (fnl sp0)).length = fs0.length from rfl] at ho; exact ho⟩, hb⟩
theorem fs0_ok : ∀ f ∈ fs0, f = 123 ∨ f = 124 ∨ f = 125 := by decide
theorem classes3 (g : Nat) (w : World) (hg : Blk w g 216 (spanCells sp3).toArray) :
    Calls Tryz.prog 117 #[.agg #[.int .i64 20, .slice (some ⟨g, 0, none⟩) 2 2, .int .i64 18, .func (.func 128) #[] #[]]] w fun e w' => (∃ v, e = .returned v ∧ w'.ownsRow w.heap.size 214 1 v fs3.length (fnsOf fs3)) ∧ Below w.heap.size w w' :=
  (classes117 g sp3 20 18 (.func (.func 128) #[] #[]) w hg (by decide) (by decide)).mono fun e w' ⟨⟨v, he, ho⟩, hb⟩ => ⟨⟨v, he, by rw [fnl_fns, show (fnsOf (fnl sp3)).length = fs3.length from rfl] at ho; exact ho⟩, hb⟩
theorem fs3_ok : ∀ f ∈ fs3, f = 123 ∨ f = 124 ∨ f = 125 := by decide

set_option maxRecDepth 100000 in
set_option maxHeartbeats 4000000 in
theorem check98_1 (s : ByteArray) (hs : s.size ≤ 9223372036854775807) (w : World) :
    Calls Tryz.prog 98 #[.int .i64 1, .string s] w fun e w' => (∃ at_ er : Int, e = .returned (.tuple #[.int .i64 at_, .int .i64 er]) ∧ (er = 0 ↔ okForm fs1 4 s)) ∧ Below w.heap.size w w' := by
  by_cases hok : okForm fs1 4 s
  · have HOK := Lib.hid hok
    clear hok
    go_enter Tryz.func98, Tryz.ntmps98
    go_wp2_with (go_at_call 115; refine (kinds_g _).mono ?_; unfold kv; rintro e w1 ⟨⟨g1, g2, g3, g4, rfl, h0, h1, h3⟩, hbl⟩)
    clear h0 h3
    have hbx := Blk.new w1 201 #[.int .i64 4, .slice (some ⟨g2, 0, none⟩) 2 2, .int .i64 0, .nilFunc]
    have h2 := h1.alloc (.cells #[.int .i64 4, .slice (some ⟨g2, 0, none⟩) 2 2, .int .i64 0, .nilFunc] 201)
    have hbl2 := bl_alloc hbl (.cells #[.int .i64 4, .slice (some ⟨g2, 0, none⟩) 2 2, .int .i64 0, .nilFunc] 201)
    clear h1 hbl
    generalize w1.heap.size = b at *
    generalize w1.alloc (.cells #[.int .i64 4, .slice (some ⟨g2, 0, none⟩) 2 2, .int .i64 0, .nilFunc] 201) = w2 at *
    go_region_held3 (fun w' => w'.cell? ⟨b, 0, none⟩ = some (.int .i64 4) ∧ w'.cell? ⟨b, 1, none⟩ = some (.slice (some ⟨g2, 0, none⟩) 2 2) ∧ w'.cell? ⟨b, 2, none⟩ = some (.int .i64 0) ∧ w'.cell? ⟨b, 3, none⟩ = some .nilFunc) (first | exact Blk.get4 hbx | exact Blk.get4 (hbx.drew.call hb3))
      (first | (go_at_call 117; refine (classes1 g2 _ h2.drew).mono ?_; rintro e w3 ⟨⟨v, rfl, hown⟩, hb3⟩) | (go_at_call 116; refine (prefix_ok _ _ fs1 4 s _ fs1_ok (by decide) hown hs HOK.out).mono ?_; rintro e w4 ⟨⟨at_, rfl⟩, rfl⟩))
    have hbx3 := hbx.drew.call hb3
    have hbl3 := bl_then (bl_drew hbl2) hb3
    obtain ⟨c0, c1, c2, c3⟩ := Blk.get4 hbx3
    clear hbx hown h2 hbl2
    go_wp2_with fail
    go_quiet (fail)
    go_wp2_with fail
    go_ret2
    refine ⟨⟨_, _, rfl, ?_⟩, bl_drewN hbl3 _⟩
    exact ⟨fun _ => HOK.out, fun _ => rfl⟩
  · have HOK := Lib.hid hok
    clear hok
    go_enter Tryz.func98, Tryz.ntmps98
    go_wp2_with (go_at_call 115; refine (kinds_g _).mono ?_; unfold kv; rintro e w1 ⟨⟨g1, g2, g3, g4, rfl, h0, h1, h3⟩, hbl⟩)
    clear h0 h3
    have hbx := Blk.new w1 201 #[.int .i64 4, .slice (some ⟨g2, 0, none⟩) 2 2, .int .i64 0, .nilFunc]
    have h2 := h1.alloc (.cells #[.int .i64 4, .slice (some ⟨g2, 0, none⟩) 2 2, .int .i64 0, .nilFunc] 201)
    have hbl2 := bl_alloc hbl (.cells #[.int .i64 4, .slice (some ⟨g2, 0, none⟩) 2 2, .int .i64 0, .nilFunc] 201)
    clear h1 hbl
    generalize w1.heap.size = b at *
    generalize w1.alloc (.cells #[.int .i64 4, .slice (some ⟨g2, 0, none⟩) 2 2, .int .i64 0, .nilFunc] 201) = w2 at *
    go_region_held3 (fun w' => w'.cell? ⟨b, 0, none⟩ = some (.int .i64 4) ∧ w'.cell? ⟨b, 1, none⟩ = some (.slice (some ⟨g2, 0, none⟩) 2 2) ∧ w'.cell? ⟨b, 2, none⟩ = some (.int .i64 0) ∧ w'.cell? ⟨b, 3, none⟩ = some .nilFunc) (first | exact Blk.get4 hbx | exact Blk.get4 (hbx.drew.call hb3))
      (first | (go_at_call 117; refine (classes1 g2 _ h2.drew).mono ?_; rintro e w3 ⟨⟨v, rfl, hown⟩, hb3⟩) | (go_at_call 116; refine (prefix_no _ _ fs1 4 s _ fs1_ok (by decide) hown hs HOK.out).mono ?_; rintro e w4 ⟨⟨at_, er, rfl, her⟩, rfl⟩))
    have hbl3 := bl_then (bl_drew hbl2) hb3
    clear hbx hown h2 hbl2
    go_wp2_with fail
    go_ret2
    refine ⟨⟨_, _, rfl, ?_⟩, hbl3⟩
    rw [beq_eq_false_iff_ne] at her
    exact ⟨fun h => absurd h her, fun h => absurd h HOK.out⟩

def want0 (s : ByteArray) : ByteArray := ⟨(Lib.decDigits (luhnD (dsL (exU s.data.toList))).toNat).toArray⟩
def chk0 (s : ByteArray) : Prop := want0 (s.extract 0 11) = s.extract 11 12

set_option maxRecDepth 100000 in
set_option maxHeartbeats 4000000 in
theorem check98_0 (s : ByteArray) (hs : s.size ≤ 9223372036854775807) (hform : okForm fs0 12 s → s.size = 12 ∧ aln (s.extract 0 11) ∧ (s.extract 0 11).size = 11) (w : World) :
    Calls Tryz.prog 98 #[.int .i64 0, .string s] w fun e w' => (∃ at_ er : Int, e = .returned (.tuple #[.int .i64 at_, .int .i64 er]) ∧ (er = 0 ↔ okForm fs0 12 s ∧ chk0 s)) ∧ Below w.heap.size w w' := by
  by_cases hok : okForm fs0 12 s
  · have HOK := Lib.hid hok
    obtain ⟨hsz, hal, hbs⟩ := hform hok
    obtain ⟨R, hR⟩ : ∃ R, R = want0 (s.extract 0 11) := ⟨_, rfl⟩
    have hcall : ∀ W, Calls Tryz.prog 126 #[.string (s.extract 0 11)] W fun e w' => e = .returned (.string R) ∧ Below W.heap.size W w' := fun W => by
      rw [hR]; exact luhn126 (s.extract 0 11) (by rw [hbs]; decide) hal W
    have HCALL := Lib.hid hcall
    obtain ⟨b, hb⟩ : ∃ b, (R.toList == (s.extract 11 12).toList) = b := ⟨_, rfl⟩
    have hchk : b = true ↔ chk0 s := by
      rw [← hb, str_beq, decide_eq_true_iff, hR]; exact Iff.rfl
    have HCHK := Lib.hid hchk
    clear hok hform hal hbs hcall hR hchk
    cases b
    all_goals
    · go_enter Tryz.func98, Tryz.ntmps98
      go_wp2_with (go_at_call 115; refine (kinds_g _).mono ?_; unfold kv; rintro e w1 ⟨⟨g1, g2, g3, g4, rfl, h0, h1, h3⟩, hbl⟩)
      clear h1 h3
      have hbx := Blk.new w1 201 #[.int .i64 12, .slice (some ⟨g1, 0, none⟩) 3 3, .int .i64 11, .func (.func 126) #[] #[]]
      have h2 := h0.alloc (.cells #[.int .i64 12, .slice (some ⟨g1, 0, none⟩) 3 3, .int .i64 11, .func (.func 126) #[] #[]] 201)
      have hbl2 := bl_alloc hbl (.cells #[.int .i64 12, .slice (some ⟨g1, 0, none⟩) 3 3, .int .i64 11, .func (.func 126) #[] #[]] 201)
      clear h0 hbl
      generalize w1.heap.size = b at *
      generalize w1.alloc (.cells #[.int .i64 12, .slice (some ⟨g1, 0, none⟩) 3 3, .int .i64 11, .func (.func 126) #[] #[]] 201) = w2 at *
      go_region_held3 (fun w' => w'.cell? ⟨b, 0, none⟩ = some (.int .i64 12) ∧ w'.cell? ⟨b, 1, none⟩ = some (.slice (some ⟨g1, 0, none⟩) 3 3) ∧ w'.cell? ⟨b, 2, none⟩ = some (.int .i64 11) ∧ w'.cell? ⟨b, 3, none⟩ = some (.func (.func 126) #[] #[])) (first | exact Blk.get4 hbx | exact Blk.get4 (hbx.drew.call hb3))
        (first | (go_at_call 117; refine (classes0 g1 _ h2.drew).mono ?_; rintro e w3 ⟨⟨v, rfl, hown⟩, hb3⟩) | (go_at_call 116; refine (prefix_ok _ _ fs0 12 s _ fs0_ok (by decide) hown hs HOK.out).mono ?_; rintro e w4 ⟨⟨at_, rfl⟩, rfl⟩))
      have hbx3 := hbx.drew.call hb3
      have hbl3 := bl_then (bl_drew hbl2) hb3
      obtain ⟨c0, c1, c2, c3⟩ := Blk.get4 hbx3
      clear hbx hown h2 hbl2
      go_wp2_with fail
      have k2 := cell_regrown c2
      have k3 := cell_regrown c3
      have cL : ∀ d os, Calls Tryz.prog 126 #[.string (s.extract 0 11)] (grow (redrawn w3 d) os) fun e w'' => e = .returned (.string R) ∧ ∃ p : Regrown, w'' = grow (redrawn w3 p.d) p.os := fun d os => Calls.regrown_of (HCALL.out _)
      refine wp_region_quiet_below (by kernel_rfl) (by kernel_rfl) ?_
      repeat (quiet_step (exact cL _ _))
      refine wpQuiet_nil ?_
      intro _ hw'
      obtain ⟨⟨dq, osq⟩, hw''⟩ := hw'
      subst hw''
      have hbl4 : Below w.heap.size w (grow (redrawn w3 dq) osq) := bl_then hbl3 (below_regrown w3 dq osq)
      have k2' := k2 dq osq
      clear k2 k3 c0 c1 c2 c3 cL
      generalize grow (redrawn w3 dq) osq = w5 at *
      go_wp2_with fail
      go_ret2
      refine ⟨⟨_, _, rfl, ?_⟩, hbl4⟩
      first
        | exact ⟨fun _ => ⟨HOK.out, HCHK.out.1 trivial⟩, fun _ => rfl⟩
        | exact ⟨fun h => absurd h (by decide), fun h => absurd (HCHK.out.2 h.2) (by decide)⟩
  · have HOK := Lib.hid hok
    clear hok hform
    go_enter Tryz.func98, Tryz.ntmps98
    go_wp2_with (go_at_call 115; refine (kinds_g _).mono ?_; unfold kv; rintro e w1 ⟨⟨g1, g2, g3, g4, rfl, h0, h1, h3⟩, hbl⟩)
    clear h1 h3
    have hbx := Blk.new w1 201 #[.int .i64 12, .slice (some ⟨g1, 0, none⟩) 3 3, .int .i64 11, .func (.func 126) #[] #[]]
    have h2 := h0.alloc (.cells #[.int .i64 12, .slice (some ⟨g1, 0, none⟩) 3 3, .int .i64 11, .func (.func 126) #[] #[]] 201)
    have hbl2 := bl_alloc hbl (.cells #[.int .i64 12, .slice (some ⟨g1, 0, none⟩) 3 3, .int .i64 11, .func (.func 126) #[] #[]] 201)
    clear h0 hbl
    generalize w1.heap.size = b at *
    generalize w1.alloc (.cells #[.int .i64 12, .slice (some ⟨g1, 0, none⟩) 3 3, .int .i64 11, .func (.func 126) #[] #[]] 201) = w2 at *
    go_region_held3 (fun w' => w'.cell? ⟨b, 0, none⟩ = some (.int .i64 12) ∧ w'.cell? ⟨b, 1, none⟩ = some (.slice (some ⟨g1, 0, none⟩) 3 3) ∧ w'.cell? ⟨b, 2, none⟩ = some (.int .i64 11) ∧ w'.cell? ⟨b, 3, none⟩ = some (.func (.func 126) #[] #[])) (first | exact Blk.get4 hbx | exact Blk.get4 (hbx.drew.call hb3))
      (first | (go_at_call 117; refine (classes0 g1 _ h2.drew).mono ?_; rintro e w3 ⟨⟨v, rfl, hown⟩, hb3⟩) | (go_at_call 116; refine (prefix_no _ _ fs0 12 s _ fs0_ok (by decide) hown hs HOK.out).mono ?_; rintro e w4 ⟨⟨at_, er, rfl, her⟩, rfl⟩))
    have hbl3 := bl_then (bl_drew hbl2) hb3
    clear hbx hown h2 hbl2
    go_wp2_with fail
    go_ret2
    refine ⟨⟨_, _, rfl, ?_⟩, hbl3⟩
    rw [beq_eq_false_iff_ne] at her
    exact ⟨fun h => absurd h her, fun h => absurd h.1 HOK.out⟩

def want3 (s : ByteArray) : ByteArray := pairB (98 - m97 (dsL (exU s.data.toList ++ [48, 48])))
def chk3 (s : ByteArray) : Prop := want3 (s.extract 0 18) = s.extract 18 20

set_option maxRecDepth 100000 in
set_option maxHeartbeats 4000000 in
theorem check98_3 (s : ByteArray) (hs : s.size ≤ 9223372036854775807) (hform : okForm fs3 20 s → s.size = 20 ∧ aln (s.extract 0 18) ∧ (s.extract 0 18).size = 18) (w : World) :
    Calls Tryz.prog 98 #[.int .i64 3, .string s] w fun e w' => (∃ at_ er : Int, e = .returned (.tuple #[.int .i64 at_, .int .i64 er]) ∧ (er = 0 ↔ okForm fs3 20 s ∧ chk3 s)) ∧ Below w.heap.size w w' := by
  by_cases hok : okForm fs3 20 s
  · have HOK := Lib.hid hok
    obtain ⟨hsz, hal, hbs⟩ := hform hok
    obtain ⟨R, hR⟩ : ∃ R, R = want3 (s.extract 0 18) := ⟨_, rfl⟩
    have hcall : ∀ W, Calls Tryz.prog 128 #[.string (s.extract 0 18)] W fun e w' => e = .returned (.string R) ∧ Below W.heap.size W w' := fun W => by
      rw [hR]; exact mod97_128 (s.extract 0 18) (by rw [hbs]; decide) hal W
    have HCALL := Lib.hid hcall
    obtain ⟨b, hb⟩ : ∃ b, (R.toList == (s.extract 18 20).toList) = b := ⟨_, rfl⟩
    have hchk : b = true ↔ chk3 s := by
      rw [← hb, str_beq, decide_eq_true_iff, hR]; exact Iff.rfl
    have HCHK := Lib.hid hchk
    clear hok hform hal hbs hcall hR hchk
    cases b
    all_goals
    · go_enter Tryz.func98, Tryz.ntmps98
      go_wp2_with (go_at_call 115; refine (kinds_g _).mono ?_; unfold kv; rintro e w1 ⟨⟨g1, g2, g3, g4, rfl, h0, h1, h3⟩, hbl⟩)
      clear h0 h1
      have hbx := Blk.new w1 201 #[.int .i64 20, .slice (some ⟨g4, 0, none⟩) 2 2, .int .i64 18, .func (.func 128) #[] #[]]
      have h2 := h3.alloc (.cells #[.int .i64 20, .slice (some ⟨g4, 0, none⟩) 2 2, .int .i64 18, .func (.func 128) #[] #[]] 201)
      have hbl2 := bl_alloc hbl (.cells #[.int .i64 20, .slice (some ⟨g4, 0, none⟩) 2 2, .int .i64 18, .func (.func 128) #[] #[]] 201)
      clear h3 hbl
      generalize w1.heap.size = b at *
      generalize w1.alloc (.cells #[.int .i64 20, .slice (some ⟨g4, 0, none⟩) 2 2, .int .i64 18, .func (.func 128) #[] #[]] 201) = w2 at *
      go_region_held3 (fun w' => w'.cell? ⟨b, 0, none⟩ = some (.int .i64 20) ∧ w'.cell? ⟨b, 1, none⟩ = some (.slice (some ⟨g4, 0, none⟩) 2 2) ∧ w'.cell? ⟨b, 2, none⟩ = some (.int .i64 18) ∧ w'.cell? ⟨b, 3, none⟩ = some (.func (.func 128) #[] #[])) (first | exact Blk.get4 hbx | exact Blk.get4 (hbx.drew.call hb3))
        (first | (go_at_call 117; refine (classes3 g4 _ h2.drew).mono ?_; rintro e w3 ⟨⟨v, rfl, hown⟩, hb3⟩) | (go_at_call 116; refine (prefix_ok _ _ fs3 20 s _ fs3_ok (by decide) hown hs HOK.out).mono ?_; rintro e w4 ⟨⟨at_, rfl⟩, rfl⟩))
      have hbx3 := hbx.drew.call hb3
      have hbl3 := bl_then (bl_drew hbl2) hb3
      obtain ⟨c0, c1, c2, c3⟩ := Blk.get4 hbx3
      clear hbx hown h2 hbl2
      go_wp2_with fail
      have k2 := cell_regrown c2
      have k3 := cell_regrown c3
      have cL : ∀ d os, Calls Tryz.prog 128 #[.string (s.extract 0 18)] (grow (redrawn w3 d) os) fun e w'' => e = .returned (.string R) ∧ ∃ p : Regrown, w'' = grow (redrawn w3 p.d) p.os := fun d os => Calls.regrown_of (HCALL.out _)
      refine wp_region_quiet_below (by kernel_rfl) (by kernel_rfl) ?_
      repeat (quiet_step (exact cL _ _))
      refine wpQuiet_nil ?_
      intro _ hw'
      obtain ⟨⟨dq, osq⟩, hw''⟩ := hw'
      subst hw''
      have hbl4 : Below w.heap.size w (grow (redrawn w3 dq) osq) := bl_then hbl3 (below_regrown w3 dq osq)
      have k2' := k2 dq osq
      clear k2 k3 c0 c1 c2 c3 cL
      generalize grow (redrawn w3 dq) osq = w5 at *
      go_wp2_with fail
      go_ret2
      refine ⟨⟨_, _, rfl, ?_⟩, hbl4⟩
      first
        | exact ⟨fun _ => ⟨HOK.out, HCHK.out.1 trivial⟩, fun _ => rfl⟩
        | exact ⟨fun h => absurd h (by decide), fun h => absurd (HCHK.out.2 h.2) (by decide)⟩
  · have HOK := Lib.hid hok
    clear hok hform
    go_enter Tryz.func98, Tryz.ntmps98
    go_wp2_with (go_at_call 115; refine (kinds_g _).mono ?_; unfold kv; rintro e w1 ⟨⟨g1, g2, g3, g4, rfl, h0, h1, h3⟩, hbl⟩)
    clear h0 h1
    have hbx := Blk.new w1 201 #[.int .i64 20, .slice (some ⟨g4, 0, none⟩) 2 2, .int .i64 18, .func (.func 128) #[] #[]]
    have h2 := h3.alloc (.cells #[.int .i64 20, .slice (some ⟨g4, 0, none⟩) 2 2, .int .i64 18, .func (.func 128) #[] #[]] 201)
    have hbl2 := bl_alloc hbl (.cells #[.int .i64 20, .slice (some ⟨g4, 0, none⟩) 2 2, .int .i64 18, .func (.func 128) #[] #[]] 201)
    clear h3 hbl
    generalize w1.heap.size = b at *
    generalize w1.alloc (.cells #[.int .i64 20, .slice (some ⟨g4, 0, none⟩) 2 2, .int .i64 18, .func (.func 128) #[] #[]] 201) = w2 at *
    go_region_held3 (fun w' => w'.cell? ⟨b, 0, none⟩ = some (.int .i64 20) ∧ w'.cell? ⟨b, 1, none⟩ = some (.slice (some ⟨g4, 0, none⟩) 2 2) ∧ w'.cell? ⟨b, 2, none⟩ = some (.int .i64 18) ∧ w'.cell? ⟨b, 3, none⟩ = some (.func (.func 128) #[] #[])) (first | exact Blk.get4 hbx | exact Blk.get4 (hbx.drew.call hb3))
      (first | (go_at_call 117; refine (classes3 g4 _ h2.drew).mono ?_; rintro e w3 ⟨⟨v, rfl, hown⟩, hb3⟩) | (go_at_call 116; refine (prefix_no _ _ fs3 20 s _ fs3_ok (by decide) hown hs HOK.out).mono ?_; rintro e w4 ⟨⟨at_, er, rfl, her⟩, rfl⟩))
    have hbl3 := bl_then (bl_drew hbl2) hb3
    clear hbx hown h2 hbl2
    go_wp2_with fail
    go_ret2
    refine ⟨⟨_, _, rfl, ?_⟩, hbl3⟩
    rw [beq_eq_false_iff_ne] at her
    exact ⟨fun h => absurd h her, fun h => absurd h.1 HOK.out⟩
end Go.Proofs.YtongoicadcmfaaaGreatDoor.V
