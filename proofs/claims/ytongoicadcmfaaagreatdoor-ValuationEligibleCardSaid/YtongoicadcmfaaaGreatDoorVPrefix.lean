/- ident.prefix: the characters of a string against their classes. -/
import Derived.Test.YtongoicadcmfaaaGreatDoorVClasses
namespace Go.Proofs.YtongoicadcmfaaaGreatDoor.V
open Go.RowKit

def letB (c : Int) : Bool := decide (65 ≤ c) && decide (c ≤ 90)
def digB (c : Int) : Bool := decide (48 ≤ c) && decide (c ≤ 57)
def alnB (c : Int) : Bool := letB c || digB c
/-- The class that a function's number stands for. -/
def cls (f : Nat) (c : Int) : Bool := if f = 123 then letB c else if f = 124 then alnB c else digB c
def bat (s : ByteArray) (i : Nat) : Int := if h : i < s.size then ((s[i]'h).toNat : Int) else 0
theorem bat_at (s : ByteArray) (i : Nat) (h : i < s.size) : ((s[i]'h).toNat : Int) = bat s i := by simp [bat, h]
theorem bat_bd (s : ByteArray) (i : Nat) : 0 ≤ bat s i ∧ bat s i ≤ 255 := by
  unfold bat
  split
  · have := (s[i]).toNat_lt; omega
  · omega

theorem let123 (c : Int) (w : World) : Calls Tryz.prog 123 #[.int .u8 c] w fun e w' => e = .returned (.bool (letB c)) ∧ w = w' := by
  unfold letB
  go_enter Tryz.func123, Tryz.ntmps123
  by_cases h : 65 ≤ c
  · have h' : decide (65 ≤ c) = true := decide_eq_true h
    go_wp2
    go_ret
    simp [h]
  · have h' : decide (65 ≤ c) = false := decide_eq_false h
    go_wp2
    go_ret
    simp [h']
theorem dig125 (c : Int) (w : World) : Calls Tryz.prog 125 #[.int .u8 c] w fun e w' => e = .returned (.bool (digB c)) ∧ w = w' := by
  unfold digB
  go_enter Tryz.func125, Tryz.ntmps125
  by_cases h : 48 ≤ c
  · have h' : decide (48 ≤ c) = true := decide_eq_true h
    go_wp2
    go_ret
    simp [h]
  · have h' : decide (48 ≤ c) = false := decide_eq_false h
    go_wp2
    go_ret
    simp [h']
theorem aln124 (c : Int) (w : World) : Calls Tryz.prog 124 #[.int .u8 c] w fun e w' => e = .returned (.bool (alnB c)) ∧ w = w' := by
  unfold alnB
  go_enter Tryz.func124, Tryz.ntmps124
  cases h : letB c
  · go_wp2_with (first | (go_at_call 123; refine (let123 _ _).mono ?_; rintro e w' ⟨rfl, rfl⟩) | (go_at_call 125; refine (dig125 _ _).mono ?_; rintro e w' ⟨rfl, rfl⟩))
    go_ret
    simp
  · go_wp2_with (first | (go_at_call 123; refine (let123 _ _).mono ?_; rintro e w' ⟨rfl, rfl⟩) | (go_at_call 125; refine (dig125 _ _).mono ?_; rintro e w' ⟨rfl, rfl⟩))
    go_ret
    simp
theorem cls_any (f : Nat) (hf : f = 123 ∨ f = 124 ∨ f = 125) (c : Int) (w : World) : Calls Tryz.prog f #[.int .u8 c] w fun e w' => e = .returned (.bool (cls f c)) ∧ w = w' := by
  rcases hf with rfl | rfl | rfl
  · exact let123 c w
  · exact aln124 c w
  · exact dig125 c w

def okPref (fs : List Nat) (s : ByteArray) : Prop := ∀ i (h : i < fs.length), i < s.size → cls fs[i] (bat s i) = true
def fnsOf (fs : List Nat) : List Value := fs.map fn

set_option maxRecDepth 20000 in
set_option maxHeartbeats 1000000 in
theorem prefix116 (g cap : Nat) (fs : List Nat) (lo : Int) (s : ByteArray) (w : World) (hfs : ∀ f ∈ fs, f = 123 ∨ f = 124 ∨ f = 125) (hlen : fs.length ≤ cap) (hc : cap ≤ 9223372036854775807)
    (hg : ∀ j u, (fnsOf fs)[j]? = some u → w.cell? ((⟨g, 0, none⟩ : Addr).add j) = some u) (hs : s.size ≤ 9223372036854775807) :
    Calls Tryz.prog 116 #[.slice (some ⟨g, 0, none⟩) fs.length cap, .int .i64 lo, .string s] w fun e w' => (∃ at_ er : Int, e = .returned (.tuple #[.int .i64 at_, .int .i64 er]) ∧ (er = 0 ↔ okPref fs s ∧ lo ≤ s.size ∧ s.size ≤ fs.length)) ∧ w = w' := by
  go_enter Tryz.func116, Tryz.ntmps116
  go_wp2_with fail
  go_loop [12] (fun v12 => ∃ i : Nat, i ≤ fs.length ∧ v12 = .int .i64 i ∧ ∀ k (h : k < fs.length), k < i → k < s.size → cls fs[k] (bat s k) = true) (fun v12 => fs.length - (intOf v12).toNat)
  case atStart => exact ⟨0, Nat.zero_le _, rfl, fun k h hk => by omega⟩
  case round =>
    obtain ⟨i, hi, rfl, hok⟩ := hrel
    have HOK := Lib.hid hok
    clear hok
    by_cases hlt : i < fs.length
    · have hcell := hg i (fn fs[i]) (by simp [fnsOf, List.getElem?_eq_getElem hlt])
      have hf := hfs fs[i] (List.getElem_mem hlt)
      have hadd : (⟨g, 0, none⟩ : Addr).add i = ⟨g, i, none⟩ := by unfold Addr.add; split <;> simp_all
      rw [hadd] at hcell
      obtain ⟨f, ef⟩ : ∃ f, fs[i] = f := ⟨_, rfl⟩
      have EF := Lib.hid ef
      rw [ef] at hcell hf
      unfold fn at hcell
      clear ef hadd
      clear hi
      by_cases hsz : i < s.size
      · obtain ⟨c, ec⟩ : ∃ c, s[i] = c := ⟨_, rfl⟩
        have ebat : bat s i = (c.toNat : Int) := by simp [bat, hsz, ec]
        obtain ⟨b, eb⟩ : ∃ b, cls f (c.toNat : Int) = b := ⟨_, rfl⟩
        have EB := Lib.hid ebat
        clear ebat hc hlen
        cases b
        · have hno : ¬ okPref fs s := fun h => by
            have := h i hlt hsz
            rw [EF.out, EB.out, eb] at this
            exact absurd this (by decide)
          have HNO := Lib.hid hno
          clear hno
          rcases hf with rfl | rfl | rfl <;>
          · go_wp2_with (first | (go_at_call 123; refine (cls_any 123 (by decide) _ _).mono ?_; rintro e w' ⟨rfl, rfl⟩) | (go_at_call 124; refine (cls_any 124 (by decide) _ _).mono ?_; rintro e w' ⟨rfl, rfl⟩) | (go_at_call 125; refine (cls_any 125 (by decide) _ _).mono ?_; rintro e w' ⟨rfl, rfl⟩))
            go_ret2
            refine ⟨⟨_, _, rfl, ?_⟩, rfl⟩
            constructor
            · intro h; simp at h
            · intro h; exact absurd h.1 HNO.out
        · have hok' : ∀ k (h : k < fs.length), k < i + 1 → k < s.size → cls fs[k] (bat s k) = true := fun k h hk hs' => by
            by_cases hki : k = i
            · subst hki; rw [EF.out, EB.out, eb]
            · exact HOK.out k h (by omega) hs'
          have HOK' := Lib.hid hok'
          clear hok'
          rcases hf with rfl | rfl | rfl <;>
          · go_wp2_with (first | (go_at_call 123; refine (cls_any 123 (by decide) _ _).mono ?_; rintro e w' ⟨rfl, rfl⟩) | (go_at_call 124; refine (cls_any 124 (by decide) _ _).mono ?_; rintro e w' ⟨rfl, rfl⟩) | (go_at_call 125; refine (cls_any 125 (by decide) _ _).mono ?_; rintro e w' ⟨rfl, rfl⟩))
            refine ⟨⟨i + 1, hlt, by go_num, HOK'.out⟩, by simp [intOf]; omega⟩
      · have hok' : ∀ k (h : k < fs.length), k < i + 1 → k < s.size → cls fs[k] (bat s k) = true := fun k h hk hs' =>
          HOK.out k h (by omega) hs'
        have HOK' := Lib.hid hok'
        clear hok'
        go_wp2_with fail
        refine ⟨⟨i + 1, hlt, by go_num, HOK'.out⟩, by simp [intOf]; omega⟩
    · have hyes : okPref fs s := fun k h hs' => HOK.out k h (by omega) hs'
      have HY := Lib.hid hyes
      clear hyes
      by_cases h1 : (s.size : Int) < lo
      · have h1' : decide ((s.size : Int) < lo) = true := decide_eq_true h1
        go_wp2_with fail
        go_ret2
        refine ⟨⟨_, _, rfl, ?_⟩, rfl⟩
        simp; omega
      · have h1' : decide ((s.size : Int) < lo) = false := decide_eq_false h1
        by_cases h2 : (fs.length : Int) < s.size
        · have h2' : decide ((fs.length : Int) < s.size) = true := decide_eq_true h2
          go_wp2_with fail
          go_ret2
          refine ⟨⟨_, _, rfl, ?_⟩, rfl⟩
          simp; omega
        · have h2' : decide ((fs.length : Int) < s.size) = false := decide_eq_false h2
          go_wp2_with fail
          go_ret2
          refine ⟨⟨_, _, rfl, ?_⟩, rfl⟩
          simp [HY.out]; omega
end Go.Proofs.YtongoicadcmfaaaGreatDoor.V
