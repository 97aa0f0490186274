/- ident.Valid and giroref21.valid answer alike at the kinds 0, 1, 3. -/
import Derived.Test.YtongoicadcmfaaaGreatDoorVRCheck0
import Derived.Test.YtongoicadcmfaaaGreatDoorVRCheck3
namespace Go.Proofs.YtongoicadcmfaaaGreatDoor.V
open Go.RowKit

theorem ext_size (s : ByteArray) (n : Nat) (h : n ≤ s.size) : (s.extract 0 n).size = n := by
  rw [ByteArray.size_extract]; omega
theorem ext_get (s : ByteArray) (n i : Nat) (h : i < (s.extract 0 n).size) (h' : i < s.size) : (s.extract 0 n)[i] = s[i] := by
  rw [ByteArray.getElem_extract]; simp
theorem form0 (s : ByteArray) (h : okForm fs0 12 s) : s.size = 12 ∧ aln (s.extract 0 11) ∧ (s.extract 0 11).size = 11 := by
  obtain ⟨hp, h1, h2⟩ := h
  have hl : fs0.length = 12 := rfl
  have hs : s.size = 12 := by omega
  refine ⟨hs, ?_, ext_size s 11 (by omega)⟩
  intro i hi
  rw [ext_size s 11 (by omega)] at hi
  have h3 := hp i (by omega) (by omega)
  rw [ext_get s 11 i (by rw [ext_size s 11 (by omega)]; exact hi) (by omega)]
  have hb : bat s i = (s[i].toNat : Int) := by simp [bat, show i < s.size by omega]
  rw [hb] at h3
  have : ∀ k : Fin 11, fs0.getD k.1 0 = 123 ∨ fs0.getD k.1 0 = 124 := by decide
  have h4 := this ⟨i, hi⟩
  rw [List.getD_eq_getElem?_getD, List.getElem?_eq_getElem (by omega)] at h4
  rcases h4 with h4 | h4 <;> simp only [Option.getD_some] at h4 <;> rw [h4] at h3 <;> simp [cls] at h3
  · simp [alnB, h3]
  · exact h3
theorem form3 (s : ByteArray) (h : okForm fs3 20 s) : s.size = 20 ∧ aln (s.extract 0 18) ∧ (s.extract 0 18).size = 18 := by
  obtain ⟨hp, h1, h2⟩ := h
  have hl : fs3.length = 20 := rfl
  have hs : s.size = 20 := by omega
  refine ⟨hs, ?_, ext_size s 18 (by omega)⟩
  intro i hi
  rw [ext_size s 18 (by omega)] at hi
  have h3 := hp i (by omega) (by omega)
  rw [ext_get s 18 i (by rw [ext_size s 18 (by omega)]; exact hi) (by omega)]
  have hb : bat s i = (s[i].toNat : Int) := by simp [bat, show i < s.size by omega]
  rw [hb] at h3
  have : ∀ k : Fin 18, fs3.getD k.1 0 = 124 := by decide
  have h4 := this ⟨i, hi⟩
  rw [List.getD_eq_getElem?_getD, List.getElem?_eq_getElem (by omega)] at h4
  simp only [Option.getD_some] at h4
  rw [h4] at h3
  simpa [cls] using h3

theorem luhnD_bd (ds : List Int) : 0 ≤ luhnD ds ∧ luhnD ds ≤ 9 := by unfold luhnD; omega
theorem ext_one (s : ByteArray) (k : Nat) (h : k < s.size) : s.extract k (k + 1) = ⟨#[s[k]]⟩ := by
  apply ByteArray.ext
  apply Array.ext
  · simp only [ByteArray.data_extract, Array.size_extract]
    have : s.data.size = s.size := rfl
    simp; omega
  · intro i h1 h2
    have h3 : i = 0 := by simpa using h2
    subst h3
    simp [ByteArray.getElem_eq_getElem_data]
theorem chk0_iff (s : ByteArray) (h : okForm fs0 12 s) : chk0 s ↔ chkR0 s := by
  obtain ⟨hs, _, _⟩ := form0 s h
  unfold chk0 chkR0 want0 exN
  rw [ext_one s 11 (by omega)]
  have hb : bat s 11 = (s[11].toNat : Int) := by simp [bat, show 11 < s.size by omega]
  rw [hb]
  obtain ⟨h0, h9⟩ := luhnD_bd (dsL (exU (s.extract 0 11).data.toList))
  generalize luhnD (dsL (exU (s.extract 0 11).data.toList)) = d at *
  have : ∀ k : Fin 10, Lib.decDigits k.1 = [UInt8.ofNat (48 + k.1)] := by decide +kernel
  rw [this ⟨d.toNat, by omega⟩]
  generalize s[11] = c
  rw [ByteArray.mk.injEq]
  constructor
  · intro h
    have h1 : UInt8.ofNat (48 + d.toNat) = c := by simpa using h
    rw [← h1]
    have : (UInt8.ofNat (48 + d.toNat)).toNat = 48 + d.toNat := by rw [UInt8.toNat_ofNat']; omega
    rw [this]; omega
  · intro h
    have h1 : UInt8.ofNat (48 + d.toNat) = c := by
      apply UInt8.toNat_inj.1
      rw [UInt8.toNat_ofNat']; omega
    rw [h1]
theorem chk3_iff (s : ByteArray) : chk3 s ↔ chkR3 s := by
  unfold chk3 chkR3 want3 exN
  have e : (s.extract 0 18 ++ ⟨#[48, 48]⟩ : ByteArray).data.toList = (s.extract 0 18).data.toList ++ [48, 48] := by simp
  rw [e]
  have e2 : exU ((s.extract 0 18).data.toList ++ [48, 48]) = exU (s.extract 0 18).data.toList ++ [48, 48] := by
    have : dgU 48 = [48] := by unfold dgU; rfl
    simp [exU, this]
  rw [e2]
  exact eq_comm

/-- An identifier of a kind. -/
def okId (k : Int) (s : ByteArray) : Prop := if k = 0 then okForm fs0 12 s ∧ chk0 s else if k = 1 then okForm fs1 4 s else okForm fs3 20 s ∧ chk3 s

theorem valid72 (k : Int) (hk : k = 0 ∨ k = 1 ∨ k = 3) (s : ByteArray) (hs : s.size ≤ 9223372036854775807) (b : Bool) (hb : b = true ↔ okId k s) (w : World) :
    Calls Tryz.prog 72 #[.int .i64 k, .string s] w fun e w' => e = .returned (.bool b) ∧ Below w.heap.size w w' := by
  have hc : ∀ w, Calls Tryz.prog 98 #[.int .i64 k, .string s] w fun e w' => (∃ at_ er : Int, e = .returned (.tuple #[.int .i64 at_, .int .i64 er]) ∧ (er == 0) = b) ∧ Below w.heap.size w w' := by
    intro w
    have key : ∀ er : Int, ∀ p : Prop, (er = 0 ↔ p) → (b = true ↔ p) → (er == 0) = b := by
      intro er p h1 h2
      rw [Bool.eq_iff_iff, beq_iff_eq, h1, h2]
    rcases hk with rfl | rfl | rfl
    · exact (check98_0 s hs (form0 s) w).mono fun _ _ ⟨⟨a, er, he, h⟩, hb'⟩ => ⟨⟨a, er, he, key _ _ h hb⟩, hb'⟩
    · exact (check98_1 s hs w).mono fun _ _ ⟨⟨a, er, he, h⟩, hb'⟩ => ⟨⟨a, er, he, key _ _ h hb⟩, hb'⟩
    · exact (check98_3 s hs (form3 s) w).mono fun _ _ ⟨⟨a, er, he, h⟩, hb'⟩ => ⟨⟨a, er, he, key _ _ h hb⟩, hb'⟩
  have HC := Lib.hid hc
  clear hc hb hk
  go_enter Tryz.func72, Tryz.ntmps72
  go_wp2_with (go_at_call 98; refine (HC.out _).mono ?_; rintro e w1 ⟨⟨at_, er, rfl, hb⟩, hbl⟩)
  go_ret
  exact ⟨by rw [← hb]; rfl, hbl⟩

theorem valid114 (k : Int) (hk : k = 0 ∨ k = 1 ∨ k = 3) (s : ByteArray) (hs : s.size ≤ 9223372036854775807) (b : Bool) (hb : b = true ↔ okId k s) (w : World) :
    Calls Tryz.prog 114 #[.int .i64 k, .string s] w fun e w' => e = .returned (.bool b) ∧ Below w.heap.size w w' := by
  have hc : ∀ w, Calls Tryz.prog 122 #[.int .i64 k, .string s] w fun e w' => (∃ at_ er : Int, e = .returned (.tuple #[.int .i64 at_, .int .i64 er]) ∧ (er == 0) = b) ∧ Below w.heap.size w w' := by
    intro w
    have key : ∀ er : Int, ∀ p : Prop, (er = 0 ↔ p) → (b = true ↔ p) → (er == 0) = b := by
      intro er p h1 h2
      rw [Bool.eq_iff_iff, beq_iff_eq, h1, h2]
    rcases hk with rfl | rfl | rfl
    · refine (check122_0 s hs (form0 s) w).mono fun _ _ ⟨⟨a, er, he, h⟩, hb'⟩ => ⟨⟨a, er, he, key _ _ h ?_⟩, hb'⟩
      rw [hb]
      exact ⟨fun h => ⟨h.1, (chk0_iff s h.1).1 h.2⟩, fun h => ⟨h.1, (chk0_iff s h.1).2 h.2⟩⟩
    · exact (check122_1 s hs w).mono fun _ _ ⟨⟨a, er, he, h⟩, hb'⟩ => ⟨⟨a, er, he, key _ _ h hb⟩, hb'⟩
    · refine (check122_3 s hs (form3 s) w).mono fun _ _ ⟨⟨a, er, he, h⟩, hb'⟩ => ⟨⟨a, er, he, key _ _ h ?_⟩, hb'⟩
      rw [hb]
      exact ⟨fun h => ⟨h.1, (chk3_iff s).1 h.2⟩, fun h => ⟨h.1, (chk3_iff s).2 h.2⟩⟩
  have HC := Lib.hid hc
  clear hc hb hk
  go_enter Tryz.func114, Tryz.ntmps114
  go_wp2_with (go_at_call 122; refine (HC.out _).mono ?_; rintro e w1 ⟨⟨at_, er, rfl, hb⟩, hbl⟩)
  go_ret
  exact ⟨by rw [← hb]; rfl, hbl⟩
end Go.Proofs.YtongoicadcmfaaaGreatDoor.V
