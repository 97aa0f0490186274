/- ident.luhn and ident.mod97. -/
import Derived.Test.YtongoicadcmfaaaGreatDoorVExpand
import Derived.Laws.RangeString
set_option linter.unusedSimpArgs false
set_option linter.unusedVariables false
namespace Go.Proofs.YtongoicadcmfaaaGreatDoor.V
open Go.RowKit

def isDig (S : ByteArray) : Prop := ∀ i (h : i < S.size), 48 ≤ ((S[i]'h).toNat : Int) ∧ ((S[i]'h).toNat : Int) ≤ 57
def dsL (l : List UInt8) : List Int := l.map fun b => (b.toNat : Int) - 48
theorem dec_dig (n : Nat) (h : n < 100) : ∀ b ∈ Lib.decDigits n, 48 ≤ b.toNat ∧ b.toNat ≤ 57 := by
  have : ∀ k : Fin 100, ∀ b ∈ Lib.decDigits k.1, 48 ≤ b.toNat ∧ b.toNat ≤ 57 := by decide +kernel
  exact this ⟨n, h⟩
theorem dgU_dig (c : UInt8) (hc : alnB c.toNat = true) : ∀ b ∈ dgU c, 48 ≤ b.toNat ∧ b.toNat ≤ 57 := by
  unfold dgU
  split
  · rename_i h
    simp only [digB, Bool.and_eq_true, decide_eq_true_eq] at h
    intro b hb
    obtain rfl : b = c := by simpa using hb
    omega
  · refine dec_dig _ ?_
    simp only [alnB, letB, digB, Bool.or_eq_true, Bool.and_eq_true, decide_eq_true_eq] at hc
    omega
theorem exU_dig (l : List UInt8) (hc : ∀ c ∈ l, alnB c.toNat = true) : ∀ b ∈ exU l, 48 ≤ b.toNat ∧ b.toNat ≤ 57 := by
  intro b hb
  obtain ⟨c, h1, h2⟩ := List.mem_flatMap.1 hb
  exact dgU_dig c (hc c h1) b h2
theorem isDig_of (l : List UInt8) (h : ∀ b ∈ l, 48 ≤ b.toNat ∧ b.toNat ≤ 57) : isDig ⟨l.toArray⟩ := by
  intro i hi
  have hi' : i < l.length := by simpa [ByteArray.size] using hi
  have := h l[i] (List.getElem_mem hi')
  have e : (ByteArray.mk l.toArray)[i] = l[i] := by simp [ByteArray.getElem_eq_getElem_data]
  rw [e]; omega
theorem aln_all (s : ByteArray) (h : aln s) : ∀ c ∈ s.data.toList, alnB c.toNat = true := by
  have := aln_mem s h s.data.toList.length
  rwa [List.take_length] at this

/-- The sum of Luhn's rule over the first k digits from the right. -/
def lstep (i : Nat) (d : Int) : Int := (if i % 2 = 0 then 2 * d else d) / 10 + (if i % 2 = 0 then 2 * d else d) % 10
def lsum (ds : List Int) : Nat → Int
  | 0 => 0
  | k + 1 => lsum ds k + lstep k (ds.getD (ds.length - 1 - k) 0)
def luhnD (ds : List Int) : Int := (10 - lsum ds ds.length % 10) % 10
def m97 (ds : List Int) : Int := ds.foldl (fun r d => (10 * r + d) % 97) 0
def pairB (n : Int) : ByteArray := ⟨#[UInt8.ofNat (48 + n.toNat / 10), UInt8.ofNat (48 + n.toNat % 10)]⟩

theorem lstep_bd (i : Nat) (d : Int) (h : 0 ≤ d) (h' : d ≤ 9) : 0 ≤ lstep i d ∧ lstep i d ≤ 18 := by
  unfold lstep; split <;> omega
theorem lsum_bd (ds : List Int) (h : ∀ d ∈ ds, 0 ≤ d ∧ d ≤ 9) : ∀ k, 0 ≤ lsum ds k ∧ lsum ds k ≤ 18 * k
  | 0 => ⟨Int.le_refl _, Int.le_refl _⟩
  | k + 1 => by
    have ih := lsum_bd ds h k
    have hd : 0 ≤ ds.getD (ds.length - 1 - k) 0 ∧ ds.getD (ds.length - 1 - k) 0 ≤ 9 := by
      rw [List.getD_eq_getElem?_getD]
      rcases Nat.lt_or_ge (ds.length - 1 - k) ds.length with hl | hl
      · rw [List.getElem?_eq_getElem hl]; exact h _ (List.getElem_mem hl)
      · rw [List.getElem?_eq_none hl]; simp
    have := lstep_bd k _ hd.1 hd.2
    simp only [lsum]; omega
theorem m97_bd (ds : List Int) : 0 ≤ m97 ds ∧ m97 ds ≤ 96 := by
  unfold m97
  rcases List.eq_nil_or_concat ds with rfl | ⟨l, a, rfl⟩
  · simp
  · rw [List.concat_eq_append, List.foldl_append]; simp only [List.foldl_cons, List.foldl_nil]; omega
theorem m97_snoc (l : List Int) (d : Int) : m97 (l ++ [d]) = (10 * m97 l + d) % 97 := by simp [m97]

theorem dsL_get (l : List UInt8) (k : Nat) (h : k < (ByteArray.mk l.toArray).size) : (dsL l).getD k 0 = (((ByteArray.mk l.toArray)[k]'h).toNat : Int) - 48 := by
  have hk : k < l.length := by simpa [ByteArray.size] using h
  rw [List.getD_eq_getElem?_getD]
  simp [dsL, List.getElem?_eq_getElem hk, ByteArray.getElem_eq_getElem_data]
theorem dsL_bd (l : List UInt8) (h : ∀ b ∈ l, 48 ≤ b.toNat ∧ b.toNat ≤ 57) : ∀ d ∈ dsL l, 0 ≤ d ∧ d ≤ 9 := by
  intro d hd
  obtain ⟨b, hb, rfl⟩ := List.mem_map.1 hd
  have := h b hb
  omega

set_option maxRecDepth 20000 in
set_option maxHeartbeats 2000000 in
theorem luhn126 (s : ByteArray) (hs : s.size ≤ 100) (ha : aln s) (w : World) :
    Calls Tryz.prog 126 #[.string s] w fun e w' => e = .returned (.string ⟨(Lib.decDigits (luhnD (dsL (exU s.data.toList))).toNat).toArray⟩) ∧ Below w.heap.size w w' := by
  have hdig := exU_dig _ (aln_all s ha)
  have hlen := exU_len _ (aln_all s ha)
  have hsz : s.data.toList.length = s.size := by simp
  rw [hsz] at hlen
  have HE := Lib.hid (fun w => expand134 s hs ha w)
  obtain ⟨l, el⟩ : ∃ l, exU s.data.toList = l := ⟨_, rfl⟩
  rw [el] at hdig hlen ⊢
  have hll : l.length ≤ 200 := by omega
  have EL := Lib.hid el
  have HD := Lib.hid (isDig_of l hdig)
  have HDS := Lib.hid (lsum_bd (dsL l) (dsL_bd l hdig))
  obtain ⟨X, eX⟩ : ∃ X, X = ByteArray.mk l.toArray := ⟨_, rfl⟩
  have hXs : X.size = l.length := by rw [eX]; rfl
  have hdl : (dsL l).length = X.size := by rw [hXs]; simp [dsL]
  have EX := Lib.hid eX
  have hX2 : X.size ≤ 200 := by omega
  have HDL := Lib.hid hdl
  clear ha el hdig hlen hsz eX hXs hdl hll
  go_enter Tryz.func126, Tryz.ntmps126
  go_wp2_with (go_at_call 134; refine (HE.out _).mono ?_; rw [EL.out, ← EX.out]; rintro e w1 ⟨rfl, hbl⟩)
  go_loop [4, 11] (fun v4 v11 => ∃ i : Nat, i ≤ X.size ∧ v11 = .int .i64 i ∧ v4 = .int .i64 (lsum (dsL l) i)) (fun _ v11 => X.size - (intOf v11).toNat)
  case atStart => exact ⟨0, Nat.zero_le _, rfl, rfl⟩
  case round =>
    obtain ⟨i, hi, rfl, rfl⟩ := hrel
    by_cases hlt : i < X.size
    · obtain ⟨q1, q2⟩ := HDS.out i
      have hsu : lsum (dsL l) (i + 1) = lsum (dsL l) i + lstep i ((dsL l).getD (X.size - 1 - i) 0) := by rw [← HDL.out]; rfl
      obtain ⟨k, hk⟩ : ∃ k, k = X.size - 1 - i := ⟨_, rfl⟩
      have hkl : k < X.size := by omega
      have hget : (dsL l).getD k 0 = ((X[k]'hkl).toNat : Int) - 48 := by
        have := EX.out; subst this
        exact dsL_get l k hkl
      have hbd : 48 ≤ ((X[k]'hkl).toNat : Int) ∧ ((X[k]'hkl).toNat : Int) ≤ 57 := by
        have := EX.out; subst this
        exact HD.out k hkl
      rw [← hk, hget] at hsu
      obtain ⟨c, ec⟩ : ∃ c, X[k]'hkl = c := ⟨_, rfl⟩
      rw [ec] at hbd hsu
      obtain ⟨b1, b2⟩ := hbd
      have hix : (X.size : Int) - 1 - i = k := by omega
      have HSU := Lib.hid hsu
      clear hi hsu hget hk
      generalize lsum (dsL l) i = S at *
      by_cases hp : i % 2 = 0
      · go_wp2_with fail
        refine ⟨⟨i + 1, hlt, by go_num, ?_⟩, by simp [intOf]; omega⟩
        rw [HSU.out]
        unfold lstep
        rw [if_pos hp]
        congr 1; omega
      · go_wp2_with fail
        refine ⟨⟨i + 1, hlt, by go_num, ?_⟩, by simp [intOf]; omega⟩
        rw [HSU.out]
        unfold lstep
        rw [if_neg hp]
    · obtain rfl : X.size = i := by omega
      obtain ⟨q1, q2⟩ := HDS.out X.size
      have hlu : luhnD (dsL l) = (10 - lsum (dsL l) X.size % 10) % 10 := by rw [← HDL.out]; rfl
      have HLU := Lib.hid hlu
      clear hlu hi
      generalize lsum (dsL l) X.size = S at *
      obtain ⟨n, hn⟩ : ∃ n : Nat, (n : Int) = luhnD (dsL l) := ⟨(luhnD (dsL l)).toNat, Int.toNat_of_nonneg (by rw [HLU.out]; omega)⟩
      have hn' : (luhnD (dsL l)).toNat = n := by omega
      have HN := Lib.hid (hn.trans HLU.out)
      have HN' := Lib.hid hn'
      clear hn hn'
      go_wp2_with (go_at_call 135; refine (itoa _ n (by have := HN.out; omega) (by have := HN.out; omega) _).mono ?_; rintro e w2 ⟨rfl, rfl⟩)
      go_ret
      rw [HN'.out]
      exact ⟨rfl, hbl⟩

theorem pairB_dec (n : Nat) (h : n < 100) (h10 : 10 ≤ n) : (ByteArray.mk (Lib.decDigits n).toArray) = pairB n := by
  have : ∀ k : Fin 100, 10 ≤ k.1 → Lib.decDigits k.1 = [UInt8.ofNat (48 + k.1 / 10), UInt8.ofNat (48 + k.1 % 10)] := by decide +kernel
  rw [this ⟨n, h⟩ h10]
  simp [pairB]
theorem pairB_dec1 (n : Nat) (h : n < 10) : (ByteArray.mk #[48]) ++ (ByteArray.mk (Lib.decDigits n).toArray) = pairB n := by
  have : ∀ k : Fin 10, (ByteArray.mk #[48]) ++ (ByteArray.mk (Lib.decDigits k.1).toArray) = pairB k.1 := by decide +kernel
  exact this ⟨n, h⟩
theorem dec_size (n : Nat) (h : n < 100) : (ByteArray.mk (Lib.decDigits n).toArray).size = if n < 10 then 1 else 2 := by
  have : ∀ k : Fin 100, (Lib.decDigits k.1).length = if k.1 < 10 then 1 else 2 := by decide +kernel
  exact this ⟨n, h⟩

set_option maxRecDepth 20000 in
set_option maxHeartbeats 2000000 in
theorem mod97_128 (s : ByteArray) (hs : s.size ≤ 100) (ha : aln s) (w : World) :
    Calls Tryz.prog 128 #[.string s] w fun e w' => e = .returned (.string (pairB (98 - m97 (dsL (exU s.data.toList ++ [48, 48]))))) ∧ Below w.heap.size w w' := by
  have hdig := exU_dig _ (aln_all s ha)
  have hlen := exU_len _ (aln_all s ha)
  have hsz : s.data.toList.length = s.size := by simp
  rw [hsz] at hlen
  have HE := Lib.hid (fun w => expand134 s hs ha w)
  have hcat : (ByteArray.mk (exU s.data.toList).toArray) ++ (ByteArray.mk #[48, 48]) = ByteArray.mk (exU s.data.toList ++ [48, 48]).toArray := by
    apply ByteArray.ext; simp
  obtain ⟨l, el⟩ : ∃ l, exU s.data.toList ++ [48, 48] = l := ⟨_, rfl⟩
  have hdig' : ∀ b ∈ l, 48 ≤ b.toNat ∧ b.toNat ≤ 57 := by
    rw [← el]
    intro b hb
    rcases List.mem_append.1 hb with h | h
    · exact hdig b h
    · simp at h; subst h; decide
  have hll : l.length ≤ 202 := by rw [← el]; simp; omega
  rw [el] at hcat ⊢
  have HD := Lib.hid (isDig_of l hdig')
  obtain ⟨Y, eY⟩ : ∃ Y, Y = ByteArray.mk (exU s.data.toList).toArray := ⟨_, rfl⟩
  have hY : Y.size ≤ 200 := by rw [eY]; show (exU s.data.toList).toArray.size ≤ 200; simp; omega
  rw [← eY] at hcat
  have EY := Lib.hid eY
  obtain ⟨X, eX⟩ : ∃ X, X = ByteArray.mk l.toArray := ⟨_, rfl⟩
  have hX : X.size = l.length := by rw [eX]; rfl
  have hX2 : X.size ≤ 202 := by omega
  have HX := Lib.hid hX
  rw [← eX] at hcat
  have EX := Lib.hid eX
  have hdl : (dsL l).length = X.size := by rw [hX]; simp [dsL]
  have HDL := Lib.hid hdl
  have HBD := Lib.hid (dsL_bd l hdig')
  clear hdl hX eX eY hll hdig' el hdig hlen hsz ha
  go_enter Tryz.func128, Tryz.ntmps128
  go_wp2_with (go_at_call 134; refine (HE.out _).mono ?_; rw [← EY.out]; rintro e w1 ⟨rfl, hbl⟩)
  go_loopg [3] X.size (fun g v3 wx => ∃ i : Nat, i + g = X.size ∧ v3 = .int .i64 (m97 ((dsL l).take i)) ∧ wx = w1.iter X i)
  case atStart => exact ⟨0, by omega, rfl, rfl⟩
  case round =>
    obtain ⟨i, hig, rfl, rfl⟩ := hrel
    obtain ⟨q1, q2⟩ := m97_bd ((dsL l).take i)
    cases gk with
    | zero =>
      obtain rfl : i = X.size := by omega
      have hfull : (dsL l).take X.size = dsL l := by rw [← HDL.out, List.take_length]
      rw [hfull] at q1 q2 ⊢
      have hnx := run_next_end (P := Tryz.prog) w1 X X.size
      obtain ⟨n, hn⟩ : ∃ n : Nat, (n : Int) = 98 - m97 (dsL l) := ⟨(98 - m97 (dsL l)).toNat, Int.toNat_of_nonneg (by omega)⟩
      have HN := Lib.hid hn
      have h0 : n < 100 := by omega
      clear hn hfull
      have hsz := dec_size n h0
      have hbe : Below w.heap.size w (w1.iter X X.size) := bl_alloc hbl _
      have HBE := Lib.hid hbe
      clear hbe
      by_cases h10 : n < 10
      · have hp := pairB_dec1 n h10
        rw [if_pos h10] at hsz
        go_wp2_with (go_at_call 135; refine (itoa _ n HN.out.symm h0 _).mono ?_; rintro e w2 ⟨rfl, rfl⟩)
        go_ret
        rw [← HN.out, ← hp]
        exact ⟨rfl, HBE.out⟩
      · have hp := pairB_dec n h0 (by omega)
        rw [if_neg h10] at hsz
        go_wp2_with (go_at_call 135; refine (itoa _ n HN.out.symm h0 _).mono ?_; rintro e w2 ⟨rfl, rfl⟩)
        go_ret
        rw [← HN.out, ← hp]
        exact ⟨rfl, HBE.out⟩
    | succ g =>
      have hi : i < X.size := by omega
      have hl : i < (dsL l).length := by rw [HDL.out]; exact hi
      have hget : (dsL l)[i] = ((X[i]'hi).toNat : Int) - 48 := by
        have h1 := EX.out; subst h1
        have := dsL_get l i hi
        rw [List.getD_eq_getElem?_getD, List.getElem?_eq_getElem hl] at this
        exact this
      have hb := HBD.out _ (List.getElem_mem hl)
      have hsn : m97 ((dsL l).take (i + 1)) = (10 * m97 ((dsL l).take i) + (dsL l)[i]) % 97 := by
        rw [List.take_add_one, List.getElem?_eq_getElem hl]; exact m97_snoc _ _
      rw [hget] at hb hsn
      have ha : (X[i]'hi).toNat < 128 := by omega
      have hnx := fun ty => run_next_ascii (P := Tryz.prog) w1 X i ty hi ha
      obtain ⟨c, ec⟩ : ∃ c, X[i]'hi = c := ⟨_, rfl⟩
      rw [ec] at hb hsn
      simp only [ec] at hnx
      obtain ⟨b1, b2⟩ := hb
      have HSN := Lib.hid hsn
      clear hget hsn ha hl
      generalize m97 ((dsL l).take i) = r at *
      go_wp2_with fail
      go_roundg g
      case measure => omega
      case rel => exact ⟨i + 1, by omega, by rw [HSN.out], rfl⟩
end Go.Proofs.YtongoicadcmfaaaGreatDoor.V
