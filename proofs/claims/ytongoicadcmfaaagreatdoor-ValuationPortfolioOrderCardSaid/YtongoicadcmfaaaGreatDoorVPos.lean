/- Positions; the words of a portfolio; the plain law of the order of positions. -/
import Derived.Test.YtongoicadcmfaaaGreatDoorVGood
set_option linter.unusedSimpArgs false
set_option linter.unusedVariables false
namespace Go.Proofs.YtongoicadcmfaaaGreatDoor.V
open Go.RowKit

/-- A position: a security and a quantity. -/
structure P2 where
  isin : ByteArray
  q : Int
def P2.cells (p : P2) : List Value := [.string p.isin, .int .i64 p.q]
def SlP (w : World) (A : Option Addr) (l : List P2) : Prop := Sl w 2 A (l.map P2.cells)
theorem SlP.call {w w' : World} {A : Option Addr} {l : List P2} (h : SlP w A l) (hb : Below w.heap.size w w') : SlP w' A l := Sl.call h hb
theorem SlP.get {w : World} {A : Option Addr} {l : List P2} (h : SlP w A l) {i : Nat} (hi : i < l.length) :
    ∃ ad, A = some ad ∧ ad.block < w.heap.size ∧ w.cell? (ad.add (i * 2)) = some (.string l[i].isin) ∧ w.cell? ⟨(ad.add (i * 2)).block, (ad.add (i * 2)).off + 1, none⟩ = some (.int .i64 l[i].q) := by
  obtain ⟨ad, e, hb, hc⟩ := Sl.get h (i := i) (by simpa using hi)
  have hr : (l.map P2.cells)[i]'(by simpa using hi) = l[i].cells := by simp
  rw [hr] at hc
  refine ⟨ad, e, hb, hc 0 _ rfl, ?_⟩
  rw [← add_field _ _ _ (by omega)]
  exact hc _ _ rfl
theorem ei52 : EI Tryz.prog 52 40 2 24 (.agg #[.string ⟨#[]⟩, .int .i64 0]) := ⟨Tryz.underlying52, by kernel_rfl, rfl, by omega⟩
theorem ei49 : EI Tryz.prog 49 56 4 40 (.agg #[.string ⟨#[]⟩, .int .i64 0, .int .i64 0, .int .i64 0]) := ⟨Tryz.underlying49, by kernel_rfl, rfl, by omega⟩
theorem p2_row (l : List P2) : ∀ r ∈ l.map P2.cells, r.length = 2 := by
  intro r hr
  obtain ⟨x, _, rfl⟩ := List.mem_map.1 hr
  rfl

/-! ### the words of a portfolio -/
def lineC (l : List E) (d : Int) (mem : ByteArray) (p : P2) : List Value := [.string p.isin, .int .i64 p.q, .int .i64 (worthN l d mem p.isin p.q), .int .i64 (worthE l d mem p.isin p.q)]
def sumW (l : List E) (d : Int) (mem : ByteArray) (ps : List P2) : Int := (ps.map fun p => worthN l d mem p.isin p.q).sum
def big (s : Int) : Bool := decide (1000000000000000 < s)
def pfN (l : List E) (d : Int) (mem : ByteArray) (ps : List P2) : Int := bif !(atE l 0 d mem).isSome then 0 else bif big (sumW l d mem ps) then 0 else sumW l d mem ps
def pfE (l : List E) (d : Int) (mem : ByteArray) (ps : List P2) : Int := bif !(atE l 0 d mem).isSome then 9 else bif big (sumW l d mem ps) then 12 else 0
theorem vNum_bd (q p num den : Int) : 0 ≤ vNum q p num den ∧ vNum q p num den ≤ 1000000000000000 := by
  unfold vNum
  split
  · rename_i h
    obtain ⟨⟨q0, _⟩, h2⟩ := h
    have hd := okH.den h2
    obtain ⟨p0, _, _, n0, n1⟩ := h2
    split
    · refine ⟨Int.ediv_nonneg (Int.mul_nonneg q0 (Int.mul_nonneg (by omega) (by omega))) (by omega), by assumption⟩
    · omega
  · omega
theorem worthN_bd (l : List E) (d : Int) (mem isin : ByteArray) (q : Int) : 0 ≤ worthN l d mem isin q ∧ worthN l d mem isin q ≤ 1000000000000000 := by
  unfold worthN
  cases (elig l d mem isin != 0)
  · exact vNum_bd _ _ _ _
  · exact ⟨Int.le_refl 0, (by decide : (0 : Int) ≤ 1000000000000000)⟩
theorem sumW_next (l : List E) (d : Int) (mem : ByteArray) (ps : List P2) (i : Nat) (hi : i < ps.length) : sumW l d mem (ps.take (i + 1)) = sumW l d mem (ps.take i) + worthN l d mem ps[i].isin ps[i].q := by
  unfold sumW
  rw [take_snoc ps i hi, List.map_append, List.sum_append, List.map_cons, List.map_nil, List.sum_cons, List.sum_nil]
  omega
theorem sumW_bd (l : List E) (d : Int) (mem : ByteArray) (ps : List P2) : 0 ≤ sumW l d mem ps ∧ sumW l d mem ps ≤ 1000000000000000 * ps.length := by
  unfold sumW
  induction ps with
  | nil => simp
  | cons p ps ih =>
    have := worthN_bd l d mem p.isin p.q
    simp only [List.map_cons, List.sum_cons, List.length_cons]
    omega
theorem lineC_row (l : List E) (d : Int) (mem : ByteArray) (ps : List P2) : ∀ r ∈ ps.map (lineC l d mem), r.length = 4 := by
  intro r hr
  obtain ⟨x, _, rfl⟩ := List.mem_map.1 hr
  rfl

/-! ### the order of positions, and their division -/
def eligP (l : List E) (d : Int) (mem : ByteArray) (p : P2) : Bool := elig l d mem p.isin == 0
/-- How much of a quantity goes into the first part. -/
def cutN (q k : Int) : Int := if 1000000 < q then q / 10 * k else q * k / 10
def splitP (k : Int) (p : P2) : List P2 := if p.q < 0 ∨ 1000000000000000 < p.q then [p] else [⟨p.isin, cutN p.q k⟩, ⟨p.isin, p.q - cutN p.q k⟩]
theorem sum_rev (xs : List Int) : xs.reverse.sum = xs.sum := by
  induction xs with
  | nil => rfl
  | cons x xs ih => rw [List.reverse_cons, List.sum_append, ih, List.sum_cons, List.sum_cons, List.sum_nil]; omega
theorem sumW_rev (l : List E) (d : Int) (mem : ByteArray) (ps : List P2) : sumW l d mem ps.reverse = sumW l d mem ps := by
  unfold sumW
  rw [List.map_reverse, sum_rev]
theorem worth_no (l : List E) (d : Int) (mem : ByteArray) (p : P2) (h : eligP l d mem p = false) : worthN l d mem p.isin p.q = 0 := by
  unfold eligP at h
  unfold worthN bne
  rw [h]; rfl
theorem sumW_good (l : List E) (d : Int) (mem : ByteArray) (ps : List P2) : sumW l d mem (ps.filter (eligP l d mem)) = sumW l d mem ps := by
  unfold sumW
  induction ps with
  | nil => rfl
  | cons p ps ih =>
    rw [List.filter_cons]
    cases h : eligP l d mem p
    · rw [if_neg (by simp), ih, List.map_cons, List.sum_cons, worth_no l d mem p h]; omega
    · rw [if_pos rfl, List.map_cons, List.sum_cons, ih, List.map_cons, List.sum_cons]
theorem cutN_bd (q k : Int) (q0 : 0 ≤ q) (k0 : 0 ≤ k) (k1 : k ≤ 9) : 0 ≤ cutN q k ∧ cutN q k ≤ q := by
  unfold cutN
  split
  · have h1 : 0 ≤ q / 10 * k := Int.mul_nonneg (by omega) k0
    have h2 : q / 10 * k ≤ q / 10 * 9 := Int.mul_le_mul_of_nonneg_left k1 (by omega)
    omega
  · have h1 : 0 ≤ q * k := Int.mul_nonneg q0 k0
    have h2 : q * k ≤ q * 9 := Int.mul_le_mul_of_nonneg_left k1 q0
    omega
theorem split_div (a b den : Int) (hd : 1 ≤ den) (a0 : 0 ≤ a) (b0 : 0 ≤ b) : a / den + b / den ≤ (a + b) / den ∧ (a + b) / den ≤ a / den + b / den + 1 := by
  have ha := Int.emod_add_mul_ediv a den
  have hb := Int.emod_add_mul_ediv b den
  have hab := Int.emod_add_mul_ediv (a + b) den
  have ra := Int.emod_nonneg a (show den ≠ 0 by omega)
  have ra' := Int.emod_lt_of_pos a (show 0 < den by omega)
  have rb := Int.emod_nonneg b (show den ≠ 0 by omega)
  have rb' := Int.emod_lt_of_pos b (show 0 < den by omega)
  have rab := Int.emod_nonneg (a + b) (show den ≠ 0 by omega)
  have rab' := Int.emod_lt_of_pos (a + b) (show 0 < den by omega)
  generalize a / den = x at *
  generalize b / den = y at *
  generalize (a + b) / den = z at *
  have e1 : den * (z - x - y) = a % den + b % den - (a + b) % den := by
    rw [Int.mul_sub, Int.mul_sub]; omega
  constructor
  · rcases (show z - x - y < 0 ∨ 0 ≤ z - x - y by omega) with h | h
    · have : den * (z - x - y) ≤ den * (-1) := Int.mul_le_mul_of_nonneg_left (by omega) (by omega)
      omega
    · omega
  · rcases (show 1 < z - x - y ∨ z - x - y ≤ 1 by omega) with h | h
    · have : den * 2 ≤ den * (z - x - y) := Int.mul_le_mul_of_nonneg_left (by omega) (by omega)
      omega
    · omega
theorem vNum_split (q n p num den : Int) (n0 : 0 ≤ n) (n1 : n ≤ q) (hq : q ≤ 1000000000000000) (he : vErr q p num den ≠ 12) :
    vNum n p num den + vNum (q - n) p num den ≤ vNum q p num den ∧ vNum q p num den ≤ vNum n p num den + vNum (q - n) p num den + 1 := by
  by_cases hH : okH p num den
  · have c : okQ q ∧ okH p num den := ⟨⟨by omega, hq⟩, hH⟩
    have c1 : okQ n ∧ okH p num den := ⟨⟨n0, by omega⟩, hH⟩
    have c2 : okQ (q - n) ∧ okH p num den := ⟨⟨by omega, by omega⟩, hH⟩
    have hd := okH.den hH
    obtain ⟨p0, _, _, _, h2⟩ := hH
    unfold vErr at he
    unfold vNum
    rw [if_pos c] at he ⊢
    rw [if_pos c1, if_pos c2]
    have hk : 0 ≤ p * (den - num) := Int.mul_nonneg (by omega) (by omega)
    generalize p * (den - num) = m at *
    have a0 : 0 ≤ n * m := Int.mul_nonneg n0 hk
    have b0 : 0 ≤ (q - n) * m := Int.mul_nonneg (by omega) hk
    have hs := split_div (n * m) ((q - n) * m) den hd.1 a0 b0
    have e : n * m + (q - n) * m = q * m := by rw [← Int.add_mul]; congr 1; omega
    rw [e] at hs
    have x0 : 0 ≤ n * m / den := Int.ediv_nonneg a0 (by omega)
    have y0 : 0 ≤ (q - n) * m / den := Int.ediv_nonneg b0 (by omega)
    by_cases h : q * m / den ≤ 1000000000000000
    · rw [if_pos h, if_pos (by omega), if_pos (by omega)]
      exact hs
    · rw [if_neg h] at he
      exact absurd rfl he
  · unfold vNum
    rw [if_neg (fun h => hH h.2), if_neg (fun h => hH h.2), if_neg (fun h => hH h.2)]
    omega
theorem worth_split (l : List E) (d : Int) (mem : ByteArray) (k : Int) (k0 : 0 ≤ k) (k1 : k ≤ 9) (p : P2) (he : worthE l d mem p.isin p.q ≠ 12) :
    sumW l d mem (splitP k p) ≤ worthN l d mem p.isin p.q ∧ worthN l d mem p.isin p.q ≤ sumW l d mem (splitP k p) + 1 := by
  unfold splitP
  split
  · unfold sumW; simp; omega
  · rename_i hq
    have hc := cutN_bd p.q k (by omega) k0 k1
    unfold sumW
    simp only [List.map_cons, List.map_nil, List.sum_cons, List.sum_nil]
    generalize cutN p.q k = n at *
    unfold worthE at he
    unfold worthN
    cases hz : (elig l d mem p.isin != 0)
    · rw [hz] at he
      have := vNum_split p.q n _ _ _ hc.1 hc.2 (by omega) he
      simp only [cond_false]
      omega
    · simp
theorem order_law (l : List E) (d : Int) (mem : ByteArray) (k : Int) (k0 : 0 ≤ k) (k1 : k ≤ 9) (ps : List P2) (he : ∀ p ∈ ps, worthE l d mem p.isin p.q ≠ 12) :
    sumW l d mem (ps.flatMap (splitP k)) ≤ sumW l d mem ps ∧ sumW l d mem ps ≤ sumW l d mem (ps.flatMap (splitP k)) + ps.length := by
  induction ps with
  | nil => simp [sumW]
  | cons p ps ih =>
    have h1 := worth_split l d mem k k0 k1 p (he p (by simp))
    have h2 := ih fun x hx => he x (by simp [hx])
    have e1 : sumW l d mem ((p :: ps).flatMap (splitP k)) = sumW l d mem (splitP k p) + sumW l d mem (ps.flatMap (splitP k)) := by
      unfold sumW
      rw [List.flatMap_cons, List.map_append, List.sum_append]
    have e2 : sumW l d mem (p :: ps) = worthN l d mem p.isin p.q + sumW l d mem ps := by
      unfold sumW
      rw [List.map_cons, List.sum_cons]
    rw [e1, e2, List.length_cons]
    omega
end Go.Proofs.YtongoicadcmfaaaGreatDoor.V
