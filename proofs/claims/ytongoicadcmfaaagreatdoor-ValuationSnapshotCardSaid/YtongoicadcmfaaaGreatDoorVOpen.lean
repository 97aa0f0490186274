/- Positions among the arguments: a slice of them; one of them; an entry by value. -/
import Derived.Test.YtongoicadcmfaaaGreatDoorEligible
import Derived.Test.YtongoicadcmfaaaGreatDoorVPos
set_option linter.unusedSimpArgs false
set_option linter.unusedVariables false
namespace Go.Proofs.YtongoicadcmfaaaGreatDoor.V
open Go.RowKit Go.ChangeShapes Go.WideShapes Go.Deep

section
variable {H : Type} {enc : TypeId × Value → H} {w : World} {base : Nat} {spare : Nat → Bool} {held : Bool}
set_option maxRecDepth 20000 in
/-- A position, out of its two cells. -/
theorem open_P {n : Nat} {cs : List Value} {x : DataW H × List MemPlace} (h : DataW.trod enc Tryz.prog w base spare held n 37 cs = some x) :
    ∃ p : P2, p.isin.size ≤ maxLen ∧ cs = p.cells := by
  obtain ⟨ys, n1, _, _, hlen, _, hf⟩ := DataW.trod_struct Tryz.underlying37 h
  have hC : Tryz.prog.cellsOf 37 = 2 := by kernel_rfl
  have h9 : Tryz.prog.cellsOf 9 = 1 := by kernel_rfl
  have h2 : Tryz.prog.cellsOf 2 = 1 := by kernel_rfl
  rw [hC] at hlen
  match cs, hlen with
  | [c0, c1], _ =>
    have hy : ys.length = 2 := by assumption
    have g0 : DataW.trod enc Tryz.prog w base spare held n1 9 [c0] = ys[0]? := by
      have this : DataW.trod enc Tryz.prog w base spare held n1 9 (([c0, c1].drop 0).take (Tryz.prog.cellsOf 9)) = ys[0]? := hf 0 _ rfl
      rw [h9] at this
      exact this
    have g1 : DataW.trod enc Tryz.prog w base spare held n1 2 [c1] = ys[1]? := by
      have this : DataW.trod enc Tryz.prog w base spare held n1 2 (([c0, c1].drop 1).take (Tryz.prog.cellsOf 2)) = ys[1]? := hf 1 _ rfl
      rw [h2] at this
      exact this
    obtain ⟨s, e0, _, hs⟩ := DataW.trod_string Tryz.underlying9 (g0.trans (List.getElem?_eq_getElem (by omega)))
    obtain ⟨q, e1, _, _⟩ := DataW.trod_int Tryz.underlying2 (g1.trans (List.getElem?_eq_getElem (by omega)))
    injection e0 with e0
    injection e1 with e1
    subst e0 e1
    exact ⟨⟨s, q⟩, hs, rfl⟩

set_option maxRecDepth 20000 in
theorem open_SP {n : Nat} {cs : List Value} {x : DataW H × List MemPlace} (h : DataW.trod enc Tryz.prog w base spare held n 48 cs = some x) :
    ∃ (A : Option Addr) (xs : List P2) (cap : Nat), cs = [.slice A xs.length cap] ∧ xs.length ≤ cap ∧ cap ≤ maxLen ∧ SlP w A xs ∧ ∀ p ∈ xs, p.isin.size ≤ maxLen := by
  rcases open_slice Tryz.underlying48 h with ⟨rfl, _⟩ | ⟨a, len, cap, m, n1, D, Pl, rfl, _, hl, hcap, hm, _, hi⟩
  · exact ⟨none, [], 0, rfl, Nat.le_refl _, by decide, Sl.none_ _ _ _, by simp⟩
  · have hC : Tryz.prog.cellsOf 37 = 2 := by kernel_rfl
    rw [hC] at hi
    have hlm : len ≤ m := by rw [hm]; split <;> omega
    have hex : ∀ i, i < len → ∃ p : P2, p.isin.size ≤ maxLen ∧ w.cells? base (a.add (i * 2)) 2 = some p.cells := fun i hil => by
      obtain ⟨cs', hc, ht⟩ := hi i (by omega)
      obtain ⟨p, hp, rfl⟩ := open_P ht
      exact ⟨p, hp, hc⟩
    have main : ∀ k, k ≤ len → ∃ xs : List P2, xs.length = k ∧ (∀ p ∈ xs, p.isin.size ≤ maxLen) ∧ ∀ i (h : i < xs.length), w.cells? base (a.add (i * 2)) 2 = some xs[i].cells := by
      intro k
      induction k with
      | zero => exact fun _ => ⟨[], rfl, by simp, fun i h => absurd h (by simp)⟩
      | succ k ih =>
        intro hk
        obtain ⟨xs, h1, h2, h3⟩ := ih (by omega)
        obtain ⟨p, hp, hc⟩ := hex k (by omega)
        refine ⟨xs ++ [p], by simp [h1], fun y hy => ?_, fun i hil => ?_⟩
        · rw [List.mem_append, List.mem_singleton] at hy
          rcases hy with hy | rfl
          · exact h2 y hy
          · exact hp
        · rcases Nat.lt_or_ge i xs.length with h' | h'
          · rw [List.getElem_append_left h']; exact h3 i h'
          · have : i = xs.length := by simp at hil; omega
            subst this
            have e1 : (xs ++ [p])[xs.length]'hil = p := by simp
            rw [e1, h1]; exact hc
    obtain ⟨xs, h1, h2, h3⟩ := main len (Nat.le_refl _)
    refine ⟨some a, xs, cap, by rw [h1], by omega, hcap, ⟨?_, fun hn => ?_⟩, h2⟩
    · intro r hr
      obtain ⟨p, _, rfl⟩ := List.mem_map.1 hr
      rfl
    · rw [List.length_map] at hn
      have hcell : ∀ (i : Nat) r, (xs.map P2.cells)[i]? = some r → ∀ (j : Nat) v, r[j]? = some v → w.cell? (a.add (i * 2 + j)) = some v := by
        intro i r hr j v hv
        obtain ⟨hil, rfl⟩ := List.getElem?_eq_some_iff.1 hr
        rw [List.getElem_map] at hv
        have hil2 : i < xs.length := by simpa using hil
        obtain ⟨_, hcl, hat⟩ := World.cells?_some (h3 i (by simpa using hil))
        have hj : j < xs[i].cells.length := (List.getElem?_eq_some_iff.1 hv).1
        have := hat j hj
        rw [← Go.Deep.add_add, this]
        exact hv
      have h0 := hcell 0 (xs[0]'(by omega)).cells (by rw [List.getElem?_map, List.getElem?_eq_getElem (by omega)]; rfl) 0 _ rfl
      exact ⟨a, rfl, by have := World.block_lt_of_cell? w _ h0; rwa [block_of_add] at this, hcell⟩
end

section
variable {H : Type} {enc : TypeId × Value → H} {W : World} {base : Nat} {v : Value} {d : DataW H} {ps : List MemPlace}
set_option maxRecDepth 100000 in
/-- The arguments, each by its type. -/
theorem arg_SE (hv : Value.okWide Tryz.prog W .any base 22 v) (h : DataW.Trod enc Tryz.prog W 0 (fun _ => true) true 22 v d ps) :
    ∃ (A : Option Addr) (xs : List E) (cap : Nat), v = .slice A xs.length cap ∧ xs.length ≤ cap ∧ cap ≤ maxLen ∧ SlE W A xs ∧ ∀ e ∈ xs, OkE e := by
  obtain ⟨fu, h0⟩ := h
  obtain ⟨A, xs, cap, hc, k1, k2, k3, k4⟩ := open_SE h0
  obtain ⟨a', len', cap', rfl⟩ := okWide_slice Tryz.underlying22 hv
  have hc' : [Value.slice a' len' cap'] = [.slice A xs.length cap] := hc
  injection hc' with hc'
  exact ⟨A, xs, cap, hc', k1, k2, k3, k4⟩
set_option maxRecDepth 100000 in
theorem arg_SP (hv : Value.okWide Tryz.prog W .any base 48 v) (h : DataW.Trod enc Tryz.prog W 0 (fun _ => true) true 48 v d ps) :
    ∃ (A : Option Addr) (xs : List P2) (cap : Nat), v = .slice A xs.length cap ∧ xs.length ≤ cap ∧ cap ≤ maxLen ∧ SlP W A xs ∧ ∀ p ∈ xs, p.isin.size ≤ maxLen := by
  obtain ⟨fu, h0⟩ := h
  obtain ⟨A, xs, cap, hc, k1, k2, k3, k4⟩ := open_SP h0
  obtain ⟨a', len', cap', rfl⟩ := okWide_slice Tryz.underlying48 hv
  have hc' : [Value.slice a' len' cap'] = [.slice A xs.length cap] := hc
  injection hc' with hc'
  exact ⟨A, xs, cap, hc', k1, k2, k3, k4⟩
set_option maxRecDepth 100000 in
theorem arg_P (hv : Value.okWide Tryz.prog W .any base 37 v) (h : DataW.Trod enc Tryz.prog W 0 (fun _ => true) true 37 v d ps) :
    ∃ (isin : ByteArray) (q : Int), v = .agg #[.string isin, .int .i64 q] ∧ isin.size ≤ maxLen := by
  obtain ⟨fu, h0⟩ := h
  obtain ⟨cs, rfl, hsz⟩ := okWide_struct Tryz.underlying37 hv
  obtain ⟨l⟩ := cs
  obtain ⟨p, hp, hc⟩ := open_P h0
  have hl : l = p.cells := hc
  subst hl
  exact ⟨p.isin, p.q, rfl, hp⟩
set_option maxRecDepth 100000 in
theorem arg_E (hv : Value.okWide Tryz.prog W .any base 31 v) (h : DataW.Trod enc Tryz.prog W 0 (fun _ => true) true 31 v d ps) :
    ∃ e : E, v = e.val ∧ OkE e := by
  obtain ⟨fu, h0⟩ := h
  obtain ⟨cs, rfl, hsz⟩ := okWide_struct Tryz.underlying31 hv
  obtain ⟨l⟩ := cs
  obtain ⟨e, he, hc⟩ := open_E h0
  have hl : l = e.cells := hc
  subst hl
  exact ⟨e, rfl, he⟩
set_option maxRecDepth 100000 in
theorem arg_u8 (hv : Value.okWide Tryz.prog W .any base 5 v) (h : DataW.Trod enc Tryz.prog W 0 (fun _ => true) true 5 v d ps) :
    ∃ n : Int, v = .int .u8 n ∧ 0 ≤ n ∧ n ≤ 255 := by
  obtain ⟨n, rfl, -, -, hw⟩ := open_int Tryz.underlying5 hv h
  simp [Lit.wf, IntKind.min, IntKind.max, IntKind.signed, IntKind.bits] at hw
  exact ⟨n, rfl, by omega, by omega⟩
end
end Go.Proofs.YtongoicadcmfaaaGreatDoor.V
