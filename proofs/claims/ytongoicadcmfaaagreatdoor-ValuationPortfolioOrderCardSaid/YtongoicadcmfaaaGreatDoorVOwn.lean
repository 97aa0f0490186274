/- A slice of strings of the call's own, whatever strings it holds: append onto it, part of it. -/
import Derived.Test.YtongoicadcmfaaaGreatDoorVAt
import Derived.Maps.AppendAt
set_option linter.unusedSimpArgs false
set_option linter.unusedVariables false
namespace Go.Proofs.YtongoicadcmfaaaGreatDoor.V
open Go.RowKit

/-- The value v owns n strings. -/
def Own (w : World) (b : Nat) (v : Value) (n : Nat) : Prop := ∃ xs, w.ownsRow b 9 1 v n xs ∧ ∀ u ∈ xs, ∃ s : ByteArray, u = .string s
/-- The value x is a slice of m strings. -/
def StrS (w : World) (x : Value) (m : Nat) : Prop := (x = .slice none 0 0 ∧ m = 0) ∨ ∃ ad c, x = .slice (some ad) m c ∧ ∀ j, j < m → ∃ s : ByteArray, w.cell? (ad.add j) = some (.string s)
theorem Own.nil (w : World) (b : Nat) : Own w b (.slice none 0 0) 0 := ⟨[], w.ownsRow_nil b 9 1, by simp⟩
theorem Own.made (w : World) (b : Nat) (hb : b ≤ w.heap.size) : Own (w.alloc (.cells #[] 9)) b (.slice (some ⟨w.heap.size, 0, none⟩) 0 0) 0 :=
  ⟨[], w.ownsRow_made #[] 0 hb (by decide) rfl, by simp⟩
theorem Own.alloc {w : World} {b : Nat} {v : Value} {n : Nat} (h : Own w b v n) (o : Obj) : Own (w.alloc o) b v n := by
  obtain ⟨xs, h1, h2⟩ := h
  exact ⟨xs, h1.alloc o, h2⟩
theorem Own.below {w w' : World} {b : Nat} {v : Value} {n : Nat} (h : Own w b v n) (hb : Below w.heap.size w w') : Own w' b v n := by
  obtain ⟨xs, ⟨h0, h1⟩, h2⟩ := h
  refine ⟨xs, ⟨h0, ?_⟩, h2⟩
  rcases h1 with h1 | ⟨g, cap, cur, e1, e2, e3, e4⟩
  · exact .inl h1
  · refine .inr ⟨g, cap, cur, e1, e2, (hb.block g ?_).trans e3, e4⟩
    exact (Array.getElem?_eq_some_iff.1 e3).1
theorem Own.drew {w : World} {b : Nat} {v : Value} {n : Nat} (h : Own w b v n) : Own w.drew b v n := h
theorem Own.drewN {w : World} {b : Nat} {v : Value} {n : Nat} (h : Own w b v n) (k : Nat) : Own (w.drewN k) b v n := h
theorem Own.grown {w w' : World} {b : Nat} {v : Value} {n : Nat} {row : Option Nat} (h : Own w b v n) (hg : w.grownBy w' row) (hne : ∀ k, v.ownBlock = some k → some k ≠ row) : Own w' b v n := by
  obtain ⟨xs, ⟨h0, h1⟩, h2⟩ := h
  refine ⟨xs, ⟨h0, ?_⟩, h2⟩
  rcases h1 with h1 | ⟨g, cap, cur, e1, e2, e3, e4⟩
  · exact .inl h1
  · refine .inr ⟨g, cap, cur, e1, e2, (hg.block g (Array.getElem?_eq_some_iff.1 e3).1 (hne g (by rw [e1]; rfl))).trans e3, e4⟩
theorem Own.lt {w : World} {b : Nat} {v : Value} {n : Nat} (h : Own w b v n) : ∀ k, v.ownBlock = some k → b ≤ k ∧ k < w.heap.size := by
  obtain ⟨xs, h1, _⟩ := h
  exact h1.lt
theorem Own.form {w : World} {b : Nat} {v : Value} {n : Nat} (h : Own w b v n) : (v = .slice none 0 0 ∧ n = 0) ∨
    ∃ g cap, v = .slice (some ⟨g, 0, none⟩) n cap ∧ n ≤ cap ∧ cap ≤ 9223372036854775807 ∧ b ≤ g ∧ g < w.heap.size ∧ ∀ j, j < n → ∃ s : ByteArray, w.cell? ⟨g, j, none⟩ = some (.string s) := by
  obtain ⟨xs, ⟨h0, h1⟩, h2⟩ := h
  rcases h1 with h1 | ⟨g, cap, cur, e1, e2, e3, e4, e5, e6, e7⟩
  · exact .inl h1
  · refine .inr ⟨g, cap, e1, e4, by simpa [maxLen] using e5, e2, (Array.getElem?_eq_some_iff.1 e3).1, fun j hj => ?_⟩
    have hx : j < xs.length := by rw [h0]; omega
    obtain ⟨s, hs⟩ := h2 xs[j] (List.getElem_mem hx)
    refine ⟨s, ?_⟩
    rw [cell_of_row w g j cur 9 (0, 0) e3, ← hs]
    have h3 : ∀ u, xs[j]? = some u → cur[j]? = some u := fun u hu => by
      rw [← e7, List.getElem?_take, if_pos (by omega)] at hu
      simpa using hu
    exact h3 _ (List.getElem?_eq_getElem hx)

theorem StrS.keep {w w' : World} {x : Value} {m : Nat} (h : StrS w x m) (hk : ∀ ad l c, x = .slice (some ad) l c → ∀ p : Addr, p.block = ad.block → w'.cell? p = w.cell? p) : StrS w' x m := by
  rcases h with h | ⟨ad, c, h1, h2⟩
  · exact .inl h
  · refine .inr ⟨ad, c, h1, fun j hj => ?_⟩
    obtain ⟨s, hs⟩ := h2 j hj
    exact ⟨s, (hk ad m c h1 _ (block_of_add ad j)).trans hs⟩

section
variable {P : Program} (w : World)
theorem run_app (ht : P.underlying 183 = some (.slice 9)) (hinfo : (P.info? 9).map (fun i => (i.zero, i.size, i.bytes)) = some (some (.string ⟨#[]⟩), 1, 16)) (ty : TypeId) {b : Nat} {v x : Value} {n m : Nat} (hv : Own w b v n) (hx : StrS w x m) (hnm : n + m ≤ 1000) (hb : b ≤ w.heap.size) :
    ∃ v' w', (Builtin.append_ #[183, 183] ty #[v, x]).run P w = .ok v' w' ∧ Own w' b v' (n + m) ∧ w.grownBy w' v.ownBlock ∧ (v'.ownBlock = v.ownBlock ∨ v'.ownBlock = some w.heap.size) := by
  obtain ⟨i, hi, hz, hsize, hby⟩ := info_parts hinfo
  rcases hx with ⟨rfl, rfl⟩ | ⟨ad, c, rfl, hc⟩
  · refine ⟨v, w, ?_, hv, ⟨rfl, rfl, rfl, Nat.le_refl _, fun _ _ _ => rfl⟩, .inl rfl⟩
    rcases hv.form with ⟨rfl, rfl⟩ | ⟨g, cap, rfl, h1, _⟩
    · simp [Builtin.append_, run_underlying ht, hi, hsize, Builtin.lenOf, Builtin.firstCells, Result.andThen, go_sem, typeInfo, sizeOf]
    · simp [Builtin.append_, run_underlying ht, hi, hsize, Builtin.lenOf, Builtin.firstCells, Result.andThen, go_sem, typeInfo, sizeOf, h1, storeCells]
  · obtain ⟨xs, hown, hstr⟩ := hv
    have hex : ∃ news : List Value, news.length = m ∧ (∀ j u, news[j]? = some u → w.cell? (ad.add j) = some u) ∧ ∀ u ∈ news, ∃ s : ByteArray, u = .string s := by
      have : ∀ k, k ≤ m → ∃ news : List Value, news.length = k ∧ (∀ j u, news[j]? = some u → w.cell? (ad.add j) = some u) ∧ ∀ u ∈ news, ∃ s : ByteArray, u = .string s := by
        intro k
        induction k with
        | zero => exact fun _ => ⟨[], rfl, by simp, by simp⟩
        | succ k ih =>
          intro hk
          obtain ⟨l, h1, h2, h3⟩ := ih (by omega)
          obtain ⟨s, hs⟩ := hc k (by omega)
          refine ⟨l ++ [.string s], by simp [h1], fun j u hu => ?_, fun u hu => ?_⟩
          · rcases Nat.lt_or_ge j l.length with hj | hj
            · rw [List.getElem?_append_left hj] at hu; exact h2 j u hu
            · rw [List.getElem?_append_right hj] at hu
              have : j - l.length = 0 := by
                rcases Nat.eq_zero_or_pos (j - l.length) with h | h
                · exact h
                · rw [List.getElem?_eq_none (by simp; omega)] at hu; cases hu
              rw [this] at hu
              have hj2 : j = k := by omega
              subst hj2
              simp at hu
              rw [← hu]; exact hs
          · rw [List.mem_append, List.mem_singleton] at hu
            rcases hu with hu | hu
            · exact h3 u hu
            · exact ⟨s, hu⟩
      exact this m (Nat.le_refl _)
    obtain ⟨news, hl, hn, hs⟩ := hex
    obtain ⟨v', w', h1, h2, h3, _, h5⟩ := run_append_own_at (P := P) w b 183 ty 9 i (.string ⟨#[]⟩) 1 16 ht hi hz hsize hby rfl (by decide) v n xs hown ad m c news (by omega) hn (fun u hu => by obtain ⟨s, rfl⟩ := hs u hu; rfl) (by simp only [maxLen]; omega) (by omega) hb
    refine ⟨v', w', h1, ⟨_, h2, fun u hu => ?_⟩, h3, h5⟩
    rw [List.mem_append] at hu
    rcases hu with hu | hu
    · exact hstr u hu
    · exact hs u hu
theorem step_app (ht : P.underlying 183 = some (.slice 9)) (hinfo : (P.info? 9).map (fun i => (i.zero, i.size, i.bytes)) = some (some (.string ⟨#[]⟩), 1, 16)) {ops : Array Oper} {o : Oper} {a : Act} {K : Act → World → Prop} {Q : Exit → Act → World → Prop} {E : Prop} (hgd : o.guard = none) (s x : Operand)
    (ho : o.op = .call { callee := .builtin .append, args := #[s, x], argTypes := #[183, 183] })
    {b : Nat} {v x' : Value} {n m : Nat} (hs : a.eval s = v) (hx : a.eval x = x') (hv : Own w b v n) (hxs : StrS w x' m) (hnm : n + m ≤ 1000) (hb : b ≤ w.heap.size)
    (h : ∀ v' w', Own w' b v' (n + m) → w.grownBy w' v.ownBlock → (v'.ownBlock = v.ownBlock ∨ v'.ownBlock = some w.heap.size) → K (a.put o.dst v') w') :
    if Region.wanted o (yielded ops a.tmps) = true then Oper.wp P o a w K Q else E := by
  have hw : Region.wanted o (yielded ops a.tmps) = true := by simp [Region.wanted, hgd]
  rw [if_pos hw]
  obtain ⟨v', w', hr, h2, h3, h4⟩ := run_app (P := P) w ht hinfo o.type hv hxs hnm hb
  unfold Oper.wp execOp
  simp only [ho, resolve, invoke, builtin, Sem.run_bind, Sem.run_pure, Result.andThen_ok, List.map_toArray, List.map_cons, List.map_nil, hs, hx, hr]
  exact h v' w' h2 h3 h4
end
end Go.Proofs.YtongoicadcmfaaaGreatDoor.V
