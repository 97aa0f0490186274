/- A map keyed by strings, as a function from keys to values. -/
import Derived.Test.YtongoicadcmfaaaGreatDoorVSer
import Derived.Maps.Own
import Derived.Maps.RangeRun
set_option linter.unusedSimpArgs false
set_option linter.unusedVariables false
namespace Go.Proofs.YtongoicadcmfaaaGreatDoor.V
open Go.RowKit Go.MapKept
open Go.ChangeMaps (setBlock heap_setBlock_same heap_setBlock_other)

abbrev nilS : Value := .slice none 0 0
/-- Block m is a map of at most N entries: the key k holds f k. -/
def MapB (w : World) (m : Nat) (f : ByteArray → Option Value) (N : Nat) : Prop :=
  ∃ es clock, w.heap[m]? = some (.map es clock) ∧ Stamped es clock ∧ (∀ x ∈ es.toList, ∃ k : ByteArray, x.key = .string k ∧ k.size ≤ maxLen ∧ f k = some x.val) ∧
    (∀ k v, f k = some v → ∃ x ∈ es.toList, x.key = .string k ∧ x.val = v) ∧ es.size ≤ N

section
variable {w w' : World} {m : Nat} {f : ByteArray → Option Value} {N : Nat}
theorem MapB.new (w : World) : MapB (w.alloc (.map #[] 0)) w.heap.size (fun _ => none) 0 :=
  ⟨#[], 0, (MapKept.heap_alloc w _).1, stamped_empty 0, by simp, by simp, by simp⟩
theorem MapB.lt (h : MapB w m f N) : m < w.heap.size := by
  obtain ⟨es, clock, hb, _⟩ := h
  exact (Array.getElem?_eq_some_iff.1 hb).1
theorem MapB.call (h : MapB w m f N) (hb : Below w.heap.size w w') : MapB w' m f N := by
  have hlt := h.lt
  obtain ⟨es, clock, h1, h2⟩ := h
  exact ⟨es, clock, (hb.block m hlt).trans h1, h2⟩
theorem MapB.alloc (h : MapB w m f N) (o : Obj) : MapB (w.alloc o) m f N := h.call (bl_alloc (Below.refl _ _) o)
theorem MapB.drew (h : MapB w m f N) : MapB w.drew m f N := h
theorem MapB.drewN (h : MapB w m f N) (n : Nat) : MapB (w.drewN n) m f N := h
theorem MapB.grown (h : MapB w m f N) {row : Option Nat} (hg : w.grownBy w' row) (hne : some m ≠ row) : MapB w' m f N := by
  have hlt := h.lt
  obtain ⟨es, clock, h1, h2⟩ := h
  exact ⟨es, clock, (hg.block m hlt hne).trans h1, h2⟩
theorem MapB.mono (h : MapB w m f N) {N' : Nat} (hN : N ≤ N') : MapB w m f N' := by
  obtain ⟨es, clock, h1, h2, h3, h4, h5⟩ := h
  exact ⟨es, clock, h1, h2, h3, h4, Nat.le_trans h5 hN⟩
theorem MapB.congr (h : MapB w m f N) {g : ByteArray → Option Value} (e : ∀ k, g k = f k) : MapB w m g N := by
  rw [show g = f from funext e]; exact h
/-- A map's block is no row of cells. -/
theorem MapB.ne_blk (h : MapB w m f N) {g : Nat} {t : TypeId} {cs : Array Value} (hg : Blk w g t cs) : m ≠ g := by
  rintro rfl
  obtain ⟨es, clock, h1, _⟩ := h
  unfold Blk at hg
  rw [h1] at hg
  cases hg
theorem MapB.ne_own (h : MapB w m f N) {base : Nat} {e : TypeId} {sz n : Nat} {v : Value} {xs : List Value} (hown : w.ownsRow base e sz v n xs) : some m ≠ v.ownBlock := by
  rcases hown.2 with ⟨rfl, _⟩ | ⟨g, cap, cur, rfl, _, hg, _⟩
  · simp [Value.ownBlock]
  · intro e
    have : m = g := by simpa [Value.ownBlock] using e
    subst this
    obtain ⟨es, clock, h1, _⟩ := h
    rw [h1] at hg
    cases hg
theorem MapB.far (h : MapB w m f N) {p : Addr} (hp : m ≠ p.block) (u : Value) : MapB (w.setCell p u) m f N := by
  obtain ⟨es, clock, h1, h2⟩ := h
  exact ⟨es, clock, (Below.heap_setCell w p u m hp).trans h1, h2⟩

def fset (f : ByteArray → Option Value) (k : ByteArray) (v : Value) : ByteArray → Option Value := fun k' => if k' = k then some v else f k'
theorem fset_same (f : ByteArray → Option Value) (k : ByteArray) (v : Value) : fset f k v k = some v := by simp [fset]
theorem fset_other (f : ByteArray → Option Value) (k : ByteArray) (v : Value) {k' : ByteArray} (h : k' ≠ k) : fset f k v k' = f k' := by simp [fset, h]
variable {P : Program} {kt : TypeId}

theorem MapB.lookup_ (K9 : Go.Maps.Keyed P kt) (key9 : ∀ {k : ByteArray}, k.size ≤ maxLen → keyOf P kt (.string k) = some (.string k.data.toList)) {t e : TypeId} (h : MapB w m f N) (ht : P.underlying t = some (.map kt e)) (hz : (zeroValue e).run P w = .ok nilS w) {k : ByteArray} (hk : k.size ≤ maxLen) (c : Bool) :
    (Instr.lookup t (.map (some m)) (.string k) c).run P w = .ok (if c then .tuple #[(f k).getD nilS, .bool (f k).isSome] else (f k).getD nilS) w := by
  obtain ⟨es, clock, hb, hst, h3, h4, _⟩ := h
  rcases K9.find w (key9 hk) es.toList (fun x hx => by
    obtain ⟨k', e1, hs, _⟩ := h3 x hx
    exact ⟨_, by rw [e1]; exact key9 hs⟩) with ⟨h1, h2⟩ | ⟨j, e0, h1, h2, h5⟩
  · have hf : f k = none := by
      cases hf : f k with
      | none => rfl
      | some v =>
        obtain ⟨x, hx, hxk, _⟩ := h4 k v hf
        exact absurd hxk (h2 x hx)
    cases c <;> simp [Instr.lookup, run_underlying ht, MapKept.run_getObj_map hb, K9.check w _ (key9 hk), h1, hz, Result.andThen, hf]
  · have hf : f k = some e0.val := by
      obtain ⟨k', e1, _, e2⟩ := h3 e0 (List.mem_of_getElem? h2)
      rw [h5] at e1
      injection e1 with e1
      rw [e1]; exact e2
    cases c <;> simp [Instr.lookup, run_underlying ht, MapKept.run_getObj_map hb, K9.check w _ (key9 hk), h1, Result.andThen, hf]

theorem MapB.update_ (K9 : Go.Maps.Keyed P kt) (key9 : ∀ {k : ByteArray}, k.size ≤ maxLen → keyOf P kt (.string k) = some (.string k.data.toList)) {t e : TypeId} (h : MapB w m f N) (ht : P.underlying t = some (.map kt e)) {k : ByteArray} (hk : k.size ≤ maxLen) (v : Value) :
    ∃ w', (Instr.mapUpdate t (.map (some m)) (.string k) v).run P w = .ok () w' ∧ MapB w' m (fset f k v) (N + 1) ∧ w.grownBy w' (some m) ∧ w'.heap.size = w.heap.size := by
  obtain ⟨es, clock, hb, hst, h3, h4, hN⟩ := h
  have hg : ∀ o, w.grownBy (setBlock w m o) (some m) := fun o => ⟨rfl, rfl, rfl, by simp [setBlock], fun i _ hi => heap_setBlock_other hb _ (fun e => hi (by rw [e]))⟩
  rcases K9.find w (key9 hk) es.toList (fun x hx => by
    obtain ⟨k', e1, hs, _⟩ := h3 x hx
    exact ⟨_, by rw [e1]; exact key9 hs⟩) with ⟨h1, h2⟩ | ⟨j, e0, h1, h2, h5⟩
  · refine ⟨_, ?_, ⟨es.push ⟨.string k, v, clock⟩, clock + 1, heap_setBlock_same hb _, stamped_push hst h2, ?_, ?_, by simp; omega⟩, hg _, by simp [setBlock]⟩
    · simp [Instr.mapUpdate, run_underlying ht, MapKept.run_getObj_map hb, K9.check w false (key9 hk), h1, MapKept.run_setObj_map _ hb, Result.andThen, setBlock]
    · intro x hx
      simp only [Array.toList_push, List.mem_append, List.mem_singleton] at hx
      rcases hx with hx | rfl
      · obtain ⟨k', e1, hs, e2⟩ := h3 x hx
        have hne : k' ≠ k := by rintro rfl; exact h2 x hx e1
        exact ⟨k', e1, hs, by rw [fset_other _ _ _ hne]; exact e2⟩
      · exact ⟨k, rfl, hk, fset_same _ _ _⟩
    · intro k' v' hf
      by_cases hkk : k' = k
      · rw [hkk, fset_same] at hf
        injection hf with hf
        exact ⟨⟨.string k, v, clock⟩, by simp, by rw [hkk], hf⟩
      · rw [fset_other _ _ _ hkk] at hf
        obtain ⟨x, hx, hxk, hxv⟩ := h4 k' v' hf
        exact ⟨x, by simp at hx ⊢; exact .inl hx, hxk, hxv⟩
  · have hj : es[j]? = some e0 := by simpa using h2
    have hjl : j < es.toList.length := (List.getElem?_eq_some_iff.1 h2).1
    have hkeyf : ∀ e', es[j]? = some e' → ({ e' with key := .string k, val := v } : MapEntry).key = e'.key := fun e' he' => by rw [hj] at he'; cases he'; exact h5.symm
    have hlist : (es.modify j (fun e' => { e' with key := .string k, val := v })).toList = es.toList.set j { e0 with key := .string k, val := v } := by rw [Array.toList_modify, Go.ChangeMaps.modify_eq_set _ _ _ _ h2]
    have hpw := ((stamped_iff es clock).1 hst).2.2
    have other : ∀ i x, es.toList[i]? = some x → i ≠ j → x.key ≠ .string k := by
      intro i x hi hne e
      have hil := (List.getElem?_eq_some_iff.1 hi).1
      have ei := (List.getElem?_eq_some_iff.1 hi).2
      have ej := (List.getElem?_eq_some_iff.1 h2).2
      rcases Nat.lt_or_gt_of_ne hne with hlt | hgt
      · have := List.pairwise_iff_getElem.1 hpw i j hil hjl hlt
        rw [ei, ej, e, h5] at this; exact this rfl
      · have := List.pairwise_iff_getElem.1 hpw j i hjl hil hgt
        rw [ei, ej, e, h5] at this; exact this rfl
    refine ⟨_, ?_, ⟨es.modify j (fun e' => { e' with key := .string k, val := v }), clock, heap_setBlock_same hb _, stamped_modify hst _ _ (fun _ _ => rfl) (fun e' _ he' => hkeyf e' he'), ?_, ?_, by simp; omega⟩, hg _, by simp [setBlock]⟩
    · simp [Instr.mapUpdate, run_underlying ht, MapKept.run_getObj_map hb, K9.check w false (key9 hk), h1, hj, h5, K9.stays w (key9 hk), MapKept.run_setObj_map _ hb, Result.andThen, setBlock]
    · intro x hx
      rw [hlist] at hx
      obtain ⟨i, hi, ex⟩ := List.getElem_of_mem hx
      rw [List.getElem_set] at ex
      split at ex
      · subst ex; exact ⟨k, rfl, hk, fset_same _ _ _⟩
      · rename_i hne
        have hi' : i < es.toList.length := by simpa using hi
        have hx' : es.toList[i]? = some x := by rw [List.getElem?_eq_getElem hi', ex]
        obtain ⟨k', e1, hs, e2⟩ := h3 x (List.mem_of_getElem? hx')
        have hkk : k' ≠ k := by rintro rfl; exact other i x hx' (fun e => hne e.symm) e1
        exact ⟨k', e1, hs, by rw [fset_other _ _ _ hkk]; exact e2⟩
    · intro k' v' hf
      rw [hlist]
      by_cases hkk : k' = k
      · rw [hkk, fset_same] at hf
        injection hf with hf
        exact ⟨{ e0 with key := .string k, val := v }, List.mem_iff_getElem.2 ⟨j, by simpa using hjl, by simp⟩, by rw [hkk], hf⟩
      · rw [fset_other _ _ _ hkk] at hf
        obtain ⟨x, hx, hxk, hxv⟩ := h4 k' v' hf
        obtain ⟨i, hi⟩ := List.getElem?_of_mem hx
        have hne : i ≠ j := by
          rintro rfl
          rw [h2] at hi
          injection hi with hi
          rw [hi, hxk] at h5
          injection h5 with h5
          exact hkk h5
        refine ⟨x, List.mem_iff_getElem?.2 ⟨i, ?_⟩, hxk, hxv⟩
        rw [List.getElem?_set_ne (Ne.symm hne)]; exact hi

theorem MapB.len (h : MapB w m f N) {t k e : TypeId} (ht : P.underlying t = some (.map k e)) : ∃ n, n ≤ N ∧ ∀ ty, (Builtin.len_ #[t] ty #[.map (some m)]).run P w = .ok (.int .i64 n) w := by
  obtain ⟨es, clock, hb, _, _, _, hN⟩ := h
  refine ⟨es.size, hN, fun ty => ?_⟩
  simp [Builtin.len_, run_underlying ht, MapKept.run_getObj_map hb, Result.andThen, goInt]
end
theorem K9 : Go.Maps.Keyed Tryz.prog 9 := Go.Maps.string_keyed Tryz.underlying9
theorem key9 {k : ByteArray} (hk : k.size ≤ maxLen) : keyOf Tryz.prog 9 (.string k) = some (.string k.data.toList) := Go.WideMaps.keyOf_string_mk Tryz.underlying9 hk
theorem MapB.lookup {w : World} {m : Nat} {f : ByteArray → Option Value} {N : Nat} {t e : TypeId} (h : MapB w m f N) (ht : Tryz.prog.underlying t = some (.map 9 e)) (hz : (zeroValue e).run Tryz.prog w = .ok nilS w) {k : ByteArray} (hk : k.size ≤ maxLen) (c : Bool) :
    (Instr.lookup t (.map (some m)) (.string k) c).run Tryz.prog w = .ok (if c then .tuple #[(f k).getD nilS, .bool (f k).isSome] else (f k).getD nilS) w := MapB.lookup_ K9 key9 h ht hz hk c
theorem MapB.update {w : World} {m : Nat} {f : ByteArray → Option Value} {N : Nat} {t e : TypeId} (h : MapB w m f N) (ht : Tryz.prog.underlying t = some (.map 9 e)) {k : ByteArray} (hk : k.size ≤ maxLen) (v : Value) :
    ∃ w', (Instr.mapUpdate t (.map (some m)) (.string k) v).run Tryz.prog w = .ok () w' ∧ MapB w' m (fset f k v) (N + 1) ∧ w.grownBy w' (some m) ∧ w'.heap.size = w.heap.size := MapB.update_ K9 key9 h ht hk v
end Go.Proofs.YtongoicadcmfaaaGreatDoor.V
