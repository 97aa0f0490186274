/- refdata.series: what all four element types share. -/
import Derived.Test.YtongoicadcmfaaaGreatDoorVAt
import Derived.Test.YtongoicadcmfaaaGreatDoorShelf
import Derived.Deep.RegionHeld3
import Derived.Lib.QuietBelow
set_option linter.unusedSimpArgs false
set_option linter.unusedVariables false
namespace Go.Proofs.YtongoicadcmfaaaGreatDoor.V
open Go.RowKit

def rowM (e : E) : List Value := [.int .i64 e.day, .string e.key, .string e.text, .bool e.act]
def rowS (e : E) : List Value := [.int .i64 e.day, .string e.key, .string e.text, .int .i64 e.n, .bool e.act]
def rowP (e : E) : List Value := [.int .i64 e.day, .int .i64 e.n]
def rowH (e : E) : List Value := [.int .i64 e.day, .int .i64 e.num, .int .i64 e.den]
def aggM (e : E) : Value := .agg #[.int .i64 e.day, .string e.key, .string e.text, .bool e.act]
def aggS (e : E) : Value := .agg #[.int .i64 e.day, .string e.key, .string e.text, .int .i64 e.n, .bool e.act]
def aggP (e : E) : Value := .agg #[.int .i64 e.day, .int .i64 e.n]
def aggH (e : E) : Value := .agg #[.int .i64 e.day, .int .i64 e.num, .int .i64 e.den]

/-- In increasing order of days. -/
def inc (l : List E) : Prop := l.Pairwise (fun a b => a.day < b.day)
def lastE (l : List E) : E := l.getLastD E.zero
/-- The entry that is effective on a day. -/
def onDay (l : List E) (d : Int) : Option E := if dayB d then (l.filter fun e => decide (e.day ≤ d)).getLast? else none
def staleB (l : List E) (d : Int) : Bool := !l.isEmpty && decide (d < (lastE l).day)
def withE (l : List E) (e : E) : List E := (if !l.isEmpty && (lastE l).day == e.day then l.dropLast else l) ++ [e]

theorem isDay71 (n : Int) (w : World) : Calls Tryz.prog 71 #[.int .i64 n] w fun e w' => e = .returned (.bool (dayB n)) ∧ w = w' := by
  unfold dayB
  go_enter Tryz.func71, Tryz.ntmps71
  by_cases h : 0 ≤ n
  · have h' : decide (0 ≤ n) = true := decide_eq_true h
    go_wp2
    go_ret
    simp [h]
  · have h' : decide (0 ≤ n) = false := decide_eq_false h
    go_wp2
    go_ret
    simp [h']

/-- What the binary search finds. -/
structure Found (l : List E) (d : Int) (i : Nat) : Prop where
  le : i ≤ l.length
  below : ∀ k (h : k < l.length), k < i → l[k].day < d
  above : ∀ k (h : k < l.length), i ≤ k → d ≤ l[k].day
def foundB (l : List E) (d : Int) (i : Nat) : Bool := decide (i < l.length) && ((l.getD i E.zero).day == d)

/-- The number of entries up to a day. -/
theorem found_onDay (l : List E) (d : Int) (i : Nat) (F : Found l d i) (hi : inc l) :
    (l.filter fun e => decide (e.day ≤ d)) = l.take (if foundB l d i then i + 1 else i) := by
  have key : ∀ n : Nat, n ≤ l.length → (∀ k (h : k < l.length), k < n → l[k].day ≤ d) → (∀ k (h : k < l.length), n ≤ k → d < l[k].day) → (l.filter fun e => decide (e.day ≤ d)) = l.take n := by
    intro n hn h1 h2
    conv => lhs; rw [← List.take_append_drop n l]
    rw [List.filter_append, List.filter_eq_self.2, List.filter_eq_nil_iff.2, List.append_nil]
    · intro a ha
      obtain ⟨k, hk, rfl⟩ := List.mem_iff_getElem.1 ha
      rw [List.length_drop] at hk
      rw [List.getElem_drop]
      have := h2 (n + k) (by omega) (by omega)
      simp only [decide_eq_true_eq]; omega
    · intro a ha
      obtain ⟨k, hk, rfl⟩ := List.mem_iff_getElem.1 ha
      rw [List.length_take] at hk
      rw [List.getElem_take]
      have := h1 k (by omega) (by omega)
      simp only [decide_eq_true_eq]; omega
  unfold foundB
  by_cases hlt : i < l.length
  · by_cases hd : l[i].day = d
    · have hb : (decide (i < l.length) && ((l.getD i E.zero).day == d)) = true := by
        rw [List.getD_eq_getElem?_getD, List.getElem?_eq_getElem hlt]; simp [hlt, hd]
      rw [hb]
      refine key (i + 1) hlt (fun k h hk => ?_) (fun k h hk => ?_)
      · rcases Nat.lt_or_ge k i with h' | h'
        · have := F.below k h h'; omega
        · have : k = i := by omega
          subst this; omega
      · have := List.pairwise_iff_getElem.1 hi i k hlt h (by omega)
        omega
    · have hb : (decide (i < l.length) && ((l.getD i E.zero).day == d)) = false := by
        rw [List.getD_eq_getElem?_getD, List.getElem?_eq_getElem hlt]; simp [hlt, hd]
      rw [hb]
      refine key i F.le (fun k h hk => ?_) (fun k h hk => ?_)
      · have := F.below k h hk; omega
      · have h1 := F.above i hlt (Nat.le_refl _)
        rcases Nat.lt_or_ge i k with h' | h'
        · have := List.pairwise_iff_getElem.1 hi i k hlt h h'
          omega
        · have : k = i := by omega
          subst this; omega
  · have hb : (decide (i < l.length) && ((l.getD i E.zero).day == d)) = false := by simp [hlt]
    rw [hb]
    refine key i F.le (fun k h hk => ?_) (fun k h hk => by omega)
    have := F.below k h hk; omega

/-- How many entries lie before a day. -/
def lo (l : List E) (d : Int) : Nat := (l.filter fun e => decide (e.day < d)).length
theorem found_lo (l : List E) (d : Int) (i : Nat) (F : Found l d i) : lo l d = i := by
  unfold lo
  conv => lhs; rw [← List.take_append_drop i l]
  rw [List.filter_append, List.filter_eq_self.2, List.filter_eq_nil_iff.2, List.append_nil, List.length_take]
  · have := F.le; omega
  · intro a ha
    obtain ⟨k, hk, rfl⟩ := List.mem_iff_getElem.1 ha
    rw [List.length_drop] at hk
    rw [List.getElem_drop]
    have := F.above (i + k) (by omega) (by omega)
    simp only [decide_eq_true_eq]; omega
  · intro a ha
    obtain ⟨k, hk, rfl⟩ := List.mem_iff_getElem.1 ha
    rw [List.length_take] at hk
    rw [List.getElem_take]
    have := F.below k (by omega) (by omega)
    simp only [decide_eq_true_eq]; omega
theorem found_at (l : List E) (d : Int) (hi : inc l) : Found l d (lo l d) := by
  have key : ∃ i, Found l d i := by
    induction l with
    | nil => exact ⟨0, Nat.le_refl _, fun k h => absurd h (by simp), fun k h => absurd h (by simp)⟩
    | cons a r ih =>
      obtain ⟨h1, h2⟩ := List.pairwise_cons.1 hi
      obtain ⟨i, F⟩ := ih h2
      by_cases ha : a.day < d
      · refine ⟨i + 1, Nat.succ_le_succ F.le, fun k h hk => ?_, fun k h hk => ?_⟩
        · match k, h, hk with
          | 0, _, _ => exact ha
          | k + 1, h, hk => exact F.below k (by simpa using h) (by omega)
        · match k, h, hk with
          | k + 1, h, hk => exact F.above k (by simpa using h) (by omega)
      · refine ⟨0, Nat.zero_le _, fun k h hk => absurd hk (Nat.not_lt_zero _), fun k h hk => ?_⟩
        match k, h with
        | 0, _ => show d ≤ a.day; omega
        | k + 1, h =>
          have hk' : k < r.length := by simpa using h
          have := h1 _ (List.getElem_mem hk')
          show d ≤ (r[k]'hk').day
          omega
  obtain ⟨i, F⟩ := key
  rw [found_lo l d i F]; exact F
theorem onDay_eq (l : List E) (d : Int) (hi : inc l) :
    onDay l d = if dayB d then (match (if foundB l d (lo l d) then lo l d + 1 else lo l d) with | 0 => none | n + 1 => l[n]?) else none := by
  have F := found_at l d hi
  unfold onDay
  rw [found_onDay l d _ F hi]
  generalize hn : (if foundB l d (lo l d) = true then lo l d + 1 else lo l d) = n
  have hle : n ≤ l.length := by
    subst hn
    have := F.le
    unfold foundB
    split
    · rename_i h
      simp only [Bool.and_eq_true, decide_eq_true_eq] at h
      omega
    · exact this
  congr 1
  cases n with
  | zero => simp
  | succ n =>
    rw [List.getLast?_take]
    simp [List.getElem?_eq_getElem (show n < l.length by omega)]
theorem foundB_lt (l : List E) (d : Int) (h : foundB l d (lo l d) = true) : lo l d < l.length := by
  unfold foundB at h
  simp only [Bool.and_eq_true, decide_eq_true_eq] at h
  exact h.1
theorem inc_lt {l : List E} (h : inc l) {i j : Nat} (hj : j < l.length) (hij : i < j) : l[i].day < l[j].day := List.pairwise_iff_getElem.1 h i j (by omega) hj hij

theorem flat_get {sz : Nat} (hsz : 0 < sz) (rows : List (List Value)) (h : ∀ r ∈ rows, r.length = sz) (k : Nat) (u : Value) (hk : rows.flatten[k]? = some u) : ∃ r, rows[k / sz]? = some r ∧ r[k % sz]? = some u := by
  induction rows generalizing k with
  | nil => simp at hk
  | cons a t ih =>
    have ha := h a (by simp)
    rw [List.flatten_cons] at hk
    rcases Nat.lt_or_ge k sz with hlt | hge
    · rw [List.getElem?_append_left (by omega)] at hk
      rw [Nat.div_eq_of_lt hlt, Nat.mod_eq_of_lt hlt]
      exact ⟨a, rfl, hk⟩
    · rw [List.getElem?_append_right (by omega), ha] at hk
      obtain ⟨r, h1, h2⟩ := ih (fun r hr => h r (by simp [hr])) (k - sz) hk
      have e1 : k / sz = (k - sz) / sz + 1 := by
        rw [Nat.div_eq k sz, if_pos ⟨hsz, hge⟩]
      have e2 : k % sz = (k - sz) % sz := by rw [Nat.mod_eq k sz, if_pos ⟨hsz, hge⟩]
      rw [e1, e2]
      exact ⟨r, by simpa using h1, h2⟩
theorem flat_len {sz : Nat} (rows : List (List Value)) (h : ∀ r ∈ rows, r.length = sz) : rows.flatten.length = rows.length * sz := by
  induction rows with
  | nil => simp
  | cons a t ih =>
    rw [List.flatten_cons, List.length_append, ih (fun r hr => h r (by simp [hr])), h a (by simp), List.length_cons, Nat.add_mul]; omega
theorem Sl.flat {w : World} {sz : Nat} {A : Option Addr} {rows : List (List Value)} (h : Sl w sz A rows) (hsz : 0 < sz) (ad : Addr) (hA : A = some ad) : ∀ j u, rows.flatten[j]? = some u → w.cell? (ad.add j) = some u := by
  intro j u hj
  obtain ⟨r, h1, h2⟩ := flat_get hsz rows h.1 j u hj
  have hpos : 0 < rows.length := by
    rcases Nat.eq_zero_or_pos rows.length with h0 | h0
    · rw [List.length_eq_zero_iff.1 h0] at hj; simp at hj
    · exact h0
  obtain ⟨ad', e, _, hc⟩ := h.2 hpos
  rw [hA] at e
  injection e with e
  subst e
  have := hc (j / sz) r h1 (j % sz) u h2
  rwa [show j / sz * sz + j % sz = j by have := Nat.div_add_mod j sz; rw [Nat.mul_comm] at this; exact this] at this
theorem flat_of {sz : Nat} (rows : List (List Value)) (h : ∀ r ∈ rows, r.length = sz) (i : Nat) (r : List Value) (j : Nat) (u : Value) (hr : rows[i]? = some r) (hu : r[j]? = some u) : rows.flatten[i * sz + j]? = some u := by
  have hj : j < sz := by
    have hl := h r (List.mem_of_getElem? hr)
    rcases Nat.lt_or_ge j r.length with h' | h'
    · omega
    · rw [List.getElem?_eq_none h'] at hu; cases hu
  induction rows generalizing i with
  | nil => simp at hr
  | cons a t ih =>
    have ha := h a (by simp)
    rw [List.flatten_cons]
    match i, hr with
    | 0, hr =>
      obtain rfl : a = r := by simpa using hr
      rw [Nat.zero_mul, Nat.zero_add, List.getElem?_append_left (by omega)]
      exact hu
    | i + 1, hr =>
      have e1 : (i + 1) * sz + j = sz + (i * sz + j) := by rw [Nat.add_mul]; omega
      rw [e1, List.getElem?_append_right (by omega), ha, Nat.add_sub_cancel_left]
      exact ih (fun r hr => h r (by simp [hr])) i (by simpa using hr)
/-- An owned row of rows is a slice of them. -/
theorem Sl.of_own {w : World} {base : Nat} {e : TypeId} {sz n : Nat} {v : Value} {rows : List (List Value)} (hown : w.ownsRow base e sz v n rows.flatten) (h : ∀ r ∈ rows, r.length = sz) (hsz : 0 < sz) (hn : rows.length = n) :
    ∃ A c, v = .slice A n c ∧ n ≤ c ∧ c ≤ 9223372036854775807 ∧ Sl w sz A rows := by
  rcases hown.2 with ⟨rfl, h0⟩ | ⟨g, cap, cur, rfl, hb, hg, hnc, hc, _⟩
  · subst h0
    obtain rfl := List.length_eq_zero_iff.1 hn
    exact ⟨none, 0, rfl, Nat.le_refl _, by omega, Sl.none_ _ _ _⟩
  · refine ⟨_, cap, rfl, hnc, by unfold maxLen at hc; omega, h, fun hp => ⟨⟨g, 0, none⟩, rfl, (hown.lt g rfl).2, ?_⟩⟩
    intro i r hr j u hu
    refine hown.cells rfl (i * sz + j) u ?_
    exact flat_of rows h i r j u hr hu
theorem lastE_get (l : List E) (k : Nat) (h : l.length = k + 1) : lastE l = l[k]'(by omega) := by
  unfold lastE
  have : l ≠ [] := by intro e; rw [e] at h; simp at h
  rw [List.getLastD_eq_getLast?, List.getLast?_eq_getElem?]
  simp [h]

theorem bl_alloc_ge {B : Nat} {w w1 : World} (h : Below B w w1) (o : Obj) (hB : B ≤ w1.heap.size) : Below B w (w1.alloc o) := h.alloc hB o
theorem blk_keepA {w3 w4 : World} {o : Obj} {b : Nat} {t : TypeId} {cs : Array Value} {v : Value} {e : TypeId} {sz n base : Nat} {xs : List Value} (hb : Blk w3 b t cs) (hown : w3.ownsRow base e sz v n xs) (hg : (w3.alloc o).grownBy w4 v.ownBlock) (hne : e ≠ t) : Blk w4 b t cs :=
  (hb.alloc o).grown hg (own_blk_ne (hown.alloc o) (hb.alloc o) hne)
theorem blk_keepB {w3 w4 : World} {b : Nat} {t : TypeId} {cs : Array Value} {v : Value} {e : TypeId} {sz n base : Nat} {xs : List Value} (hb : Blk w3 b t cs) (hown : w3.ownsRow base e sz v n xs) (hg : w3.grownBy w4 v.ownBlock) (hne : e ≠ t) : Blk w4 b t cs :=
  hb.grown hg (own_blk_ne hown hb hne)
theorem with_done {w4 : World} {base : Nat} {e : TypeId} {sz n g cap : Nat} {rows : List (List Value)} {r : List Value} (hown : w4.ownsRow base e sz (.slice (some ⟨g, 0, none⟩) (n + 1) cap) (n + 1) (rows.flatten ++ r))
    (h : ∀ r ∈ rows, r.length = sz) (hr : r.length = sz) (hsz : 0 < sz) (hn : rows.length = n) : n + 1 ≤ cap ∧ cap ≤ 9223372036854775807 ∧ Sl w4 sz (some ⟨g, 0, none⟩) (rows ++ [r]) := by
  have e1 : rows.flatten ++ r = (rows ++ [r]).flatten := by simp
  rw [e1] at hown
  obtain ⟨A, c, hv, h1, h2, h3⟩ := Sl.of_own hown (by
    intro x hx
    rcases List.mem_append.1 hx with hx | hx
    · exact h x hx
    · obtain rfl : x = r := by simpa using hx
      exact hr) hsz (by simp [hn])
  injection hv with hA _ hc
  subst hA hc
  exact ⟨h1, h2, h3⟩
theorem with_done' {w4 : World} {base : Nat} {e : TypeId} {sz n : Nat} {v : Value} {rows : List (List Value)} {r : List Value} (hown : w4.ownsRow base e sz v (n + 1) (rows.flatten ++ r))
    (h : ∀ r ∈ rows, r.length = sz) (hr : r.length = sz) (hsz : 0 < sz) (hn : rows.length = n) : ∃ A cap, v = .slice A (n + 1) cap ∧ n + 1 ≤ cap ∧ cap ≤ 9223372036854775807 ∧ Sl w4 sz A (rows ++ [r]) := by
  have e1 : rows.flatten ++ r = (rows ++ [r]).flatten := by simp
  rw [e1] at hown
  exact Sl.of_own hown (by
    intro x hx
    rcases List.mem_append.1 hx with hx | hx
    · exact h x hx
    · obtain rfl : x = r := by simpa using hx
      exact hr) hsz (by simp [hn])
end Go.Proofs.YtongoicadcmfaaaGreatDoor.V
