/- refdata.Table against the reference's list: the relation, and what the table's readers answer. -/
import Derived.Test.YtongoicadcmfaaaGreatDoorVMap
import Derived.Test.YtongoicadcmfaaaGreatDoorVSerM
import Derived.Test.YtongoicadcmfaaaGreatDoorVSerS
import Derived.Test.YtongoicadcmfaaaGreatDoorVSerP
import Derived.Test.YtongoicadcmfaaaGreatDoorVSerH
set_option linter.unusedSimpArgs false
set_option linter.unusedVariables false
namespace Go.Proofs.YtongoicadcmfaaaGreatDoor.V
open Go.RowKit

/-- The entries of a kind and a key. -/
def ser (k : Int) (l : List E) (key : ByteArray) : List E := l.filter fun e => (e.kind == k) && (e.key.toList == key.toList)
theorem onDay_ser (k : Int) (l : List E) (key : ByteArray) (d : Int) : onDay (ser k l key) d = atE l k d key := by
  unfold onDay ser atE
  rw [List.filter_filter]
  by_cases hd : dayB d = true
  · rw [if_pos hd]
    congr 2
    funext e
    unfold hit
    rw [hd, Bool.and_true, Bool.and_comm]
  · have hd' : dayB d = false := by simpa using hd
    rw [if_neg hd]
    have : l.filter (hit k d key) = [] := by
      rw [List.filter_eq_nil_iff]; intro e _; unfold hit; simp [hd']
    rw [this]; rfl

def RowsAt (w : World) (f : ByteArray → Option Value) (k : Int) (l : List E) (sz : Nat) (row : E → List Value) : Prop :=
  ∀ key, (f key = none ∧ ser k l key = []) ∨ ∃ A c, f key = some (.slice A (ser k l key).length c) ∧ ser k l key ≠ [] ∧ (ser k l key).length ≤ c ∧ c ≤ 9223372036854775807 ∧ Sl w sz A ((ser k l key).map row)
def Map1 (w : World) (m N : Nat) (k : Int) (l : List E) (sz : Nat) (row : E → List Value) : Prop := ∃ f, MapB w m f N ∧ RowsAt w f k l sz row
theorem RowsAt.call {w w' : World} {f : ByteArray → Option Value} {k : Int} {l : List E} {sz : Nat} {row : E → List Value} (h : RowsAt w f k l sz row) (hb : Below w.heap.size w w') : RowsAt w' f k l sz row := fun key => by
  rcases h key with h1 | ⟨A, c, h1, h2, h3, h4, h5⟩
  · exact .inl h1
  · exact .inr ⟨A, c, h1, h2, h3, h4, h5.call hb⟩
theorem Map1.call {w w' : World} {m N : Nat} {k : Int} {l : List E} {sz : Nat} {row : E → List Value} (h : Map1 w m N k l sz row) (hb : Below w.heap.size w w') : Map1 w' m N k l sz row := by
  obtain ⟨f, h1, h2⟩ := h
  exact ⟨f, h1.call hb, h2.call hb⟩
/-- What a look-up hands out: the slice of the key's entries. -/
theorem Map1.get {w : World} {m N : Nat} {k : Int} {l : List E} {sz : Nat} {row : E → List Value} (h : Map1 w m N k l sz row) {t e : TypeId} (ht : Tryz.prog.underlying t = some (.map 9 e)) (hz : ∀ w, (zeroValue e).run Tryz.prog w = .ok nilS w) {key : ByteArray} (hk : key.size ≤ maxLen) :
    ∃ A c, (ser k l key).length ≤ c ∧ c ≤ 9223372036854775807 ∧ Sl w sz A ((ser k l key).map row) ∧
      (∀ w', Below w.heap.size w w' → (Instr.lookup t (.map (some m)) (.string key) false).run Tryz.prog w' = .ok (.slice A (ser k l key).length c) w') ∧
      (∀ w', Below w.heap.size w w' → (Instr.lookup t (.map (some m)) (.string key) true).run Tryz.prog w' = .ok (.tuple #[.slice A (ser k l key).length c, .bool (!(ser k l key).isEmpty)]) w') := by
  obtain ⟨f, h1, h2⟩ := h
  rcases h2 key with ⟨hf, hs⟩ | ⟨A, c, hf, hne, h3, h4, h5⟩
  · rw [hs]
    refine ⟨none, 0, by simp, by omega, Sl.none_ _ _ _, fun w' hb => ?_, fun w' hb => ?_⟩
    · rw [(h1.call hb).lookup ht (hz w') hk false, hf]; rfl
    · rw [(h1.call hb).lookup ht (hz w') hk true, hf]; rfl
  · have hemp : (ser k l key).isEmpty = false := by
      cases hs : ser k l key with
      | nil => exact absurd hs hne
      | cons a t => rfl
    refine ⟨A, c, h3, h4, h5, fun w' hb => ?_, fun w' hb => ?_⟩
    · rw [(h1.call hb).lookup ht (hz w') hk false, hf]; rfl
    · rw [(h1.call hb).lookup ht (hz w') hk true, hf, hemp]; rfl

/-- The list that a table can stand for. -/
structure Inv (l : List E) : Prop where
  inc : ∀ k key, inc (ser k l key)
  len : l.length ≤ 40
structure Tab (w : World) (tb m0 m1 m2 m3 N : Nat) (l : List E) : Prop where
  blk : Blk w tb 126 #[.map (some m0), .map (some m1), .map (some m2), .map (some m3)]
  mem : Map1 w m0 N 0 l 4 rowM
  sec : Map1 w m1 N 1 l 5 rowS
  pri : Map1 w m2 N 2 l 2 rowP
  hair : Map1 w m3 N 3 l 3 rowH
  ne01 : m0 ≠ m1
  ne02 : m0 ≠ m2
  ne03 : m0 ≠ m3
  ne12 : m1 ≠ m2
  ne13 : m1 ≠ m3
  ne23 : m2 ≠ m3
theorem Tab.call {w w' : World} {tb m0 m1 m2 m3 N : Nat} {l : List E} (h : Tab w tb m0 m1 m2 m3 N l) (hb : Below w.heap.size w w') : Tab w' tb m0 m1 m2 m3 N l :=
  ⟨h.blk.call hb, h.mem.call hb, h.sec.call hb, h.pri.call hb, h.hair.call hb, h.ne01, h.ne02, h.ne03, h.ne12, h.ne13, h.ne23⟩
theorem ser_len (k : Int) (l : List E) (key : ByteArray) : (ser k l key).length ≤ l.length := List.length_filter_le ..
theorem ser_len30 {l : List E} (hi : Inv l) (k : Int) (key : ByteArray) : (ser k l key).length ≤ 1000000 := Nat.le_trans (ser_len k l key) (Nat.le_trans hi.len (by decide))
theorem bl1 (w : World) (o : Obj) : Below w.heap.size w (w.alloc o) := bl_alloc (Below.refl _ _) o

set_option maxRecDepth 20000 in
set_option maxHeartbeats 2000000 in
theorem security28 (tb m0 m1 m2 m3 N : Nat) (l : List E) (d : Int) (key : ByteArray) (w : World) (T : Tab w tb m0 m1 m2 m3 N l) (hi : Inv l) (hk : key.size ≤ maxLen) :
    Calls Tryz.prog 28 #[.pointer (some ⟨tb, 0, none⟩), .int .i64 d, .string key] w fun r w' =>
      r = .returned (.tuple #[.agg #[.string ((atE l 1 d key).getD E.zero).key, .string ((atE l 1 d key).getD E.zero).text, .int .i64 ((atE l 1 d key).getD E.zero).n, .bool ((atE l 1 d key).getD E.zero).act], .bool (atE l 1 d key).isSome]) ∧ Below w.heap.size w w' := by
  obtain ⟨A, c, hc1, hc2, hsl, hq, _⟩ := T.sec.get (t := 120) (e := 116) Tryz.underlying120 Tryz.zeroValue116 hk
  have hat := fun W h => atS A (ser 1 l key) c d W h hc1 hc2 (ser_len30 hi 1 key) (hi.inc 1 key)
  rw [onDay_ser] at hat
  generalize (ser 1 l key).length = n at *
  generalize atE l 1 d key = o at *
  generalize o.getD E.zero = e at *
  generalize o.isSome = b at *
  unfold aggS at hat
  have HAT := Lib.hid hat
  have HSL := Lib.hid hsl
  have HQ := fun o => hq _ (bl1 w o)
  have ct := fun o => (T.blk.alloc o).cell 1
  have hb0 := Blk.new w 72 #[.string ⟨#[]⟩, .string ⟨#[]⟩, .int .i64 0, .bool false]
  have HB0 := Lib.hid hb0
  clear hat hsl hq hb0 T hi
  go_enter Tryz.func28, Tryz.ntmps28
  go_wp2_with (go_at_call 60; refine (HAT.out _ (HSL.out.alloc _)).mono ?_; rintro r w2 ⟨rfl, hb2⟩; have hb0' := Lib.hid (HB0.out.call hb2); have hbl := Lib.hid (bl_then (bl1 w _) hb2); have y := fun o => Blk.get4 (hb0'.out.alloc o); have FZ := fun o j => (hb0'.out.alloc o).frozen j)
  refine bodyPost_ret (v := .tuple #[.agg #[.string e.key, .string e.text, .int .i64 e.n, .bool e.act], .bool b]) (by simp [results, Tryz.results28, go_sem, y]) rfl ⟨rfl, ?_⟩
  repeat (refine bl_set ?_ (by simp) _)
  exact bl_alloc hbl.out _
set_option maxRecDepth 20000 in
set_option maxHeartbeats 2000000 in
theorem member30 (tb m0 m1 m2 m3 N : Nat) (l : List E) (d : Int) (key : ByteArray) (w : World) (T : Tab w tb m0 m1 m2 m3 N l) (hi : Inv l) (hk : key.size ≤ maxLen) :
    Calls Tryz.prog 30 #[.pointer (some ⟨tb, 0, none⟩), .int .i64 d, .string key] w fun r w' =>
      r = .returned (.tuple #[.agg #[.string ((atE l 0 d key).getD E.zero).key, .string ((atE l 0 d key).getD E.zero).text, .bool ((atE l 0 d key).getD E.zero).act], .bool (atE l 0 d key).isSome]) ∧ Below w.heap.size w w' := by
  obtain ⟨A, c, hc1, hc2, hsl, hq, _⟩ := T.mem.get (t := 118) (e := 132) Tryz.underlying118 Tryz.zeroValue132 hk
  have hat := fun W h => atM A (ser 0 l key) c d W h hc1 hc2 (ser_len30 hi 0 key) (hi.inc 0 key)
  rw [onDay_ser] at hat
  generalize (ser 0 l key).length = n at *
  generalize atE l 0 d key = o at *
  generalize o.getD E.zero = e at *
  generalize o.isSome = b at *
  unfold aggM at hat
  have HAT := Lib.hid hat
  have HSL := Lib.hid hsl
  have HQ := fun o => hq _ (bl1 w o)
  have ct := fun o => (T.blk.alloc o).cell 0
  have hb0 := Blk.new w 78 #[.string ⟨#[]⟩, .string ⟨#[]⟩, .bool false]
  have HB0 := Lib.hid hb0
  clear hat hsl hq hb0 T hi
  go_enter Tryz.func30, Tryz.ntmps30
  go_wp2_with (go_at_call 61; refine (HAT.out _ (HSL.out.alloc _)).mono ?_; rintro r w2 ⟨rfl, hb2⟩; have hb0' := Lib.hid (HB0.out.call hb2); have hbl := Lib.hid (bl_then (bl1 w _) hb2); have y := fun o => Blk.get3 (hb0'.out.alloc o); have FZ := fun o j => (hb0'.out.alloc o).frozen j)
  refine bodyPost_ret (v := .tuple #[.agg #[.string e.key, .string e.text, .bool e.act], .bool b]) (by simp [results, Tryz.results30, go_sem, y]) rfl ⟨rfl, ?_⟩
  repeat (refine bl_set ?_ (by simp) _)
  exact bl_alloc hbl.out _
set_option maxRecDepth 20000 in
set_option maxHeartbeats 2000000 in
theorem haircut34 (tb m0 m1 m2 m3 N : Nat) (l : List E) (d : Int) (key : ByteArray) (w : World) (T : Tab w tb m0 m1 m2 m3 N l) (hi : Inv l) (hk : key.size ≤ maxLen) :
    Calls Tryz.prog 34 #[.pointer (some ⟨tb, 0, none⟩), .int .i64 d, .string key] w fun r w' =>
      r = .returned (.tuple #[.agg #[.int .i64 ((atE l 3 d key).getD E.zero).num, .int .i64 ((atE l 3 d key).getD E.zero).den], .bool (atE l 3 d key).isSome]) ∧ Below w.heap.size w w' := by
  obtain ⟨A, c, hc1, hc2, hsl, hq, _⟩ := T.hair.get (t := 124) (e := 138) Tryz.underlying124 Tryz.zeroValue138 hk
  have hat := fun W h => atH A (ser 3 l key) c d W h hc1 hc2 (ser_len30 hi 3 key) (hi.inc 3 key)
  rw [onDay_ser] at hat
  generalize (ser 3 l key).length = n at *
  generalize atE l 3 d key = o at *
  generalize o.getD E.zero = e at *
  generalize o.isSome = b at *
  unfold aggH at hat
  have HAT := Lib.hid hat
  have HSL := Lib.hid hsl
  have HQ := fun o => hq _ (bl1 w o)
  have ct := fun o => (T.blk.alloc o).cell 3
  have hb0 := Blk.new w 69 #[.int .i64 0, .int .i64 0]
  have HB0 := Lib.hid hb0
  clear hat hsl hq hb0 T hi
  go_enter Tryz.func34, Tryz.ntmps34
  go_wp2_with (go_at_call 62; refine (HAT.out _ (HSL.out.alloc _)).mono ?_; rintro r w2 ⟨rfl, hb2⟩; have hb0' := Lib.hid (HB0.out.call hb2); have hbl := Lib.hid (bl_then (bl1 w _) hb2); have y := fun o => Blk.get2 (hb0'.out.alloc o); have FZ := fun o j => (hb0'.out.alloc o).frozen j)
  refine bodyPost_ret (v := .tuple #[.agg #[.int .i64 e.num, .int .i64 e.den], .bool b]) (by simp [results, Tryz.results34, go_sem, y]) rfl ⟨rfl, ?_⟩
  repeat (refine bl_set ?_ (by simp) _)
  exact bl_alloc hbl.out _
set_option maxRecDepth 20000 in
set_option maxHeartbeats 2000000 in
theorem price63 (tb m0 m1 m2 m3 N : Nat) (l : List E) (d : Int) (key : ByteArray) (w : World) (T : Tab w tb m0 m1 m2 m3 N l) (hi : Inv l) (hk : key.size ≤ maxLen) :
    Calls Tryz.prog 63 #[.pointer (some ⟨tb, 0, none⟩), .int .i64 d, .string key] w fun r w' =>
      r = .returned (.tuple #[.int .i64 ((atE l 2 d key).getD E.zero).n, .int .i64 ((atE l 2 d key).getD E.zero).day, .bool (atE l 2 d key).isSome]) ∧ Below w.heap.size w w' := by
  obtain ⟨A, c, hc1, hc2, hsl, hq, _⟩ := T.pri.get (t := 122) (e := 149) Tryz.underlying122 Tryz.zeroValue149 hk
  have hat := fun W h => atP A (ser 2 l key) c d W h hc1 hc2 (ser_len30 hi 2 key) (hi.inc 2 key)
  rw [onDay_ser] at hat
  generalize (ser 2 l key).length = n at *
  generalize atE l 2 d key = o at *
  generalize o.getD E.zero = e at *
  generalize o.isSome = b at *
  unfold aggP at hat
  have HAT := Lib.hid hat
  have HSL := Lib.hid hsl
  have HQ := hq _ (Below.refl _ _)
  have ct := T.blk.cell 2
  clear hat hsl hq T hi
  go_enter Tryz.func63, Tryz.ntmps63
  go_wp2_with (go_at_call 92; refine (HAT.out _ HSL.out).mono ?_; rintro r w2 ⟨rfl, hb2⟩)
  go_quiet (fail)
  go_wp2_with fail
  go_ret3
  exact ⟨rfl, bl_drewN (bl_alloc hb2 _) _⟩

/-! ### one entry more -/
def sameKD (e x : E) : Bool := (x.kind == e.kind) && (x.key.toList == e.key.toList) && (x.day == e.day)
def setL (l : List E) (e : E) : List E := l.filter (fun x => !sameKD e x) ++ [e]
theorem setL_len (l : List E) (e : E) : (setL l e).length ≤ l.length + 1 := by
  unfold setL
  rw [List.length_append]
  have := List.length_filter_le (fun x => !sameKD e x) l
  simp; omega
theorem ser_set_other (l : List E) (e : E) (k : Int) (key : ByteArray) (h : k ≠ e.kind ∨ key ≠ e.key) : ser k (setL l e) key = ser k l key := by
  unfold ser setL
  have hkey : key ≠ e.key → (e.key.toList == key.toList) = false := fun h' => by
    rw [str_beq, decide_eq_false_iff_not]; exact fun e1 => h' e1.symm
  rw [List.filter_append, List.filter_filter]
  have h1 : ([e].filter fun e => (e.kind == k) && (e.key.toList == key.toList)) = [] := by
    rcases h with h | h
    · have : (e.kind == k) = false := by rw [beq_eq_false_iff_ne]; exact fun e1 => h e1.symm
      simp [this]
    · simp [hkey h]
  rw [h1, List.append_nil]
  refine List.filter_congr fun x _ => ?_
  unfold sameKD
  cases h2 : (x.kind == k) && (x.key.toList == key.toList)
  · rfl
  · rw [Bool.and_eq_true, beq_iff_eq, str_beq, decide_eq_true_iff] at h2
    obtain ⟨h3, h4⟩ := h2
    rcases h with h | h
    · have : (x.kind == e.kind) = false := by rw [beq_eq_false_iff_ne, h3]; exact h
      simp [this]
    · have : (x.key.toList == e.key.toList) = false := by rw [str_beq, decide_eq_false_iff_not, h4]; exact h
      simp [this]
theorem ser_mem {k : Int} {l : List E} {key : ByteArray} {x : E} (h : x ∈ ser k l key) : x.kind = k ∧ x.key = key := by
  have := (List.mem_filter.1 h).2
  rw [Bool.and_eq_true, beq_iff_eq, str_beq, decide_eq_true_iff] at this
  exact this
theorem lastE_ge {l : List E} (hi : inc l) (x : E) (hx : x ∈ l) : x.day ≤ (lastE l).day := by
  obtain ⟨k, hk⟩ : ∃ k, l.length = k + 1 := ⟨l.length - 1, by have := List.length_pos_of_mem hx; omega⟩
  rw [lastE_get l k hk]
  obtain ⟨i, hil, rfl⟩ := List.mem_iff_getElem.1 hx
  rcases Nat.lt_or_ge i k with h | h
  · have := inc_lt hi (show k < l.length by omega) h; omega
  · have : i = k := by omega
    subst this; exact Int.le_refl _
theorem ser_set_same (l : List E) (e : E) (hi : inc (ser e.kind l e.key)) (hs : staleB (ser e.kind l e.key) e.day = false) : ser e.kind (setL l e) e.key = withE (ser e.kind l e.key) e := by
  have h1 : ser e.kind (setL l e) e.key = (ser e.kind l e.key).filter (fun x => !(x.day == e.day)) ++ [e] := by
    unfold setL
    rw [show ser e.kind (l.filter (fun x => !sameKD e x) ++ [e]) e.key = (l.filter (fun x => !sameKD e x) ++ [e]).filter (fun x => (x.kind == e.kind) && (x.key.toList == e.key.toList)) from rfl, List.filter_append]
    have : ([e].filter fun x => (x.kind == e.kind) && (x.key.toList == e.key.toList)) = [e] := by simp
    rw [this]
    congr 1
    unfold ser
    rw [List.filter_filter, List.filter_filter]
    refine List.filter_congr fun x _ => ?_
    unfold sameKD
    cases (x.kind == e.kind) <;> cases (x.key.toList == e.key.toList) <;> cases (x.day == e.day) <;> rfl
  rw [h1]
  unfold withE
  generalize ser e.kind l e.key = t at *
  congr 1
  unfold staleB at hs
  cases ht : t.isEmpty
  · obtain ⟨k, hk⟩ : ∃ k, t.length = k + 1 := ⟨t.length - 1, by
      cases t with
      | nil => simp at ht
      | cons a r => simp⟩
    have hle : (lastE t).day ≤ e.day := by
      rw [ht] at hs
      simp at hs
      exact hs
    have hlast := lastE_get t k hk
    by_cases hd : (lastE t).day = e.day
    · have hb : (!false && (lastE t).day == e.day) = true := by simp [hd]
      rw [if_pos hb]
      have hsplit : t = t.take k ++ [t[k]'(by omega)] := by
        rw [← take_snoc t k (by omega), ← hk, List.take_length]
      have hdl : t.dropLast = t.take k := by rw [List.dropLast_eq_take, hk]; rfl
      rw [hdl]
      conv => lhs; rw [hsplit]
      rw [List.filter_append]
      have h2 : ([t[k]'(by omega)].filter fun x => !(x.day == e.day)) = [] := by
        rw [← hlast]; simp [hd]
      rw [h2, List.append_nil, List.filter_eq_self]
      intro x hx
      obtain ⟨i, hil, rfl⟩ := List.mem_iff_getElem.1 hx
      rw [List.length_take] at hil
      rw [List.getElem_take]
      have := inc_lt hi (show k < t.length by omega) (show i < k by omega)
      rw [← hlast] at this
      have h3 : t[i].day ≠ e.day := by omega
      simp [h3]
    · have hb : ¬ (!false && (lastE t).day == e.day) = true := by simp [hd]
      rw [if_neg hb, List.filter_eq_self]
      intro x hx
      have := lastE_ge hi x hx
      have h3 : x.day ≠ e.day := by omega
      simp [h3]
  · have : t = [] := List.isEmpty_iff.1 ht
    subst this; rfl
theorem inc_with (t : List E) (e : E) (hi : inc t) (hs : staleB t e.day = false) : inc (withE t e) := by
  have hsub : ∀ x ∈ (if (!t.isEmpty && (lastE t).day == e.day) = true then t.dropLast else t), x.day < e.day := by
    intro x hx
    cases ht : t.isEmpty
    · obtain ⟨k, hk⟩ : ∃ k, t.length = k + 1 := ⟨t.length - 1, by
        cases t with
        | nil => simp at ht
        | cons a r => simp⟩
      have hlast := lastE_get t k hk
      have hle : (lastE t).day ≤ e.day := by
        unfold staleB at hs
        rw [ht] at hs
        simp at hs
        exact hs
      by_cases hd : (lastE t).day = e.day
      · rw [if_pos (by simp [ht, hd])] at hx
        rw [List.dropLast_eq_take, hk] at hx
        obtain ⟨i, hil, rfl⟩ := List.mem_iff_getElem.1 hx
        rw [List.length_take] at hil
        rw [List.getElem_take]
        have := inc_lt hi (show k < t.length by omega) (show i < k by omega)
        rw [← hlast] at this
        omega
      · rw [if_neg (by simp [hd])] at hx
        have := lastE_ge hi x hx
        omega
    · have : t = [] := List.isEmpty_iff.1 ht
      subst this
      simp at hx
  have hinc : inc (if (!t.isEmpty && (lastE t).day == e.day) = true then t.dropLast else t) := by
    split
    · exact List.Pairwise.sublist (List.dropLast_sublist t) hi
    · exact hi
  unfold withE inc
  rw [List.pairwise_append]
  exact ⟨hinc, by simp, fun a ha b hb => by
    obtain rfl : b = e := by simpa using hb
    exact hsub a ha⟩
theorem Inv.set {l : List E} (h : Inv l) (e : E) (hs : staleB (ser e.kind l e.key) e.day = false) (hl : l.length < 40) : Inv (setL l e) := by
  refine ⟨fun k key => ?_, Nat.le_trans (setL_len l e) hl⟩
  by_cases hk : k = e.kind ∧ key = e.key
  · rw [hk.1, hk.2, ser_set_same l e (h.inc _ _) hs]
    exact inc_with _ _ (h.inc _ _) hs
  · rw [ser_set_other l e k key (by
      rcases Classical.em (k = e.kind) with h1 | h1
      · exact .inr fun h2 => hk ⟨h1, h2⟩
      · exact .inl h1)]
    exact h.inc _ _
theorem withE_ne (t : List E) (e : E) : withE t e ≠ [] := by unfold withE; simp

/-- The map of the entry's kind, behind the update. -/
theorem Map1.set {w w' : World} {m N : Nat} {l : List E} {sz : Nat} {row : E → List Value} {e : E} (f : ByteArray → Option Value) (hr : RowsAt w f e.kind l sz row) (hi : Inv l) (hs : staleB (ser e.kind l e.key) e.day = false)
    {A : Option Addr} {c : Nat} (h1 : (withE (ser e.kind l e.key) e).length ≤ c) (h2 : c ≤ 9223372036854775807) (h3 : Sl w sz A ((withE (ser e.kind l e.key) e).map row))
    (hw : ∀ A rows, Sl w sz A rows → Sl w' sz A rows)
    (hm : MapB w' m (fset f e.key (.slice A (withE (ser e.kind l e.key) e).length c)) N) : Map1 w' m N e.kind (setL l e) sz row := by
  refine ⟨_, hm, fun key => ?_⟩
  by_cases hk : key = e.key
  · subst hk
    rw [fset_same, ser_set_same l e (hi.inc _ _) hs]
    exact .inr ⟨A, c, rfl, withE_ne _ _, h1, h2, hw _ _ h3⟩
  · rw [fset_other _ _ _ hk, ser_set_other l e e.kind key (.inr hk)]
    rcases hr key with h | ⟨A', c', g1, g2, g3, g4, g5⟩
    · exact .inl h
    · exact .inr ⟨A', c', g1, g2, g3, g4, hw _ _ g5⟩
/-- .. and of another kind. -/
theorem Map1.set_other {w w' : World} {m N : Nat} {k : Int} {l : List E} {sz : Nat} {row : E → List Value} {e : E} (h : Map1 w m N k l sz row) (hk : k ≠ e.kind)
    (hw : ∀ A rows, Sl w sz A rows → Sl w' sz A rows) (hm : ∀ f, MapB w m f N → MapB w' m f N) : Map1 w' m (N + 1) k (setL l e) sz row := by
  obtain ⟨f, h1, h2⟩ := h
  refine ⟨f, (hm f h1).mono (Nat.le_succ _), fun key => ?_⟩
  rw [ser_set_other l e k key (.inl hk)]
  rcases h2 key with h | ⟨A', c', g1, g2, g3, g4, g5⟩
  · exact .inl h
  · exact .inr ⟨A', c', g1, g2, g3, g4, hw _ _ g5⟩
end Go.Proofs.YtongoicadcmfaaaGreatDoor.V
