/- girolaw33.set: an entry of every kind added to a table; what a valuer's own table keeps. -/
import Derived.Test.YtongoicadcmfaaaGreatDoorVNil
import Derived.Test.YtongoicadcmfaaaGreatDoorVSet
set_option linter.unusedSimpArgs false
set_option linter.unusedVariables false
namespace Go.Proofs.YtongoicadcmfaaaGreatDoor.V
open Go.RowKit

/-! ### another map is written -/
section
variable {w w' : World} {m M : Nat} {f : ByteArray → Option Value}
theorem Map1.turn {m' N : Nat} {k : Int} {l : List E} {sz : Nat} {row : E → List Value} (hm : MapB w m f M) (hg : w.grownBy w' (some m)) (hne : m' ≠ m) (hsz : 0 < sz) (h : Map1 w m' N k l sz row) : Map1 w' m' N k l sz row := by
  obtain ⟨f', h1, h2⟩ := h
  refine ⟨f', mapB_turn hg hne h1, fun key => ?_⟩
  rcases h2 key with h3 | ⟨A, c, g1, g2, g3, g4, g5⟩
  · exact .inl h3
  · exact .inr ⟨A, c, g1, g2, g3, g4, sl_turn hm hg hsz A _ g5⟩
theorem Tab.turn {tb n0 n1 n2 n3 N : Nat} {l : List E} (hm : MapB w m f M) (hg : w.grownBy w' (some m)) (h0 : n0 ≠ m) (h1 : n1 ≠ m) (h2 : n2 ≠ m) (h3 : n3 ≠ m) (T : Tab w tb n0 n1 n2 n3 N l) : Tab w' tb n0 n1 n2 n3 N l :=
  ⟨blk_turn hm hg T.blk, T.mem.turn hm hg h0 (by decide), T.sec.turn hm hg h1 (by decide), T.pri.turn hm hg h2 (by decide), T.hair.turn hm hg h3 (by decide), T.ne01, T.ne02, T.ne03, T.ne12, T.ne13, T.ne23⟩
theorem Val.turn {vb tb n0 n1 n2 n3 N : Nat} {l : List E} {d : Int} (hm : MapB w m f M) (hg : w.grownBy w' (some m)) (h0 : n0 ≠ m) (h1 : n1 ≠ m) (h2 : n2 ≠ m) (h3 : n3 ≠ m) (V : Val w vb tb n0 n1 n2 n3 N l d) : Val w' vb tb n0 n1 n2 n3 N l d :=
  ⟨blk_turn hm hg V.blk, V.tab.turn hm hg h0 h1 h2 h3⟩
end

/-! ### one entry, of every kind -/
theorem of54 (a b : Int) (w : World) : Calls Tryz.prog 54 #[.agg #[.int .i64 a, .int .i64 b]] w fun r w' => r = .returned (.agg #[.int .i64 a, .int .i64 b]) ∧ Below w.heap.size w w' := by
  go_enter Tryz.func54, Tryz.ntmps54
  go_wp2
  refine bodyPost_ret (v := .agg #[.int .i64 a, .int .i64 b]) (by simp [results, Tryz.results54, go_sem]) rfl ⟨rfl, ?_⟩
  repeat (refine bl_set ?_ (by simp) _)
  exact bl_alloc (bl1 w _) _
theorem step_0 (l : List E) (e : E) (hk : e.kind = 0) : stepL l e = if errM l e = 0 then setL l e else l := by unfold stepL errE; rw [if_pos hk]
theorem step_1 (l : List E) (e : E) (hk : e.kind = 1) : stepL l e = if errS l e = 0 then setL l e else l := by unfold stepL errE; rw [if_neg (show ¬ e.kind = 0 by omega), if_pos hk]
theorem step_2 (l : List E) (e : E) (hk : e.kind = 2) : stepL l e = if errP l e (prB e.n) = 0 then setL l e else l := by unfold stepL errE; rw [if_neg (show ¬ e.kind = 0 by omega), if_neg (show ¬ e.kind = 1 by omega), if_pos hk]
theorem step_3 (l : List E) (e : E) (hk : e.kind = 3) : stepL l e = if errH l e (haB e) = 0 then setL l e else l := by unfold stepL errE; rw [if_neg (show ¬ e.kind = 0 by omega), if_neg (show ¬ e.kind = 1 by omega), if_neg (show ¬ e.kind = 2 by omega)]
/-- What stands behind j additions. -/
structure QS (K : World → Prop) (pb tb m0 m1 m2 m3 : Nat) (e : E) (j : Nat) (w : World) : Prop where
  tab : ∃ N l, Tab w tb m0 m1 m2 m3 N l ∧ Inv l ∧ l.length ≤ 30 + j ∧ N ≤ 60 + j
  bx : Blk w pb 31 #[.int .i64 e.kind, .int .i64 e.day, .string e.key, .string e.text, .int .i64 e.n, .int .i64 e.num, .int .i64 e.den, .bool e.act]
  k : K w
/-- What such a property must bear: calls that add memory, and writes to one of the four maps. -/
structure Bears (K : World → Prop) (m0 m1 m2 m3 : Nat) : Prop where
  call : ∀ w w', K w → Below w.heap.size w w' → K w'
  turn : ∀ w w' m f M, (m = m0 ∨ m = m1 ∨ m = m2 ∨ m = m3) → MapB w m f M → w.grownBy w' (some m) → K w → K w'
section
variable {K : World → Prop} {pb tb m0 m1 m2 m3 j : Nat} {e : E} {w : World}
theorem QS.call {w' : World} (hK : Bears K m0 m1 m2 m3) (Q : QS K pb tb m0 m1 m2 m3 e j w) (hb : Below w.heap.size w w') : QS K pb tb m0 m1 m2 m3 e j w' := by
  obtain ⟨N, l, T, h1, h2, h3⟩ := Q.tab
  exact ⟨⟨N, l, T.call hb, h1, h2, h3⟩, Q.bx.call hb, hK.call _ _ Q.k hb⟩
theorem st50 (hK : Bears K m0 m1 m2 m3) (he : OkE e) (hj : j < 10) (Q : QS K pb tb m0 m1 m2 m3 e j w) :
    Calls Tryz.prog 50 #[.pointer (some ⟨tb, 0, none⟩), .int .i64 e.day, .agg #[.string e.key, .string e.text, .bool e.act]] w fun r w' => (∃ er, r = .returned (.int .i64 er)) ∧ QS K pb tb m0 m1 m2 m3 e (j + 1) w' := by
  obtain ⟨N, l, T, h1, h2, h3⟩ := Q.tab
  have h := setMember50 tb m0 m1 m2 m3 N l ⟨0, e.day, e.key, e.text, e.n, e.num, e.den, e.act⟩ rfl w T h1 he.key he.text (by omega) (by omega)
  have hinv := stepL_inv (l := l) (e := ⟨0, e.day, e.key, e.text, e.n, e.num, e.den, e.act⟩) (.inl rfl) h1 (by omega)
  have hlen := stepL_len l ⟨0, e.day, e.key, e.text, e.n, e.num, e.den, e.act⟩
  rw [step_0 _ _ rfl] at hinv hlen
  obtain ⟨f, hm, -⟩ := T.mem
  exact h.mono fun r w' ⟨hr, hg, ht⟩ => ⟨⟨_, hr⟩, ⟨N + 1, _, ht, hinv, by omega, by omega⟩, blk_turn hm hg Q.bx, hK.turn _ _ _ _ _ (.inl rfl) hm hg Q.k⟩
theorem st51 (hK : Bears K m0 m1 m2 m3) (he : OkE e) (hj : j < 10) (Q : QS K pb tb m0 m1 m2 m3 e j w) :
    Calls Tryz.prog 51 #[.pointer (some ⟨tb, 0, none⟩), .int .i64 e.day, .agg #[.string e.key, .string e.text, .int .i64 e.n, .bool e.act]] w fun r w' => (∃ er, r = .returned (.int .i64 er)) ∧ QS K pb tb m0 m1 m2 m3 e (j + 1) w' := by
  obtain ⟨N, l, T, h1, h2, h3⟩ := Q.tab
  have h := setSecurity51 tb m0 m1 m2 m3 N l ⟨1, e.day, e.key, e.text, e.n, e.num, e.den, e.act⟩ rfl w T h1 he.key he.text (by omega) (by omega)
  have hinv := stepL_inv (l := l) (e := ⟨1, e.day, e.key, e.text, e.n, e.num, e.den, e.act⟩) (.inr (.inl rfl)) h1 (by omega)
  have hlen := stepL_len l ⟨1, e.day, e.key, e.text, e.n, e.num, e.den, e.act⟩
  rw [step_1 _ _ rfl] at hinv hlen
  obtain ⟨f, hm, -⟩ := T.sec
  exact h.mono fun r w' ⟨hr, hg, ht⟩ => ⟨⟨_, hr⟩, ⟨N + 1, _, ht, hinv, by omega, by omega⟩, blk_turn hm hg Q.bx, hK.turn _ _ _ _ _ (.inr (.inl rfl)) hm hg Q.k⟩
theorem st52 (hK : Bears K m0 m1 m2 m3) (he : OkE e) (hj : j < 10) (Q : QS K pb tb m0 m1 m2 m3 e j w) :
    Calls Tryz.prog 52 #[.pointer (some ⟨tb, 0, none⟩), .int .i64 e.day, .string e.key, .int .i64 e.n] w fun r w' => (∃ er, r = .returned (.int .i64 er)) ∧ QS K pb tb m0 m1 m2 m3 e (j + 1) w' := by
  obtain ⟨N, l, T, h1, h2, h3⟩ := Q.tab
  have h := setPrice52 tb m0 m1 m2 m3 N l ⟨2, e.day, e.key, e.text, e.n, e.num, e.den, e.act⟩ rfl w T h1 he.key (by omega)
  have hinv := stepL_inv (l := l) (e := ⟨2, e.day, e.key, e.text, e.n, e.num, e.den, e.act⟩) (.inr (.inr (.inl rfl))) h1 (by omega)
  have hlen := stepL_len l ⟨2, e.day, e.key, e.text, e.n, e.num, e.den, e.act⟩
  rw [step_2 _ _ rfl] at hinv hlen
  obtain ⟨f, hm, -⟩ := T.pri
  exact h.mono fun r w' ⟨hr, hg, ht⟩ => ⟨⟨_, hr⟩, ⟨N + 1, _, ht, hinv, by omega, by omega⟩, blk_turn hm hg Q.bx, hK.turn _ _ _ _ _ (.inr (.inr (.inl rfl))) hm hg Q.k⟩
theorem st53 (hK : Bears K m0 m1 m2 m3) (he : OkE e) (hj : j < 10) (Q : QS K pb tb m0 m1 m2 m3 e j w) :
    Calls Tryz.prog 53 #[.pointer (some ⟨tb, 0, none⟩), .int .i64 e.day, .string e.key, .agg #[.int .i64 e.num, .int .i64 e.den]] w fun r w' => (∃ er, r = .returned (.int .i64 er)) ∧ QS K pb tb m0 m1 m2 m3 e (j + 1) w' := by
  obtain ⟨N, l, T, h1, h2, h3⟩ := Q.tab
  have h := setHaircut53 tb m0 m1 m2 m3 N l ⟨3, e.day, e.key, e.text, e.n, e.num, e.den, e.act⟩ rfl w T h1 he.key (by omega) he.num.1 he.num.2 he.den.1 he.den.2
  have hinv := stepL_inv (l := l) (e := ⟨3, e.day, e.key, e.text, e.n, e.num, e.den, e.act⟩) (.inr (.inr (.inr rfl))) h1 (by omega)
  have hlen := stepL_len l ⟨3, e.day, e.key, e.text, e.n, e.num, e.den, e.act⟩
  rw [step_3 _ _ rfl] at hinv hlen
  obtain ⟨f, hm, -⟩ := T.hair
  exact h.mono fun r w' ⟨hr, hg, ht⟩ => ⟨⟨_, hr⟩, ⟨N + 1, _, ht, hinv, by omega, by omega⟩, blk_turn hm hg Q.bx, hK.turn _ _ _ _ _ (.inr (.inr (.inr rfl))) hm hg Q.k⟩
theorem QS.cells (Q : QS K pb tb m0 m1 m2 m3 e j w) : w.cell? ⟨pb, 1, none⟩ = some (.int .i64 e.day) ∧ w.cell? ⟨pb, 2, none⟩ = some (.string e.key) ∧ w.cell? ⟨pb, 5, none⟩ = some (.int .i64 e.num) ∧ w.cell? ⟨pb, 6, none⟩ = some (.int .i64 e.den) :=
  ⟨Q.bx.cell 1, Q.bx.cell 2, Q.bx.cell 5, Q.bx.cell 6⟩
end

set_option maxRecDepth 20000 in
set_option maxHeartbeats 8000000 in
theorem set24 (K : World → Prop) (tb m0 m1 m2 m3 : Nat) (hK : Bears K m0 m1 m2 m3) (N : Nat) (l : List E) (e : E) (he : OkE e) (w : World) (T : Tab w tb m0 m1 m2 m3 N l) (hi : Inv l) (hl : l.length ≤ 30) (hN : N ≤ 60) (k : K w) :
    Calls Tryz.prog 24 #[.pointer (some ⟨tb, 0, none⟩), e.val] w fun r w' => r = .returned (.tuple #[]) ∧ K w' := by
  have hb0 := bl1 w (.cells #[.int .i64 e.kind, .int .i64 e.day, .string e.key, .string e.text, .int .i64 e.n, .int .i64 e.num, .int .i64 e.den, .bool e.act] 31)
  have q0 : QS K w.heap.size tb m0 m1 m2 m3 e 0 (w.alloc (.cells #[.int .i64 e.kind, .int .i64 e.day, .string e.key, .string e.text, .int .i64 e.n, .int .i64 e.num, .int .i64 e.den, .bool e.act] 31)) :=
    ⟨⟨N, l, T.call hb0, hi, by omega, by omega⟩, Blk.new _ _ _, hK.call _ _ k hb0⟩
  obtain ⟨pb, hpb⟩ : ∃ p, w.heap.size = p := ⟨_, rfl⟩
  obtain ⟨w0, hw0⟩ : ∃ W, w.alloc (.cells #[.int .i64 e.kind, .int .i64 e.day, .string e.key, .string e.text, .int .i64 e.n, .int .i64 e.num, .int .i64 e.den, .bool e.act] 31) = W := ⟨_, rfl⟩
  rw [hw0, hpb] at q0
  have h50 := fun W (Q : QS K pb tb m0 m1 m2 m3 e 0 W) => st50 hK he (by omega) Q
  have h51 := fun W (Q : QS K pb tb m0 m1 m2 m3 e 1 W) => st51 hK he (by omega) Q
  have h52 := fun W (Q : QS K pb tb m0 m1 m2 m3 e 2 W) => st52 hK he (by omega) Q
  have h53 := fun W (Q : QS K pb tb m0 m1 m2 m3 e 3 W) => st53 hK he (by omega) Q
  have H50 := Lib.hid h50
  have H51 := Lib.hid h51
  have H52 := Lib.hid h52
  have H53 := Lib.hid h53
  have HW0 := Lib.hid (And.intro hw0 hpb)
  have cc0 := Blk.get8 q0.bx
  have Q0 := Lib.hid q0
  clear q0 h50 h51 h52 h53 hw0 hpb hb0 T k
  unfold E.val
  go_enter Tryz.func24, Tryz.ntmps24
  go_upto_region 1 with fail
  rw [HW0.out.1, HW0.out.2]
  go_wp2_with (first
    | (go_at_call 52; refine (H52.out _ Q2.out).mono ?_; rintro r w3 ⟨⟨er3, rfl⟩, q3⟩; have cc3 := Blk.get8 q3.bx; have Q3 := Lib.hid q3; clear q3)
    | (go_at_call 51; refine (H51.out _ Q1.out).mono ?_; rintro r w2 ⟨⟨er2, rfl⟩, q2⟩; have cc2 := Blk.get8 q2.bx; have Q2 := Lib.hid q2; clear q2)
    | (go_at_call 50; refine (H50.out _ Q0.out).mono ?_; rintro r w1 ⟨⟨er1, rfl⟩, q1⟩; have cc1 := Blk.get8 q1.bx; have Q1 := Lib.hid q1; clear q1))
  go_region_held3 (fun w' => w'.cell? ⟨pb, 1, none⟩ = some (.int .i64 e.day) ∧ w'.cell? ⟨pb, 2, none⟩ = some (.string e.key) ∧ w'.cell? ⟨pb, 5, none⟩ = some (.int .i64 e.num) ∧ w'.cell? ⟨pb, 6, none⟩ = some (.int .i64 e.den))
    (first | exact (Q3.out.call hK (bl_drew (Below.refl _ _))).cells | exact Q5.out.cells | exact Q4.out.cells)
    (first
      | (go_at_call 53; refine (H53.out _ Q4.out).mono ?_; rintro r w5 ⟨⟨er5, rfl⟩, q5⟩; have Q5 := Lib.hid q5; clear q5)
      | (go_at_call 54; refine (of54 _ _ _).mono ?_; rintro r w4 ⟨rfl, hb4⟩; have Q4 := Lib.hid (Q3.out.call hK (bl_then (bl_drew (Below.refl _ _)) hb4)); clear hb4)
      | fail "no arm")
  all_goals
    go_wp2_with fail
    go_end0
    exact ⟨rfl, Q5.out.k⟩
end Go.Proofs.YtongoicadcmfaaaGreatDoor.V
