/- girolaw21.clean: an entry of a valid kind without the fields that its kind does not use. girolaw21.Set and the reference's Set answer with one error number; what the additions come to. girolaw21.Made: at most 30 additions to the table and to the reference's list. girolaw33: known, made; valuation.New, Day. -/
import Derived.Test.YtongoicadcmfaaaGreatDoorVGood
import Derived.Laws.Bits128
import Derived.Test.YtongoicadcmfaaaGreatDoorVChk
import Derived.Test.YtongoicadcmfaaaGreatDoorVRSet
import Derived.Test.YtongoicadcmfaaaGreatDoorVNew
import Derived.Test.YtongoicadcmfaaaGreatDoorVPrice
set_option linter.unusedSimpArgs false
set_option linter.unusedVariables false
namespace Go.Proofs.YtongoicadcmfaaaGreatDoor.V
open Go.RowKit

def kind4 (k : Int) : Int := bits .and .i64 k 3
theorem kind4_lt (k : Int) : kind4 k = 0 ∨ kind4 k = 1 ∨ kind4 k = 2 ∨ kind4 k = 3 := by
  have h : (BitVec.ofInt 64 k &&& BitVec.ofInt 64 3).toNat ≤ 3 := by
    rw [BitVec.toNat_and]
    exact Nat.and_le_right
  unfold kind4
  have e : bits .and .i64 k 3 = IntKind.i64.wrap ((BitVec.ofInt 64 k &&& BitVec.ofInt 64 3).toNat : Int) := rfl
  rw [e]
  generalize (BitVec.ofInt 64 k &&& BitVec.ofInt 64 3).toNat = n at *
  rw [IntKind.wrap_i64]
  omega
def cleanE (e : E) : E :=
  if kind4 e.kind = 0 then ⟨0, e.day, e.key, e.text, 0, 0, 0, e.act⟩ else
  if kind4 e.kind = 1 then ⟨1, e.day, e.key, e.text, e.n, 0, 0, e.act⟩ else
  if kind4 e.kind = 2 then ⟨2, e.day, e.key, ⟨#[]⟩, e.n, 0, 0, false⟩ else ⟨3, e.day, e.key, ⟨#[]⟩, 0, e.num, e.den, false⟩

set_option maxRecDepth 20000 in
set_option maxHeartbeats 4000000 in
theorem clean47 (e : E) (w : World) : Calls Tryz.prog 47 #[e.val] w fun r w' => r = .returned (cleanE e).val ∧ Below w.heap.size w w' := by
  obtain ⟨kind, day, key, text, n, num, den, act⟩ := e
  have hk : bits .and .i64 kind 3 = kind4 kind := rfl
  rcases kind4_lt kind with h | h | h | h
  · have hr : (cleanE ⟨kind, day, key, text, n, num, den, act⟩).val = .agg #[.int .i64 0, .int .i64 day, .string key, .string text, .int .i64 0, .int .i64 0, .int .i64 0, .bool act] := by unfold cleanE; simp only [h]; rfl
    rw [hr]
    rw [h] at hk
    clear hr h
    unfold E.val
    go_enter Tryz.func47, Tryz.ntmps47
    go_wp2
    refine bodyPost_ret (v := .agg #[.int .i64 0, .int .i64 day, .string key, .string text, .int .i64 0, .int .i64 0, .int .i64 0, .bool act]) (by simp [results, Tryz.results47, go_sem]) rfl ⟨rfl, ?_⟩
    repeat (refine bl_set ?_ (by simp) _)
    exact bl_alloc (bl1 w _) _
  · have hr : (cleanE ⟨kind, day, key, text, n, num, den, act⟩).val = .agg #[.int .i64 1, .int .i64 day, .string key, .string text, .int .i64 n, .int .i64 0, .int .i64 0, .bool act] := by unfold cleanE; simp only [h]; rfl
    rw [hr]
    rw [h] at hk
    clear hr h
    unfold E.val
    go_enter Tryz.func47, Tryz.ntmps47
    go_wp2
    refine bodyPost_ret (v := .agg #[.int .i64 1, .int .i64 day, .string key, .string text, .int .i64 n, .int .i64 0, .int .i64 0, .bool act]) (by simp [results, Tryz.results47, go_sem]) rfl ⟨rfl, ?_⟩
    repeat (refine bl_set ?_ (by simp) _)
    exact bl_alloc (bl1 w _) _
  · have hr : (cleanE ⟨kind, day, key, text, n, num, den, act⟩).val = .agg #[.int .i64 2, .int .i64 day, .string key, .string ⟨#[]⟩, .int .i64 n, .int .i64 0, .int .i64 0, .bool false] := by unfold cleanE; simp only [h]; rfl
    rw [hr]
    rw [h] at hk
    clear hr h
    unfold E.val
    go_enter Tryz.func47, Tryz.ntmps47
    go_wp2
    refine bodyPost_ret (v := .agg #[.int .i64 2, .int .i64 day, .string key, .string ⟨#[]⟩, .int .i64 n, .int .i64 0, .int .i64 0, .bool false]) (by simp [results, Tryz.results47, go_sem]) rfl ⟨rfl, ?_⟩
    repeat (refine bl_set ?_ (by simp) _)
    exact bl_alloc (bl1 w _) _
  · have hr : (cleanE ⟨kind, day, key, text, n, num, den, act⟩).val = .agg #[.int .i64 3, .int .i64 day, .string key, .string ⟨#[]⟩, .int .i64 0, .int .i64 num, .int .i64 den, .bool false] := by unfold cleanE; simp only [h]; rfl
    rw [hr]
    rw [h] at hk
    clear hr h
    unfold E.val
    go_enter Tryz.func47, Tryz.ntmps47
    go_wp2
    refine bodyPost_ret (v := .agg #[.int .i64 3, .int .i64 day, .string key, .string ⟨#[]⟩, .int .i64 0, .int .i64 num, .int .i64 den, .bool false]) (by simp [results, Tryz.results47, go_sem]) rfl ⟨rfl, ?_⟩
    repeat (refine bl_set ?_ (by simp) _)
    exact bl_alloc (bl1 w _) _
end Go.Proofs.YtongoicadcmfaaaGreatDoor.V

namespace Go.Proofs.YtongoicadcmfaaaGreatDoor.V
open Go.RowKit

noncomputable def errE (l : List E) (e : E) : Int := if e.kind = 0 then errM l e else if e.kind = 1 then errS l e else if e.kind = 2 then errP l e (prB e.n) else errH l e (haB e)
structure OkE (e : E) : Prop where
  key : e.key.size ≤ maxLen
  text : e.text.size ≤ maxLen
  num : in64 e.num
  den : in64 e.den
theorem errE_chk (l : List E) (e : E) (hk : e.kind = 0 ∨ e.kind = 1 ∨ e.kind = 2 ∨ e.kind = 3) : ∃ s dup oth, errE l e = chkE e.day s (staleB (ser e.kind l e.key) e.day) dup oth := by
  unfold errE
  rcases hk with h | h | h | h
  · exact ⟨_, _, _, by rw [if_pos h, errM_chk, h]⟩
  · exact ⟨_, _, _, by rw [if_neg (by omega), if_pos h, errS_chk, h]⟩
  · exact ⟨_, _, _, by rw [if_neg (by omega), if_neg (by omega), if_pos h, errP_chk, h]⟩
  · exact ⟨_, _, _, by rw [if_neg (by omega), if_neg (by omega), if_neg (by omega), errH_chk, h]⟩
theorem chkE_zero {d s : Int} {st dup oth : Bool} (h : chkE d s st dup oth = 0) : dayB d = true ∧ st = false := by
  unfold chkE at h
  cases hd : dayB d <;> cases hs : (s == 0) <;> cases st <;> rw [hd, hs] at h <;> simp at h ⊢
  have : s = 0 := h
  rw [this] at hs
  cases hs
theorem errE_zero {l : List E} {e : E} (hk : e.kind = 0 ∨ e.kind = 1 ∨ e.kind = 2 ∨ e.kind = 3) (h : errE l e = 0) : dayB e.day = true ∧ staleB (ser e.kind l e.key) e.day = false := by
  obtain ⟨s, dup, oth, h1⟩ := errE_chk l e hk
  rw [h1] at h
  exact chkE_zero h

theorem check_err (A : Option Addr) (l : List E) (c : Nat) (e : E) (hk : e.kind = 0 ∨ e.kind = 1 ∨ e.kind = 2 ∨ e.kind = 3) (he : OkE e) (hl : l.length ≤ c) (hc : c ≤ 9223372036854775807) (hn : l.length ≤ 30) (W : World) (h : SlE W A l) :
    Calls Tryz.prog 70 #[.slice A l.length c, e.val] W fun r w' => r = .returned (.int .i64 (errE l e)) ∧ Below W.heap.size W w' := by
  have k1 : e.key.size ≤ 9223372036854775807 := by simpa [maxLen] using he.key
  have k2 : e.text.size ≤ 9223372036854775807 := by simpa [maxLen] using he.text
  unfold errE
  rcases hk with h0 | h0 | h0 | h0
  · rw [if_pos h0, errM_chk]
    have := check70_0 A l c e h0 (subj0 e) W h hl hc hn (fun W h => subject95_0 A l c e h0 W h hl hc k1 k2)
    rw [h0] at this
    exact this
  · rw [if_neg (by omega), if_pos h0, errS_chk]
    have := check70_1 A l c e h0 (subj1 l e) W h hl hc hn (fun W h => subject95_1 A l c e h0 W h hl hc k1 k2)
    rw [h0] at this
    exact this
  · rw [if_neg (by omega), if_neg (by omega), if_pos h0, errP_chk]
    have := check70_2 A l c e h0 (subj2 l e) W h hl hc hn (fun W h => subject95_2 A l c e h0 W h hl hc k1 k2)
    rw [h0] at this
    exact this
  · rw [if_neg (by omega), if_neg (by omega), if_neg (by omega), errH_chk]
    have := check70_3 A l c e h0 (subj3 l e) W h hl hc hn (fun W h => subject95_3 A l c e h0 W h hl hc k1 k2 he.num.1 he.num.2 he.den.1 he.den.2)
    rw [h0] at this
    exact this

/-- One entry more, where it is allowed. -/
noncomputable def stepL (l : List E) (e : E) : List E := if errE l e = 0 then setL l e else l

theorem law49 (tb m0 m1 m2 m3 N : Nat) (l : List E) (e : E) (hk : e.kind = 0 ∨ e.kind = 1 ∨ e.kind = 2 ∨ e.kind = 3) (he : OkE e) (w : World) (T : Tab w tb m0 m1 m2 m3 N l) (hi : Inv l) (hl : l.length < 40) (hN : N ≤ 100) :
    Calls Tryz.prog 49 #[.pointer (some ⟨tb, 0, none⟩), e.val] w fun r w' => r = .returned (.int .i64 (errE l e)) ∧ (∃ m, (m = m0 ∨ m = m1 ∨ m = m2 ∨ m = m3) ∧ w.grownBy w' (some m)) ∧ Tab w' tb m0 m1 m2 m3 (N + 1) (stepL l e) := by
  have hb0 := bl1 w (.cells e.cells.toArray 31)
  have T' := T.call hb0
  unfold stepL errE
  rcases hk with h0 | h0 | h0 | h0
  · rw [if_pos h0]
    have h := setMember50 tb m0 m1 m2 m3 N l e h0 _ T' hi he.key he.text hl hN
    generalize (if errM l e = 0 then setL l e else l) = l' at *
    generalize errM l e = er at *
    have H := Lib.hid h
    clear h
    unfold E.val
    unfold E.cells at hb0 H T'
    rw [h0] at *
    go_enter Tryz.func49, Tryz.ntmps49
    go_wp2_with (go_at_call 50; refine H.out.mono ?_; rintro r w1 ⟨rfl, hg, ht⟩)
    go_ret
    exact ⟨rfl, ⟨m0, .inl rfl, grown_then (bl1 w _) hg⟩, ht⟩
  · rw [if_neg (by omega), if_pos h0]
    have h := setSecurity51 tb m0 m1 m2 m3 N l e h0 _ T' hi he.key he.text hl hN
    generalize (if errS l e = 0 then setL l e else l) = l' at *
    generalize errS l e = er at *
    have H := Lib.hid h
    clear h
    unfold E.val
    unfold E.cells at hb0 H T'
    rw [h0] at *
    go_enter Tryz.func49, Tryz.ntmps49
    go_wp2_with (go_at_call 51; refine H.out.mono ?_; rintro r w1 ⟨rfl, hg, ht⟩)
    go_ret
    exact ⟨rfl, ⟨m1, .inr (.inl rfl), grown_then (bl1 w _) hg⟩, ht⟩
  · rw [if_neg (by omega), if_neg (by omega), if_pos h0]
    have h := setPrice52 tb m0 m1 m2 m3 N l e h0 _ T' hi he.key hl
    generalize (if errP l e (prB e.n) = 0 then setL l e else l) = l' at *
    generalize errP l e (prB e.n) = er at *
    have H := Lib.hid h
    clear h
    unfold E.val
    unfold E.cells at hb0 H T'
    rw [h0] at *
    go_enter Tryz.func49, Tryz.ntmps49
    go_wp2_with (go_at_call 52; refine H.out.mono ?_; rintro r w1 ⟨rfl, hg, ht⟩)
    go_ret
    exact ⟨rfl, ⟨m2, .inr (.inr (.inl rfl)), grown_then (bl1 w _) hg⟩, ht⟩
  · rw [if_neg (by omega), if_neg (by omega), if_neg (by omega)]
    have h := setHaircut53 tb m0 m1 m2 m3 N l e h0 _ T' hi he.key hl he.num.1 he.num.2 he.den.1 he.den.2
    generalize (if errH l e (haB e) = 0 then setL l e else l) = l' at *
    generalize errH l e (haB e) = er at *
    have H := Lib.hid h
    clear h
    unfold E.val
    unfold E.cells at hb0 H T'
    rw [h0] at *
    go_enter Tryz.func49, Tryz.ntmps49
    go_wp2_with (go_at_call 53; refine H.out.mono ?_; rintro r w1 ⟨rfl, hg, ht⟩)
    go_ret
    exact ⟨rfl, ⟨m3, .inr (.inr (.inr rfl)), grown_then (bl1 w _) hg⟩, ht⟩
end Go.Proofs.YtongoicadcmfaaaGreatDoor.V

namespace Go.Proofs.YtongoicadcmfaaaGreatDoor.V
open Go.RowKit

theorem clean_kind (e : E) : (cleanE e).kind = 0 ∨ (cleanE e).kind = 1 ∨ (cleanE e).kind = 2 ∨ (cleanE e).kind = 3 := by
  unfold cleanE
  rcases kind4_lt e.kind with h | h | h | h <;> simp [h]
theorem clean_ok {e : E} (h : OkE e) : OkE (cleanE e) := by
  have z : in64 0 := ⟨by decide, by decide⟩
  have s : (ByteArray.mk #[]).size ≤ maxLen := by decide
  unfold cleanE
  split
  · exact ⟨h.key, h.text, z, z⟩
  split
  · exact ⟨h.key, h.text, z, z⟩
  split
  · exact ⟨h.key, s, z, z⟩
  · exact ⟨h.key, s, h.num, h.den⟩
/-- The list behind the additions. -/
noncomputable def foldL (xs : List E) : List E := xs.foldl (fun l x => stepL l (cleanE x)) []
theorem foldL_next (xs : List E) (i : Nat) (hi : i < xs.length) : foldL (xs.take (i + 1)) = stepL (foldL (xs.take i)) (cleanE xs[i]) := by
  unfold foldL
  rw [take_snoc xs i hi, List.foldl_append]; rfl
theorem stepL_len (l : List E) (e : E) : (stepL l e).length ≤ l.length + 1 := by
  unfold stepL
  split
  · exact setL_len l e
  · omega
theorem foldL_len (xs : List E) (i : Nat) : (foldL (xs.take i)).length ≤ i := by
  induction i with
  | zero => simp [foldL]
  | succ i ih =>
    rcases Nat.lt_or_ge i xs.length with h | h
    · rw [foldL_next xs i h]
      exact Nat.le_trans (stepL_len _ _) (by omega)
    · have : xs.take (i + 1) = xs.take i := by rw [List.take_of_length_le (by omega), List.take_of_length_le h]
      rw [this]; omega
theorem stepL_inv {l : List E} {e : E} (hk : e.kind = 0 ∨ e.kind = 1 ∨ e.kind = 2 ∨ e.kind = 3) (hi : Inv l) (hl : l.length < 40) : Inv (stepL l e) := by
  unfold stepL
  split
  · rename_i h
    exact hi.set e (errE_zero hk h).2 hl
  · exact hi
theorem stepL_good {l : List E} {e : E} (hk : e.kind = 0 ∨ e.kind = 1 ∨ e.kind = 2 ∨ e.kind = 3) (he : OkE e) (hg : Good l) : Good (stepL l e) := by
  unfold stepL
  split
  · rename_i h
    intro x hx
    unfold setL at hx
    rw [List.mem_append, List.mem_singleton] at hx
    rcases hx with hx | hx
    · exact hg x (List.mem_filter.1 hx).1
    · rw [hx]
      exact ⟨(errE_zero hk h).1, he.num, he.den⟩
  · exact hg
theorem Tab.mono' {w : World} {tb m0 m1 m2 m3 N M : Nat} {l : List E} (h : Tab w tb m0 m1 m2 m3 N l) (hM : N ≤ M) : Tab w tb m0 m1 m2 m3 M l := by
  have k : ∀ {m : Nat} {k : Int} {sz : Nat} {row : E → List Value}, Map1 w m N k l sz row → Map1 w m M k l sz row := fun ⟨f, h1, h2⟩ => ⟨f, h1.mono hM, h2⟩
  exact ⟨h.blk, k h.mem, k h.sec, k h.pri, k h.hair, h.ne01, h.ne02, h.ne03, h.ne12, h.ne13, h.ne23⟩
/-- What is known of both behind i additions. -/
structure MadeAt (W wr : World) (xs : List E) (tb m0 m1 m2 m3 : Nat) (i : Nat) (v5 : Value) (l : List E) : Prop where
  tab : Tab wr tb m0 m1 m2 m3 i l
  inv : Inv l
  good : Good l
  len : l.length ≤ i
  bl : Below W.heap.size W wr
  val : ∃ A c, v5 = .slice A l.length c ∧ l.length ≤ c ∧ c ≤ 9223372036854775807 ∧ SlE wr A l

set_option maxRecDepth 20000 in
set_option maxHeartbeats 8000000 in
theorem made23 (A : Option Addr) (xs : List E) (c : Nat) (hc1 : xs.length ≤ c) (hc2 : c ≤ 9223372036854775807) (hok : ∀ x ∈ xs, OkE x) (w : World) (h : SlE w A xs) :
    Calls Tryz.prog 23 #[.slice A xs.length c] w fun r w' => ∃ tb m0 m1 m2 m3 v5, r = .returned (.tuple #[.pointer (some ⟨tb, 0, none⟩), v5]) ∧ w.heap.size ≤ m0 ∧ w.heap.size ≤ m1 ∧ w.heap.size ≤ m2 ∧ w.heap.size ≤ m3 ∧ MadeAt w w' xs tb m0 m1 m2 m3 30 v5 (foldL (xs.take 30)) := by
  go_enter Tryz.func23, Tryz.ntmps23
  have HOK := Lib.hid hok
  clear hok
  go_wp2_with (go_at_call 46; refine (new46 _).mono ?_; rintro r w1 ⟨tb, m0, m1, m2, m3, rfl, hm0, hm1, hm2, hm3, ht1, hbl1⟩)
  go_loopw [5, 6] (fun v5 v6 wr => ∃ i : Nat, i ≤ xs.length ∧ i ≤ 30 ∧ v6 = .int .i64 i ∧ MadeAt w wr xs tb m0 m1 m2 m3 i v5 (foldL (xs.take i))) (fun _ v6 _ => 30 - (intOf v6).toNat)
  case atStart => exact ⟨0, Nat.zero_le _, by omega, rfl, ht1, Inv.nil, fun _ h => absurd h (by simp [foldL]), by simp [foldL], hbl1, none, 0, rfl, Nat.le_refl _, by decide, Sl.none_ _ _ _⟩
  case round =>
    obtain ⟨i, hi, hi30, rfl, M⟩ := hrel
    clear ht1 hbl1
    by_cases hlt : i < xs.length
    · by_cases h30 : i < 30
      · have hnext := Lib.hid (foldL_next xs i hlt)
        have hx := HOK.out xs[i] (List.getElem_mem hlt)
        obtain ⟨ad, rfl, hadb, c0, c1, c2, c3, c4, c5, c6, c7⟩ := (h.call M.bl).get hlt
        obtain ⟨A5, k5, rfl, e1, e2, e3⟩ := M.val
        have hcl := fun w => clean47 xs[i] w
        have hkx := clean_kind xs[i]
        have hox := clean_ok hx
        generalize xs[i] = y at *
        generalize cleanE y = x at *
        have hl30 := M.len
        have hset := fun W H => set48 A5 (foldL (xs.take i)) k5 x (errE (foldL (xs.take i)) x) W H e1 e2 (by omega) (fun W' H' => check_err A5 (foldL (xs.take i)) k5 x hkx hox e1 e2 (by omega) W' H')
        have hlaw := fun W T => law49 tb m0 m1 m2 m3 i (foldL (xs.take i)) x hkx hox W T M.inv (by omega) (by omega)
        have hinv := stepL_inv hkx M.inv (by omega)
        have hgood := stepL_good hkx hox M.good
        have hlen := stepL_len (foldL (xs.take i)) x
        have hstep : (if errE (foldL (xs.take i)) x = 0 then setL (foldL (xs.take i)) x else foldL (xs.take i)) = stepL (foldL (xs.take i)) x := rfl
        rw [hstep] at hset
        generalize stepL (foldL (xs.take i)) x = l' at *
        generalize errE (foldL (xs.take i)) x = er at *
        have hne : (er != er) = false := by simp [bne]
        have ht := M.tab
        have hbl := M.bl
        clear M hstep hkx hox hadb
        generalize foldL (xs.take i) = l0 at *
        have HCL := Lib.hid hcl
        have HSET := Lib.hid hset
        have HLAW := Lib.hid hlaw
        have HT := Lib.hid ht
        have HE := Lib.hid e3
        clear hcl hset hlaw ht e3
        unfold E.val at HCL HSET HLAW
        go_wp2_with (first
          | (go_at_call 47; refine (HCL.out _).mono ?_; rintro r w2 ⟨rfl, hb2⟩; have hal := bl_alloc hb2 (.cells #[.int .i64 x.kind, .int .i64 x.day, .string x.key, .string x.text, .int .i64 x.n, .int .i64 x.num, .int .i64 x.den, .bool x.act] 31); have bx2 := Blk.new w2 31 #[.int .i64 x.kind, .int .i64 x.day, .string x.key, .string x.text, .int .i64 x.n, .int .i64 x.num, .int .i64 x.den, .bool x.act]; have s2 := Lib.hid (SlE.call HE.out hal))
          | (go_at_call 48; refine (HSET.out _ s2.out).mono ?_; rintro r w3 ⟨⟨A6, k6, rfl, s3, f1, f2⟩, hb3⟩; have bx3 := bx2.call hb3; have cc3 := Blk.get8 bx3; have t3 := HT.out.call (bl_then hal hb3))
          | (go_at_call 49; refine (HLAW.out _ t3).mono ?_; rintro r w4 ⟨rfl, ⟨m, hm, hg⟩, ht4⟩))
        have hbl3 := bl_then hbl (bl_then hal hb3)
        have hmlt : w.heap.size ≤ m := by rcases hm with rfl | rfl | rfl | rfl <;> assumption
        refine ⟨⟨i + 1, by omega, by omega, by go_num, ?_⟩, by simp [intOf]; omega⟩
        rw [hnext.out]
        have hsl4 : SlE w4 A6 l' := by
          have hmb : ∃ f, MapB w3 m f i := by
            rcases hm with rfl | rfl | rfl | rfl
            · exact t3.mem.imp fun _ h => h.1
            · exact t3.sec.imp fun _ h => h.1
            · exact t3.pri.imp fun _ h => h.1
            · exact t3.hair.imp fun _ h => h.1
          obtain ⟨f, hf⟩ := hmb
          exact sl_turn hf hg (by omega) _ _ s3
        exact ⟨ht4, hinv, hgood, by omega, hbl3.grown hg hbl3.size (fun k hk => by injection hk with hk; omega), A6, k6, rfl, f1, f2, hsl4⟩
      · have h30' : i = 30 := by omega
        subst h30'
        obtain ⟨A5, k5, rfl, e1, e2, e3⟩ := M.val
        have HM := Lib.hid M
        clear M e1 e2 e3
        go_wp2_with fail
        go_ret2
        exact ⟨tb, m0, m1, m2, m3, _, rfl, hm0, hm1, hm2, hm3, HM.out⟩
    · obtain rfl : xs.length = i := by omega
      have e30 : xs.take 30 = xs.take xs.length := by rw [List.take_of_length_le hi30, List.take_length]
      obtain ⟨A5, k5, rfl, e1, e2, e3⟩ := M.val
      have HM := Lib.hid M
      clear M e1 e2 e3
      have E30 := Lib.hid e30
      clear e30
      go_wp2_with fail
      go_ret2
      refine ⟨tb, m0, m1, m2, m3, _, rfl, hm0, hm1, hm2, hm3, ?_⟩
      rw [E30.out]
      obtain ⟨g1, g2, g3, g4, g5, g6⟩ := HM.out
      exact ⟨g1.mono' hi30, g2, g3, Nat.le_trans g4 hi30, g5, g6⟩
end Go.Proofs.YtongoicadcmfaaaGreatDoor.V

namespace Go.Proofs.YtongoicadcmfaaaGreatDoor.V
open Go.RowKit

theorem dateValid44 (n : Int) (w : World) : Calls Tryz.prog 44 #[.int .i64 n] w fun e w' => e = .returned (.bool (dayB n)) ∧ w = w' := by
  unfold dayB
  go_enter Tryz.func44, Tryz.ntmps44
  by_cases h : 0 ≤ n
  · have h' : decide (0 ≤ n) = true := decide_eq_true h
    go_wp2
    go_ret
    simp [h]
  · have h' : decide (0 ≤ n) = false := decide_eq_false h
    go_wp2
    go_ret
    simp [h']
theorem day25 (n : Int) (w : World) : Calls Tryz.prog 25 #[.int .i64 n] w fun e w' => e = .returned (.bool (dayB n)) ∧ w = w' := by
  have hd := fun w => day_any n w
  generalize dayB n = b at *
  have HD := Lib.hid hd
  clear hd
  go_enter Tryz.func25, Tryz.ntmps25
  go_wp2_with (go_at_call 55; refine (HD.out _).mono ?_; rintro r w1 ⟨rfl, rfl⟩)
  go_ret
  exact ⟨rfl, rfl⟩

set_option maxHeartbeats 2000000 in
theorem new21_t (tb m0 m1 m2 m3 N : Nat) (l : List E) (d : Int) (hd : dayB d = true) (w : World) (T : Tab w tb m0 m1 m2 m3 N l) :
    Calls Tryz.prog 21 #[.pointer (some ⟨tb, 0, none⟩), .int .i64 d] w fun r w' => (∃ vb tb' n0 n1 n2 n3, r = .returned (.tuple #[.pointer (some ⟨vb, 0, none⟩), .int .i64 0]) ∧ Val w' vb tb' n0 n1 n2 n3 N l d) ∧ Below w.heap.size w w' := by
  have hv := fun w => dateValid44 d w
  rw [hd] at hv
  have HV := Lib.hid hv
  have hc := clone45 tb m0 m1 m2 m3 N l w T
  have HC := Lib.hid hc
  clear hv hc
  go_enter Tryz.func21, Tryz.ntmps21
  go_wp2_with (first
    | (go_at_call 44; refine (HV.out _).mono ?_; rintro r w1 ⟨rfl, rfl⟩)
    | (go_at_call 45; refine HC.out.mono ?_; rintro r w1 ⟨tb', n0, n1, n2, n3, rfl, ht, hb⟩))
  go_ret2
  exact ⟨⟨_, tb', n0, n1, n2, n3, rfl, ⟨Blk.new _ _ _, ht.call (bl1 _ _)⟩⟩, bl_alloc hb _⟩
set_option maxHeartbeats 2000000 in
theorem new21_f (tb : Nat) (d : Int) (hd : dayB d = false) (w : World) :
    Calls Tryz.prog 21 #[.pointer (some ⟨tb, 0, none⟩), .int .i64 d] w fun r w' => r = .returned (.tuple #[.pointer none, .int .i64 28]) ∧ w = w' := by
  have hv := fun w => dateValid44 d w
  rw [hd] at hv
  have HV := Lib.hid hv
  clear hv
  go_enter Tryz.func21, Tryz.ntmps21
  go_wp2_with (go_at_call 44; refine (HV.out _).mono ?_; rintro r w1 ⟨rfl, rfl⟩)
  go_ret2
  exact ⟨rfl, rfl⟩
theorem day22 (vb tb m0 m1 m2 m3 N : Nat) (l : List E) (d : Int) (w : World) (V : Val w vb tb m0 m1 m2 m3 N l d) :
    Calls Tryz.prog 22 #[.pointer (some ⟨vb, 0, none⟩)] w fun r w' => r = .returned (.int .i64 d) ∧ w = w' := by
  have c1 := V.blk.cell 1
  have c1' : w.cell? ⟨vb, 1, none⟩ = some (.int .i64 d) := c1
  clear V c1
  go_enter Tryz.func22, Tryz.ntmps22
  go_wp2
  go_ret
  exact ⟨rfl, rfl⟩

set_option maxRecDepth 20000 in
set_option maxHeartbeats 4000000 in
theorem known9 (w : World) : Calls Tryz.prog 9 #[] w fun r w' => r = .returned (.bool true) ∧ Below w.heap.size w w' := by
  have v1 := fun w => value26 100 250 1 5 w (by decide) (by decide) (by decide) (by decide)
  have v2 := fun w => value26 3 333 1 2 w (by decide) (by decide) (by decide) (by decide)
  have n1 := fun w => needed27 500 333 1 1 2 w (by decide) (by decide) (by decide) (by decide)
  have n2 := fun w => needed27 500 333 10 1 2 w (by decide) (by decide) (by decide) (by decide)
  rw [show vNum 100 250 1 5 = 20000 by decide +kernel, show vErr 100 250 1 5 = 0 by decide +kernel] at v1
  rw [show vNum 3 333 1 2 = 499 by decide +kernel, show vErr 3 333 1 2 = 0 by decide +kernel] at v2
  rw [show nNum 500 333 1 1 2 = 4 by decide +kernel, show nErr 500 333 1 1 2 = 0 by decide +kernel] at n1
  rw [show nNum 500 333 10 1 2 = 10 by decide +kernel, show nErr 500 333 10 1 2 = 0 by decide +kernel] at n2
  have V1 := Lib.hid v1
  have V2 := Lib.hid v2
  have N1 := Lib.hid n1
  have N2 := Lib.hid n2
  clear v1 v2 n1 n2
  go_enter Tryz.func9, Tryz.ntmps9
  have e0 := Below.refl w.heap.size w
  go_wp2_with (first
    | (go_at_call 27; have e4 := e3; refine (N2.out _).mono ?_; rintro r w4 ⟨rfl, h4⟩; have e5 := bl_then e4 h4)
    | (go_at_call 27; have e3' := e2; refine (N1.out _).mono ?_; rintro r w3 ⟨rfl, h3⟩; have e3 := bl_then e3' h3)
    | (go_at_call 26; have e1' := e1; refine (V2.out _).mono ?_; rintro r w2 ⟨rfl, h2⟩; have e2 := bl_then e1' h2)
    | (go_at_call 26; refine (V1.out _).mono ?_; rintro r w1 ⟨rfl, h1⟩; have e1 := bl_then e0 h1))
  go_ret
  exact ⟨rfl, e5⟩
end Go.Proofs.YtongoicadcmfaaaGreatDoor.V
