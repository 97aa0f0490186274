/- refdata.(*Table).taken. -/
import Derived.Test.YtongoicadcmfaaaGreatDoorVTab
import Derived.Maps.Range
set_option linter.unusedSimpArgs false
set_option linter.unusedVariables false
namespace Go.Proofs.YtongoicadcmfaaaGreatDoor.V
open Go.RowKit Go.MapKept
open Go.ChangeMaps (setBlock heap_setBlock_same heap_setBlock_other)

def takenP (l : List E) (e : E) : Prop := ∃ key, key ≠ e.key ∧ ser 0 l key ≠ [] ∧ (lastE (ser 0 l key)).text = e.text

/-- One step of a range over a map, as the loop meets it. -/
theorem next_step (w : World) (r m since c0 : Nat) (seen : Array Nat) (es : Array MapEntry) (clock : Nat)
    (hr : w.heap[r]? = some (.mapIter (some m) since seen c0)) (hb : w.heap[m]? = some (.map es clock)) (hold : ∀ x ∈ es.toList, x.born < since) (hsc : since ≤ c0) (hst : Stamped es clock) (hne : r ≠ m) :
    ((leftOf es seen).size = 0 ∧ ∀ ty, (Instr.next (.pointer (some ⟨r, 0, none⟩)) false ty).run Tryz.prog w = .ok (.tuple #[.bool false]) w) ∨
    ∃ e ∈ (leftOf es seen).toList, ∃ w2, (∀ ty, (Instr.next (.pointer (some ⟨r, 0, none⟩)) false ty).run Tryz.prog w = .ok (.tuple #[.bool true, e.key, e.val]) w2) ∧
      w2.heap[r]? = some (.mapIter (some m) since (seen.push e.born) clock) ∧ w.grownBy w2 (some r) ∧ w2.heap.size = w.heap.size ∧ (Instr.entry (.pointer (some ⟨r, 0, none⟩))).run Tryz.prog w2 = .ok (.tuple #[e.key, e.val]) w2 := by
  have hty : ∀ ty ty', (Instr.next (.pointer (some ⟨r, 0, none⟩)) false ty) = (Instr.next (.pointer (some ⟨r, 0, none⟩)) false ty') := fun _ _ => rfl
  rcases run_next_at (P := Tryz.prog) w 0 r m since c0 seen es clock hr hb hold hsc with ⟨h0, hrun⟩ | ⟨e, he, w1, hal, hrun⟩
  · exact .inl ⟨h0, fun ty => by rw [hty ty 0]; exact hrun⟩
  · refine .inr ⟨e, he, _, fun ty => by rw [hty ty 0]; exact hrun, ?_⟩
    have hr1 : w1.heap[r]? = some (.mapIter (some m) since seen c0) := by rcases hal with rfl | rfl <;> exact hr
    have hb1 : w1.heap[m]? = some (.map es clock) := by rcases hal with rfl | rfl <;> exact hb
    have hset := heap_set (o' := .mapIter (some m) since (seen.push e.born) clock) hr1
    have hb' : (setBlock w1 r (.mapIter (some m) since (seen.push e.born) clock)).heap[m]? = some (.map es clock) := (hset.2 m (fun e1 => hne e1.symm)).trans hb1
    have hem : e ∈ es.toList := (mem_left he).1
    refine ⟨hset.1, ?_, ?_, run_entry_at _ r m since seen es clock e hset.1 hb' hem ((stamped_iff es clock).1 hst).2.1⟩
    · rcases hal with rfl | rfl <;> exact ⟨rfl, rfl, rfl, by simp [setBlock], fun i _ hi => hset.2 i (fun e1 => hi (by rw [e1]))⟩
    · rcases hal with rfl | rfl <;> simp [setBlock]

theorem left_eq (w : World) (m r : Nat) (es : Array MapEntry) (clock since c0 : Nat) (seen : Array Nat) (hb : w.heap[m]? = some (.map es clock)) (hr : w.heap[r]? = some (.mapIter (some m) since seen c0)) : w.rangeLeft m r = (leftOf es seen).size := by
  simp only [World.rangeLeft, hb, hr]

/-- The members of the map that the search has passed over. -/
structure TakIt (W wx : World) (m r : Nat) (es : Array MapEntry) (clock : Nat) (seen : Array Nat) (c0 : Nat) (bx : Array Value) : Prop where
  it : wx.heap[r]? = some (.mapIter (some m) clock seen c0)
  c0 : clock ≤ c0
  bl : Below W.heap.size W wx
  box : Blk wx W.heap.size 78 bx
  sz : W.heap.size + 1 < wx.heap.size

theorem tak_end {W wr w2 w4 : World} {m : Nat} {es : Array MapEntry} {clock : Nat} {seen : Array Nat} {born : Nat} {bx : Array Value} (hb : Below w2.heap.size w2 w4)
    (hr : w2.heap[W.heap.size + 1]? = some (.mapIter (some m) clock (seen.push born) clock)) (hbl : Below W.heap.size W w2) (hbx : Blk w2 W.heap.size 78 bx) (hsz : W.heap.size + 1 < w2.heap.size)
    (hml : m < W.heap.size) (hmb : W.heap[m]? = some (.map es clock)) (hleft : wr.rangeLeft m (W.heap.size + 1) = (leftOf es seen).size) (hsh : (leftOf es (seen.push born)).size < (leftOf es seen).size) :
    TakIt W w4 m (W.heap.size + 1) es clock (seen.push born) clock bx ∧ w4.rangeLeft m (W.heap.size + 1) < wr.rangeLeft m (W.heap.size + 1) := by
  have hit := (hb.block _ hsz).trans hr
  have hbl4 := bl_then hbl hb
  refine ⟨⟨hit, Nat.le_refl _, hbl4, hbx.call hb, Nat.lt_of_lt_of_le hsz hb.size⟩, ?_⟩
  rw [left_eq w4 m (W.heap.size + 1) es clock clock clock _ ((hbl4.block m hml).trans hmb) hit, hleft]
  exact hsh

set_option maxRecDepth 20000 in
set_option maxHeartbeats 4000000 in
theorem taken74 (tb m0 m1 m2 m3 N : Nat) (l : List E) (e : E) (b : Bool) (hb : b = true ↔ takenP l e) (w : World) (T : Tab w tb m0 m1 m2 m3 N l) (hi : Inv l) :
    Calls Tryz.prog 74 #[.pointer (some ⟨tb, 0, none⟩), .agg #[.string e.key, .string e.text, .bool e.act]] w fun r w' => r = .returned (.bool b) ∧ Below w.heap.size w w' := by
  obtain ⟨f, ⟨es, clock, hmb, hst, h3, h4, hN⟩, hrows⟩ := T.mem
  have hml : m0 < w.heap.size := (Array.getElem?_eq_some_iff.1 hmb).1
  have ct := fun o => (T.blk.alloc o).cell 0
  have hrange : ∀ o, (Instr.range 118 (.map (some m0))).run Tryz.prog (w.alloc o) = .ok (.pointer (some ⟨w.heap.size + 1, 0, none⟩)) ((w.alloc o).alloc (.mapIter (some m0) clock #[] clock)) := fun o => by
    have := run_range_map (P := Tryz.prog) (w.alloc o) 118 9 132 m0 es clock Tryz.underlying118 ((Below.heap_alloc w o m0 hml).trans hmb)
    simpa using this
  have HMB := Lib.hid hmb
  have HST := Lib.hid hst
  have H3 := Lib.hid h3
  have H4 := Lib.hid h4
  have HR := Lib.hid hrows
  have HB := Lib.hid hb
  have HI := Lib.hid hi
  clear hmb hst h3 h4 hrows hb hi hN T
  go_enter Tryz.func74, Tryz.ntmps74
  go_wp2_with fail
  go_loopw [14] (fun _ wx => ∃ seen c0, TakIt w wx m0 (w.heap.size + 1) es clock seen c0 #[.string e.key, .string e.text, .bool e.act] ∧
      ∀ x ∈ es.toList, seen.contains x.born = true → ∀ key, x.key = .string key → ¬ (key ≠ e.key ∧ (lastE (ser 0 l key)).text = e.text)) (fun _ wx => wx.rangeLeft m0 (w.heap.size + 1))
  case atStart =>
    refine ⟨#[], clock, ⟨?_, Nat.le_refl _, ?_, ?_, by simp⟩, fun x _ hx => by simp at hx⟩
    · have h := heap_alloc_new (w.alloc (.cells #[.string e.key, .string e.text, .bool e.act] 78)) (.mapIter (some m0) clock #[] clock)
      simpa using h
    · exact bl_alloc (bl1 w _) _
    · exact (Blk.new _ _ _).alloc _
  case round =>
    obtain ⟨seen, c0, hit, hno⟩ := hrel
    have hmb := (hit.bl.block m0 hml).trans HMB.out
    have hne : w.heap.size + 1 ≠ m0 := by omega
    have hleft := left_eq wr m0 (w.heap.size + 1) es clock clock c0 seen hmb hit.it
    have HLEFT := Lib.hid hleft
    clear hleft
    rcases next_step wr (w.heap.size + 1) m0 clock c0 seen es clock hit.it hmb ((stamped_iff es clock).1 HST.out).1 hit.c0 HST.out hne with ⟨h0, hrun⟩ | ⟨x, hx, w2, hrun, hr2, hg2, hs2, hen⟩
    · -- nothing is left
      have hbf : b = false := by
        rw [Bool.eq_false_iff, Ne, HB.out]
        rintro ⟨key, hk, hse, hte⟩
        rcases HR.out key with ⟨_, g1⟩ | ⟨A, c, g1, g2, _⟩
        · exact hse g1
        · obtain ⟨x, hx, hxk, _⟩ := H4.out key _ g1
          exact hno x hx (all_seen es seen h0 x hx) key hxk ⟨hk, hte⟩
      have hbl := Lib.hid hit.bl
      subst hbf
      clear hit hno hmb h0
      go_wp2_with fail
      go_ret
      exact ⟨rfl, hbl.out⟩
    · obtain ⟨hxm, hxs⟩ := mem_left hx
      obtain ⟨key, hxk, hks, hfx⟩ := H3.out x hxm
      have hsh := left_shrinks es seen x hx
      rcases HR.out key with ⟨g1, _⟩ | ⟨A, c, g1, g2, g3, g4, g5⟩
      · rw [g1] at hfx; cases hfx
      · rw [g1] at hfx
        injection hfx with hfx
        have hbl2 : Below w.heap.size w w2 := hit.bl.grown hg2 (by have := hit.sz; omega) (fun k hk => by injection hk with hk; omega)
        have hbx2 : Blk w2 w.heap.size 78 #[.string e.key, .string e.text, .bool e.act] := hit.box.grown hg2 (by simp)
        have hsz2 : w.heap.size + 1 < w2.heap.size := by rw [hs2]; exact hit.sz
        rw [hxk, ← hfx] at hrun hen
        have hsl := Lib.hid (g5.call hbl2)
        have hne2 : (ser 0 l key).isEmpty = false := by
          cases hs : ser 0 l key with
          | nil => exact absurd hs g2
          | cons a t => rfl
        have hla := fun W h => lastM A (ser 0 l key) c W h g3 g4 (ser_len30 HI.out 0 key)
        rw [hne2] at hla
        obtain ⟨el, hel⟩ : ∃ el, lastE (ser 0 l key) = el := ⟨_, rfl⟩
        rw [hel] at hla
        unfold aggM at hla
        have HLA := Lib.hid hla
        have HNO := Lib.hid hno
        have HEL := Lib.hid hel
        have HG2 := Lib.hid g2
        have HSH := Lib.hid hsh
        have HX := Lib.hid (And.intro hxm (And.intro hxs hxk))
        have HR2 := Lib.hid hr2
        have HBL := Lib.hid hbl2
        have HBX := Lib.hid hbx2
        have bx := fun o => Blk.get3 ((hbx2.call (Below.refl _ _)).alloc o)
        obtain ⟨nl, hnl⟩ : ∃ nl, (ser 0 l key).length = nl := ⟨_, rfl⟩
        rw [hnl] at hrun hen HLA
        clear hla hno hel hsh hr2 hbl2 hbx2 g1 g3 hit hmb hxm hxs hx hfx hg2 hne2 hxk g5 g2 hnl
        have step : ¬ (key ≠ e.key ∧ el.text = e.text) → ∀ y ∈ es.toList, (seen.push x.born).contains y.born = true → ∀ k, y.key = .string k → ¬ (k ≠ e.key ∧ (lastE (ser 0 l k)).text = e.text) := by
          intro hnot y hy hseen k hyk
          rw [contains_push] at hseen
          cases hc : seen.contains y.born
          · rw [hc] at hseen
            have hyx : y.born = x.born := by simpa using hseen
            have hyx2 : y = x := born_inj ((stamped_iff es clock).1 HST.out).2.1 hy HX.out.1 hyx
            subst hyx2
            have hk2 := HX.out.2.2
            rw [hyk] at hk2
            injection hk2 with hk2
            subst hk2
            rw [HEL.out]; exact hnot
          · exact HNO.out y hy hc k hyk
        have STEP := Lib.hid step
        clear step
        cases c1 : (key.toList == e.key.toList)
        · cases c2 : (el.text.toList == e.text.toList)
          · have hnot : ¬ (key ≠ e.key ∧ el.text = e.text) := fun h => by
              rw [str_beq, decide_eq_false_iff_not] at c2; exact c2 h.2
            go_wp2_with (go_at_call 99; refine (HLA.out _ hsl.out).mono ?_; rintro r w3 ⟨rfl, hb3⟩; have by3 := fun o => Blk.get3 ((HBX.out.call hb3).alloc o))
            obtain ⟨g1, g2⟩ := tak_end (bl_alloc hb3 (.cells #[.int .i64 el.day, .string el.key, .string el.text, .bool el.act] 129)) HR2.out HBL.out HBX.out hsz2 hml HMB.out HLEFT.out HSH.out
            exact ⟨⟨_, _, g1, STEP.out hnot⟩, g2⟩
          · have hyes : key ≠ e.key ∧ el.text = e.text := by
              rw [str_beq, decide_eq_false_iff_not] at c1
              rw [str_beq, decide_eq_true_iff] at c2
              exact ⟨c1, c2⟩
            have hbt : b = true := HB.out.2 ⟨key, hyes.1, HG2.out, by rw [HEL.out]; exact hyes.2⟩
            subst hbt
            clear hyes
            go_wp2_with (go_at_call 99; refine (HLA.out _ hsl.out).mono ?_; rintro r w3 ⟨rfl, hb3⟩; have by3 := fun o => Blk.get3 ((HBX.out.call hb3).alloc o))
            go_ret
            exact ⟨rfl, bl_then HBL.out (bl_alloc hb3 _)⟩
        · have hnot : ¬ (key ≠ e.key ∧ el.text = e.text) := fun h => by
            rw [str_beq, decide_eq_true_iff] at c1; exact h.1 c1
          go_wp2_with (go_at_call 99; refine (HLA.out _ hsl.out).mono ?_; rintro r w3 ⟨rfl, hb3⟩; have by3 := fun o => Blk.get3 ((HBX.out.call hb3).alloc o))
          obtain ⟨g1, g2⟩ := tak_end (bl_alloc hb3 (.cells #[.int .i64 el.day, .string el.key, .string el.text, .bool el.act] 129)) HR2.out HBL.out HBX.out hsz2 hml HMB.out HLEFT.out HSH.out
          exact ⟨⟨_, _, g1, STEP.out hnot⟩, g2⟩

/-! ### behind an update of a map -/
theorem blk_turn {w w' : World} {m N g : Nat} {f : ByteArray → Option Value} {t : TypeId} {cs : Array Value} (hm : MapB w m f N) (hg : w.grownBy w' (some m)) (hb : Blk w g t cs) : Blk w' g t cs :=
  hb.grown hg (fun e => hm.ne_blk hb (by injection e with e; exact e.symm))
theorem sl_turn {w w' : World} {m N : Nat} {f : ByteArray → Option Value} (hm : MapB w m f N) (hg : w.grownBy w' (some m)) {sz : Nat} (hsz : 0 < sz) (A : Option Addr) (rows : List (List Value)) (h : Sl w sz A rows) : Sl w' sz A rows := by
  refine ⟨h.1, fun hn => ?_⟩
  obtain ⟨ad, e, hlt, hc⟩ := h.2 hn
  have hne : m ≠ ad.block := by
    intro e1
    have h0 := hc 0 rows[0] (List.getElem?_eq_getElem hn) 0 _ (List.getElem?_eq_getElem (by rw [h.1 _ (List.getElem_mem hn)]; exact hsz))
    obtain ⟨es, clock, hb, _⟩ := hm
    rw [e1] at hb
    unfold World.cell? at h0
    rw [block_of_add, hb] at h0
    simp at h0
  have hbk := hg.block ad.block hlt (fun e1 => hne (by injection e1 with e1; exact e1.symm))
  refine ⟨ad, e, Nat.lt_of_lt_of_le hlt hg.size, fun i r hr j v hv => ?_⟩
  have := hc i r hr j v hv
  unfold World.cell? at this ⊢
  rw [block_of_add] at this ⊢
  rw [hbk]; exact this
theorem mapB_turn {w w' : World} {m m' N' : Nat} {f' : ByteArray → Option Value} (hg : w.grownBy w' (some m)) (hne : m' ≠ m) (h : MapB w m' f' N') : MapB w' m' f' N' :=
  h.grown hg (fun e => hne (by injection e))
theorem Tab.mono {w : World} {tb m0 m1 m2 m3 N : Nat} {l : List E} (h : Tab w tb m0 m1 m2 m3 N l) : Tab w tb m0 m1 m2 m3 (N + 1) l := by
  have k : ∀ {m : Nat} {k : Int} {sz : Nat} {row : E → List Value}, Map1 w m N k l sz row → Map1 w m (N + 1) k l sz row := fun ⟨f, h1, h2⟩ => ⟨f, h1.mono (Nat.le_succ _), h2⟩
  exact ⟨h.blk, k h.mem, k h.sec, k h.pri, k h.hair, h.ne01, h.ne02, h.ne03, h.ne12, h.ne13, h.ne23⟩
theorem below_grown {w w' : World} (h : Below w.heap.size w w') (row : Option Nat) : w.grownBy w' row := ⟨h.os, h.tape, h.output, h.size, fun k hk _ => h.block k hk⟩
theorem grown_then {w w1 w2 : World} {m : Nat} (h : Below w.heap.size w w1) (k : w1.grownBy w2 (some m)) : w.grownBy w2 (some m) :=
  World.grownBy.andThen (below_grown h (some m)) k (fun _ e => .inr e)
end Go.Proofs.YtongoicadcmfaaaGreatDoor.V
