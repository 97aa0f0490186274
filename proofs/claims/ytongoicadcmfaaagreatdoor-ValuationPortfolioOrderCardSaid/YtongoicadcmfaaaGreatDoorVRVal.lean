/- giroref33: priced, Eligible, Worth, Cover, Market. (Printed by gen_rval.py.) -/
import Derived.Test.YtongoicadcmfaaaGreatDoorVGood
set_option linter.unusedSimpArgs false
set_option linter.unusedVariables false
namespace Go.Proofs.YtongoicadcmfaaaGreatDoor.V
open Go.RowKit

set_option maxRecDepth 20000 in
set_option maxHeartbeats 4000000 in
theorem priced38 (A : Option Addr) (l : List E) (c : Nat) (d : Int) (key : ByteArray) (hg : Good l) (hl : l.length ≤ c) (hc : c ≤ 9223372036854775807) (w : World) (h : SlE w A l) :
    Calls Tryz.prog 38 #[.slice A l.length c, .int .i64 d, .string key] w fun r w' => r = .returned (.tuple #[.int .i64 (prN (atE l 2 d key) d), .int .i64 (prE (atE l 2 d key) d)]) ∧ Below w.heap.size w w' := by
  have hat := at_o A l c 2 d key hl hc
  have hdd : (atE l 2 d key).isSome = true → dayB d = true := fun hs => by
    obtain ⟨e, he⟩ := Option.isSome_iff_exists.1 hs
    exact (at_mem he).2.2.2.1
  obtain ⟨g1, g2, -⟩ := (at_good hg 2 d key).b
  generalize atE l 2 d key = o at *
  generalize l.length = n at *
  unfold prN prE prB2
  generalize o.getD E.zero = x at *
  generalize o.isSome = b at *
  have HAT := Lib.hid hat
  clear hat
  have H := Lib.hid h
  clear h
  cases b
  · suffices hs : Calls Tryz.prog 38 #[.slice A n c, .int .i64 d, .string key] w fun r w' => r = .returned (.tuple #[.int .i64 0, .int .i64 20]) ∧ Below w.heap.size w w' from hs
    clear hdd
    go_enter Tryz.func38, Tryz.ntmps38
    go_wp2_with (go_at_call 37; refine (HAT.out _ H.out).mono ?_; rintro r w1 ⟨rfl, hb1⟩)
    go_ret2
    refine ⟨rfl, ?_⟩
    repeat (refine bl_set ?_ (by simp) _)
    exact bl_alloc hb1 _
  · have hd := (dayB_iff d).1 (hdd rfl)
    have hw : IntKind.i64.wrap (d - x.day) = d - x.day := by rw [IntKind.wrap_i64]; omega
    clear hdd
    cases h5 : decide (5 < d - x.day)
    · suffices hs : Calls Tryz.prog 38 #[.slice A n c, .int .i64 d, .string key] w fun r w' => r = .returned (.tuple #[.int .i64 x.n, .int .i64 0]) ∧ Below w.heap.size w w' from hs
      go_enter Tryz.func38, Tryz.ntmps38
      go_wp2_with (go_at_call 37; refine (HAT.out _ H.out).mono ?_; rintro r w1 ⟨rfl, hb1⟩)
      go_ret2
      refine ⟨rfl, ?_⟩
      repeat (refine bl_set ?_ (by simp) _)
      exact bl_alloc hb1 _
    · suffices hs : Calls Tryz.prog 38 #[.slice A n c, .int .i64 d, .string key] w fun r w' => r = .returned (.tuple #[.int .i64 0, .int .i64 20]) ∧ Below w.heap.size w w' from hs
      go_enter Tryz.func38, Tryz.ntmps38
      go_wp2_with (go_at_call 37; refine (HAT.out _ H.out).mono ?_; rintro r w1 ⟨rfl, hb1⟩)
      go_ret2
      refine ⟨rfl, ?_⟩
      repeat (refine bl_set ?_ (by simp) _)
      exact bl_alloc hb1 _

set_option maxRecDepth 20000 in
set_option maxHeartbeats 8000000 in
theorem eligible11 (A : Option Addr) (l : List E) (c : Nat) (d : Int) (mem isin : ByteArray) (hg : Good l) (hl : l.length ≤ c) (hc : c ≤ 9223372036854775807) (w : World) (h : SlE w A l) :
    Calls Tryz.prog 11 #[.slice A l.length c, .int .i64 d, .string mem, .string isin] w fun r w' => r = .returned (.int .i64 (elig l d mem isin)) ∧ Below w.heap.size w w' := by
  have hat0 := at_o A l c 0 d mem hl hc
  have hat1 := at_o A l c 1 d isin hl hc
  have hat3 := at_o A l c 3 d isin hl hc
  have hpr := priced38 A l c d isin hg hl hc
  unfold elig eligO
  generalize (atE l 0 d mem).getD E.zero = x0 at *
  generalize (atE l 0 d mem).isSome = b0 at *
  generalize (atE l 1 d isin).getD E.zero = x1 at *
  generalize (atE l 1 d isin).isSome = b1 at *
  generalize (atE l 3 d isin).getD E.zero = x3 at *
  generalize (atE l 3 d isin).isSome = b3 at *
  generalize prN (atE l 2 d isin) d = pn at *
  generalize prE (atE l 2 d isin) d = pe at *
  generalize l.length = n at *
  have HAT0 := Lib.hid hat0
  have HAT1 := Lib.hid hat1
  have HAT3 := Lib.hid hat3
  have HPR := Lib.hid hpr
  have h0 := Lib.hid h
  clear hat0 hat1 hat3 hpr h
  cases b0
  · suffices hs : Calls Tryz.prog 11 #[.slice A n c, .int .i64 d, .string mem, .string isin] w fun r w' => r = .returned (.int .i64 9) ∧ Below w.heap.size w w' from hs
    go_enter Tryz.func11, Tryz.ntmps11
    go_wp2_with (first | (go_at_call 38; refine (HPR.out _ (h3.out _)).mono ?_; rintro r w4 ⟨rfl, hb4⟩; have hbl4 := bl_then (hbl3 _) hb4) | (go_at_call 37; refine (HAT3.out _ (h2.out _)).mono ?_; rintro r w3 ⟨rfl, hb3⟩; have hbl3 := fun o => bl_alloc (bl_then (hbl2 _) hb3) o; have bs3 := (bs2 _).call hb3; have cs3 := fun o => Blk.get8 (bs3.alloc o); have h3 := Lib.hid (fun o => SlE.call h0.out (hbl3 o))) | (go_at_call 37; refine (HAT1.out _ (h1.out _)).mono ?_; rintro r w2 ⟨rfl, hb2⟩; have hbl2 := fun o => bl_alloc (bl_then (hbl1 _) hb2) o; have bs2 := fun cs => Blk.new w2 31 cs; have h2 := Lib.hid (fun o => SlE.call h0.out (hbl2 o))) | (go_at_call 37; refine (HAT0.out _ h0.out).mono ?_; rintro r w1 ⟨rfl, hb1⟩; have hbl1 := fun o => bl_alloc hb1 o; have h1 := Lib.hid (fun o => SlE.call h0.out (hbl1 o))))
    go_ret
    exact ⟨rfl, hbl1 _⟩
  cases b1
  · suffices hs : Calls Tryz.prog 11 #[.slice A n c, .int .i64 d, .string mem, .string isin] w fun r w' => r = .returned (.int .i64 9) ∧ Below w.heap.size w w' from hs
    go_enter Tryz.func11, Tryz.ntmps11
    go_wp2_with (first | (go_at_call 38; refine (HPR.out _ (h3.out _)).mono ?_; rintro r w4 ⟨rfl, hb4⟩; have hbl4 := bl_then (hbl3 _) hb4) | (go_at_call 37; refine (HAT3.out _ (h2.out _)).mono ?_; rintro r w3 ⟨rfl, hb3⟩; have hbl3 := fun o => bl_alloc (bl_then (hbl2 _) hb3) o; have bs3 := (bs2 _).call hb3; have cs3 := fun o => Blk.get8 (bs3.alloc o); have h3 := Lib.hid (fun o => SlE.call h0.out (hbl3 o))) | (go_at_call 37; refine (HAT1.out _ (h1.out _)).mono ?_; rintro r w2 ⟨rfl, hb2⟩; have hbl2 := fun o => bl_alloc (bl_then (hbl1 _) hb2) o; have bs2 := fun cs => Blk.new w2 31 cs; have h2 := Lib.hid (fun o => SlE.call h0.out (hbl2 o))) | (go_at_call 37; refine (HAT0.out _ h0.out).mono ?_; rintro r w1 ⟨rfl, hb1⟩; have hbl1 := fun o => bl_alloc hb1 o; have h1 := Lib.hid (fun o => SlE.call h0.out (hbl1 o))))
    go_ret
    exact ⟨rfl, hbl2 _⟩
  cases ha : x1.act
  · suffices hs : Calls Tryz.prog 11 #[.slice A n c, .int .i64 d, .string mem, .string isin] w fun r w' => r = .returned (.int .i64 24) ∧ Below w.heap.size w w' from hs
    go_enter Tryz.func11, Tryz.ntmps11
    go_wp2_with (first | (go_at_call 38; refine (HPR.out _ (h3.out _)).mono ?_; rintro r w4 ⟨rfl, hb4⟩; have hbl4 := bl_then (hbl3 _) hb4) | (go_at_call 37; refine (HAT3.out _ (h2.out _)).mono ?_; rintro r w3 ⟨rfl, hb3⟩; have hbl3 := fun o => bl_alloc (bl_then (hbl2 _) hb3) o; have bs3 := (bs2 _).call hb3; have cs3 := fun o => Blk.get8 (bs3.alloc o); have h3 := Lib.hid (fun o => SlE.call h0.out (hbl3 o))) | (go_at_call 37; refine (HAT1.out _ (h1.out _)).mono ?_; rintro r w2 ⟨rfl, hb2⟩; have hbl2 := fun o => bl_alloc (bl_then (hbl1 _) hb2) o; have bs2 := fun cs => Blk.new w2 31 cs; have h2 := Lib.hid (fun o => SlE.call h0.out (hbl2 o))) | (go_at_call 37; refine (HAT0.out _ h0.out).mono ?_; rintro r w1 ⟨rfl, hb1⟩; have hbl1 := fun o => bl_alloc hb1 o; have h1 := Lib.hid (fun o => SlE.call h0.out (hbl1 o))))
    go_ret
    exact ⟨rfl, hbl3 _⟩
  cases ht : (x1.text.toList == mem.toList)
  · cases b3
    · suffices hs : Calls Tryz.prog 11 #[.slice A n c, .int .i64 d, .string mem, .string isin] w fun r w' => r = .returned (.int .i64 24) ∧ Below w.heap.size w w' from hs
      go_enter Tryz.func11, Tryz.ntmps11
      go_wp2_with (first | (go_at_call 38; refine (HPR.out _ (h3.out _)).mono ?_; rintro r w4 ⟨rfl, hb4⟩; have hbl4 := bl_then (hbl3 _) hb4) | (go_at_call 37; refine (HAT3.out _ (h2.out _)).mono ?_; rintro r w3 ⟨rfl, hb3⟩; have hbl3 := fun o => bl_alloc (bl_then (hbl2 _) hb3) o; have bs3 := (bs2 _).call hb3; have cs3 := fun o => Blk.get8 (bs3.alloc o); have h3 := Lib.hid (fun o => SlE.call h0.out (hbl3 o))) | (go_at_call 37; refine (HAT1.out _ (h1.out _)).mono ?_; rintro r w2 ⟨rfl, hb2⟩; have hbl2 := fun o => bl_alloc (bl_then (hbl1 _) hb2) o; have bs2 := fun cs => Blk.new w2 31 cs; have h2 := Lib.hid (fun o => SlE.call h0.out (hbl2 o))) | (go_at_call 37; refine (HAT0.out _ h0.out).mono ?_; rintro r w1 ⟨rfl, hb1⟩; have hbl1 := fun o => bl_alloc hb1 o; have h1 := Lib.hid (fun o => SlE.call h0.out (hbl1 o))))
      go_ret
      exact ⟨rfl, hbl3 _⟩
    · suffices hs : Calls Tryz.prog 11 #[.slice A n c, .int .i64 d, .string mem, .string isin] w fun r w' => r = .returned (.int .i64 pe) ∧ Below w.heap.size w w' from hs
      go_enter Tryz.func11, Tryz.ntmps11
      go_wp2_with (first | (go_at_call 38; refine (HPR.out _ (h3.out _)).mono ?_; rintro r w4 ⟨rfl, hb4⟩; have hbl4 := bl_then (hbl3 _) hb4) | (go_at_call 37; refine (HAT3.out _ (h2.out _)).mono ?_; rintro r w3 ⟨rfl, hb3⟩; have hbl3 := fun o => bl_alloc (bl_then (hbl2 _) hb3) o; have bs3 := (bs2 _).call hb3; have cs3 := fun o => Blk.get8 (bs3.alloc o); have h3 := Lib.hid (fun o => SlE.call h0.out (hbl3 o))) | (go_at_call 37; refine (HAT1.out _ (h1.out _)).mono ?_; rintro r w2 ⟨rfl, hb2⟩; have hbl2 := fun o => bl_alloc (bl_then (hbl1 _) hb2) o; have bs2 := fun cs => Blk.new w2 31 cs; have h2 := Lib.hid (fun o => SlE.call h0.out (hbl2 o))) | (go_at_call 37; refine (HAT0.out _ h0.out).mono ?_; rintro r w1 ⟨rfl, hb1⟩; have hbl1 := fun o => bl_alloc hb1 o; have h1 := Lib.hid (fun o => SlE.call h0.out (hbl1 o))))
      go_ret
      exact ⟨rfl, hbl4⟩
  · suffices hs : Calls Tryz.prog 11 #[.slice A n c, .int .i64 d, .string mem, .string isin] w fun r w' => r = .returned (.int .i64 24) ∧ Below w.heap.size w w' from hs
    go_enter Tryz.func11, Tryz.ntmps11
    go_wp2_with (first | (go_at_call 38; refine (HPR.out _ (h3.out _)).mono ?_; rintro r w4 ⟨rfl, hb4⟩; have hbl4 := bl_then (hbl3 _) hb4) | (go_at_call 37; refine (HAT3.out _ (h2.out _)).mono ?_; rintro r w3 ⟨rfl, hb3⟩; have hbl3 := fun o => bl_alloc (bl_then (hbl2 _) hb3) o; have bs3 := (bs2 _).call hb3; have cs3 := fun o => Blk.get8 (bs3.alloc o); have h3 := Lib.hid (fun o => SlE.call h0.out (hbl3 o))) | (go_at_call 37; refine (HAT1.out _ (h1.out _)).mono ?_; rintro r w2 ⟨rfl, hb2⟩; have hbl2 := fun o => bl_alloc (bl_then (hbl1 _) hb2) o; have bs2 := fun cs => Blk.new w2 31 cs; have h2 := Lib.hid (fun o => SlE.call h0.out (hbl2 o))) | (go_at_call 37; refine (HAT0.out _ h0.out).mono ?_; rintro r w1 ⟨rfl, hb1⟩; have hbl1 := fun o => bl_alloc hb1 o; have h1 := Lib.hid (fun o => SlE.call h0.out (hbl1 o))))
    go_ret
    exact ⟨rfl, hbl3 _⟩

set_option maxRecDepth 20000 in
set_option maxHeartbeats 8000000 in
theorem worth15 (A : Option Addr) (l : List E) (c : Nat) (d : Int) (mem isin : ByteArray) (q : Int) (hg : Good l) (hl : l.length ≤ c) (hc : c ≤ 9223372036854775807) (w : World) (h : SlE w A l) :
    Calls Tryz.prog 15 #[.slice A l.length c, .int .i64 d, .string mem, .agg #[.string isin, .int .i64 q]] w fun r w' => r = .returned (.tuple #[.int .i64 (worthN l d mem isin q), .int .i64 (worthE l d mem isin q)]) ∧ Below w.heap.size w w' := by
  have hel := eligible11 A l c d mem isin hg hl hc
  have hpr := priced38 A l c d isin hg hl hc
  have hat3 := at_o A l c 3 d isin hl hc
  have hat1 := at_o A l c 1 d isin hl hc
  obtain ⟨-, -, r0, r1, q0, q1⟩ := (at_good hg 3 d isin).b
  unfold worthN worthE
  generalize elig l d mem isin = el at *
  generalize (atE l 1 d isin).getD E.zero = x1 at *
  generalize (atE l 1 d isin).isSome = b1 at *
  generalize (atE l 3 d isin).getD E.zero = x3 at *
  generalize (atE l 3 d isin).isSome = b3 at *
  generalize prN (atE l 2 d isin) d = pn at *
  generalize prE (atE l 2 d isin) d = pe at *
  generalize l.length = n at *
  have hva := fun w => value40 q pn x3.num x3.den w r0 r1 q0 q1
  generalize vNum q pn x3.num x3.den = vn at *
  generalize vErr q pn x3.num x3.den = ve at *
  have HVA := Lib.hid hva
  have HEL := Lib.hid hel
  have HAT1 := Lib.hid hat1
  have HAT3 := Lib.hid hat3
  have HPR := Lib.hid hpr
  clear hat1 hat3 hpr hel hva
  have bx0 := Blk.new w 37 #[.string isin, .int .i64 q]
  have hbl0 := bl1 w (.cells #[.string isin, .int .i64 q] 37)
  have h0 := Lib.hid (SlE.call h hbl0)
  have cc0 := Blk.get2 bx0
  clear h
  cases hz : (el != 0)
  · suffices hs : Calls Tryz.prog 15 #[.slice A n c, .int .i64 d, .string mem, .agg #[.string isin, .int .i64 q]] w fun r w' => r = .returned (.tuple #[.int .i64 vn, .int .i64 ve]) ∧ Below w.heap.size w w' from hs
    go_enter Tryz.func15, Tryz.ntmps15
    go_wp2_with (first | (go_at_call 40; refine (HVA.out _).mono ?_; rintro r w4 ⟨rfl, hb4⟩; have hbl4 := bl_then hbl3 hb4) | (go_at_call 37; refine (HAT3.out _ h2.out).mono ?_; rintro r w3 ⟨rfl, hb3⟩; have hbl3 := bl_alloc (bl_then hbl2 hb3) (.cells #[.int .i64 x3.kind, .int .i64 x3.day, .string x3.key, .string x3.text, .int .i64 x3.n, .int .i64 x3.num, .int .i64 x3.den, .bool x3.act] 31); have cc3 := fun o => Blk.get2 ((bx2.call hb3).alloc o)) | (go_at_call 38; refine (HPR.out _ h1.out).mono ?_; rintro r w2 ⟨rfl, hb2⟩; have hbl2 := bl_then hbl1 hb2; have bx2 := bx1.call hb2; have cc2 := Blk.get2 bx2; have h2 := Lib.hid (SlE.call h1.out hb2)) | (go_at_call 11; refine (HEL.out _ h0.out).mono ?_; rintro r w1 ⟨rfl, hb1⟩; have hbl1 := bl_then hbl0 hb1; have bx1 := bx0.call hb1; have cc1 := Blk.get2 bx1; have h1 := Lib.hid (SlE.call h0.out hb1)))
    go_ret2
    exact ⟨rfl, hbl4⟩
  · suffices hs : Calls Tryz.prog 15 #[.slice A n c, .int .i64 d, .string mem, .agg #[.string isin, .int .i64 q]] w fun r w' => r = .returned (.tuple #[.int .i64 0, .int .i64 el]) ∧ Below w.heap.size w w' from hs
    go_enter Tryz.func15, Tryz.ntmps15
    go_wp2_with (first | (go_at_call 40; refine (HVA.out _).mono ?_; rintro r w4 ⟨rfl, hb4⟩; have hbl4 := bl_then hbl3 hb4) | (go_at_call 37; refine (HAT3.out _ h2.out).mono ?_; rintro r w3 ⟨rfl, hb3⟩; have hbl3 := bl_alloc (bl_then hbl2 hb3) (.cells #[.int .i64 x3.kind, .int .i64 x3.day, .string x3.key, .string x3.text, .int .i64 x3.n, .int .i64 x3.num, .int .i64 x3.den, .bool x3.act] 31); have cc3 := fun o => Blk.get2 ((bx2.call hb3).alloc o)) | (go_at_call 38; refine (HPR.out _ h1.out).mono ?_; rintro r w2 ⟨rfl, hb2⟩; have hbl2 := bl_then hbl1 hb2; have bx2 := bx1.call hb2; have cc2 := Blk.get2 bx2; have h2 := Lib.hid (SlE.call h1.out hb2)) | (go_at_call 11; refine (HEL.out _ h0.out).mono ?_; rintro r w1 ⟨rfl, hb1⟩; have hbl1 := bl_then hbl0 hb1; have bx1 := bx0.call hb1; have cc1 := Blk.get2 bx1; have h1 := Lib.hid (SlE.call h0.out hb1)))
    go_ret2
    exact ⟨rfl, hbl1⟩

set_option maxRecDepth 20000 in
set_option maxHeartbeats 8000000 in
theorem cover16 (A : Option Addr) (l : List E) (c : Nat) (d : Int) (mem isin : ByteArray) (a : Int) (hg : Good l) (hl : l.length ≤ c) (hc : c ≤ 9223372036854775807) (w : World) (h : SlE w A l) :
    Calls Tryz.prog 16 #[.slice A l.length c, .int .i64 d, .string mem, .string isin, .int .i64 a] w fun r w' => r = .returned (.tuple #[.int .i64 (coverN l d mem isin a), .int .i64 (coverE l d mem isin a)]) ∧ Below w.heap.size w w' := by
  have hel := eligible11 A l c d mem isin hg hl hc
  have hpr := priced38 A l c d isin hg hl hc
  have hat3 := at_o A l c 3 d isin hl hc
  have hat1 := at_o A l c 1 d isin hl hc
  obtain ⟨-, -, r0, r1, q0, q1⟩ := (at_good hg 3 d isin).b
  unfold coverN coverE
  generalize elig l d mem isin = el at *
  generalize (atE l 1 d isin).getD E.zero = x1 at *
  generalize (atE l 1 d isin).isSome = b1 at *
  generalize (atE l 3 d isin).getD E.zero = x3 at *
  generalize (atE l 3 d isin).isSome = b3 at *
  generalize prN (atE l 2 d isin) d = pn at *
  generalize prE (atE l 2 d isin) d = pe at *
  generalize l.length = n at *
  have hva := fun w => needed41 a pn x1.n x3.num x3.den w r0 r1 q0 q1
  generalize nNum a pn x1.n x3.num x3.den = vn at *
  generalize nErr a pn x1.n x3.num x3.den = ve at *
  have HVA := Lib.hid hva
  have HEL := Lib.hid hel
  have HAT1 := Lib.hid hat1
  have HAT3 := Lib.hid hat3
  have HPR := Lib.hid hpr
  clear hat1 hat3 hpr hel hva
  have hbl0 := Below.refl w.heap.size w
  have h0 := Lib.hid h
  clear h
  cases hz : (el != 0)
  · suffices hs : Calls Tryz.prog 16 #[.slice A n c, .int .i64 d, .string mem, .string isin, .int .i64 a] w fun r w' => r = .returned (.tuple #[.int .i64 vn, .int .i64 ve]) ∧ Below w.heap.size w w' from hs
    go_enter Tryz.func16, Tryz.ntmps16
    go_wp2_with (first | (go_at_call 41; refine (HVA.out _).mono ?_; rintro r w5 ⟨rfl, hb5⟩; have hbl5 := bl_then hbl4 hb5) | (go_at_call 37; refine (HAT1.out _ h3.out).mono ?_; rintro r w4 ⟨rfl, hb4⟩; have hbl4 := bl_alloc (bl_then hbl3 hb4) (.cells #[.int .i64 x1.kind, .int .i64 x1.day, .string x1.key, .string x1.text, .int .i64 x1.n, .int .i64 x1.num, .int .i64 x1.den, .bool x1.act] 31); have bs4 := bs3.call hb4; have cs4 := fun o => Blk.get8 (bs4.alloc o)) | (go_at_call 37; refine (HAT3.out _ h2.out).mono ?_; rintro r w3 ⟨rfl, hb3⟩; have hal := bl_alloc hb3 (.cells #[.int .i64 x3.kind, .int .i64 x3.day, .string x3.key, .string x3.text, .int .i64 x3.n, .int .i64 x3.num, .int .i64 x3.den, .bool x3.act] 31); have hbl3 := bl_then hbl2 hal; have bs3 := Blk.new w3 31 #[.int .i64 x3.kind, .int .i64 x3.day, .string x3.key, .string x3.text, .int .i64 x3.n, .int .i64 x3.num, .int .i64 x3.den, .bool x3.act]; have h3 := Lib.hid (SlE.call h2.out hal)) | (go_at_call 38; refine (HPR.out _ h1.out).mono ?_; rintro r w2 ⟨rfl, hb2⟩; have hbl2 := bl_then hbl1 hb2; have h2 := Lib.hid (SlE.call h1.out hb2)) | (go_at_call 11; refine (HEL.out _ h0.out).mono ?_; rintro r w1 ⟨rfl, hb1⟩; have hbl1 := bl_then hbl0 hb1; have h1 := Lib.hid (SlE.call h0.out hb1)))
    go_ret2
    exact ⟨rfl, hbl5⟩
  · suffices hs : Calls Tryz.prog 16 #[.slice A n c, .int .i64 d, .string mem, .string isin, .int .i64 a] w fun r w' => r = .returned (.tuple #[.int .i64 0, .int .i64 el]) ∧ Below w.heap.size w w' from hs
    go_enter Tryz.func16, Tryz.ntmps16
    go_wp2_with (first | (go_at_call 41; refine (HVA.out _).mono ?_; rintro r w5 ⟨rfl, hb5⟩; have hbl5 := bl_then hbl4 hb5) | (go_at_call 37; refine (HAT1.out _ h3.out).mono ?_; rintro r w4 ⟨rfl, hb4⟩; have hbl4 := bl_alloc (bl_then hbl3 hb4) (.cells #[.int .i64 x1.kind, .int .i64 x1.day, .string x1.key, .string x1.text, .int .i64 x1.n, .int .i64 x1.num, .int .i64 x1.den, .bool x1.act] 31); have bs4 := bs3.call hb4; have cs4 := fun o => Blk.get8 (bs4.alloc o)) | (go_at_call 37; refine (HAT3.out _ h2.out).mono ?_; rintro r w3 ⟨rfl, hb3⟩; have hal := bl_alloc hb3 (.cells #[.int .i64 x3.kind, .int .i64 x3.day, .string x3.key, .string x3.text, .int .i64 x3.n, .int .i64 x3.num, .int .i64 x3.den, .bool x3.act] 31); have hbl3 := bl_then hbl2 hal; have bs3 := Blk.new w3 31 #[.int .i64 x3.kind, .int .i64 x3.day, .string x3.key, .string x3.text, .int .i64 x3.n, .int .i64 x3.num, .int .i64 x3.den, .bool x3.act]; have h3 := Lib.hid (SlE.call h2.out hal)) | (go_at_call 38; refine (HPR.out _ h1.out).mono ?_; rintro r w2 ⟨rfl, hb2⟩; have hbl2 := bl_then hbl1 hb2; have h2 := Lib.hid (SlE.call h1.out hb2)) | (go_at_call 11; refine (HEL.out _ h0.out).mono ?_; rintro r w1 ⟨rfl, hb1⟩; have hbl1 := bl_then hbl0 hb1; have h1 := Lib.hid (SlE.call h0.out hb1)))
    go_ret2
    exact ⟨rfl, hbl1⟩

set_option maxRecDepth 20000 in
set_option maxHeartbeats 8000000 in
theorem market17 (A : Option Addr) (l : List E) (c : Nat) (d : Int) (isin : ByteArray) (q : Int) (hg : Good l) (hl : l.length ≤ c) (hc : c ≤ 9223372036854775807) (w : World) (h : SlE w A l) :
    Calls Tryz.prog 17 #[.slice A l.length c, .int .i64 d, .agg #[.string isin, .int .i64 q]] w fun r w' => r = .returned (.tuple #[.int .i64 (marketN l d isin q), .int .i64 (marketE l d isin q)]) ∧ Below w.heap.size w w' := by
  have hpr := priced38 A l c d isin hg hl hc
  have hat1 := at_o A l c 1 d isin hl hc
  unfold marketN marketE
  generalize (atE l 1 d isin).getD E.zero = x1 at *
  generalize (atE l 1 d isin).isSome = b1 at *
  generalize prN (atE l 2 d isin) d = pn at *
  generalize prE (atE l 2 d isin) d = pe at *
  generalize l.length = n at *
  have hva := fun w => value40 q pn 0 1 w (by decide) (by decide) (by decide) (by decide)
  generalize vNum q pn 0 1 = vn at *
  generalize vErr q pn 0 1 = ve at *
  have HVA := Lib.hid hva
  have HAT1 := Lib.hid hat1
  have HPR := Lib.hid hpr
  clear hat1 hpr hva
  have bx0 := Blk.new w 37 #[.string isin, .int .i64 q]
  have hbl0 := bl1 w (.cells #[.string isin, .int .i64 q] 37)
  have h0 := Lib.hid (SlE.call h hbl0)
  have cc0 := Blk.get2 bx0
  clear h
  cases b1
  · suffices hs : Calls Tryz.prog 17 #[.slice A n c, .int .i64 d, .agg #[.string isin, .int .i64 q]] w fun r w' => r = .returned (.tuple #[.int .i64 0, .int .i64 9]) ∧ Below w.heap.size w w' from hs
    go_enter Tryz.func17, Tryz.ntmps17
    go_wp2_with (first | (go_at_call 40; refine (HVA.out _).mono ?_; rintro r w4 ⟨rfl, hb4⟩; have hbl4 := bl_then hbl2 hb4) | (go_at_call 38; refine (HPR.out _ h1.out).mono ?_; rintro r w2 ⟨rfl, hb2⟩; have hbl2 := bl_then hbl1 hb2; have bx2 := bx1.call hb2; have cc2 := Blk.get2 bx2) | (go_at_call 37; refine (HAT1.out _ h0.out).mono ?_; rintro r w1 ⟨rfl, hb1⟩; have hal := bl_alloc hb1 (.cells #[.int .i64 x1.kind, .int .i64 x1.day, .string x1.key, .string x1.text, .int .i64 x1.n, .int .i64 x1.num, .int .i64 x1.den, .bool x1.act] 31); have hbl1 := bl_then hbl0 hal; have bx1 := bx0.call hal; have cc1 := Blk.get2 bx1; have h1 := Lib.hid (SlE.call h0.out hal)))
    go_ret2
    exact ⟨rfl, hbl1⟩
  cases hz : (pe != 0)
  · suffices hs : Calls Tryz.prog 17 #[.slice A n c, .int .i64 d, .agg #[.string isin, .int .i64 q]] w fun r w' => r = .returned (.tuple #[.int .i64 vn, .int .i64 ve]) ∧ Below w.heap.size w w' from hs
    go_enter Tryz.func17, Tryz.ntmps17
    go_wp2_with (first | (go_at_call 40; refine (HVA.out _).mono ?_; rintro r w4 ⟨rfl, hb4⟩; have hbl4 := bl_then hbl2 hb4) | (go_at_call 38; refine (HPR.out _ h1.out).mono ?_; rintro r w2 ⟨rfl, hb2⟩; have hbl2 := bl_then hbl1 hb2; have bx2 := bx1.call hb2; have cc2 := Blk.get2 bx2) | (go_at_call 37; refine (HAT1.out _ h0.out).mono ?_; rintro r w1 ⟨rfl, hb1⟩; have hal := bl_alloc hb1 (.cells #[.int .i64 x1.kind, .int .i64 x1.day, .string x1.key, .string x1.text, .int .i64 x1.n, .int .i64 x1.num, .int .i64 x1.den, .bool x1.act] 31); have hbl1 := bl_then hbl0 hal; have bx1 := bx0.call hal; have cc1 := Blk.get2 bx1; have h1 := Lib.hid (SlE.call h0.out hal)))
    go_ret2
    exact ⟨rfl, hbl4⟩
  · suffices hs : Calls Tryz.prog 17 #[.slice A n c, .int .i64 d, .agg #[.string isin, .int .i64 q]] w fun r w' => r = .returned (.tuple #[.int .i64 0, .int .i64 pe]) ∧ Below w.heap.size w w' from hs
    go_enter Tryz.func17, Tryz.ntmps17
    go_wp2_with (first | (go_at_call 40; refine (HVA.out _).mono ?_; rintro r w4 ⟨rfl, hb4⟩; have hbl4 := bl_then hbl2 hb4) | (go_at_call 38; refine (HPR.out _ h1.out).mono ?_; rintro r w2 ⟨rfl, hb2⟩; have hbl2 := bl_then hbl1 hb2; have bx2 := bx1.call hb2; have cc2 := Blk.get2 bx2) | (go_at_call 37; refine (HAT1.out _ h0.out).mono ?_; rintro r w1 ⟨rfl, hb1⟩; have hal := bl_alloc hb1 (.cells #[.int .i64 x1.kind, .int .i64 x1.day, .string x1.key, .string x1.text, .int .i64 x1.n, .int .i64 x1.num, .int .i64 x1.den, .bool x1.act] 31); have hbl1 := bl_then hbl0 hal; have bx1 := bx0.call hal; have cc1 := Blk.get2 bx1; have h1 := Lib.hid (SlE.call h0.out hal)))
    go_ret2
    exact ⟨rfl, hbl2⟩
end Go.Proofs.YtongoicadcmfaaaGreatDoor.V
