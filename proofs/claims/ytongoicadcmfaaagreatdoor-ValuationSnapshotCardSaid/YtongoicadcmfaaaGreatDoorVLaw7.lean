/- girolaw33.ValuationSnapshot as a walk. -/
import Derived.Test.YtongoicadcmfaaaGreatDoorVLaw3
import Derived.Test.YtongoicadcmfaaaGreatDoorVSnap
import Derived.Test.YtongoicadcmfaaaGreatDoorVPort
set_option linter.unusedSimpArgs false
set_option linter.unusedVariables false
namespace Go.Proofs.YtongoicadcmfaaaGreatDoor.V
open Go.RowKit

set_option maxHeartbeats 2000000 in
theorem new21_new (tb m0 m1 m2 m3 N : Nat) (l : List E) (d : Int) (hd : dayB d = true) (w : World) (T : Tab w tb m0 m1 m2 m3 N l) :
    Calls Tryz.prog 21 #[.pointer (some ⟨tb, 0, none⟩), .int .i64 d] w fun r w' => (∃ vb tb' n0 n1 n2 n3, r = .returned (.tuple #[.pointer (some ⟨vb, 0, none⟩), .int .i64 0]) ∧ (w.heap.size ≤ n0 ∧ w.heap.size ≤ n1 ∧ w.heap.size ≤ n2 ∧ w.heap.size ≤ n3) ∧ Val w' vb tb' n0 n1 n2 n3 N l d) ∧ Below w.heap.size w w' := by
  have hv := fun w => dateValid44 d w
  rw [hd] at hv
  have HV := Lib.hid hv
  have hc := clone45_new tb m0 m1 m2 m3 N l w T
  have HC := Lib.hid hc
  clear hv hc
  go_enter Tryz.func21, Tryz.ntmps21
  go_wp2_with (first
    | (go_at_call 44; refine (HV.out _).mono ?_; rintro r w1 ⟨rfl, rfl⟩)
    | (go_at_call 45; refine HC.out.mono ?_; rintro r w1 ⟨tb', n0, n1, n2, n3, rfl, hn, ht, hb⟩))
  go_ret2
  exact ⟨⟨_, tb', n0, n1, n2, n3, rfl, hn, ⟨Blk.new _ _ _, ht.call (bl1 _ _)⟩⟩, bl_alloc hb _⟩

/-- What stands before the table is made. -/
structure Z7 (W : World) (pe pp : Nat) (e : E) (isin : ByteArray) (q : Int) (A : Option Addr) (xs : List E) (w : World) : Prop where
  be : Blk w pe 31 #[.int .i64 e.kind, .int .i64 e.day, .string e.key, .string e.text, .int .i64 e.n, .int .i64 e.num, .int .i64 e.den, .bool e.act]
  bp : Blk w pp 37 #[.string isin, .int .i64 q]
  sl : SlE w A xs
  bl : Below W.heap.size W w
theorem Z7.call {W w w' : World} {pe pp : Nat} {e : E} {isin : ByteArray} {q : Int} {A : Option Addr} {xs : List E} (Z : Z7 W pe pp e isin q A xs w) (hb : Below w.heap.size w w') : Z7 W pe pp e isin q A xs w' :=
  ⟨Z.be.call hb, Z.bp.call hb, SlE.call Z.sl hb, bl_then Z.bl hb⟩
/-- What the additions to the table leave as it is. -/
def K7 (W : World) (vb tb n0 n1 n2 n3 : Nat) (L : List E) (d : Int) (A5 : Option Addr) (pp : Nat) (isin : ByteArray) (q : Int) (w : World) : Prop :=
  Val w vb tb n0 n1 n2 n3 30 L d ∧ SlE w A5 L ∧ Blk w pp 37 #[.string isin, .int .i64 q] ∧ Below W.heap.size W w
theorem K7.bears {W : World} {vb tb n0 n1 n2 n3 : Nat} {L : List E} {d : Int} {A5 : Option Addr} {pp : Nat} {isin : ByteArray} {q : Int} {m0 m1 m2 m3 z : Nat} (hn : z ≤ n0 ∧ z ≤ n1 ∧ z ≤ n2 ∧ z ≤ n3) (hm : m0 < z ∧ m1 < z ∧ m2 < z ∧ m3 < z)
    (hW : W.heap.size ≤ m0 ∧ W.heap.size ≤ m1 ∧ W.heap.size ≤ m2 ∧ W.heap.size ≤ m3) : Bears (K7 W vb tb n0 n1 n2 n3 L d A5 pp isin q) m0 m1 m2 m3 := by
  refine ⟨fun w w' k hb => ⟨k.1.call hb, SlE.call k.2.1 hb, k.2.2.1.call hb, bl_then k.2.2.2 hb⟩, fun w w' m f M hmm hf hg k => ?_⟩
  have h1 : m < z ∧ W.heap.size ≤ m := by rcases hmm with rfl | rfl | rfl | rfl <;> omega
  exact ⟨k.1.turn hf hg (by omega) (by omega) (by omega) (by omega), sl_turn hf hg (by decide) _ _ k.2.1, blk_turn hf hg k.2.2.1, k.2.2.2.grown hg k.2.2.2.size (fun j hj => by injection hj with hj; omega)⟩
theorem Tab.lts {w : World} {tb m0 m1 m2 m3 N : Nat} {l : List E} (T : Tab w tb m0 m1 m2 m3 N l) : m0 < w.heap.size ∧ m1 < w.heap.size ∧ m2 < w.heap.size ∧ m3 < w.heap.size := by
  obtain ⟨_, h0, _⟩ := T.mem
  obtain ⟨_, h1, _⟩ := T.sec
  obtain ⟨_, h2, _⟩ := T.pri
  obtain ⟨_, h3, _⟩ := T.hair
  exact ⟨h0.lt, h1.lt, h2.lt, h3.lt⟩
theorem pos_one (isin : ByteArray) (q : Int) (w : World) : Calls Tryz.prog 19 #[.slice (some ⟨w.heap.size, 0, none⟩) 1 1] (w.alloc (.cells #[.string isin, .int .i64 q] 37)) fun r w' => (∃ v, r = .returned v) ∧ Below w.heap.size w w' := by
  have hb := Blk.new w 37 #[.string isin, .int .i64 q]
  have hs : SlP (w.alloc (.cells #[.string isin, .int .i64 q] 37)) (some ⟨w.heap.size, 0, none⟩) [⟨isin, q⟩] := by
    refine ⟨by intro r hr; simp at hr; subst hr; rfl, fun _ => ⟨_, rfl, by simp, fun i r hr j v hv => ?_⟩⟩
    have hi : i = 0 := by
      rcases i with _ | i
      · rfl
      · simp at hr
    subst hi
    have hr' : r = [.string isin, .int .i64 q] := by simpa [P2.cells] using hr.symm
    subst hr'
    have ha : (⟨w.heap.size, 0, none⟩ : Addr).add (0 * 2 + j) = ⟨w.heap.size, j, none⟩ := by
      unfold Addr.add
      split <;> simp_all
    rw [ha, hb.cell j]
    simpa using hv
  exact (positions19 _ [⟨isin, q⟩] 1 (by simp) (by omega) (by simp) _ hs).mono fun r w' ⟨⟨A', c', hr, _⟩, hbl⟩ => ⟨⟨_, hr⟩, bl_then (bl1 w _) hbl⟩

set_option maxRecDepth 20000 in
set_option maxHeartbeats 32000000 in
theorem law7 (A : Option Addr) (xs : List E) (c : Nat) (e : E) (d : Int) (mem isin : ByteArray) (q : Int) (hc1 : xs.length ≤ c) (hc2 : c ≤ 9223372036854775807) (hok : ∀ x ∈ xs, OkE x) (he : OkE e) (hkm : mem.size ≤ maxLen) (hk : isin.size ≤ maxLen) (w : World) (h : SlE w A xs) :
    Calls Tryz.prog 7 #[.slice A xs.length c, e.val, .int .i64 d, .string mem, .agg #[.string isin, .int .i64 q]] w fun r w' => r = .returned (.bool true) ∧ Below w.heap.size w w' := by
  have hkn := fun w => known9 w
  have HKN := Lib.hid hkn
  clear hkn
  have z0 : Z7 w w.heap.size (w.heap.size + 1) e isin q A xs ((w.alloc (.cells #[.int .i64 e.kind, .int .i64 e.day, .string e.key, .string e.text, .int .i64 e.n, .int .i64 e.num, .int .i64 e.den, .bool e.act] 31)).alloc (.cells #[.string isin, .int .i64 q] 37)) :=
    ⟨(Blk.new _ _ _).alloc _, Blk.new1 _ _ _ _, SlE.call h (bl_alloc (bl1 _ _) _), bl_alloc (bl1 _ _) _⟩
  obtain ⟨pe, hpe⟩ : ∃ p, w.heap.size = p := ⟨_, rfl⟩
  obtain ⟨pp, hpp⟩ : ∃ p, pe + 1 = p := ⟨_, rfl⟩
  obtain ⟨w0, hw0⟩ : ∃ W, (w.alloc (.cells #[.int .i64 e.kind, .int .i64 e.day, .string e.key, .string e.text, .int .i64 e.n, .int .i64 e.num, .int .i64 e.den, .bool e.act] 31)).alloc (.cells #[.string isin, .int .i64 q] 37) = W := ⟨_, rfl⟩
  rw [hw0, hpe, hpp] at z0
  have HW0 := Lib.hid (And.intro hw0 (And.intro hpe hpp))
  have Z0 := Lib.hid z0
  have k0 := Blk.get2 z0.bp
  have hml := fun w H => made23 A xs c hc1 hc2 hok w H
  generalize foldL (xs.take 30) = L at *
  have HM := Lib.hid hml
  have HPOS := Lib.hid (pos_one isin q)
  have HOK := Lib.hid he
  clear h z0 hw0 hpe hpp hml hok he
  unfold E.val
  go_enter Tryz.func7, Tryz.ntmps7
  go_upto_region 1 with fail
  rw [HW0.out.1, HW0.out.2.1, HW0.out.2.2]
  go_upto_region 9 with (first
    | (go_at_call 22; refine (day22_nil _).mono ?_; rintro r w8 ⟨rfl, rfl⟩)
    | (go_at_call 10; refine (elig10_nil mem isin _).mono ?_; rintro r w7 ⟨rfl, hb⟩; have Z7' := Lib.hid (Z5.out.call hb); have k7 := Blk.get2 Z7'.out.bp; clear hb)
    | (go_at_call 21; refine (new21_nil d _).mono ?_; rintro r w6 ⟨rfl, rfl⟩)
    | (go_at_call 14; refine (market14_nil isin q _).mono ?_; rintro r w5 ⟨rfl, hb⟩; have Z5 := Lib.hid (Z4.out.call hb); have k5 := Blk.get2 Z5.out.bp; clear hb)
    | (go_at_call 18; refine (portfolio18_nil mem v3 _).mono ?_; rintro r w4 ⟨rfl, hb⟩; have Z4 := Lib.hid (Z3.out.call hb); have k4 := Blk.get2 Z4.out.bp; clear hb)
    | (go_at_call 19; refine (HPOS.out w2).mono ?_; rintro r w3 ⟨⟨v3, rfl⟩, hb⟩; have Z3 := Lib.hid (Z2.out.call hb); have k3 := Blk.get2 Z3.out.bp; clear hb)
    | (go_at_call 13; refine (needed13_nil mem isin 1 _).mono ?_; rintro r w2 ⟨rfl, hb⟩; have Z2 := Lib.hid (Z1.out.call hb); have k2 := Blk.get2 Z2.out.bp; clear hb)
    | (go_at_call 12; refine (value12_nil mem isin q _).mono ?_; rintro r w1 ⟨rfl, hb⟩; have Z1 := Lib.hid (Z0.out.call hb); have k1 := Blk.get2 Z1.out.bp; clear hb))
  have HM7 := Lib.hid (HM.out _ Z7'.out.sl)
  clear HM HPOS
  cases hd : dayB d
  · go_wp2_with (first
      | (go_at_call 9; refine (HKN.out _).mono ?_; rintro r w10 ⟨rfl, hb10⟩)
      | (go_at_call 21; refine (new21_f tb d hd _).mono ?_; rintro r w9 ⟨rfl, rfl⟩)
      | (go_at_call 23; refine HM7.out.mono ?_; rintro r w8 ⟨tb, m0, m1, m2, m3, v5, rfl, hm0, hm1, hm2, hm3, M⟩; have MH := Lib.hid M; clear M))
    go_ret
    exact ⟨rfl, bl_then Z7'.out.bl (bl_then MH.out.bl hb10)⟩
  · have hw := fun A5 c5 (W : World) (hS : SlE W A5 L) (hg : Good L) (h1 : L.length ≤ c5) (h2 : c5 ≤ 9223372036854775807) => worth15 A5 L c5 d mem isin q hg h1 h2 W hS
    have hv := fun vb tb' n0 n1 n2 n3 (W : World) (V : Val W vb tb' n0 n1 n2 n3 30 L d) (hi : Inv L) (hg : Good L) => value12 vb tb' n0 n1 n2 n3 30 L d mem isin q W V hi hg hkm hk
    generalize worthN L d mem isin q = yn at *
    generalize worthE L d mem isin q = ye at *
    have hyn : (yn == yn) = true := by simp
    have hye : (ye == ye) = true := by simp
    have HW := Lib.hid hw
    have HV := Lib.hid hv
    clear hw hv
    go_wp2_with (first
      | (go_at_call 9; refine (HKN.out _).mono ?_; rintro r w13 ⟨rfl, hb13⟩)
      | (go_at_call 15; refine (HW.out A5 c5 _ (SlE.call K10.out.2.1 hb11) MH.out.good e1 e2).mono ?_; rintro r w12 ⟨rfl, hb12⟩)
      | (go_at_call 12; refine (HV.out vb tb' n0 n1 n2 n3 _ K10.out.1 MH.out.inv MH.out.good).mono ?_; rintro r w11 ⟨rfl, hb11⟩; have k11 := Blk.get2 (K10.out.2.2.1.call hb11))
      | (go_at_call 24; refine (set24 (K7 w vb tb' n0 n1 n2 n3 L d A5 pp isin q) tb m0 m1 m2 m3 BE.out 30 L e HOK.out _ TB9.out MH.out.inv MH.out.len (by omega) K9.out).mono ?_; rintro r w10 ⟨rfl, k10⟩; have K10 := Lib.hid k10; have kk10 := Blk.get2 k10.2.2.1; clear k10)
      | (go_at_call 21; refine (new21_new tb m0 m1 m2 m3 30 L d hd _ MH.out.tab).mono ?_; rintro r w9 ⟨⟨vb, tb', n0, n1, n2, n3, rfl, hn, V⟩, hb⟩; have K9 := Lib.hid (show K7 w vb tb' n0 n1 n2 n3 L d A5 pp isin q w9 from ⟨V, SlE.call e3.out hb, (Z8.out.call hb).bp, (Z8.out.call hb).bl⟩); have BE := Lib.hid (K7.bears (W := w) (vb := vb) (tb := tb') (L := L) (d := d) (A5 := A5) (pp := pp) (isin := isin) (q := q) hn MH.out.tab.lts HMW.out); have TB9 := Lib.hid (MH.out.tab.call hb); have k9 := Blk.get8 (Z8.out.call hb).be; have kp9 := Blk.get2 (Z8.out.call hb).bp; clear hb V hn)
      | (go_at_call 23; refine HM7.out.mono ?_; rintro r w8 ⟨tb, m0, m1, m2, m3, v5, rfl, hm0, hm1, hm2, hm3, M⟩; obtain ⟨A5, c5, rfl, e1, e2, e3'⟩ := M.val; have MH := Lib.hid M; have e3 := Lib.hid e3'; have Z8 := Lib.hid (Z7'.out.call M.bl); have hs := Z7'.out.bl.size; have HMW := Lib.hid (show w.heap.size ≤ m0 ∧ w.heap.size ≤ m1 ∧ w.heap.size ≤ m2 ∧ w.heap.size ≤ m3 from ⟨by omega, by omega, by omega, by omega⟩); clear M e3' hm0 hm1 hm2 hm3 hs))
    go_ret
    exact ⟨rfl, bl_then K10.out.2.2.2 (bl_then (bl_then hb11 hb12) hb13)⟩
end Go.Proofs.YtongoicadcmfaaaGreatDoor.V
