/- valuation.(*Valuer).each, Portfolio and its closure; girolaw33.positions; giroref33.Total. -/
import Derived.Test.YtongoicadcmfaaaGreatDoorVPos
import Derived.Test.YtongoicadcmfaaaGreatDoorVVal2
import Derived.Test.YtongoicadcmfaaaGreatDoorVRVal
set_option linter.unusedSimpArgs false
set_option linter.unusedVariables false
namespace Go.Proofs.YtongoicadcmfaaaGreatDoor.V
open Go.RowKit

set_option maxRecDepth 20000 in
set_option maxHeartbeats 8000000 in
theorem positions19 (A : Option Addr) (l : List P2) (c : Nat) (hl : l.length ≤ c) (hc : c ≤ 9223372036854775807) (hn : l.length ≤ 100) (w : World) (h : SlP w A l) :
    Calls Tryz.prog 19 #[.slice A l.length c] w fun r w' => (∃ A' c', r = .returned (.slice A' l.length c') ∧ l.length ≤ c' ∧ c' ≤ 9223372036854775807 ∧ SlP w' A' l) ∧ Below w.heap.size w w' := by
  have h0 := Lib.hid h
  clear h
  go_enter Tryz.func19, Tryz.ntmps19
  go_wp2_with fail
  go_loopw [3, 4] (fun v3 v4 wr => ∃ i : Nat, i ≤ l.length ∧ v4 = .int .i64 i ∧ wr.ownsRow w.heap.size 40 2 v3 i ((l.take i).map P2.cells).flatten ∧ Below w.heap.size w wr) (fun _ v4 _ => l.length - (intOf v4).toNat)
  case atStart => exact ⟨0, Nat.zero_le _, rfl, w.ownsRow_nil _ _ _, Below.refl _ _⟩
  case round =>
    obtain ⟨i, hi, rfl, hown, hbl⟩ := hrel
    by_cases hlt : i < l.length
    · have hnx : ((l.take (i + 1)).map P2.cells).flatten = ((l.take i).map P2.cells).flatten ++ [.string l[i].isin, .int .i64 l[i].q] := by rw [take_snoc l i hlt, List.map_append, List.flatten_append]; rfl
      have HNX := Lib.hid hnx
      clear hnx
      obtain ⟨ad, rfl, hadb, c0, c1⟩ := (h0.out.call hbl).get hlt
      generalize l[i] = y at *
      generalize ((l.take i).map P2.cells).flatten = xs at *
      go_wp2_with (at_builtin; refine ap ei52 rfl _ _ rfl w.heap.size _ _ _ rfl hown 1 1 [.string y.isin, .int .i64 y.q] rfl rfl (by simp [Value.oneCell']) (by simp only [maxLen]; omega) (by omega) hbl.size ?_; intro v' w' ho' hg' hat')
      exact ⟨⟨i + 1, by omega, by go_num, by rw [HNX.out]; exact ho', bl_grown hbl hg' hown (Nat.le_refl _) hbl.size⟩, by simp [intOf]; omega⟩
    · obtain rfl : l.length = i := by omega
      rw [List.take_length] at hown
      obtain ⟨A', c', rfl, d1, d2, d3⟩ := Sl.of_own hown (p2_row l) (by omega) (by simp)
      go_wp2_with fail
      go_ret
      exact ⟨⟨A', c', rfl, d1, d2, d3⟩, hbl⟩

/-! ### what the closure of Portfolio holds: the total and the lines -/
structure Clo (w : World) (bt bl : Nat) (t : Int) (v : Value) (k : Nat) (xs : List Value) : Prop where
  tot : Blk w bt 2 #[.int .i64 t]
  lin : Blk w bl 49 #[v]
  own : w.ownsRow (bl + 1) 56 4 v k xs
  lt : bt < bl
theorem own_call {w w' : World} {base : Nat} {e : TypeId} {size n : Nat} {v : Value} {xs : List Value} (h : w.ownsRow base e size v n xs) (hb : Below w.heap.size w w') : w'.ownsRow base e size v n xs :=
  h.kept (⟨hb.os, hb.tape, hb.output, hb.size, fun k hk _ => hb.block k hk⟩ : w.grownBy w' none) (Classical.em _)
theorem own_slice {w : World} {base : Nat} {e : TypeId} {size n : Nat} {v : Value} {xs : List Value} (h : w.ownsRow base e size v n xs) : ∃ A c, v = .slice A n c := by
  rcases h.2 with ⟨rfl, rfl⟩ | ⟨g, cap, cur, rfl, _⟩
  · exact ⟨none, 0, rfl⟩
  · exact ⟨_, cap, rfl⟩
theorem Clo.call {w w' : World} {bt bl : Nat} {t : Int} {v : Value} {k : Nat} {xs : List Value} (h : Clo w bt bl t v k xs) (hb : Below w.heap.size w w') : Clo w' bt bl t v k xs :=
  ⟨h.tot.call hb, h.lin.call hb, own_call h.own hb, h.lt⟩

set_option maxRecDepth 20000 in
set_option maxHeartbeats 8000000 in
theorem clo43 (isin : ByteArray) (q n e : Int) (bt bl : Nat) (t : Int) (v : Value) (k : Nat) (xs : List Value) (w : World) (C : Clo w bt bl t v k xs) (t0 : 0 ≤ t) (t1 : t ≤ 1000000000000000000) (n0 : 0 ≤ n) (n1 : n ≤ 1000000000000000) (hk : k ≤ 100) :
    Calls Tryz.prog 43 #[.agg #[.string isin, .int .i64 q, .int .i64 n, .int .i64 e], .pointer (some ⟨bt, 0, none⟩), .pointer (some ⟨bl, 0, none⟩)] w fun r w' => r = .returned (.tuple #[]) ∧ (∃ v', Clo w' bt bl (t + n) v' (k + 1) (xs ++ [.string isin, .int .i64 q, .int .i64 n, .int .i64 e])) ∧ Below bt w w' := by
  have bx0 := Blk.new w 56 #[.string isin, .int .i64 q, .int .i64 n, .int .i64 e]
  have C0 := C.call (bl1 w (.cells #[.string isin, .int .i64 q, .int .i64 n, .int .i64 e] 56))
  have hb0 : Below bt w (w.alloc (.cells #[.string isin, .int .i64 q, .int .i64 n, .int .i64 e] 56)) := (bl1 w _).mono (Nat.le_of_lt C.tot.lt)
  have hlt := C.tot.lt
  obtain ⟨pb, hpb⟩ : ∃ p, w.heap.size = p := ⟨_, rfl⟩
  obtain ⟨w0, hw0⟩ : ∃ W, w.alloc (.cells #[.string isin, .int .i64 q, .int .i64 n, .int .i64 e] 56) = W := ⟨_, rfl⟩
  rw [hw0] at bx0 C0 hb0
  rw [hpb] at bx0 hlt
  have hne1 : ¬ bl = bt := fun h => by have := C0.lt; omega
  have hne2 : ¬ bt = bl := fun h => by have := C0.lt; omega
  have hne3 : ¬ bt = pb := by omega
  have cc0 := Blk.get4 bx0
  have ct := Blk.get1 C0.tot
  have ft := fun j => C0.tot.frozen j
  have HW0 := Lib.hid (And.intro hw0 hpb)
  have HC := Lib.hid C0
  have HB := Lib.hid bx0
  have HBL := Lib.hid hb0
  clear hw0 hpb C C0 bx0 hb0
  go_enter Tryz.func43, Tryz.ntmps43
  go_upto_region 1 with fail
  rw [HW0.out.1, HW0.out.2]
  go_cut [3] (fun v3 wx => v3 = .pointer (some ⟨pb, 0, none⟩) ∧ Blk wx pb 56 #[.string isin, .int .i64 q, .int .i64 n, .int .i64 e] ∧ Clo wx bt bl (t + n) v k xs ∧ Below bt w wx)
  case first =>
    go_wp2_with fail
    go_meet
    exact ⟨rfl, HB.out.far (by simpa using fun h => hne3 h.symm) _, ⟨by simpa using HC.out.tot.set_ 0 (.int .i64 (t + n)), HC.out.lin.far (by simpa using hne1) _, ownsRow_setCell_below HC.out.own (by have := HC.out.lt; simp; omega) _, HC.out.lt⟩, bl_set HBL.out (by simp) _⟩
  case rest =>
    obtain ⟨rfl, hbx, hC, hbl⟩ := hcut
    have cx := Blk.get4 hbx
    have cl := Blk.get1 hC.lin
    have fl := fun j => hC.lin.frozen j
    have hlin := hC.lin.lt
    have HC2 := Lib.hid hC
    have HBL2 := Lib.hid hbl
    have own := hC.own
    clear hC hbl
    have hltc := HC2.out.lt
    go_wp2_with (at_builtin; refine ap ei49 rfl _ _ rfl (bl + 1) v k xs rfl own 1 1 [.string isin, .int .i64 q, .int .i64 n, .int .i64 e] rfl rfl (by simp [Value.oneCell']) (by simp only [maxLen]; omega) (by omega) (by omega) ?_; intro v' w' ho' hg' hat'; have hbl3 := bl_grown HBL2.out hg' own (by omega) (by omega); have hlin3 := HC2.out.lin.grown hg' (own_blk_ne own HC2.out.lin (by decide)); have htot3 := HC2.out.tot.grown hg' (own_blk_ne own HC2.out.tot (by decide)); have cl3 := Blk.get1 hlin3; have fl3 := fun j => hlin3.frozen j; have HT3 := Lib.hid htot3; have HL3 := Lib.hid hlin3; have HO3 := Lib.hid ho'; have HB3 := Lib.hid hbl3; obtain ⟨A', c', rfl⟩ := own_slice ho'; clear htot3 hlin3 ho' hbl3 hg' hat')
    go_end0
    exact ⟨rfl, ⟨_, HT3.out.far (by simpa using hne2) _, by simpa using HL3.out.set_ 0 _, ownsRow_setCell_below HO3.out (by simp) _, hltc⟩, bl_set HB3.out (by simp; omega) _⟩

set_option maxRecDepth 20000 in
set_option maxHeartbeats 8000000 in
theorem each42 (W : World) (vb tb m0 m1 m2 m3 N : Nat) (l : List E) (d : Int) (mem : ByteArray) (V : Val W vb tb m0 m1 m2 m3 N l d) (hi : Inv l) (hg : Good l) (hkm : mem.size ≤ maxLen)
    (A : Option Addr) (ps : List P2) (c : Nat) (hA : SlP W A ps) (hl : ps.length ≤ c) (hc : c ≤ 9223372036854775807) (hn : ps.length ≤ 100) (hks : ∀ p ∈ ps, p.isin.size ≤ maxLen)
    (bt bl : Nat) (w : World) (hW : Below W.heap.size W w) (hbt : W.heap.size ≤ bt) (C : Clo w bt bl 0 (.slice none 0 0) 0 []) :
    Calls Tryz.prog 42 #[.pointer (some ⟨vb, 0, none⟩), .string mem, .slice A ps.length c, .func (.func 43) #[] #[.pointer (some ⟨bt, 0, none⟩), .pointer (some ⟨bl, 0, none⟩)]] w fun r w' => r = .returned (.tuple #[]) ∧ (∃ v', Clo w' bt bl (sumW l d mem ps) v' ps.length (ps.map (lineC l d mem)).flatten) ∧ Below W.heap.size W w' := by
  have HV := Lib.hid V
  have HA := Lib.hid hA
  have HW := Lib.hid hW
  have HC := Lib.hid C
  have HKS := Lib.hid hks
  clear V hA hW C hks
  go_enter Tryz.func42, Tryz.ntmps42
  go_wp2_with fail
  go_loopw [14] (fun v14 wr => ∃ i : Nat, i ≤ ps.length ∧ v14 = .int .i64 i ∧ (∃ v', Clo wr bt bl (sumW l d mem (ps.take i)) v' i ((ps.take i).map (lineC l d mem)).flatten) ∧ Below W.heap.size W wr) (fun v14 _ => ps.length - (intOf v14).toNat)
  case atStart => exact ⟨0, Nat.zero_le _, rfl, ⟨_, HC.out⟩, HW.out⟩
  case round =>
    obtain ⟨i, hi2, rfl, ⟨v0, hC⟩, hbl⟩ := hrel
    by_cases hlt : i < ps.length
    · have hnx : ((ps.take (i + 1)).map (lineC l d mem)).flatten = ((ps.take i).map (lineC l d mem)).flatten ++ [.string ps[i].isin, .int .i64 ps[i].q, .int .i64 (worthN l d mem ps[i].isin ps[i].q), .int .i64 (worthE l d mem ps[i].isin ps[i].q)] := by rw [take_snoc ps i hlt, List.map_append, List.flatten_append]; rfl
      have HNX := Lib.hid hnx
      have HSN := Lib.hid (sumW_next l d mem ps i hlt)
      clear hnx
      obtain ⟨ad, hA1, hadb, c0, c1⟩ := (HA.out.call hbl).get hlt
      subst hA1
      have hky := HKS.out ps[i] (List.getElem_mem hlt)
      have hv12 := fun (w1 : World) (hb : Below W.heap.size W w1) => value12 vb tb m0 m1 m2 m3 N l d mem ps[i].isin ps[i].q w1 (HV.out.call hb) hi hg hkm hky
      obtain ⟨y0, y1⟩ := worthN_bd l d mem ps[i].isin ps[i].q
      have hs := sumW_bd l d mem (ps.take i)
      have hlen : (ps.take i).length = i := by rw [List.length_take]; omega
      rw [hlen] at hs
      obtain ⟨s0, s1⟩ := hs
      clear hlen
      have s2 : sumW l d mem (ps.take i) ≤ 1000000000000000000 := by omega
      clear s1
      generalize worthN l d mem ps[i].isin ps[i].q = yn at *
      generalize worthE l d mem ps[i].isin ps[i].q = ye at *
      generalize sumW l d mem (ps.take i) = st at *
      generalize ((ps.take i).map (lineC l d mem)).flatten = xs at *
      generalize ps[i] = y at *
      have HV12 := Lib.hid hv12
      have HC1 := Lib.hid hC
      clear hv12 hC
      have hbl1 := bl_alloc_ge hbl (.cells #[.string y.isin, .int .i64 y.q] 40) hbl.size
      have hC1 := HC1.out.call (bl1 wr (.cells #[.string y.isin, .int .i64 y.q] 40))
      have bx1 := Blk.new wr 40 #[.string y.isin, .int .i64 y.q]
      have HC2 := Lib.hid hC1
      have HB1 := Lib.hid hbl1
      have HX1 := Lib.hid bx1
      clear hC1 hbl1 bx1
      go_wp2_with (first
        | (go_at_call 43; refine (clo43 y.isin y.q yn ye bt bl st v0 i xs _ (HC2.out.call hb2) s0 s2 y0 y1 (by omega)).mono ?_; rintro r w3 ⟨rfl, ⟨v3, hC3⟩, hb3⟩)
        | (go_at_call 12; refine (HV12.out _ HB1.out).mono ?_; rintro r w2 ⟨rfl, hb2⟩; have bx2 := HX1.out.call hb2; have cc2 := Blk.get2 bx2))
      exact ⟨⟨i + 1, by omega, by go_num, ⟨v3, by rw [HSN.out, HNX.out]; exact hC3⟩, (HB1.out.trans (hb2.mono HB1.out.size)).trans (hb3.mono hbt)⟩, by simp [intOf]; omega⟩
    · obtain rfl : ps.length = i := by omega
      rw [List.take_length] at hC
      have HC3 := Lib.hid hC
      clear hC
      go_wp2_with fail
      go_end0
      exact ⟨rfl, ⟨_, HC3.out⟩, hbl⟩

/-- What Portfolio hands back: the total, the lines, the error. -/
def PfOut (nn ee : Int) (m : Nat) (rows : List (List Value)) (r : Ending) (w' : World) : Prop :=
  ∃ A' n' c', r = .returned (.tuple #[.int .i64 nn, .slice A' n' c', .int .i64 ee]) ∧ n' ≤ c' ∧ c' ≤ 9223372036854775807 ∧ (ee = 0 → n' = m ∧ Sl w' 4 A' rows) ∧ (ee ≠ 0 → n' = 0)

set_option maxRecDepth 20000 in
set_option maxHeartbeats 8000000 in
theorem portfolio18 (vb tb m0 m1 m2 m3 N : Nat) (l : List E) (d : Int) (mem : ByteArray) (A : Option Addr) (ps : List P2) (c : Nat) (w : World) (V : Val w vb tb m0 m1 m2 m3 N l d) (hi : Inv l) (hg : Good l) (hkm : mem.size ≤ maxLen)
    (hA : SlP w A ps) (hl : ps.length ≤ c) (hc : c ≤ 9223372036854775807) (hn : ps.length ≤ 100) (hks : ∀ p ∈ ps, p.isin.size ≤ maxLen) :
    Calls Tryz.prog 18 #[.pointer (some ⟨vb, 0, none⟩), .string mem, .slice A ps.length c] w fun r w' => PfOut (pfN l d mem ps) (pfE l d mem ps) ps.length (ps.map (lineC l d mem)) r w' ∧ Below w.heap.size w w' := by
  have hm := fun W T => member30 tb m0 m1 m2 m3 N l d mem W T hi hkm
  have hea := fun bt bl w' hW hbt C => each42 w vb tb m0 m1 m2 m3 N l d mem V hi hg hkm A ps c hA hl hc hn hks bt bl w' hW hbt C
  have hrow := lineC_row l d mem ps
  have hrl : (ps.map (lineC l d mem)).length = ps.length := by simp
  unfold pfN pfE big
  generalize (atE l 0 d mem).getD E.zero = x at *
  generalize (atE l 0 d mem).isSome = b0 at *
  generalize sumW l d mem ps = st at *
  generalize ps.map (lineC l d mem) = rows at *
  have h40 : decide (4096 < (ps.length : Int)) = false := by simp; omega
  generalize ps.length = n at *
  have HM := Lib.hid hm
  have HEA := Lib.hid hea
  have HROW := Lib.hid hrow
  have HRL := Lib.hid hrl
  have hcl : ∀ w', Below w.heap.size w w' → w'.cell? ⟨vb, 0, none⟩ = some (.pointer (some ⟨tb, 0, none⟩)) ∧ w'.cell? ⟨vb, 1, none⟩ = some (.int .i64 d) ∧ Below w.heap.size w w' := fun w' h => ⟨(V.call h).blk.cell 0, (V.call h).blk.cell 1, h⟩
  have HC := Lib.hid hcl
  have HV := Lib.hid V
  clear hm hea hrow hrl hcl V hA hks
  suffices main : ∀ nn ee : Int, nn = (bif !b0 then 0 else bif decide (1000000000000000 < st) then 0 else st) → ee = (bif !b0 then 9 else bif decide (1000000000000000 < st) then 12 else 0) → Calls Tryz.prog 18 #[.pointer (some ⟨vb, 0, none⟩), .string mem, .slice A n c] w fun r w' => PfOut nn ee n rows r w' ∧ Below w.heap.size w w' from main _ _ rfl rfl
  intro nn ee hnn hee
  have HN := Lib.hid (And.intro hnn hee)
  clear hnn hee
  go_enter Tryz.func18, Tryz.ntmps18
  go_upto_region 5 with fail
  go_cut [10] (fun v10 wx => v10 = .bool b0 ∧ Below w.heap.size w wx)
  case first =>
    go_region_held3 (fun w' => w'.cell? ⟨vb, 0, none⟩ = some (.pointer (some ⟨tb, 0, none⟩)) ∧ w'.cell? ⟨vb, 1, none⟩ = some (.int .i64 d) ∧ Below w.heap.size w w')
      ((refine HC.out _ ?_; (repeat (refine bl_set ?_ (by first | (simp; done) | (simp; omega) | omega) _)); first | exact bl_drew (Below.refl _ _) | exact k3 (by assumption) | exact bl_alloc (k3 (by assumption)) _ | exact bl_then (k3 (by assumption)) hb1 | exact bl_then hb0 hb1 | exact bl_alloc (bl_then hb0 hb1) _))
      (first
        | (go_at_call 30; have hb0 : Below w.heap.size w _ := k3 (by assumption); have hsz0 := hb0.size; refine (HM.out _ (HV.out.tab.call hb0)).mono ?_; rintro r w1 ⟨rfl, hb1⟩; (try (have hB : Blk w1 w.heap.size 78 #[.string ⟨#[]⟩, .string ⟨#[]⟩, .bool false] := (first_blk w 78 #[.string ⟨#[]⟩, .string ⟨#[]⟩, .bool false]).call hb1; have hF := fun j => hB.frozen j; have hCl := Blk.get3 hB)); have hsz1 := hb1.size)
        | fail "no arm")
    all_goals
      have hblx : Below w.heap.size w _ := k3 (by assumption)
      go_split_ands
      go_wp2_with fail
      go_meet
      exact ⟨rfl, hblx⟩
  case rest =>
    obtain ⟨rfl, hbl⟩ := hcut
    cases b0
    · go_wp2_with fail
      go_ret3
      exact ⟨⟨none, 0, 0, by rw [HN.out.1, HN.out.2]; rfl, by omega, by omega, fun h => absurd (HN.out.2.symm.trans h) (show ¬ (9 : Int) = 0 by decide), fun _ => rfl⟩, hbl⟩
    · have hb2 := bl_alloc (bl_alloc hbl (.cells #[.int .i64 0] 2)) (.cells #[.slice none 0 0] 49)
      have hC0 : Clo ((wc.alloc (.cells #[.int .i64 0] 2)).alloc (.cells #[.slice none 0 0] 49)) wc.heap.size (wc.heap.size + 1) 0 (.slice none 0 0) 0 [] :=
        ⟨(Blk.new wc 2 #[.int .i64 0]).alloc _, Blk.new1 wc _ 49 #[.slice none 0 0], World.ownsRow_nil _ _ _ _, by omega⟩
      have HB2 := Lib.hid hb2
      have HC0 := Lib.hid hC0
      have HSZ := Lib.hid hbl.size
      clear hb2 hC0 hbl
      cases hbg : decide (1000000000000000 < st)
      · go_wp2_with (go_at_call 42; refine (HEA.out wc.heap.size (wc.heap.size + 1) _ HB2.out HSZ.out HC0.out).mono ?_; rintro r w3 ⟨rfl, ⟨v3, hC3⟩, hb3⟩; obtain ⟨A', c', rfl, d1, d2, d3⟩ := Sl.of_own hC3.own HROW.out (by omega) HRL.out; have ct := Blk.get1 hC3.tot; have cl := Blk.get1 hC3.lin; have D3 := Lib.hid d3; clear d3 hC3)
        go_quiet (fail)
        go_wp2_with fail
        go_ret3
        exact ⟨⟨A', n, c', by rw [HN.out.1, HN.out.2, hbg]; rfl, d1, d2, fun _ => ⟨rfl, D3.out.drewN _⟩, fun h => absurd (HN.out.2.trans (by rw [hbg]; rfl)) h⟩, bl_drewN hb3 _⟩
      · go_wp2_with (go_at_call 42; refine (HEA.out wc.heap.size (wc.heap.size + 1) _ HB2.out HSZ.out HC0.out).mono ?_; rintro r w3 ⟨rfl, ⟨v3, hC3⟩, hb3⟩; have ct := Blk.get1 hC3.tot; clear hC3)
        go_ret3
        exact ⟨⟨none, 0, 0, by rw [HN.out.1, HN.out.2, hbg]; rfl, by omega, by omega, fun h => absurd (HN.out.2.symm.trans h) (by rw [hbg]; decide), fun _ => rfl⟩, hb3⟩

set_option maxRecDepth 20000 in
set_option maxHeartbeats 8000000 in
theorem total20 (A : Option Addr) (l : List E) (c : Nat) (d : Int) (mem : ByteArray) (hg : Good l) (hl : l.length ≤ c) (hc : c ≤ 9223372036854775807) (A2 : Option Addr) (ps : List P2) (c2 : Nat) (hl2 : ps.length ≤ c2) (hc2 : c2 ≤ 9223372036854775807) (hn : ps.length ≤ 100)
    (w : World) (h : SlE w A l) (h2 : SlP w A2 ps) :
    Calls Tryz.prog 20 #[.slice A l.length c, .int .i64 d, .string mem, .slice A2 ps.length c2] w fun r w' => r = .returned (.tuple #[.int .i64 (pfN l d mem ps), .int .i64 (pfE l d mem ps)]) ∧ Below w.heap.size w w' := by
  have hat := fun W H => at_o A l c 0 d mem hl hc W H
  have hwo := fun isin q W H => worth15 A l c d mem isin q hg hl hc W H
  have hs := fun i => sumW_bd l d mem (ps.take i)
  have hnx := fun i hi => sumW_next l d mem ps i hi
  have hbd := fun isin q => worthN_bd l d mem isin q
  have hall : sumW l d mem ps = sumW l d mem (ps.take ps.length) := by rw [List.take_length]
  have hzero : sumW l d mem (ps.take 0) = 0 := rfl
  unfold pfN pfE big
  rw [hall]
  clear hall
  generalize hF : (fun i => sumW l d mem (ps.take i)) = F at *
  have hF' : ∀ i, sumW l d mem (ps.take i) = F i := fun i => by rw [← hF]
  simp only [hF'] at hs hnx hzero ⊢
  clear hF hF'
  generalize (atE l 0 d mem).getD E.zero = x at *
  generalize (atE l 0 d mem).isSome = b0 at *
  generalize l.length = ln at *
  have h40 : decide (4096 < (ps.length : Int)) = false := by simp; omega
  have HAT := Lib.hid hat
  have HWO := Lib.hid hwo
  have HS := Lib.hid hs
  have HNX := Lib.hid hnx
  have HBD := Lib.hid hbd
  have HZ := Lib.hid hzero
  have HE := Lib.hid h
  have HP := Lib.hid h2
  clear hat hwo hs hnx hbd hzero h h2
  suffices main : ∀ nn ee : Int, nn = (bif !b0 then 0 else bif decide (1000000000000000 < F ps.length) then 0 else F ps.length) → ee = (bif !b0 then 9 else bif decide (1000000000000000 < F ps.length) then 12 else 0) → Calls Tryz.prog 20 #[.slice A ln c, .int .i64 d, .string mem, .slice A2 ps.length c2] w fun r w' => r = .returned (.tuple #[.int .i64 nn, .int .i64 ee]) ∧ Below w.heap.size w w' from main _ _ rfl rfl
  intro nn ee hnn hee
  have HN := Lib.hid (And.intro hnn hee)
  clear hnn hee
  cases b0
  · go_enter Tryz.func20, Tryz.ntmps20
    go_wp2_with (go_at_call 37; refine (HAT.out _ HE.out).mono ?_; rintro r w1 ⟨rfl, hb1⟩)
    go_ret2
    exact ⟨by rw [HN.out.1, HN.out.2]; rfl, bl_alloc hb1 _⟩
  · go_enter Tryz.func20, Tryz.ntmps20
    go_wp2_with (go_at_call 37; refine (HAT.out _ HE.out).mono ?_; rintro r w1 ⟨rfl, hb1⟩; have hal := bl_alloc hb1 (.cells #[.int .i64 x.kind, .int .i64 x.day, .string x.key, .string x.text, .int .i64 x.n, .int .i64 x.num, .int .i64 x.den, .bool x.act] 31))
    go_loopw [12, 13] (fun v12 v13 wr => ∃ i : Nat, i ≤ ps.length ∧ v13 = .int .i64 i ∧ v12 = .int .i64 (F i) ∧ Below w.heap.size w wr) (fun _ v13 _ => ps.length - (intOf v13).toNat)
    case atStart => exact ⟨0, Nat.zero_le _, rfl, by rw [HZ.out], hal⟩
    case round =>
      obtain ⟨i, hi, rfl, rfl, hbl⟩ := hrel
      clear hal
      by_cases hlt : i < ps.length
      · have hsn := HNX.out i hlt
        obtain ⟨y0, y1⟩ := HBD.out ps[i].isin ps[i].q
        obtain ⟨s0, s1⟩ := HS.out i
        have s2 : F i ≤ 1000000000000000000 := by rw [List.length_take] at s1; omega
        have hw := HWO.out ps[i].isin ps[i].q _ (HE.out.call hbl)
        have HSN := Lib.hid hsn
        clear hsn s1
        obtain ⟨ad, hA1, hadb, c0, c1⟩ := (HP.out.call hbl).get hlt
        subst hA1
        generalize worthN l d mem ps[i].isin ps[i].q = yn at *
        generalize worthE l d mem ps[i].isin ps[i].q = ye at *
        generalize ps[i] = y at *
        generalize F i = st at *
        have HW := Lib.hid hw
        clear hw
        go_wp2_with (go_at_call 15; refine HW.out.mono ?_; rintro r w3 ⟨rfl, hb3⟩)
        exact ⟨⟨i + 1, by omega, by go_num, by rw [HSN.out], bl_then hbl hb3⟩, by simp [intOf]; omega⟩
      · obtain rfl : ps.length = i := by omega
        cases hbg : decide (1000000000000000 < F ps.length)
        all_goals
          go_wp2_with fail
          go_ret2
          exact ⟨by rw [HN.out.1, HN.out.2, hbg]; rfl, hbl⟩
end Go.Proofs.YtongoicadcmfaaaGreatDoor.V
