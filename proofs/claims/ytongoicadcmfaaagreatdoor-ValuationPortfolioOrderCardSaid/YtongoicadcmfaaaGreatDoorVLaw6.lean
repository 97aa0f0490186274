/- girolaw33.ValuationPortfolioOrder as a walk. (Printed by gen_law6.py.) -/
import Derived.Test.YtongoicadcmfaaaGreatDoorVLaw5
set_option linter.unusedSimpArgs false
set_option linter.unusedVariables false
namespace Go.Proofs.YtongoicadcmfaaaGreatDoor.V
open Go.RowKit

/-! ### three slices of the call's own, in blocks of their own -/
def Sep (v u : Value) : Prop := ∀ k, v.ownBlock = some k → u.ownBlock ≠ some k
theorem Sep.symm {v u : Value} (h : Sep v u) : Sep u v := fun k hk hv => h k hv hk
theorem Sep.grow {w : World} {v v' u : Value} {B : Nat} {e : TypeId} {sz n : Nat} {xs : List Value} (h : Sep v u) (ho : w.ownsRow B e sz u n xs) (hat : v'.ownBlock = v.ownBlock ∨ ∃ g, v'.ownBlock = some g ∧ w.heap.size ≤ g) : Sep v' u := by
  intro k hk hu
  rcases hat with hat | ⟨g, hat, hg⟩
  · exact h k (hat ▸ hk) hu
  · have := (ho.lt k hu).2
    rw [hat] at hk
    injection hk with hk
    omega
theorem own_kept {w w' : World} {v u : Value} {B : Nat} {e : TypeId} {sz n : Nat} {xs : List Value} (ho : w.ownsRow B e sz u n xs) (hs : Sep v u) (hg : w.grownBy w' v.ownBlock) : w'.ownsRow B e sz u n xs := by
  refine ho.kept hg ?_
  cases hu : u.ownBlock with
  | none => exact .inl rfl
  | some k => exact .inr fun he => hs k he.symm hu
structure Tri (B : Nat) (w : World) (v1 v2 v3 : Value) (n1 n2 n3 : Nat) (x1 x2 x3 : List Value) : Prop where
  o1 : w.ownsRow B 40 2 v1 n1 x1
  o2 : w.ownsRow B 40 2 v2 n2 x2
  o3 : w.ownsRow B 40 2 v3 n3 x3
  s12 : Sep v1 v2
  s13 : Sep v1 v3
  s23 : Sep v2 v3
section
variable {B : Nat} {w w' : World} {v1 v2 v3 v' : Value} {n1 n2 n3 m : Nat} {x1 x2 x3 ys : List Value}
theorem Tri.call (T : Tri B w v1 v2 v3 n1 n2 n3 x1 x2 x3) (hb : Below w.heap.size w w') : Tri B w' v1 v2 v3 n1 n2 n3 x1 x2 x3 := ⟨own_call T.o1 hb, own_call T.o2 hb, own_call T.o3 hb, T.s12, T.s13, T.s23⟩
theorem Tri.grow1 (T : Tri B w v1 v2 v3 n1 n2 n3 x1 x2 x3) (ho : w'.ownsRow B 40 2 v' m ys) (hg : w.grownBy w' v1.ownBlock) (hat : v'.ownBlock = v1.ownBlock ∨ ∃ g, v'.ownBlock = some g ∧ w.heap.size ≤ g) : Tri B w' v' v2 v3 m n2 n3 ys x2 x3 :=
  ⟨ho, own_kept T.o2 T.s12 hg, own_kept T.o3 T.s13 hg, T.s12.grow T.o2 hat, T.s13.grow T.o3 hat, T.s23⟩
theorem Tri.grow2 (T : Tri B w v1 v2 v3 n1 n2 n3 x1 x2 x3) (ho : w'.ownsRow B 40 2 v' m ys) (hg : w.grownBy w' v2.ownBlock) (hat : v'.ownBlock = v2.ownBlock ∨ ∃ g, v'.ownBlock = some g ∧ w.heap.size ≤ g) : Tri B w' v1 v' v3 n1 m n3 x1 ys x3 :=
  ⟨own_kept T.o1 T.s12.symm hg, ho, own_kept T.o3 T.s23 hg, (T.s12.symm.grow T.o1 hat).symm, T.s13, T.s23.grow T.o3 hat⟩
theorem Tri.grow3 (T : Tri B w v1 v2 v3 n1 n2 n3 x1 x2 x3) (ho : w'.ownsRow B 40 2 v' m ys) (hg : w.grownBy w' v3.ownBlock) (hat : v'.ownBlock = v3.ownBlock ∨ ∃ g, v'.ownBlock = some g ∧ w.heap.size ≤ g) : Tri B w' v1 v2 v' n1 n2 m x1 x2 ys :=
  ⟨own_kept T.o1 T.s13.symm hg, own_kept T.o2 T.s23.symm hg, ho, T.s12, (T.s13.symm.grow T.o1 hat).symm, (T.s23.symm.grow T.o2 hat).symm⟩
theorem Tri.nil (B : Nat) (w : World) : Tri B w (.slice none 0 0) (.slice none 0 0) (.slice none 0 0) 0 0 0 [] [] [] :=
  ⟨w.ownsRow_nil _ _ _, w.ownsRow_nil _ _ _, w.ownsRow_nil _ _ _, (fun k h => by cases h), (fun k h => by cases h), (fun k h => by cases h)⟩
/-- A block that was made behind them is none of theirs. -/
theorem Tri.far (T : Tri B w v1 v2 v3 n1 n2 n3 x1 x2 x3) {g : Nat} (hg : w.heap.size ≤ g) : some g ≠ v1.ownBlock ∧ some g ≠ v2.ownBlock ∧ some g ≠ v3.ownBlock :=
  ⟨fun h => by have := (T.o1.lt g h.symm).2; omega, fun h => by have := (T.o2.lt g h.symm).2; omega, fun h => by have := (T.o3.lt g h.symm).2; omega⟩
end

/-! ### what the loop builds -/
def fl (l : List P2) : List Value := (l.map P2.cells).flatten
theorem fl_app (a b : List P2) : fl (a ++ b) = fl a ++ fl b := by unfold fl; rw [List.map_append, List.flatten_append]
theorem fl_one (y : P2) : fl [y] = [.string y.isin, .int .i64 y.q] := rfl
theorem fl_two (y z : P2) : fl [y, z] = [.string y.isin, .int .i64 y.q, .string z.isin, .int .i64 z.q] := rfl
theorem good_next (l : List E) (d : Int) (mem : ByteArray) (rs : List P2) (i : Nat) (hi : i < rs.length) : (rs.take (i + 1)).filter (eligP l d mem) = (rs.take i).filter (eligP l d mem) ++ (if eligP l d mem rs[i] then [rs[i]] else []) := by
  rw [take_snoc rs i hi, List.filter_append]
  cases h : eligP l d mem rs[i] <;> simp [h]
theorem parts_next (k : Int) (rs : List P2) (i : Nat) (hi : i < rs.length) : (rs.take (i + 1)).flatMap (splitP k) = (rs.take i).flatMap (splitP k) ++ splitP k rs[i] := by
  rw [take_snoc rs i hi, List.flatMap_append]; simp
theorem parts_len (k : Int) (l : List P2) : (l.flatMap (splitP k)).length ≤ 2 * l.length := by
  induction l with
  | nil => simp
  | cons p l ih =>
    have h : (splitP k p).length ≤ 2 := by unfold splitP; split <;> simp
    rw [List.flatMap_cons, List.length_append, List.length_cons]
    omega
theorem parts_key (k : Int) (l : List P2) (h : ∀ p ∈ l, p.isin.size ≤ maxLen) : ∀ p ∈ l.flatMap (splitP k), p.isin.size ≤ maxLen := by
  intro p hp
  obtain ⟨q, hq, hpq⟩ := List.mem_flatMap.1 hp
  unfold splitP at hpq
  have hk := h q hq
  split at hpq
  · obtain rfl : p = q := by simpa using hpq
    exact hk
  · simp at hpq
    rcases hpq with rfl | rfl <;> exact hk
theorem wrap_ok (x : Int) (h0 : -9223372036854775808 ≤ x) (h1 : x ≤ 9223372036854775807) : wrap64 x = x := by
  have := IntKind.wrap_i64 x
  unfold wrap64
  omega
theorem cut_wrap (q k : Int) (q0 : 0 ≤ q) (q1 : q ≤ 1000000000000000) (k0 : 0 ≤ k) (k1 : k ≤ 9) : (0 ≤ cutN q k ∧ cutN q k ≤ q) ∧ wrap64 (q - cutN q k) = q - cutN q k := by
  have h := cutN_bd q k q0 k0 k1
  exact ⟨h, wrap_ok _ (by omega) (by omega)⟩
theorem cut_small (q k : Int) (q0 : 0 ≤ q) (q1 : ¬ 1000000 < q) (k0 : 0 ≤ k) (k1 : k ≤ 9) : wrap64 ((wrap64 (q * k)).tdiv 10) = cutN q k := by
  have h1 : 0 ≤ q * k := Int.mul_nonneg q0 k0
  have h2 : q * k ≤ q * 9 := Int.mul_le_mul_of_nonneg_left k1 q0
  rw [wrap_ok (q * k) (by omega) (by omega), Int.tdiv_eq_ediv_of_nonneg h1, wrap_ok _ (by omega) (by omega)]
  unfold cutN
  rw [if_neg q1]
theorem cut_big (q k : Int) (q0 : 1000000 < q) (q1 : q ≤ 1000000000000000) (k0 : 0 ≤ k) (k1 : k ≤ 9) : wrap64 (q / 10 * k) = cutN q k := by
  have h1 : 0 ≤ q / 10 * k := Int.mul_nonneg (by omega) k0
  have h2 : q / 10 * k ≤ q / 10 * 9 := Int.mul_le_mul_of_nonneg_left k1 (by omega)
  rw [wrap_ok _ (by omega) (by omega)]
  unfold cutN
  rw [if_pos q0]
theorem pfN_rev (l : List E) (d : Int) (mem : ByteArray) (ps : List P2) : pfN l d mem ps.reverse = pfN l d mem ps := by unfold pfN; rw [sumW_rev]
theorem pfE_rev (l : List E) (d : Int) (mem : ByteArray) (ps : List P2) : pfE l d mem ps.reverse = pfE l d mem ps := by unfold pfE; rw [sumW_rev]
theorem pfN_good (l : List E) (d : Int) (mem : ByteArray) (ps : List P2) : pfN l d mem (ps.reverse.filter (eligP l d mem)) = pfN l d mem ps := by unfold pfN; rw [sumW_good, sumW_rev]
theorem pfE_good (l : List E) (d : Int) (mem : ByteArray) (ps : List P2) : pfE l d mem (ps.reverse.filter (eligP l d mem)) = pfE l d mem ps := by unfold pfE; rw [sumW_good, sumW_rev]
theorem pfN_bd (l : List E) (d : Int) (mem : ByteArray) (ps : List P2) : 0 ≤ pfN l d mem ps ∧ pfN l d mem ps ≤ 1000000000000000 := by
  have h := (sumW_bd l d mem ps).1
  unfold pfN big
  cases (atE l 0 d mem).isSome
  · exact ⟨Int.le_refl 0, (by decide : (0 : Int) ≤ 1000000000000000)⟩
  · cases hb : decide (1000000000000000 < sumW l d mem ps)
    · have := of_decide_eq_false hb
      exact ⟨h, Int.not_lt.1 this⟩
    · exact ⟨Int.le_refl 0, (by decide : (0 : Int) ≤ 1000000000000000)⟩
theorem pf_ok (l : List E) (d : Int) (mem : ByteArray) (ps : List P2) (h : pfE l d mem ps = 0) : pfN l d mem ps = sumW l d mem ps := by
  unfold pfE at h
  unfold pfN
  cases hm : (atE l 0 d mem).isSome <;> cases hb : big (sumW l d mem ps) <;> rw [hm, hb] at h
  · exact absurd h (show ¬ (9 : Int) = 0 by decide)
  · exact absurd h (show ¬ (9 : Int) = 0 by decide)
  · rfl
  · exact absurd h (show ¬ (12 : Int) = 0 by decide)
theorem order_pf (l : List E) (d : Int) (mem : ByteArray) (k : Int) (k0 : 0 ≤ k) (k1 : k ≤ 9) (ps : List P2) (h1 : pfE l d mem ps = 0) (h2 : pfE l d mem (ps.reverse.flatMap (splitP k)) = 0) (he : ∀ p ∈ ps, worthE l d mem p.isin p.q ≠ 12) :
    pfN l d mem (ps.reverse.flatMap (splitP k)) ≤ pfN l d mem ps ∧ pfN l d mem ps ≤ pfN l d mem (ps.reverse.flatMap (splitP k)) + ps.length := by
  have h := order_law l d mem k k0 k1 ps.reverse (fun p hp => he p (List.mem_reverse.1 hp))
  rw [sumW_rev, List.length_reverse] at h
  rw [pf_ok _ _ _ _ h1, pf_ok _ _ _ _ h2]
  exact h

set_option maxRecDepth 20000 in
set_option maxHeartbeats 64000000 in
theorem law6 (A : Option Addr) (xs : List E) (c : Nat) (d : Int) (mem : ByteArray) (A2 : Option Addr) (ps : List P2) (c2 : Nat) (cut : Int) (cut0 : 0 ≤ cut) (cut1 : cut ≤ 255) (hc1 : xs.length ≤ c) (hc2 : c ≤ 9223372036854775807) (hok : ∀ x ∈ xs, OkE x) (hkm : mem.size ≤ maxLen)
    (hl2 : ps.length ≤ c2) (hc22 : c2 ≤ 9223372036854775807) (hks : ∀ p ∈ ps, p.isin.size ≤ maxLen) (w : World) (h : SlE w A xs) (h2 : SlP w A2 ps) :
    Calls Tryz.prog 6 #[.slice A xs.length c, .int .i64 d, .string mem, .slice A2 ps.length c2, .int .u8 cut] w fun r w' => r = .returned (.bool true) ∧ Below w.heap.size w w' := by
  have hkn := fun w => known9 w
  have HKN := Lib.hid hkn
  clear hkn
  cases hd : dayB d
  · have hm := made8_f A xs c d hd hc1 hc2 hok w h
    have HM := Lib.hid hm
    clear hm hks h2 h
    go_enter Tryz.func6, Tryz.ntmps6
    go_wp2_with (first
      | (go_at_call 8; refine HM.out.mono ?_; rintro r w1 ⟨⟨v5, rfl⟩, hb1⟩)
      | (go_at_call 9; refine (HKN.out _).mono ?_; rintro r w2 ⟨rfl, hb2⟩))
    go_ret
    exact ⟨rfl, bl_then hb1 hb2⟩
  · have hm := made8_t A xs c d hd hc1 hc2 hok w h
    generalize foldL (xs.take 30) = L at *
    have HM := Lib.hid hm
    have HP := Lib.hid h2
    have HKS := Lib.hid hks
    clear hm h hok hc1 hc2 h2 hks
    cases h20 : decide (20 < (ps.length : Int))
    · have hn : ps.length ≤ 20 := by have := of_decide_eq_false h20; omega
      go_enter Tryz.func6, Tryz.ntmps6
      go_wp2_with (go_at_call 8; refine HM.out.mono ?_; rintro r w1 ⟨vb, tb, m0, m1, m2, m3, A5, c5, rfl, M⟩; have MH := Lib.hid M; clear M)
      have hrl : ps.reverse.length = ps.length := List.length_reverse
      have HRL := Lib.hid hrl
      clear hrl
      go_loopw [14, 15, 16, 17] (fun v14 v15 v16 v17 wr => ∃ i : Nat, i ≤ ps.length ∧ v17 = .int .i64 i ∧ Tri w1.heap.size wr v14 v15 v16 i ((ps.reverse.take i).filter (eligP L d mem)).length ((ps.reverse.take i).flatMap (splitP (cut % 10))).length (fl (ps.reverse.take i)) (fl ((ps.reverse.take i).filter (eligP L d mem))) (fl ((ps.reverse.take i).flatMap (splitP (cut % 10)))) ∧ Below w1.heap.size w1 wr) (fun _ _ _ v17 _ => ps.length - (intOf v17).toNat)
      case atStart => exact ⟨0, Nat.zero_le _, rfl, Tri.nil _ _, Below.refl _ _⟩
      case round =>
        obtain ⟨i, hi, rfl, T, hbl⟩ := hrel
        by_cases hlt : i < ps.length
        · have hi2 : i < ps.reverse.length := by rw [HRL.out]; exact hlt
          have hgl : ((ps.reverse.take i).filter (eligP L d mem)).length ≤ i := Nat.le_trans (List.length_filter_le ..) (by rw [List.length_take]; omega)
          have hpl : ((ps.reverse.take i).flatMap (splitP (cut % 10))).length ≤ 2 * i := Nat.le_trans (parts_len _ _) (by rw [List.length_take]; omega)
          have e1 : fl (ps.reverse.take (i + 1)) = fl (ps.reverse.take i) ++ fl [ps.reverse[i]] := by rw [take_snoc _ i hi2, fl_app]
          have e2 := good_next L d mem ps.reverse i hi2
          have e3 := parts_next (cut % 10) ps.reverse i hi2
          obtain ⟨j, hj⟩ : ∃ j, j = ps.length - 1 - i := ⟨_, rfl⟩
          have hjn : j < ps.length := by omega
          have hjz : (ps.length : Int) - 1 - (i : Int) = (j : Int) := by omega
          have hrj : ps.reverse[i] = ps[j] := by rw [List.getElem_reverse]; congr 1; omega
          rw [hrj] at e1 e2 e3
          clear hrj hi2 hj
          have hky := HKS.out ps[j] (List.getElem_mem hjn)
          obtain ⟨ad, hA2, hadb, c0, c1⟩ := (SlP.call HP.out (bl_then MH.out.bl hbl)).get hjn
          subst hA2
          have hel := fun (W : World) (hb : Below w1.heap.size w1 W) => elig10 vb tb m0 m1 m2 m3 30 L d mem ps[j].isin W (MH.out.val.call hb) MH.out.inv MH.out.good hkm hky
          have he0 : eligP L d mem ps[j] = (elig L d mem ps[j].isin == 0) := rfl
          rw [he0] at e2
          clear he0
          generalize elig L d mem ps[j].isin = er at *
          generalize ps[j] = y at *
          generalize hgd : (ps.reverse.take (i + 1)).filter (eligP L d mem) = gd at *
          generalize hpt : (ps.reverse.take (i + 1)).flatMap (splitP (cut % 10)) = pt at *
          generalize hrv : fl (ps.reverse.take (i + 1)) = rv at *
          generalize (ps.reverse.take i).filter (eligP L d mem) = gd0 at *
          generalize (ps.reverse.take i).flatMap (splitP (cut % 10)) = pt0 at *
          generalize fl (ps.reverse.take i) = rv0 at *
          have HG := Lib.hid (And.intro hgd (And.intro hpt hrv))
          have HEL := Lib.hid hel
          have E1 := Lib.hid e1
          have E2 := Lib.hid e2
          have E3 := Lib.hid e3
          clear hgd hpt hrv hel e1 e2 e3
          have hbl0 := bl_alloc_ge hbl (.cells #[.string y.isin, .int .i64 y.q] 40) hbl.size
          have T0 := T.call (bl1 wr (.cells #[.string y.isin, .int .i64 y.q] 40))
          have bx0 := Blk.new wr 40 #[.string y.isin, .int .i64 y.q]
          have far := T.far (Nat.le_refl wr.heap.size)
          obtain ⟨pb, hpb⟩ : ∃ p, wr.heap.size = p := ⟨_, rfl⟩
          obtain ⟨wz, hwz⟩ : ∃ W, wr.alloc (.cells #[.string y.isin, .int .i64 y.q] 40) = W := ⟨_, rfl⟩
          rw [hwz] at hbl0 T0 bx0
          rw [hpb] at bx0 far
          have HWZ := Lib.hid (And.intro hwz hpb)
          have HB0 := Lib.hid hbl0
          have T0H := Lib.hid T0
          have cc0 := Blk.get2 bx0
          have BX0 := Lib.hid bx0
          have FAR := Lib.hid far
          clear hbl0 bx0 far T T0 hbl HRL HM HKN hwz hpb
          cases t1 : (er == 0) <;> rw [t1] at E2
          · by_cases q0 : y.q < 0
            · have F2 := Lib.hid (show gd.length = gd0.length ∧ fl gd = fl gd0 from ⟨by rw [E2.out]; simp, by rw [E2.out]; simp⟩)
              have p0 : decide (y.q < 0) = true := decide_eq_true q0
              have F3 := Lib.hid (show pt.length = pt0.length + 1 ∧ fl pt = fl pt0 ++ [.string y.isin, .int .i64 y.q] from ⟨by rw [E3.out]; unfold splitP; rw [if_pos (.inl q0)]; simp, by rw [E3.out]; unfold splitP; rw [if_pos (.inl q0), fl_app, fl_one]⟩)
              go_upto_region 9 with fail
              rw [HWZ.out.1, HWZ.out.2]
              go_wp2_with (first
                | (go_at_call 10; refine (HEL.out _ HBA.out).mono ?_; rintro r wB ⟨rfl, hbB⟩; have TB := Lib.hid (TA.out.call hbB); have bB := BA.out.call hbB; have ccB := Blk.get2 bB; have BB := Lib.hid bB; have HBB := Lib.hid (bl_then HBA.out hbB); clear hbB bB)
                | (at_builtin; refine ap ei52 rfl (.tmp 67) (.tmp 69) rfl w1.heap.size u14 i rv0 rfl T0H.out.o1 1 1 [.string y.isin, .int .i64 y.q] rfl rfl (by simp [Value.oneCell']) (by simp only [maxLen]; omega) (by omega) HB0.out.size ?_; intro v1 wA ho hg hat; have TA := Lib.hid (T0H.out.grow1 ho hg hat); have bA := BX0.out.grown hg FAR.out.1; have ccA := Blk.get2 bA; have BA := Lib.hid bA; have HBA := Lib.hid (bl_grown HB0.out hg T0H.out.o1 (Nat.le_refl _) HB0.out.size); clear ho hg hat bA)
                | (at_builtin; refine ap ei52 rfl (.tmp 89) (.tmp 91) rfl w1.heap.size u16 pt0.length (fl pt0) rfl TB.out.o3 1 1 [.string y.isin, .int .i64 y.q] rfl rfl (by simp [Value.oneCell']) (by simp only [maxLen]; omega) (by omega) HBB.out.size ?_; intro v3 wD ho hg hat; have TD := Lib.hid (TB.out.grow3 ho hg hat); have HBD := Lib.hid (bl_grown HBB.out hg TB.out.o3 (Nat.le_refl _) HBB.out.size); clear ho hg hat))
              exact ⟨⟨i + 1, by omega, by go_num, by rw [HG.out.1, HG.out.2.1, HG.out.2.2, F2.out.1, F2.out.2, F3.out.1, F3.out.2, E1.out, fl_one]; exact TD.out, HBD.out⟩, by simp [intOf]; omega⟩
            · by_cases q1 : 1000000000000000 < y.q
              · have F2 := Lib.hid (show gd.length = gd0.length ∧ fl gd = fl gd0 from ⟨by rw [E2.out]; simp, by rw [E2.out]; simp⟩)
                have p0 : decide (y.q < 0) = false := decide_eq_false q0
                have p1 : decide (1000000000000000 < y.q) = true := decide_eq_true q1
                have F3 := Lib.hid (show pt.length = pt0.length + 1 ∧ fl pt = fl pt0 ++ [.string y.isin, .int .i64 y.q] from ⟨by rw [E3.out]; unfold splitP; rw [if_pos (.inr q1)]; simp, by rw [E3.out]; unfold splitP; rw [if_pos (.inr q1), fl_app, fl_one]⟩)
                go_upto_region 9 with fail
                rw [HWZ.out.1, HWZ.out.2]
                go_wp2_with (first
                  | (go_at_call 10; refine (HEL.out _ HBA.out).mono ?_; rintro r wB ⟨rfl, hbB⟩; have TB := Lib.hid (TA.out.call hbB); have bB := BA.out.call hbB; have ccB := Blk.get2 bB; have BB := Lib.hid bB; have HBB := Lib.hid (bl_then HBA.out hbB); clear hbB bB)
                  | (at_builtin; refine ap ei52 rfl (.tmp 67) (.tmp 69) rfl w1.heap.size u14 i rv0 rfl T0H.out.o1 1 1 [.string y.isin, .int .i64 y.q] rfl rfl (by simp [Value.oneCell']) (by simp only [maxLen]; omega) (by omega) HB0.out.size ?_; intro v1 wA ho hg hat; have TA := Lib.hid (T0H.out.grow1 ho hg hat); have bA := BX0.out.grown hg FAR.out.1; have ccA := Blk.get2 bA; have BA := Lib.hid bA; have HBA := Lib.hid (bl_grown HB0.out hg T0H.out.o1 (Nat.le_refl _) HB0.out.size); clear ho hg hat bA)
                  | (at_builtin; refine ap ei52 rfl (.tmp 89) (.tmp 91) rfl w1.heap.size u16 pt0.length (fl pt0) rfl TB.out.o3 1 1 [.string y.isin, .int .i64 y.q] rfl rfl (by simp [Value.oneCell']) (by simp only [maxLen]; omega) (by omega) HBB.out.size ?_; intro v3 wD ho hg hat; have TD := Lib.hid (TB.out.grow3 ho hg hat); have HBD := Lib.hid (bl_grown HBB.out hg TB.out.o3 (Nat.le_refl _) HBB.out.size); clear ho hg hat))
                exact ⟨⟨i + 1, by omega, by go_num, by rw [HG.out.1, HG.out.2.1, HG.out.2.2, F2.out.1, F2.out.2, F3.out.1, F3.out.2, E1.out, fl_one]; exact TD.out, HBD.out⟩, by simp [intOf]; omega⟩
              · by_cases q2 : 1000000 < y.q
                · have F2 := Lib.hid (show gd.length = gd0.length ∧ fl gd = fl gd0 from ⟨by rw [E2.out]; simp, by rw [E2.out]; simp⟩)
                  have p0 : decide (y.q < 0) = false := decide_eq_false q0
                  have p1 : decide (1000000000000000 < y.q) = false := decide_eq_false q1
                  have p2 : decide (1000000 < y.q) = true := decide_eq_true q2
                  obtain ⟨nn, hnn⟩ : ∃ n, n = cutN y.q (cut % 10) := ⟨_, rfl⟩
                  have F3 := Lib.hid (show pt.length = pt0.length + 2 ∧ fl pt = fl pt0 ++ [.string y.isin, .int .i64 nn, .string y.isin, .int .i64 (y.q - nn)] from ⟨by rw [E3.out]; unfold splitP; rw [if_neg (by omega)]; simp, by rw [E3.out]; unfold splitP; rw [if_neg (by omega), fl_app, fl_two, hnn]⟩)
                  obtain ⟨w0, w2⟩ := cut_wrap y.q (cut % 10) (by omega) (by omega) (by omega) (by omega)
                  rw [← hnn] at w2
                  have w1' := cut_big y.q (cut % 10) (by omega) (by omega) (by omega) (by omega)
                  rw [← hnn] at w1'
                  clear hnn w0
                  go_upto_region 9 with fail
                  rw [HWZ.out.1, HWZ.out.2]
                  go_wp2_with (first
                    | (go_at_call 10; refine (HEL.out _ HBA.out).mono ?_; rintro r wB ⟨rfl, hbB⟩; have TB := Lib.hid (TA.out.call hbB); have bB := BA.out.call hbB; have ccB := Blk.get2 bB; have BB := Lib.hid bB; have HBB := Lib.hid (bl_then HBA.out hbB); clear hbB bB)
                    | (at_builtin; refine ap ei52 rfl (.tmp 67) (.tmp 69) rfl w1.heap.size u14 i rv0 rfl T0H.out.o1 1 1 [.string y.isin, .int .i64 y.q] rfl rfl (by simp [Value.oneCell']) (by simp only [maxLen]; omega) (by omega) HB0.out.size ?_; intro v1 wA ho hg hat; have TA := Lib.hid (T0H.out.grow1 ho hg hat); have bA := BX0.out.grown hg FAR.out.1; have ccA := Blk.get2 bA; have BA := Lib.hid bA; have HBA := Lib.hid (bl_grown HB0.out hg T0H.out.o1 (Nat.le_refl _) HB0.out.size); clear ho hg hat bA)
                    | (at_builtin; refine ap ei52 rfl (.tmp 110) (.tmp 122) rfl w1.heap.size u16 pt0.length (fl pt0) rfl TB.out.o3 2 2 [.string y.isin, .int .i64 nn, .string y.isin, .int .i64 (y.q - nn)] rfl rfl (by simp [Value.oneCell']) (by simp only [maxLen]; omega) (by omega) HBB.out.size ?_; intro v3 wD ho hg hat; have TD := Lib.hid (TB.out.grow3 ho hg hat); have HBD := Lib.hid (bl_grown HBB.out hg TB.out.o3 (Nat.le_refl _) HBB.out.size); clear ho hg hat))
                  exact ⟨⟨i + 1, by omega, by go_num, by rw [HG.out.1, HG.out.2.1, HG.out.2.2, F2.out.1, F2.out.2, F3.out.1, F3.out.2, E1.out, fl_one]; exact TD.out, HBD.out⟩, by simp [intOf]; omega⟩
                · have F2 := Lib.hid (show gd.length = gd0.length ∧ fl gd = fl gd0 from ⟨by rw [E2.out]; simp, by rw [E2.out]; simp⟩)
                  have p0 : decide (y.q < 0) = false := decide_eq_false q0
                  have p1 : decide (1000000000000000 < y.q) = false := decide_eq_false q1
                  have p2 : decide (1000000 < y.q) = false := decide_eq_false q2
                  obtain ⟨nn, hnn⟩ : ∃ n, n = cutN y.q (cut % 10) := ⟨_, rfl⟩
                  have F3 := Lib.hid (show pt.length = pt0.length + 2 ∧ fl pt = fl pt0 ++ [.string y.isin, .int .i64 nn, .string y.isin, .int .i64 (y.q - nn)] from ⟨by rw [E3.out]; unfold splitP; rw [if_neg (by omega)]; simp, by rw [E3.out]; unfold splitP; rw [if_neg (by omega), fl_app, fl_two, hnn]⟩)
                  obtain ⟨w0, w2⟩ := cut_wrap y.q (cut % 10) (by omega) (by omega) (by omega) (by omega)
                  rw [← hnn] at w2
                  have w1' := cut_small y.q (cut % 10) (by omega) (by omega) (by omega) (by omega)
                  rw [← hnn] at w1'
                  clear hnn w0
                  go_upto_region 9 with fail
                  rw [HWZ.out.1, HWZ.out.2]
                  go_wp2_with (first
                    | (go_at_call 10; refine (HEL.out _ HBA.out).mono ?_; rintro r wB ⟨rfl, hbB⟩; have TB := Lib.hid (TA.out.call hbB); have bB := BA.out.call hbB; have ccB := Blk.get2 bB; have BB := Lib.hid bB; have HBB := Lib.hid (bl_then HBA.out hbB); clear hbB bB)
                    | (at_builtin; refine ap ei52 rfl (.tmp 67) (.tmp 69) rfl w1.heap.size u14 i rv0 rfl T0H.out.o1 1 1 [.string y.isin, .int .i64 y.q] rfl rfl (by simp [Value.oneCell']) (by simp only [maxLen]; omega) (by omega) HB0.out.size ?_; intro v1 wA ho hg hat; have TA := Lib.hid (T0H.out.grow1 ho hg hat); have bA := BX0.out.grown hg FAR.out.1; have ccA := Blk.get2 bA; have BA := Lib.hid bA; have HBA := Lib.hid (bl_grown HB0.out hg T0H.out.o1 (Nat.le_refl _) HB0.out.size); clear ho hg hat bA)
                    | (at_builtin; refine ap ei52 rfl (.tmp 110) (.tmp 122) rfl w1.heap.size u16 pt0.length (fl pt0) rfl TB.out.o3 2 2 [.string y.isin, .int .i64 nn, .string y.isin, .int .i64 (y.q - nn)] rfl rfl (by simp [Value.oneCell']) (by simp only [maxLen]; omega) (by omega) HBB.out.size ?_; intro v3 wD ho hg hat; have TD := Lib.hid (TB.out.grow3 ho hg hat); have HBD := Lib.hid (bl_grown HBB.out hg TB.out.o3 (Nat.le_refl _) HBB.out.size); clear ho hg hat))
                  exact ⟨⟨i + 1, by omega, by go_num, by rw [HG.out.1, HG.out.2.1, HG.out.2.2, F2.out.1, F2.out.2, F3.out.1, F3.out.2, E1.out, fl_one]; exact TD.out, HBD.out⟩, by simp [intOf]; omega⟩
          · by_cases q0 : y.q < 0
            · have F2 := Lib.hid (show gd.length = gd0.length + 1 ∧ fl gd = fl gd0 ++ [.string y.isin, .int .i64 y.q] from ⟨by rw [E2.out]; simp, by rw [E2.out, if_pos rfl, fl_app, fl_one]⟩)
              have p0 : decide (y.q < 0) = true := decide_eq_true q0
              have F3 := Lib.hid (show pt.length = pt0.length + 1 ∧ fl pt = fl pt0 ++ [.string y.isin, .int .i64 y.q] from ⟨by rw [E3.out]; unfold splitP; rw [if_pos (.inl q0)]; simp, by rw [E3.out]; unfold splitP; rw [if_pos (.inl q0), fl_app, fl_one]⟩)
              go_upto_region 9 with fail
              rw [HWZ.out.1, HWZ.out.2]
              go_wp2_with (first
                | (go_at_call 10; refine (HEL.out _ HBA.out).mono ?_; rintro r wB ⟨rfl, hbB⟩; have TB := Lib.hid (TA.out.call hbB); have bB := BA.out.call hbB; have ccB := Blk.get2 bB; have BB := Lib.hid bB; have HBB := Lib.hid (bl_then HBA.out hbB); clear hbB bB)
                | (at_builtin; refine ap ei52 rfl (.tmp 67) (.tmp 69) rfl w1.heap.size u14 i rv0 rfl T0H.out.o1 1 1 [.string y.isin, .int .i64 y.q] rfl rfl (by simp [Value.oneCell']) (by simp only [maxLen]; omega) (by omega) HB0.out.size ?_; intro v1 wA ho hg hat; have TA := Lib.hid (T0H.out.grow1 ho hg hat); have bA := BX0.out.grown hg FAR.out.1; have ccA := Blk.get2 bA; have BA := Lib.hid bA; have HBA := Lib.hid (bl_grown HB0.out hg T0H.out.o1 (Nat.le_refl _) HB0.out.size); clear ho hg hat bA)
                | (at_builtin; refine ap ei52 rfl (.tmp 77) (.tmp 79) rfl w1.heap.size u15 gd0.length (fl gd0) rfl TB.out.o2 1 1 [.string y.isin, .int .i64 y.q] rfl rfl (by simp [Value.oneCell']) (by simp only [maxLen]; omega) (by omega) HBB.out.size ?_; intro v2 wC ho hg hat; have TC := Lib.hid (TB.out.grow2 ho hg hat); have bC := BB.out.grown hg FAR.out.2.1; have ccC := Blk.get2 bC; have BC := Lib.hid bC; have HBC := Lib.hid (bl_grown HBB.out hg TB.out.o2 (Nat.le_refl _) HBB.out.size); clear ho hg hat bC)
                | (at_builtin; refine ap ei52 rfl (.tmp 89) (.tmp 91) rfl w1.heap.size u16 pt0.length (fl pt0) rfl TC.out.o3 1 1 [.string y.isin, .int .i64 y.q] rfl rfl (by simp [Value.oneCell']) (by simp only [maxLen]; omega) (by omega) HBC.out.size ?_; intro v3 wD ho hg hat; have TD := Lib.hid (TC.out.grow3 ho hg hat); have HBD := Lib.hid (bl_grown HBC.out hg TC.out.o3 (Nat.le_refl _) HBC.out.size); clear ho hg hat))
              exact ⟨⟨i + 1, by omega, by go_num, by rw [HG.out.1, HG.out.2.1, HG.out.2.2, F2.out.1, F2.out.2, F3.out.1, F3.out.2, E1.out, fl_one]; exact TD.out, HBD.out⟩, by simp [intOf]; omega⟩
            · by_cases q1 : 1000000000000000 < y.q
              · have F2 := Lib.hid (show gd.length = gd0.length + 1 ∧ fl gd = fl gd0 ++ [.string y.isin, .int .i64 y.q] from ⟨by rw [E2.out]; simp, by rw [E2.out, if_pos rfl, fl_app, fl_one]⟩)
                have p0 : decide (y.q < 0) = false := decide_eq_false q0
                have p1 : decide (1000000000000000 < y.q) = true := decide_eq_true q1
                have F3 := Lib.hid (show pt.length = pt0.length + 1 ∧ fl pt = fl pt0 ++ [.string y.isin, .int .i64 y.q] from ⟨by rw [E3.out]; unfold splitP; rw [if_pos (.inr q1)]; simp, by rw [E3.out]; unfold splitP; rw [if_pos (.inr q1), fl_app, fl_one]⟩)
                go_upto_region 9 with fail
                rw [HWZ.out.1, HWZ.out.2]
                go_wp2_with (first
                  | (go_at_call 10; refine (HEL.out _ HBA.out).mono ?_; rintro r wB ⟨rfl, hbB⟩; have TB := Lib.hid (TA.out.call hbB); have bB := BA.out.call hbB; have ccB := Blk.get2 bB; have BB := Lib.hid bB; have HBB := Lib.hid (bl_then HBA.out hbB); clear hbB bB)
                  | (at_builtin; refine ap ei52 rfl (.tmp 67) (.tmp 69) rfl w1.heap.size u14 i rv0 rfl T0H.out.o1 1 1 [.string y.isin, .int .i64 y.q] rfl rfl (by simp [Value.oneCell']) (by simp only [maxLen]; omega) (by omega) HB0.out.size ?_; intro v1 wA ho hg hat; have TA := Lib.hid (T0H.out.grow1 ho hg hat); have bA := BX0.out.grown hg FAR.out.1; have ccA := Blk.get2 bA; have BA := Lib.hid bA; have HBA := Lib.hid (bl_grown HB0.out hg T0H.out.o1 (Nat.le_refl _) HB0.out.size); clear ho hg hat bA)
                  | (at_builtin; refine ap ei52 rfl (.tmp 77) (.tmp 79) rfl w1.heap.size u15 gd0.length (fl gd0) rfl TB.out.o2 1 1 [.string y.isin, .int .i64 y.q] rfl rfl (by simp [Value.oneCell']) (by simp only [maxLen]; omega) (by omega) HBB.out.size ?_; intro v2 wC ho hg hat; have TC := Lib.hid (TB.out.grow2 ho hg hat); have bC := BB.out.grown hg FAR.out.2.1; have ccC := Blk.get2 bC; have BC := Lib.hid bC; have HBC := Lib.hid (bl_grown HBB.out hg TB.out.o2 (Nat.le_refl _) HBB.out.size); clear ho hg hat bC)
                  | (at_builtin; refine ap ei52 rfl (.tmp 89) (.tmp 91) rfl w1.heap.size u16 pt0.length (fl pt0) rfl TC.out.o3 1 1 [.string y.isin, .int .i64 y.q] rfl rfl (by simp [Value.oneCell']) (by simp only [maxLen]; omega) (by omega) HBC.out.size ?_; intro v3 wD ho hg hat; have TD := Lib.hid (TC.out.grow3 ho hg hat); have HBD := Lib.hid (bl_grown HBC.out hg TC.out.o3 (Nat.le_refl _) HBC.out.size); clear ho hg hat))
                exact ⟨⟨i + 1, by omega, by go_num, by rw [HG.out.1, HG.out.2.1, HG.out.2.2, F2.out.1, F2.out.2, F3.out.1, F3.out.2, E1.out, fl_one]; exact TD.out, HBD.out⟩, by simp [intOf]; omega⟩
              · by_cases q2 : 1000000 < y.q
                · have F2 := Lib.hid (show gd.length = gd0.length + 1 ∧ fl gd = fl gd0 ++ [.string y.isin, .int .i64 y.q] from ⟨by rw [E2.out]; simp, by rw [E2.out, if_pos rfl, fl_app, fl_one]⟩)
                  have p0 : decide (y.q < 0) = false := decide_eq_false q0
                  have p1 : decide (1000000000000000 < y.q) = false := decide_eq_false q1
                  have p2 : decide (1000000 < y.q) = true := decide_eq_true q2
                  obtain ⟨nn, hnn⟩ : ∃ n, n = cutN y.q (cut % 10) := ⟨_, rfl⟩
                  have F3 := Lib.hid (show pt.length = pt0.length + 2 ∧ fl pt = fl pt0 ++ [.string y.isin, .int .i64 nn, .string y.isin, .int .i64 (y.q - nn)] from ⟨by rw [E3.out]; unfold splitP; rw [if_neg (by omega)]; simp, by rw [E3.out]; unfold splitP; rw [if_neg (by omega), fl_app, fl_two, hnn]⟩)
                  obtain ⟨w0, w2⟩ := cut_wrap y.q (cut % 10) (by omega) (by omega) (by omega) (by omega)
                  rw [← hnn] at w2
                  have w1' := cut_big y.q (cut % 10) (by omega) (by omega) (by omega) (by omega)
                  rw [← hnn] at w1'
                  clear hnn w0
                  go_upto_region 9 with fail
                  rw [HWZ.out.1, HWZ.out.2]
                  go_wp2_with (first
                    | (go_at_call 10; refine (HEL.out _ HBA.out).mono ?_; rintro r wB ⟨rfl, hbB⟩; have TB := Lib.hid (TA.out.call hbB); have bB := BA.out.call hbB; have ccB := Blk.get2 bB; have BB := Lib.hid bB; have HBB := Lib.hid (bl_then HBA.out hbB); clear hbB bB)
                    | (at_builtin; refine ap ei52 rfl (.tmp 67) (.tmp 69) rfl w1.heap.size u14 i rv0 rfl T0H.out.o1 1 1 [.string y.isin, .int .i64 y.q] rfl rfl (by simp [Value.oneCell']) (by simp only [maxLen]; omega) (by omega) HB0.out.size ?_; intro v1 wA ho hg hat; have TA := Lib.hid (T0H.out.grow1 ho hg hat); have bA := BX0.out.grown hg FAR.out.1; have ccA := Blk.get2 bA; have BA := Lib.hid bA; have HBA := Lib.hid (bl_grown HB0.out hg T0H.out.o1 (Nat.le_refl _) HB0.out.size); clear ho hg hat bA)
                    | (at_builtin; refine ap ei52 rfl (.tmp 77) (.tmp 79) rfl w1.heap.size u15 gd0.length (fl gd0) rfl TB.out.o2 1 1 [.string y.isin, .int .i64 y.q] rfl rfl (by simp [Value.oneCell']) (by simp only [maxLen]; omega) (by omega) HBB.out.size ?_; intro v2 wC ho hg hat; have TC := Lib.hid (TB.out.grow2 ho hg hat); have bC := BB.out.grown hg FAR.out.2.1; have ccC := Blk.get2 bC; have BC := Lib.hid bC; have HBC := Lib.hid (bl_grown HBB.out hg TB.out.o2 (Nat.le_refl _) HBB.out.size); clear ho hg hat bC)
                    | (at_builtin; refine ap ei52 rfl (.tmp 110) (.tmp 122) rfl w1.heap.size u16 pt0.length (fl pt0) rfl TC.out.o3 2 2 [.string y.isin, .int .i64 nn, .string y.isin, .int .i64 (y.q - nn)] rfl rfl (by simp [Value.oneCell']) (by simp only [maxLen]; omega) (by omega) HBC.out.size ?_; intro v3 wD ho hg hat; have TD := Lib.hid (TC.out.grow3 ho hg hat); have HBD := Lib.hid (bl_grown HBC.out hg TC.out.o3 (Nat.le_refl _) HBC.out.size); clear ho hg hat))
                  exact ⟨⟨i + 1, by omega, by go_num, by rw [HG.out.1, HG.out.2.1, HG.out.2.2, F2.out.1, F2.out.2, F3.out.1, F3.out.2, E1.out, fl_one]; exact TD.out, HBD.out⟩, by simp [intOf]; omega⟩
                · have F2 := Lib.hid (show gd.length = gd0.length + 1 ∧ fl gd = fl gd0 ++ [.string y.isin, .int .i64 y.q] from ⟨by rw [E2.out]; simp, by rw [E2.out, if_pos rfl, fl_app, fl_one]⟩)
                  have p0 : decide (y.q < 0) = false := decide_eq_false q0
                  have p1 : decide (1000000000000000 < y.q) = false := decide_eq_false q1
                  have p2 : decide (1000000 < y.q) = false := decide_eq_false q2
                  obtain ⟨nn, hnn⟩ : ∃ n, n = cutN y.q (cut % 10) := ⟨_, rfl⟩
                  have F3 := Lib.hid (show pt.length = pt0.length + 2 ∧ fl pt = fl pt0 ++ [.string y.isin, .int .i64 nn, .string y.isin, .int .i64 (y.q - nn)] from ⟨by rw [E3.out]; unfold splitP; rw [if_neg (by omega)]; simp, by rw [E3.out]; unfold splitP; rw [if_neg (by omega), fl_app, fl_two, hnn]⟩)
                  obtain ⟨w0, w2⟩ := cut_wrap y.q (cut % 10) (by omega) (by omega) (by omega) (by omega)
                  rw [← hnn] at w2
                  have w1' := cut_small y.q (cut % 10) (by omega) (by omega) (by omega) (by omega)
                  rw [← hnn] at w1'
                  clear hnn w0
                  go_upto_region 9 with fail
                  rw [HWZ.out.1, HWZ.out.2]
                  go_wp2_with (first
                    | (go_at_call 10; refine (HEL.out _ HBA.out).mono ?_; rintro r wB ⟨rfl, hbB⟩; have TB := Lib.hid (TA.out.call hbB); have bB := BA.out.call hbB; have ccB := Blk.get2 bB; have BB := Lib.hid bB; have HBB := Lib.hid (bl_then HBA.out hbB); clear hbB bB)
                    | (at_builtin; refine ap ei52 rfl (.tmp 67) (.tmp 69) rfl w1.heap.size u14 i rv0 rfl T0H.out.o1 1 1 [.string y.isin, .int .i64 y.q] rfl rfl (by simp [Value.oneCell']) (by simp only [maxLen]; omega) (by omega) HB0.out.size ?_; intro v1 wA ho hg hat; have TA := Lib.hid (T0H.out.grow1 ho hg hat); have bA := BX0.out.grown hg FAR.out.1; have ccA := Blk.get2 bA; have BA := Lib.hid bA; have HBA := Lib.hid (bl_grown HB0.out hg T0H.out.o1 (Nat.le_refl _) HB0.out.size); clear ho hg hat bA)
                    | (at_builtin; refine ap ei52 rfl (.tmp 77) (.tmp 79) rfl w1.heap.size u15 gd0.length (fl gd0) rfl TB.out.o2 1 1 [.string y.isin, .int .i64 y.q] rfl rfl (by simp [Value.oneCell']) (by simp only [maxLen]; omega) (by omega) HBB.out.size ?_; intro v2 wC ho hg hat; have TC := Lib.hid (TB.out.grow2 ho hg hat); have bC := BB.out.grown hg FAR.out.2.1; have ccC := Blk.get2 bC; have BC := Lib.hid bC; have HBC := Lib.hid (bl_grown HBB.out hg TB.out.o2 (Nat.le_refl _) HBB.out.size); clear ho hg hat bC)
                    | (at_builtin; refine ap ei52 rfl (.tmp 110) (.tmp 122) rfl w1.heap.size u16 pt0.length (fl pt0) rfl TC.out.o3 2 2 [.string y.isin, .int .i64 nn, .string y.isin, .int .i64 (y.q - nn)] rfl rfl (by simp [Value.oneCell']) (by simp only [maxLen]; omega) (by omega) HBC.out.size ?_; intro v3 wD ho hg hat; have TD := Lib.hid (TC.out.grow3 ho hg hat); have HBD := Lib.hid (bl_grown HBC.out hg TC.out.o3 (Nat.le_refl _) HBC.out.size); clear ho hg hat))
                  exact ⟨⟨i + 1, by omega, by go_num, by rw [HG.out.1, HG.out.2.1, HG.out.2.2, F2.out.1, F2.out.2, F3.out.1, F3.out.2, E1.out, fl_one]; exact TD.out, HBD.out⟩, by simp [intOf]; omega⟩
        · obtain rfl : ps.length = i := by omega
          have hrt : ps.reverse.take ps.length = ps.reverse := List.take_of_length_le (by rw [HRL.out]; exact Nat.le_refl _)
          rw [hrt] at T
          clear hrt hlt hi
          have hgl : (ps.reverse.filter (eligP L d mem)).length ≤ ps.length := Nat.le_trans (List.length_filter_le ..) (by rw [HRL.out]; exact Nat.le_refl _)
          have hpl : (ps.reverse.flatMap (splitP (cut % 10))).length ≤ 2 * ps.length := Nat.le_trans (parts_len _ _) (by rw [HRL.out]; exact Nat.le_refl _)
          obtain ⟨B6, k6, rfl, g1, g2, g3⟩ := Sl.of_own (rows := ps.reverse.map P2.cells) T.o1 (p2_row _) (by omega) (by rw [List.length_map, HRL.out])
          obtain ⟨B7, k7, rfl, g4, g5, g6⟩ := Sl.of_own (rows := (ps.reverse.filter (eligP L d mem)).map P2.cells) T.o2 (p2_row _) (by omega) (by rw [List.length_map])
          obtain ⟨B8, k8, rfl, g7, g8, g9⟩ := Sl.of_own (rows := (ps.reverse.flatMap (splitP (cut % 10))).map P2.cells) T.o3 (p2_row _) (by omega) (by rw [List.length_map])
          have hkr : ∀ p ∈ ps.reverse, p.isin.size ≤ maxLen := fun p hp => HKS.out p (List.mem_reverse.1 hp)
          have hpf := fun (Bx : Option Addr) (qs : List P2) (cc : Nat) (W : World) (hb : Below w1.heap.size w1 W) (hS : SlP W Bx qs) (h1 : qs.length ≤ cc) (h2 : cc ≤ 9223372036854775807) (h3 : qs.length ≤ 100) (h4 : ∀ p ∈ qs, p.isin.size ≤ maxLen) => portfolio18 vb tb m0 m1 m2 m3 30 L d mem Bx qs cc W (MH.out.val.call hb) MH.out.inv MH.out.good hkm hS h1 h2 h3 h4
          have hPA := fun (Bx : Option Addr) (cc : Nat) (W : World) (hb : Below wr.heap.size wr W) (hS : SlP W Bx ps) (h1 : ps.length ≤ cc) (h2 : cc ≤ 9223372036854775807) => hpf Bx ps cc W (bl_then hbl hb) hS h1 h2 (by omega) HKS.out
          have hPB := fun (W : World) (hb : Below wr.heap.size wr W) => hpf B6 ps.reverse k6 W (bl_then hbl hb) (SlP.call g3 hb) (by rw [HRL.out]; exact g1) g2 (by rw [HRL.out]; omega) hkr
          have hPC := fun (W : World) (hb : Below wr.heap.size wr W) => hpf B7 (ps.reverse.filter (eligP L d mem)) k7 W (bl_then hbl hb) (SlP.call g6 hb) g4 g5 (by omega) (fun p hp => hkr p (List.mem_filter.1 hp).1)
          have hPD := fun (W : World) (hb : Below wr.heap.size wr W) => hpf B8 (ps.reverse.flatMap (splitP (cut % 10))) k8 W (bl_then hbl hb) (SlP.call g9 hb) g7 g8 (by omega) (parts_key _ _ hkr)
          rw [HRL.out, pfN_rev, pfE_rev] at hPB
          rw [pfN_good, pfE_good] at hPC
          have hlaw := fun (h1 : pfE L d mem ps = 0) (h2 : pfE L d mem (ps.reverse.flatMap (splitP (cut % 10))) = 0) (h3 : ∀ p ∈ ps, worthE L d mem p.isin p.q ≠ 12) => order_pf L d mem (cut % 10) (by omega) (by omega) ps h1 h2 h3
          have hdb := pfN_bd L d mem (ps.reverse.flatMap (splitP (cut % 10)))
          have hab := pfN_bd L d mem ps
          generalize pfN L d mem ps = aN at *
          generalize pfE L d mem ps = aE at *
          generalize pfN L d mem (ps.reverse.flatMap (splitP (cut % 10))) = dN at *
          generalize pfE L d mem (ps.reverse.flatMap (splitP (cut % 10))) = dE at *
          generalize (ps.reverse.flatMap (splitP (cut % 10))).length = pl at *
          generalize (ps.reverse.filter (eligP L d mem)).length = gl at *
          have hnn : (aN != aN) = false := by simp
          have hee : (aE != aE) = false := by simp
          have PA := Lib.hid hPA
          have PB := Lib.hid hPB
          have PC := Lib.hid hPC
          have PD := Lib.hid hPD
          have HLAW := Lib.hid hlaw
          have HBL := Lib.hid hbl
          have hv := fun (y : P2) (hy : y ∈ ps) (W : World) (hb : Below wr.heap.size wr W) => value12 vb tb m0 m1 m2 m3 30 L d mem y.isin y.q W (MH.out.val.call (bl_then hbl hb)) MH.out.inv MH.out.good hkm (HKS.out y hy)
          have HV := Lib.hid hv
          clear hpf hPA hPB hPC hPD hlaw hbl T g3 g6 g9 hkr hv
          cases hz1 : (aE != 0)
          · have HZ1 := Lib.hid (show aE = 0 by simpa using hz1)
            cases hz2 : (dE != 0)
            · have HZ2 := Lib.hid (show dE = 0 by simpa using hz2)
              go_wp2_with (first
              | (go_at_call 18; refine (PD.out _ hz5).mono ?_; rintro r w6 ⟨⟨A8, n8, c8, rfl, f1, f2, f3, f4⟩, hb⟩; have hz6 := bl_then hz5 hb; clear hb; obtain ⟨rfl, -⟩ := f3 HZ2.out; clear f4)
              | (go_at_call 18; refine (PC.out _ hz4).mono ?_; rintro r w5 ⟨⟨A7, n7, c7, rfl, f1, f2, f3, f4⟩, hb⟩; have hz5 := bl_then hz4 hb; clear hb; clear f3 f4)
              | (go_at_call 18; refine (PB.out _ hz3).mono ?_; rintro r w4 ⟨⟨A6, n6, c6, rfl, f1, f2, f3, f4⟩, hb⟩; have hz4 := bl_then hz3 hb; clear hb; clear f3 f4)
              | (go_at_call 18; refine (PA.out A3 c3 _ hz2 S3.out e1 e2).mono ?_; rintro r w3 ⟨⟨A4, n4, c4, rfl, f1, f2, f3, f4⟩, hb⟩; have hz3 := bl_then hz2 hb; clear hb; clear f3 f4)
              | (go_at_call 19; refine (positions19 A2 ps c2 hl2 hc22 (by omega) _ (SlP.call HP.out (bl_then MH.out.bl HBL.out))).mono ?_; rintro r w2 ⟨⟨A3, c3, rfl, e1, e2, s3⟩, hb2⟩; have S3 := Lib.hid s3; have hz2 := hb2; clear s3 hb2))
              go_loopw [32] (fun v32 wq => ∃ i : Nat, i ≤ ps.length ∧ v32 = .int .i64 i ∧ (∀ (j : Nat) (hj : j < ps.length), j < i → worthE L d mem ps[j].isin ps[j].q ≠ 12) ∧ Below w6.heap.size w6 wq) (fun v32 _ => ps.length - (intOf v32).toNat)
              case atStart => exact ⟨0, Nat.zero_le _, rfl, fun j _ h => absurd h (Nat.not_lt_zero _), Below.refl _ _⟩
              case round =>
                obtain ⟨i, hi, rfl, hno, hbq⟩ := hrel
                have HNO := Lib.hid hno
                clear hno
                have hzq := bl_then hz6 hbq
                by_cases hlt : i < ps.length
                · have hw := HV.out ps[i] (List.getElem_mem hlt) _ hzq
                  obtain ⟨ad, hA2, hadb, c0, c1⟩ := (SlP.call HP.out (bl_then MH.out.bl (bl_then HBL.out hzq))).get hlt
                  subst hA2
                  have hnx : worthE L d mem ps[i].isin ps[i].q ≠ 12 → ∀ (j : Nat) (hj : j < ps.length), j < i + 1 → worthE L d mem ps[j].isin ps[j].q ≠ 12 := fun h j hj hji => by
                    rcases Nat.lt_or_ge j i with h1 | h1
                    · exact HNO.out j hj h1
                    · have : j = i := by omega
                      subst this
                      exact h
                  generalize worthE L d mem ps[i].isin ps[i].q = ye at *
                  generalize worthN L d mem ps[i].isin ps[i].q = yn at *
                  generalize ps[i] = y at *
                  have HW := Lib.hid hw
                  have HNX := Lib.hid hnx
                  clear hw hnx
                  cases h12 : (ye == 12)
                  · go_wp2_with (go_at_call 12; refine HW.out.mono ?_; rintro r w7 ⟨rfl, hb7⟩)
                    exact ⟨⟨i + 1, by omega, by go_num, HNX.out (by simpa using h12), bl_then hbq hb7⟩, by simp [intOf]; omega⟩
                  · go_wp2_with (first
                      | (go_at_call 9; refine (HKN.out _).mono ?_; rintro r w9 ⟨rfl, hb9⟩)
                      | (go_at_call 12; refine HW.out.mono ?_; rintro r w7 ⟨rfl, hb7⟩))
                    go_ret
                    exact ⟨rfl, bl_then MH.out.bl (bl_then HBL.out (bl_then (bl_then hzq hb7) hb9))⟩
                · obtain rfl : ps.length = i := by omega
                  obtain ⟨hle1, hle2⟩ := HLAW.out HZ1.out HZ2.out (fun p hp => by
                    obtain ⟨j, hj, rfl⟩ := List.mem_iff_getElem.1 hp
                    exact HNO.out j hj hj)
                  obtain ⟨d0, d1⟩ := hdb
                  go_wp2_with (go_at_call 9; refine (HKN.out _).mono ?_; rintro r w9 ⟨rfl, hb9⟩)
                  go_ret
                  exact ⟨rfl, bl_then MH.out.bl (bl_then HBL.out (bl_then hzq hb9))⟩
            · go_wp2_with (first
              | (go_at_call 9; refine (HKN.out _).mono ?_; rintro r w9 ⟨rfl, hb9⟩)
              | (go_at_call 18; refine (PD.out _ hz5).mono ?_; rintro r w6 ⟨⟨A8, n8, c8, rfl, f1, f2, f3, f4⟩, hb⟩; have hz6 := bl_then hz5 hb; clear hb; clear f3 f4)
              | (go_at_call 18; refine (PC.out _ hz4).mono ?_; rintro r w5 ⟨⟨A7, n7, c7, rfl, f1, f2, f3, f4⟩, hb⟩; have hz5 := bl_then hz4 hb; clear hb; clear f3 f4)
              | (go_at_call 18; refine (PB.out _ hz3).mono ?_; rintro r w4 ⟨⟨A6, n6, c6, rfl, f1, f2, f3, f4⟩, hb⟩; have hz4 := bl_then hz3 hb; clear hb; clear f3 f4)
              | (go_at_call 18; refine (PA.out A3 c3 _ hz2 S3.out e1 e2).mono ?_; rintro r w3 ⟨⟨A4, n4, c4, rfl, f1, f2, f3, f4⟩, hb⟩; have hz3 := bl_then hz2 hb; clear hb; clear f3 f4)
              | (go_at_call 19; refine (positions19 A2 ps c2 hl2 hc22 (by omega) _ (SlP.call HP.out (bl_then MH.out.bl HBL.out))).mono ?_; rintro r w2 ⟨⟨A3, c3, rfl, e1, e2, s3⟩, hb2⟩; have S3 := Lib.hid s3; have hz2 := hb2; clear s3 hb2))
              go_ret
              exact ⟨rfl, bl_then MH.out.bl (bl_then HBL.out (bl_then hz6 hb9))⟩
          · go_wp2_with (first
            | (go_at_call 9; refine (HKN.out _).mono ?_; rintro r w9 ⟨rfl, hb9⟩)
            | (go_at_call 18; refine (PD.out _ hz5).mono ?_; rintro r w6 ⟨⟨A8, n8, c8, rfl, f1, f2, f3, f4⟩, hb⟩; have hz6 := bl_then hz5 hb; clear hb; clear f3 f4)
            | (go_at_call 18; refine (PC.out _ hz4).mono ?_; rintro r w5 ⟨⟨A7, n7, c7, rfl, f1, f2, f3, f4⟩, hb⟩; have hz5 := bl_then hz4 hb; clear hb; clear f3 f4)
            | (go_at_call 18; refine (PB.out _ hz3).mono ?_; rintro r w4 ⟨⟨A6, n6, c6, rfl, f1, f2, f3, f4⟩, hb⟩; have hz4 := bl_then hz3 hb; clear hb; clear f3 f4)
            | (go_at_call 18; refine (PA.out A3 c3 _ hz2 S3.out e1 e2).mono ?_; rintro r w3 ⟨⟨A4, n4, c4, rfl, f1, f2, f3, f4⟩, hb⟩; have hz3 := bl_then hz2 hb; clear hb; clear f3 f4)
            | (go_at_call 19; refine (positions19 A2 ps c2 hl2 hc22 (by omega) _ (SlP.call HP.out (bl_then MH.out.bl HBL.out))).mono ?_; rintro r w2 ⟨⟨A3, c3, rfl, e1, e2, s3⟩, hb2⟩; have S3 := Lib.hid s3; have hz2 := hb2; clear s3 hb2))
            go_ret
            exact ⟨rfl, bl_then MH.out.bl (bl_then HBL.out (bl_then hz6 hb9))⟩
    · go_enter Tryz.func6, Tryz.ntmps6
      go_wp2_with (first
        | (go_at_call 8; refine HM.out.mono ?_; rintro r w1 ⟨vb, tb, m0, m1, m2, m3, A5, c5, rfl, M⟩; have MH := Lib.hid M; clear M)
        | (go_at_call 9; refine (HKN.out _).mono ?_; rintro r w2 ⟨rfl, hb2⟩))
      go_ret
      exact ⟨rfl, bl_then MH.out.bl hb2⟩
end Go.Proofs.YtongoicadcmfaaaGreatDoor.V
