/- Proved: girolaw33.ValuationPosition returns true for every input, and every argument reads behind the call as it read before. No condition. -/
import Derived.Test.YtongoicadcmfaaaGreatDoorEligible
import Derived.Test.YtongoicadcmfaaaGreatDoorVLaw4
set_option linter.unusedSimpArgs false
set_option linter.unusedVariables false
namespace Go.Proofs.YtongoicadcmfaaaGreatDoor.LawPosition
open Go.ChangeShapes Go.WideShapes Go.ChangeAt Go.RowKit V

theorem own : ownKnob Tryz.prog.godebug = none := by kernel_rfl
theorem laidOut : laidOutB Tryz.prog = true := by kernel_rfl

set_option maxRecDepth 100000 in
theorem contract (H : Type) (enc : TypeId × Value → H) (W : World) (base : Nat) (args : Array Value) (ds gs : List (DataW H)) (before : List MemPlace)
    (hval : ∀ (j : Nat) t v, Tryz.f4.params[j]? = some t → args[j]? = some v → Value.okWide Tryz.prog W .any base t v)
    (hW : DataW.Whole enc Tryz.prog Tryz.f4.params.toList Rows.valuationPositionSpec.vars false W args.toList ds gs before) :
    Calls Tryz.prog 4 args W fun e W' => ∃ v, e = .returned v ∧ Rows.valuationPositionSpec.post enc Tryz.prog Tryz.f4 false true false false W args v W' := by
  have hW' := hW
  obtain ⟨p, q, hA0, hV, rfl, hfz, hnd⟩ := hW
  have hA : DataW.TrodAll enc Tryz.prog W 0 (fun _ => true) true Tryz.f4.params.toList args.toList ds p := hA0
  rw [Tryz.params4] at hA hval
  obtain ⟨v0, vs0, d0, ds0, p0, q0, hargs, rfl, rfl, h0, r0⟩ := trodAll_cons hA
  obtain ⟨v1, vs1, d1, ds1, p1, q1, rfl, rfl, rfl, h1, r1⟩ := trodAll_cons r0
  obtain ⟨v2, vs2, d2, ds2, p2, q2, rfl, rfl, rfl, h2, r2⟩ := trodAll_cons r1
  obtain ⟨v3, vs3, d3, ds3, p3, q3, rfl, rfl, rfl, h3, r3⟩ := trodAll_cons r2
  obtain ⟨v4, vs4, d4, ds4, p4, q4, rfl, rfl, rfl, h4, r4⟩ := trodAll_cons r3
  obtain ⟨rfl, rfl, rfl⟩ := trodAll_nil r4
  obtain rfl : args = #[v0, v1, v2, v3, v4] := by cases args; simp_all
  obtain ⟨rfl, rfl⟩ := trodVars_none hV
  have t0 := h0
  have t1 := h1
  have t2 := h2
  have t3 := h3
  have t4 := h4
  obtain ⟨fu, h0⟩ := h0
  have hv0 : ∃ (A : Option Addr) (xs : List E) (cap : Nat), v0 = .slice A xs.length cap ∧ xs.length ≤ cap ∧ cap ≤ maxLen ∧ SlE W A xs ∧ ∀ e ∈ xs, OkE e := by
    obtain ⟨A, xs, cap, hc, k1, k2, k3, k4⟩ := open_SE h0
    obtain ⟨a', len', cap', rfl⟩ := okWide_slice Tryz.underlying22 (hval 0 22 v0 rfl rfl)
    have hc' : [Value.slice a' len' cap'] = [.slice A xs.length cap] := hc
    injection hc' with hc'
    exact ⟨A, xs, cap, hc', k1, k2, k3, k4⟩
  obtain ⟨A, xs, cap, rfl, k1, k2, k3, k4⟩ := hv0
  obtain ⟨d, rfl, -⟩ := open_int Tryz.underlying3 (hval 1 3 v1 rfl rfl) h1
  obtain ⟨mem, rfl, -, -, hm⟩ := Go.ChangeMaps.open_string Tryz.underlying9 (hval 2 9 v2 rfl rfl) h2
  have hv3 : ∃ (isin : ByteArray) (q : Int), v3 = .agg #[.string isin, .int .i64 q] ∧ isin.size ≤ maxLen := by
    obtain ⟨cs, rfl, hsz⟩ := okWide_struct Tryz.underlying37 (hval 3 37 v3 rfl rfl)
    obtain ⟨l⟩ := cs
    obtain ⟨fu3, hf3⟩ := h3
    obtain ⟨ys, n1, _, _, hlen, _, hf⟩ := DataW.trod_struct Tryz.underlying37 hf3
    have hC : Tryz.prog.cellsOf 37 = 2 := by kernel_rfl
    have h9 : Tryz.prog.cellsOf 9 = 1 := by kernel_rfl
    have h2 : Tryz.prog.cellsOf 2 = 1 := by kernel_rfl
    match l, hsz.trans hC with
    | [c0, c1], _ =>
      have hy : ys.length = 2 := by assumption
      have g0 : DataW.trod enc Tryz.prog W 0 (fun _ => true) true n1 9 [c0] = ys[0]? := by
        have this : DataW.trod enc Tryz.prog W 0 (fun _ => true) true n1 9 (([c0, c1].drop 0).take (Tryz.prog.cellsOf 9)) = ys[0]? := hf 0 _ rfl
        rw [h9] at this
        exact this
      have g1 : DataW.trod enc Tryz.prog W 0 (fun _ => true) true n1 2 [c1] = ys[1]? := by
        have this : DataW.trod enc Tryz.prog W 0 (fun _ => true) true n1 2 (([c0, c1].drop 1).take (Tryz.prog.cellsOf 2)) = ys[1]? := hf 1 _ rfl
        rw [h2] at this
        exact this
      obtain ⟨s, e0, _, hs⟩ := DataW.trod_string Tryz.underlying9 (g0.trans (List.getElem?_eq_getElem (by omega)))
      obtain ⟨q, e1, _, _⟩ := DataW.trod_int Tryz.underlying2 (g1.trans (List.getElem?_eq_getElem (by omega)))
      injection e0 with e0
      injection e1 with e1
      subst e0 e1
      exact ⟨s, q, rfl, hs⟩
  obtain ⟨isin, q, rfl, hn⟩ := hv3
  obtain ⟨am, rfl, -⟩ := open_int Tryz.underlying2 (hval 4 2 v4 rfl rfl) h4
  clear hA0
  simp only [List.append_nil] at hW'
  have hlt := fun x hx => hW'.lt x hx
  refine (law4 A xs cap d mem isin q am k1 (by simpa [maxLen] using k2) k4 hm hn W k3).mono fun e W' ⟨he, hb⟩ => ?_
  subst he
  exact ⟨_, rfl, post_new rfl hW' (fun _ _ _ => trodAll_cons_mk (shut_bool Tryz.underlying4 _) trodAll_mk0)
    (fun sp hsp => by
      have hall := trodAll_cons_mk (reads_on laidOut (by kernel_rfl) (of_decide_eq_true (by kernel_rfl)) t0 hb hlt (fun x hx => by simp [hx]) sp hsp) (trodAll_cons_mk (reads_on laidOut (by kernel_rfl) (of_decide_eq_true (by kernel_rfl)) t1 hb hlt (fun x hx => by simp [hx]) sp hsp) (trodAll_cons_mk (reads_on laidOut (by kernel_rfl) (of_decide_eq_true (by kernel_rfl)) t2 hb hlt (fun x hx => by simp [hx]) sp hsp) (trodAll_cons_mk (reads_on laidOut (by kernel_rfl) (of_decide_eq_true (by kernel_rfl)) t3 hb hlt (fun x hx => by simp [hx]) sp hsp) (trodAll_cons_mk (reads_on laidOut (by kernel_rfl) (of_decide_eq_true (by kernel_rfl)) t4 hb hlt (fun x hx => by simp [hx]) sp hsp) (trodAll_mk0 (enc := enc) (P := Tryz.prog) (w := W') (base := 0) (spare := sp) (held := true))))))
      simp only [List.append_nil] at hall
      exact hall)
    (fun _ => rfl) hb (ok_one (by kernel_rfl) rfl (okWide_bool_mk Tryz.underlying4 _))⟩

/-- A row of cells for another. -/
def laidCells (cs : Array Value) : Obj → Obj
  | .cells _ t frozen => .cells cs t frozen
  | o => o
/-- A world for the witness: the settled one, the three tables holding what their initialisers lay. -/
noncomputable def laidWorld (os : Os) : World :=
  { World.holding Tryz.prog os ⟨#[], #[], []⟩ with heap := (((World.holding Tryz.prog os ⟨#[], #[], []⟩).heap.modify 2 (laidCells #[.int .u64 1, .int .u64 10, .int .u64 100, .int .u64 1000, .int .u64 10000, .int .u64 100000, .int .u64 1000000, .int .u64 10000000, .int .u64 100000000, .int .u64 1000000000, .int .u64 10000000000, .int .u64 100000000000, .int .u64 1000000000000, .int .u64 10000000000000, .int .u64 100000000000000, .int .u64 1000000000000000, .int .u64 10000000000000000, .int .u64 100000000000000000, .int .u64 1000000000000000000, .int .u64 10000000000000000000])).modify 3 (laidCells #[.int .u8 0, .int .u8 1, .int .u8 28, .int .u8 2, .int .u8 29, .int .u8 14, .int .u8 24, .int .u8 3, .int .u8 30, .int .u8 22, .int .u8 20, .int .u8 15, .int .u8 25, .int .u8 17, .int .u8 4, .int .u8 8, .int .u8 31, .int .u8 27, .int .u8 13, .int .u8 23, .int .u8 21, .int .u8 19, .int .u8 16, .int .u8 7, .int .u8 26, .int .u8 12, .int .u8 18, .int .u8 6, .int .u8 11, .int .u8 5, .int .u8 10, .int .u8 9])).modify 4 (laidCells #[.int .u8 0, .int .u8 1, .int .u8 56, .int .u8 2, .int .u8 57, .int .u8 49, .int .u8 28, .int .u8 3, .int .u8 61, .int .u8 58, .int .u8 42, .int .u8 50, .int .u8 38, .int .u8 29, .int .u8 17, .int .u8 4, .int .u8 62, .int .u8 47, .int .u8 59, .int .u8 36, .int .u8 45, .int .u8 43, .int .u8 51, .int .u8 22, .int .u8 53, .int .u8 39, .int .u8 33, .int .u8 30, .int .u8 24, .int .u8 18, .int .u8 12, .int .u8 5, .int .u8 63, .int .u8 55, .int .u8 48, .int .u8 27, .int .u8 60, .int .u8 41, .int .u8 37, .int .u8 16, .int .u8 46, .int .u8 35, .int .u8 44, .int .u8 21, .int .u8 52, .int .u8 32, .int .u8 23, .int .u8 11, .int .u8 54, .int .u8 26, .int .u8 40, .int .u8 15, .int .u8 34, .int .u8 20, .int .u8 31, .int .u8 10, .int .u8 25, .int .u8 14, .int .u8 19, .int .u8 9, .int .u8 13, .int .u8 8, .int .u8 7, .int .u8 6]) }
theorem laid_met (os : Os) : laidMet Tryz.prog Rows.valuationPositionRow.laid ((laidWorld os).forCall (fun _ _ => 0) ⟨#[], #[.slice none 0 0, .int .i64 0, .string ⟨#[]⟩, .agg #[.string ⟨#[]⟩, .int .i64 0], .int .i64 0], []⟩).memory :=
  laidMet_of_run' 8 (by kernel_rfl) (by kernel_rfl)
theorem reads (os : Os) {H : Type} (enc : TypeId × Value → H) : ∃ places, DataW.whole enc Tryz.prog ((laidWorld os).forCall (fun _ _ => 0) ⟨#[], #[.slice none 0 0, .int .i64 0, .string ⟨#[]⟩, .agg #[.string ⟨#[]⟩, .int .i64 0], .int .i64 0], []⟩).memory Tryz.f4.params.toList Rows.valuationPositionSpec.vars false #[Value.slice none 0 0, Value.int .i64 0, Value.string ⟨#[]⟩, Value.agg #[.string ⟨#[]⟩, .int .i64 0], Value.int .i64 0].toList 8 = some ([.nil, .lit (.int .i64 0), .lit (.string []), .agg [.lit (.string []), .lit (.int .i64 0)], .lit (.int .i64 0)], [], places) :=
  ⟨[], by kernel_rfl⟩

set_option maxRecDepth 100000 in
theorem lifted (os : Os) (started : os.Started) (H : Type) (enc : TypeId × Value → H) (F : Stop.Interp) :
    ReturnsInHanded {} Tryz.checked os 4 .any ((OpenSpec.ofChange Rows.valuationPositionSpec).preRow enc Tryz.prog Tryz.f4 Rows.valuationPositionRow.domain false Rows.valuationPositionRow.laid) (((OpenSpec.ofChange Rows.valuationPositionSpec).at F).post enc Tryz.prog Tryz.f4 false true false false) := by
  obtain ⟨places, hx⟩ := reads os enc
  refine returnsInHanded_of_row (C := Tryz.checked) (s := OpenSpec.ofChange Rows.valuationPositionSpec) own started (by kernel_rfl) Tryz.func4
    (witness_row_at (enc := enc) (C := Tryz.checked) false (laidWorld os) #[.slice none 0 0, .int .i64 0, .string ⟨#[]⟩, .agg #[.string ⟨#[]⟩, .int .i64 0], .int .i64 0] rfl (by kernel_rfl) (by kernel_rfl) (by kernel_rfl)
      (OpenSpec.preRow_of_cond 8 hx (by kernel_rfl) (fun k hk => by cases hk) (by kernel_rfl) (laid_met os))) ?_
  intro W base args ds gs before hval hW _ _ _ hL _ _
  exact contract H enc W base args ds gs before hval hW

theorem said : Rows.ValuationPositionSaid :=
  OpenClaim.holds_of_cond 4 Tryz.f4 rfl rfl rfl rfl rfl rfl rfl ⟨rfl, rfl, rfl, rfl, rfl⟩ rfl rfl rfl rfl rfl (by kernel_rfl) Tryz.func4 (by kernel_rfl)
    (of_decide_eq_true (by kernel_rfl)) (by unfold Func.isWrapper; first | (rw [if_pos (by decide +kernel)]; kernel_rfl) | (rw [if_neg (by decide +kernel)]; exact ⟨rfl, rfl⟩))
    (fun os started H enc _ F => by rw [OpenClaim.pre_eq_preRow]; exact lifted os started H enc F)

theorem plain (f : FuncId) (fn : Func) (hf : Tryz.pinned.checked.prog.funcNamed "giro/girolaw33.ValuationPosition" = some f) (hfn : Tryz.pinned.checked.prog.funcs[f]? = some fn) :
    true = Tryz.pinned.checked.prog.looks [] ∧ ∀ (j : Nat) t, fn.params[j]? = some t → Tryz.pinned.checked.prog.wantsStandIn t = false := by
  obtain rfl : f = 4 := Option.some.inj ((show Tryz.prog.funcNamed "giro/girolaw33.ValuationPosition" = some 4 by kernel_rfl).symm.trans hf) |>.symm
  obtain rfl : fn = Tryz.f4 := (Option.some.inj (Tryz.func4.symm.trans hfn)).symm
  refine ⟨by kernel_rfl, fun j t ht => ?_⟩
  rw [Tryz.params4] at ht
  have hall : ∀ t ∈ ([22, 3, 9, 37, 2] : List TypeId), Tryz.prog.wantsStandIn t = false := by
    intro t ht
    simp only [List.mem_cons, List.mem_nil_iff, or_false] at ht
    rcases ht with rfl | rfl | rfl | rfl | rfl
    all_goals kernel_rfl
  exact hall t (by simpa using Array.mem_of_getElem? ht)

theorem card : Rows.ValuationPositionCardSaid :=
  Claim7.holds_tied_plain_at .later [] _ _ _ _ said (fun _ h => by cases h) (by kernel_rfl) (fun _ h => by cases h) valuationPosition_row_tie rfl ⟨rfl, rfl⟩ (by kernel_rfl) rfl plain (by kernel_rfl)
end Go.Proofs.YtongoicadcmfaaaGreatDoor.LawPosition
