/- Proved: girolaw33.ValuationEligible returns true for every input, and every argument reads behind the call as it read before. No condition. -/
import Derived.Test.YtongoicadcmfaaaGreatDoorCards
import Derived.Test.YtongoicadcmfaaaGreatDoorTie
import Derived.Test.YtongoicadcmfaaaGreatDoorVLaw3
import Derived.WalkKit
import Derived.ChangeMaps5
import Derived.ProofKit
import Derived.OpenShut
import Derived.Deep.DeepHandedRow
import Derived.Lib.LaidTab
import Derived.Test.YtongoicadcmfaaaGreatDoorVSet
import Derived.Deep.Slices
import Derived.Deep.Fields
import Derived.ChangeSame
import Derived.Carry
import Derived.Below
set_option linter.unusedSimpArgs false
set_option linter.unusedVariables false
namespace Go.Proofs.YtongoicadcmfaaaGreatDoor.V
open Go.RowKit Go.ChangeShapes Go.WideShapes Go.Deep

section
variable {H : Type} {enc : TypeId × Value → H} {w : World} {base : Nat} {spare : Nat → Bool} {held : Bool}
theorem in64_of {n : Int} (h : (Lit.int .i64 n).wf = true) : in64 n := by
  simp [Lit.wf, IntKind.min, IntKind.max, IntKind.signed, IntKind.bits] at h
  unfold in64
  omega

theorem one_cell {l : List Value} {j : Nat} {v : Value} (h : (l.drop j).take 1 = [v]) : l[j]? = some v := by
  have := congrArg (fun x => x[0]?) h
  simpa [List.getElem?_take, List.getElem?_drop] using this

set_option maxRecDepth 20000 in
/-- An entry, out of its eight cells. -/
theorem open_E {n : Nat} {cs : List Value} {x : DataW H × List MemPlace} (h : DataW.trod enc Tryz.prog w base spare held n 31 cs = some x) :
    ∃ e : E, OkE e ∧ cs = e.cells := by
  obtain ⟨ys, n1, _, _, hlen, _, hf⟩ := DataW.trod_struct Tryz.underlying31 h
  have hC : Tryz.prog.cellsOf 31 = 8 := by kernel_rfl
  have h3 : Tryz.prog.cellsOf 3 = 1 := by kernel_rfl
  have h9 : Tryz.prog.cellsOf 9 = 1 := by kernel_rfl
  have h2 : Tryz.prog.cellsOf 2 = 1 := by kernel_rfl
  have h4 : Tryz.prog.cellsOf 4 = 1 := by kernel_rfl
  have h29 : Tryz.prog.cellsOf 29 = 2 := by kernel_rfl
  rw [hC] at hlen
  match cs, hlen with
  | [c0, c1, c2, c3, c4, c5, c6, c7], _ =>
    have g0 : DataW.trod enc Tryz.prog w base spare held n1 3 [c0] = ys[0]? := by
      have this : DataW.trod enc Tryz.prog w base spare held n1 3 (([c0, c1, c2, c3, c4, c5, c6, c7].drop 0).take (Tryz.prog.cellsOf 3)) = ys[0]? := hf 0 _ rfl
      rw [h3] at this
      exact this
    have g1 : DataW.trod enc Tryz.prog w base spare held n1 3 [c1] = ys[1]? := by
      have this : DataW.trod enc Tryz.prog w base spare held n1 3 (([c0, c1, c2, c3, c4, c5, c6, c7].drop 1).take (Tryz.prog.cellsOf 3)) = ys[1]? := hf 1 _ rfl
      rw [h3] at this
      exact this
    have g2 : DataW.trod enc Tryz.prog w base spare held n1 9 [c2] = ys[2]? := by
      have this : DataW.trod enc Tryz.prog w base spare held n1 9 (([c0, c1, c2, c3, c4, c5, c6, c7].drop 2).take (Tryz.prog.cellsOf 9)) = ys[2]? := hf 2 _ rfl
      rw [h9] at this
      exact this
    have g3 : DataW.trod enc Tryz.prog w base spare held n1 9 [c3] = ys[3]? := by
      have this : DataW.trod enc Tryz.prog w base spare held n1 9 (([c0, c1, c2, c3, c4, c5, c6, c7].drop 3).take (Tryz.prog.cellsOf 9)) = ys[3]? := hf 3 _ rfl
      rw [h9] at this
      exact this
    have g4 : DataW.trod enc Tryz.prog w base spare held n1 2 [c4] = ys[4]? := by
      have this : DataW.trod enc Tryz.prog w base spare held n1 2 (([c0, c1, c2, c3, c4, c5, c6, c7].drop 4).take (Tryz.prog.cellsOf 2)) = ys[4]? := hf 4 _ rfl
      rw [h2] at this
      exact this
    have g5 : DataW.trod enc Tryz.prog w base spare held n1 29 [c5, c6] = ys[5]? := by
      have this : DataW.trod enc Tryz.prog w base spare held n1 29 (([c0, c1, c2, c3, c4, c5, c6, c7].drop 5).take (Tryz.prog.cellsOf 29)) = ys[5]? := hf 5 _ rfl
      rw [h29] at this
      exact this
    have g6 : DataW.trod enc Tryz.prog w base spare held n1 4 [c7] = ys[6]? := by
      have this : DataW.trod enc Tryz.prog w base spare held n1 4 (([c0, c1, c2, c3, c4, c5, c6, c7].drop 7).take (Tryz.prog.cellsOf 4)) = ys[6]? := hf 6 _ rfl
      rw [h4] at this
      exact this
    have some_of : ∀ {a : Option (DataW H × List MemPlace)} {i : Nat}, a = ys[i]? → i < ys.length → ∃ y, a = some y := fun h1 h2 => ⟨_, h1.trans (List.getElem?_eq_getElem h2)⟩
    have hy : ys.length = 7 := by assumption
    obtain ⟨y0, g0⟩ := some_of g0 (by omega)
    obtain ⟨y1, g1⟩ := some_of g1 (by omega)
    obtain ⟨y2, g2⟩ := some_of g2 (by omega)
    obtain ⟨y3, g3⟩ := some_of g3 (by omega)
    obtain ⟨y4, g4⟩ := some_of g4 (by omega)
    obtain ⟨y5, g5⟩ := some_of g5 (by omega)
    obtain ⟨y6, g6⟩ := some_of g6 (by omega)
    obtain ⟨k, e0, _, _⟩ := DataW.trod_int Tryz.underlying3 g0
    obtain ⟨d, e1, _, _⟩ := DataW.trod_int Tryz.underlying3 g1
    obtain ⟨ky, e2, _, s2⟩ := DataW.trod_string Tryz.underlying9 g2
    obtain ⟨tx, e3, _, s3⟩ := DataW.trod_string Tryz.underlying9 g3
    obtain ⟨nn, e4, _, _⟩ := DataW.trod_int Tryz.underlying2 g4
    obtain ⟨ac, e6, _⟩ := DataW.trod_bool Tryz.underlying4 g6
    obtain ⟨zs, n2, _, _, _, hz, hg⟩ := DataW.trod_struct Tryz.underlying29 g5
    have q0 : DataW.trod enc Tryz.prog w base spare held n2 2 [c5] = zs[0]? := by
      have this : DataW.trod enc Tryz.prog w base spare held n2 2 (([c5, c6].drop 0).take (Tryz.prog.cellsOf 2)) = zs[0]? := hg 0 _ rfl
      rw [h2] at this
      exact this
    have q1 : DataW.trod enc Tryz.prog w base spare held n2 2 [c6] = zs[1]? := by
      have this : DataW.trod enc Tryz.prog w base spare held n2 2 (([c5, c6].drop 1).take (Tryz.prog.cellsOf 2)) = zs[1]? := hg 1 _ rfl
      rw [h2] at this
      exact this
    have hz2 : zs.length = 2 := hz
    obtain ⟨z0, q0⟩ : ∃ y, _ = some y := ⟨_, q0.trans (List.getElem?_eq_getElem (by omega))⟩
    obtain ⟨z1, q1⟩ : ∃ y, _ = some y := ⟨_, q1.trans (List.getElem?_eq_getElem (by omega))⟩
    obtain ⟨nu, e5, _, w5⟩ := DataW.trod_int Tryz.underlying2 q0
    obtain ⟨de, e5', _, w5'⟩ := DataW.trod_int Tryz.underlying2 q1
    injection e0 with e0; injection e1 with e1; injection e2 with e2; injection e3 with e3; injection e4 with e4; injection e5 with e5; injection e5' with e5'; injection e6 with e6
    subst e0 e1 e2 e3 e4 e5 e5' e6
    exact ⟨⟨k, d, ky, tx, nn, nu, de, ac⟩, ⟨s2, s3, in64_of w5, in64_of w5'⟩, rfl⟩

set_option maxRecDepth 20000 in
theorem open_SE {n : Nat} {cs : List Value} {x : DataW H × List MemPlace} (h : DataW.trod enc Tryz.prog w base spare held n 22 cs = some x) :
    ∃ (A : Option Addr) (xs : List E) (cap : Nat), cs = [.slice A xs.length cap] ∧ xs.length ≤ cap ∧ cap ≤ maxLen ∧ SlE w A xs ∧ ∀ e ∈ xs, OkE e := by
  rcases open_slice Tryz.underlying22 h with ⟨rfl, _⟩ | ⟨a, len, cap, m, n1, D, Pl, rfl, _, hl, hcap, hm, _, hi⟩
  · exact ⟨none, [], 0, rfl, Nat.le_refl _, by decide, Sl.none_ _ _ _, by simp⟩
  · have hC : Tryz.prog.cellsOf 31 = 8 := by kernel_rfl
    rw [hC] at hi
    have hlm : len ≤ m := by rw [hm]; split <;> omega
    have hex : ∀ i, i < len → ∃ e : E, OkE e ∧ w.cells? base (a.add (i * 8)) 8 = some e.cells := fun i hil => by
      obtain ⟨cs', hc, ht⟩ := hi i (by omega)
      obtain ⟨e, he, rfl⟩ := open_E ht
      exact ⟨e, he, hc⟩
    have main : ∀ k, k ≤ len → ∃ xs : List E, xs.length = k ∧ (∀ e ∈ xs, OkE e) ∧ ∀ i (h : i < xs.length), w.cells? base (a.add (i * 8)) 8 = some xs[i].cells := by
      intro k
      induction k with
      | zero => exact fun _ => ⟨[], rfl, by simp, fun i h => absurd h (by simp)⟩
      | succ k ih =>
        intro hk
        obtain ⟨xs, h1, h2, h3⟩ := ih (by omega)
        obtain ⟨e, he, hc⟩ := hex k (by omega)
        refine ⟨xs ++ [e], by simp [h1], fun y hy => ?_, fun i hil => ?_⟩
        · rw [List.mem_append, List.mem_singleton] at hy
          rcases hy with hy | rfl
          · exact h2 y hy
          · exact he
        · rcases Nat.lt_or_ge i xs.length with h' | h'
          · rw [List.getElem_append_left h']; exact h3 i h'
          · have : i = xs.length := by simp at hil; omega
            subst this
            have e1 : (xs ++ [e])[xs.length]'hil = e := by simp
            rw [e1, h1]; exact hc
    obtain ⟨xs, h1, h2, h3⟩ := main len (Nat.le_refl _)
    refine ⟨some a, xs, cap, by rw [h1], by omega, hcap, ⟨?_, fun hn => ?_⟩, h2⟩
    · intro r hr
      obtain ⟨e, _, rfl⟩ := List.mem_map.1 hr
      rfl
    · rw [List.length_map] at hn
      have hcell : ∀ (i : Nat) r, (xs.map E.cells)[i]? = some r → ∀ (j : Nat) v, r[j]? = some v → w.cell? (a.add (i * 8 + j)) = some v := by
        intro i r hr j v hv
        obtain ⟨hil, rfl⟩ := List.getElem?_eq_some_iff.1 hr
        rw [List.getElem_map] at hv
        have hil2 : i < xs.length := by simpa using hil
        obtain ⟨_, hcl, hat⟩ := World.cells?_some (h3 i (by simpa using hil))
        have hj : j < xs[i].cells.length := (List.getElem?_eq_some_iff.1 hv).1
        have := hat j hj
        rw [← Go.Deep.add_add, this]
        exact hv
      have h0 := hcell 0 (xs[0]'(by omega)).cells (by rw [List.getElem?_map, List.getElem?_eq_getElem (by omega)]; rfl) 0 _ rfl
      exact ⟨a, rfl, by have := World.block_lt_of_cell? w _ h0; rwa [block_of_add] at this, hcell⟩
end
end Go.Proofs.YtongoicadcmfaaaGreatDoor.V

namespace Go.Proofs.YtongoicadcmfaaaGreatDoor.V
open Go.RowKit Go.ChangeShapes Go.WideShapes

section
variable {H : Type} {enc : TypeId × Value → H} {P : Program}
/-- An argument, behind a call that has turned nothing old. -/
theorem reads_on (hl : laidOutB P = true) {t : TypeId} (hr : P.readableRec t = true) (hrow : t < P.types.size) {W W' : World} {v : Value} {d : DataW H} {ps before : List MemPlace}
    (h : DataW.Trod enc P W 0 (fun _ => true) true t v d ps) (hb : Below W.heap.size W W') (hlt : ∀ x ∈ before, x.block < W.heap.size) (hsub : ∀ x ∈ ps, x ∈ before) (sp : Nat → Bool) (hsp : ∀ p ∈ before, sp p.block = true) :
    DataW.Trod enc P W' 0 sp true t v d ps :=
  WideElems.Trod_stays hl hr hrow h (fun x hx => hb.same (hlt x (hsub x hx))) (fun x hx => hsp x (hsub x hx))

theorem post_new {f : Func} {s : ChangeSpec} {apart fresh handsOn again : Bool} {W W' : World} {args : Array Value} {v : Value} {ds : List (DataW H)} {before : List MemPlace} (hvs : s.vars = [])
    (hW : DataW.Whole enc P f.params.toList s.vars apart W args.toList ds [] before)
    (hres : ∀ (b : Nat) (sp : Nat → Bool) (hd : Bool), DataW.TrodAll enc P W' b sp hd f.resultTypes.toList (v.resultList f.resultTypes.size) (s.fn H (ds ++ [])).results [])
    (hargs : ∀ sp : Nat → Bool, (∀ p ∈ before, sp p.block = true) → DataW.TrodAll enc P W' 0 sp true f.params.toList args.toList (s.fn H (ds ++ [])).args before)
    (hvars : ∀ sp : Nat → Bool, DataW.TrodVars enc P W' sp s.vars (s.fn H (ds ++ [])).vars [])
    (hb : Below W.heap.size W W')
    (hok : ∀ (j : Nat) (t : TypeId) (r : Value), f.resultTypes[j]? = some t → (v.resultList f.resultTypes.size)[j]? = some r → Value.okWide P W' .any 0 t r) :
    s.post enc P f apart fresh handsOn again W args v W' := by
  have hlt : ∀ p ∈ before, p.block < W.heap.size := fun p hp => hW.lt p hp
  have hold : ∀ p ∈ before, (fun b => decide (b < W.heap.size)) p.block = true := fun p hp => by simpa using hlt p hp
  refine ⟨ds, [], before, [], before, [], hW, hres _ _ _, hargs _ hold, hvars _, World.keptBut_mono (fun p hp => ⟨hp, .inr (by simpa using hp)⟩) (hb.frame (· ∈ before)), fun _ => ?_⟩
  obtain ⟨_, _, _, _, _, hz, hn⟩ := hW
  refine ⟨hok, _, _, ([] ++ before) ++ [], ⟨[] ++ before, [], trodAll_append (hargs _ (fun _ _ => rfl)) (hres _ _ _), hvars _, rfl, fun b off hp => ?_, fun ha => ?_⟩, fun p hp _ => ?_⟩
  · have hin : MemPlace.cell b off ∈ before := by simpa using hp
    rw [hb.frozen (hlt _ hin)]
    exact hz b off hin
  · simpa using hn ha
  · simpa using hp
end
end Go.Proofs.YtongoicadcmfaaaGreatDoor.V

namespace Go.Proofs.YtongoicadcmfaaaGreatDoor.LawEligible
open Go.ChangeShapes Go.WideShapes Go.ChangeAt Go.RowKit V

theorem own : ownKnob Tryz.prog.godebug = none := by kernel_rfl
theorem laidOut : laidOutB Tryz.prog = true := by kernel_rfl

set_option maxRecDepth 100000 in
theorem contract (H : Type) (enc : TypeId × Value → H) (W : World) (base : Nat) (args : Array Value) (ds gs : List (DataW H)) (before : List MemPlace)
    (hval : ∀ (j : Nat) t v, Tryz.f3.params[j]? = some t → args[j]? = some v → Value.okWide Tryz.prog W .any base t v)
    (hW : DataW.Whole enc Tryz.prog Tryz.f3.params.toList Rows.valuationEligibleSpec.vars false W args.toList ds gs before) :
    Calls Tryz.prog 3 args W fun e W' => ∃ v, e = .returned v ∧ Rows.valuationEligibleSpec.post enc Tryz.prog Tryz.f3 false true false false W args v W' := by
  have hW' := hW
  obtain ⟨p, q, hA0, hV, rfl, hfz, hnd⟩ := hW
  have hA : DataW.TrodAll enc Tryz.prog W 0 (fun _ => true) true Tryz.f3.params.toList args.toList ds p := hA0
  rw [Tryz.params3] at hA hval
  obtain ⟨v0, vs0, d0, ds0, p0, q0, hargs, rfl, rfl, h0, r0⟩ := trodAll_cons hA
  obtain ⟨v1, vs1, d1, ds1, p1, q1, rfl, rfl, rfl, h1, r1⟩ := trodAll_cons r0
  obtain ⟨v2, vs2, d2, ds2, p2, q2, rfl, rfl, rfl, h2, r2⟩ := trodAll_cons r1
  obtain ⟨v3, vs3, d3, ds3, p3, q3, rfl, rfl, rfl, h3, r3⟩ := trodAll_cons r2
  obtain ⟨rfl, rfl, rfl⟩ := trodAll_nil r3
  obtain rfl : args = #[v0, v1, v2, v3] := by cases args; simp_all
  obtain ⟨rfl, rfl⟩ := trodVars_none hV
  have t0 := h0
  have t1 := h1
  have t2 := h2
  have t3 := h3
  obtain ⟨fu, h0⟩ := h0
  have hv0 : ∃ (A : Option Addr) (xs : List E) (cap : Nat), v0 = .slice A xs.length cap ∧ xs.length ≤ cap ∧ cap ≤ maxLen ∧ SlE W A xs ∧ ∀ e ∈ xs, OkE e := by
    obtain ⟨A, xs, cap, hc, k1, k2, k3, k4⟩ := open_SE h0
    obtain ⟨a', len', cap', rfl⟩ := okWide_slice Tryz.underlying22 (hval 0 22 v0 rfl rfl)
    have hc' : [Value.slice a' len' cap'] = [.slice A xs.length cap] := hc
    injection hc' with hc'
    exact ⟨A, xs, cap, hc', k1, k2, k3, k4⟩
  obtain ⟨A, xs, cap, rfl, k1, k2, k3, k4⟩ := hv0
  obtain ⟨d, rfl, -⟩ := open_int Tryz.underlying3 (hval 1 3 v1 rfl rfl) h1
  obtain ⟨mem, rfl, -, -, hm⟩ := Go.ChangeMaps.open_string Tryz.underlying9 (hval 2 9 v2 rfl rfl) h2
  obtain ⟨isin, rfl, -, -, hn⟩ := Go.ChangeMaps.open_string Tryz.underlying9 (hval 3 9 v3 rfl rfl) h3
  clear hA0
  simp only [List.append_nil] at hW'
  have hlt := fun x hx => hW'.lt x hx
  refine (law3 A xs cap d mem isin k1 (by simpa [maxLen] using k2) k4 hm hn W k3).mono fun e W' ⟨he, hb⟩ => ?_
  subst he
  exact ⟨_, rfl, post_new rfl hW' (fun _ _ _ => trodAll_cons_mk (shut_bool Tryz.underlying4 _) trodAll_mk0)
    (fun sp hsp => by
      have hall := trodAll_cons_mk (reads_on laidOut (by kernel_rfl) (of_decide_eq_true (by kernel_rfl)) t0 hb hlt (fun x hx => by simp [hx]) sp hsp) (trodAll_cons_mk (reads_on laidOut (by kernel_rfl) (of_decide_eq_true (by kernel_rfl)) t1 hb hlt (fun x hx => by simp [hx]) sp hsp) (trodAll_cons_mk (reads_on laidOut (by kernel_rfl) (of_decide_eq_true (by kernel_rfl)) t2 hb hlt (fun x hx => by simp [hx]) sp hsp) (trodAll_cons_mk (reads_on laidOut (by kernel_rfl) (of_decide_eq_true (by kernel_rfl)) t3 hb hlt (fun x hx => by simp [hx]) sp hsp) (trodAll_mk0 (enc := enc) (P := Tryz.prog) (w := W') (base := 0) (spare := sp) (held := true)))))
      simp only [List.append_nil] at hall
      exact hall)
    (fun _ => rfl) hb (ok_one (by kernel_rfl) rfl (okWide_bool_mk Tryz.underlying4 _))⟩

/-- A row of cells for another. -/
def laidCells (cs : Array Value) : Obj → Obj
  | .cells _ t frozen => .cells cs t frozen
  | o => o
/-- A world for the witness: the settled one, the three tables holding what their initialisers lay. -/
noncomputable def laidWorld (os : Os) : World :=
  { World.holding Tryz.prog os ⟨#[], #[], []⟩ with heap := (((World.holding Tryz.prog os ⟨#[], #[], []⟩).heap.modify 2 (laidCells #[.int .u64 1, .int .u64 10, .int .u64 100, .int .u64 1000, .int .u64 10000, .int .u64 100000, .int .u64 1000000, .int .u64 10000000, .int .u64 100000000, .int .u64 1000000000, .int .u64 10000000000, .int .u64 100000000000, .int .u64 1000000000000, .int .u64 10000000000000, .int .u64 100000000000000, .int .u64 1000000000000000, .int .u64 10000000000000000, .int .u64 100000000000000000, .int .u64 1000000000000000000, .int .u64 10000000000000000000])).modify 3 (laidCells #[.int .u8 0, .int .u8 1, .int .u8 28, .int .u8 2, .int .u8 29, .int .u8 14, .int .u8 24, .int .u8 3, .int .u8 30, .int .u8 22, .int .u8 20, .int .u8 15, .int .u8 25, .int .u8 17, .int .u8 4, .int .u8 8, .int .u8 31, .int .u8 27, .int .u8 13, .int .u8 23, .int .u8 21, .int .u8 19, .int .u8 16, .int .u8 7, .int .u8 26, .int .u8 12, .int .u8 18, .int .u8 6, .int .u8 11, .int .u8 5, .int .u8 10, .int .u8 9])).modify 4 (laidCells #[.int .u8 0, .int .u8 1, .int .u8 56, .int .u8 2, .int .u8 57, .int .u8 49, .int .u8 28, .int .u8 3, .int .u8 61, .int .u8 58, .int .u8 42, .int .u8 50, .int .u8 38, .int .u8 29, .int .u8 17, .int .u8 4, .int .u8 62, .int .u8 47, .int .u8 59, .int .u8 36, .int .u8 45, .int .u8 43, .int .u8 51, .int .u8 22, .int .u8 53, .int .u8 39, .int .u8 33, .int .u8 30, .int .u8 24, .int .u8 18, .int .u8 12, .int .u8 5, .int .u8 63, .int .u8 55, .int .u8 48, .int .u8 27, .int .u8 60, .int .u8 41, .int .u8 37, .int .u8 16, .int .u8 46, .int .u8 35, .int .u8 44, .int .u8 21, .int .u8 52, .int .u8 32, .int .u8 23, .int .u8 11, .int .u8 54, .int .u8 26, .int .u8 40, .int .u8 15, .int .u8 34, .int .u8 20, .int .u8 31, .int .u8 10, .int .u8 25, .int .u8 14, .int .u8 19, .int .u8 9, .int .u8 13, .int .u8 8, .int .u8 7, .int .u8 6]) }
theorem laid_met (os : Os) : laidMet Tryz.prog Rows.valuationEligibleRow.laid ((laidWorld os).forCall (fun _ _ => 0) ⟨#[], #[.slice none 0 0, .int .i64 0, .string ⟨#[]⟩, .string ⟨#[]⟩], []⟩).memory :=
  laidMet_of_run' 8 (by kernel_rfl) (by kernel_rfl)
theorem reads (os : Os) {H : Type} (enc : TypeId × Value → H) : ∃ places, DataW.whole enc Tryz.prog ((laidWorld os).forCall (fun _ _ => 0) ⟨#[], #[.slice none 0 0, .int .i64 0, .string ⟨#[]⟩, .string ⟨#[]⟩], []⟩).memory Tryz.f3.params.toList Rows.valuationEligibleSpec.vars false #[Value.slice none 0 0, Value.int .i64 0, Value.string ⟨#[]⟩, Value.string ⟨#[]⟩].toList 8 = some ([.nil, .lit (.int .i64 0), .lit (.string []), .lit (.string [])], [], places) :=
  ⟨[], by kernel_rfl⟩

set_option maxRecDepth 100000 in
theorem lifted (os : Os) (started : os.Started) (H : Type) (enc : TypeId × Value → H) (F : Stop.Interp) :
    ReturnsInHanded {} Tryz.checked os 3 .any ((OpenSpec.ofChange Rows.valuationEligibleSpec).preRow enc Tryz.prog Tryz.f3 Rows.valuationEligibleRow.domain false Rows.valuationEligibleRow.laid) (((OpenSpec.ofChange Rows.valuationEligibleSpec).at F).post enc Tryz.prog Tryz.f3 false true false false) := by
  obtain ⟨places, hx⟩ := reads os enc
  refine returnsInHanded_of_row (C := Tryz.checked) (s := OpenSpec.ofChange Rows.valuationEligibleSpec) own started (by kernel_rfl) Tryz.func3
    (witness_row_at (enc := enc) (C := Tryz.checked) false (laidWorld os) #[.slice none 0 0, .int .i64 0, .string ⟨#[]⟩, .string ⟨#[]⟩] rfl (by kernel_rfl) (by kernel_rfl) (by kernel_rfl)
      (OpenSpec.preRow_of_cond 8 hx (by kernel_rfl) (fun k hk => by cases hk) (by kernel_rfl) (laid_met os))) ?_
  intro W base args ds gs before hval hW _ _ _ hL _ _
  exact contract H enc W base args ds gs before hval hW

theorem said : Rows.ValuationEligibleSaid :=
  OpenClaim.holds_of_cond 3 Tryz.f3 rfl rfl rfl rfl rfl rfl rfl ⟨rfl, rfl, rfl, rfl, rfl⟩ rfl rfl rfl rfl rfl (by kernel_rfl) Tryz.func3 (by kernel_rfl)
    (of_decide_eq_true (by kernel_rfl)) (by unfold Func.isWrapper; first | (rw [if_pos (by decide +kernel)]; kernel_rfl) | (rw [if_neg (by decide +kernel)]; exact ⟨rfl, rfl⟩))
    (fun os started H enc _ F => by rw [OpenClaim.pre_eq_preRow]; exact lifted os started H enc F)

theorem plain (f : FuncId) (fn : Func) (hf : Tryz.pinned.checked.prog.funcNamed "giro/girolaw33.ValuationEligible" = some f) (hfn : Tryz.pinned.checked.prog.funcs[f]? = some fn) :
    true = Tryz.pinned.checked.prog.looks [] ∧ ∀ (j : Nat) t, fn.params[j]? = some t → Tryz.pinned.checked.prog.wantsStandIn t = false := by
  obtain rfl : f = 3 := Option.some.inj ((show Tryz.prog.funcNamed "giro/girolaw33.ValuationEligible" = some 3 by kernel_rfl).symm.trans hf) |>.symm
  obtain rfl : fn = Tryz.f3 := (Option.some.inj (Tryz.func3.symm.trans hfn)).symm
  refine ⟨by kernel_rfl, fun j t ht => ?_⟩
  rw [Tryz.params3] at ht
  have hall : ∀ t ∈ ([22, 3, 9, 9] : List TypeId), Tryz.prog.wantsStandIn t = false := by
    intro t ht
    simp only [List.mem_cons, List.mem_nil_iff, or_false] at ht
    rcases ht with rfl | rfl | rfl | rfl
    all_goals kernel_rfl
  exact hall t (by simpa using Array.mem_of_getElem? ht)

theorem card : Rows.ValuationEligibleCardSaid :=
  Claim7.holds_tied_plain_at .later [] _ _ _ _ said (fun _ h => by cases h) (by kernel_rfl) (fun _ h => by cases h) valuationEligible_row_tie rfl ⟨rfl, rfl⟩ (by kernel_rfl) rfl plain (by kernel_rfl)
end Go.Proofs.YtongoicadcmfaaaGreatDoor.LawEligible
