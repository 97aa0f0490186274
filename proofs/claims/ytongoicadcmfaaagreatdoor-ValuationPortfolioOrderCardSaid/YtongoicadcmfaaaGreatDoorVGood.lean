/- What holds of every entry of a table; the words of the valuation: price, eligibility, worth, cover, market. -/
import Derived.Test.YtongoicadcmfaaaGreatDoorVTab
import Derived.Test.YtongoicadcmfaaaGreatDoorVVal
import Derived.Test.YtongoicadcmfaaaGreatDoorVNeed
set_option linter.unusedSimpArgs false
set_option linter.unusedVariables false
namespace Go.Proofs.YtongoicadcmfaaaGreatDoor.V
open Go.RowKit

def in64 (x : Int) : Prop := -9223372036854775808 ≤ x ∧ x ≤ 9223372036854775807
structure GoodE (e : E) : Prop where
  day : dayB e.day = true
  num : in64 e.num
  den : in64 e.den
def Good (l : List E) : Prop := ∀ e ∈ l, GoodE e
theorem dayB_iff (n : Int) : dayB n = true ↔ 0 ≤ n ∧ n ≤ 73048 := by unfold dayB; simp
theorem at_mem {l : List E} {k d : Int} {key : ByteArray} {e : E} (h : atE l k d key = some e) : e ∈ l ∧ e.kind = k ∧ e.day ≤ d ∧ dayB d = true ∧ e.key = key := by
  have h1 := List.mem_of_getLast? h
  obtain ⟨h2, h3⟩ := List.mem_filter.1 h1
  unfold hit at h3
  rw [Bool.and_eq_true, Bool.and_eq_true, Bool.and_eq_true, beq_iff_eq, str_beq, decide_eq_true_iff, decide_eq_true_iff] at h3
  exact ⟨h2, h3.1.1.1, h3.1.2, h3.2, h3.1.1.2⟩
theorem zero_good : GoodE E.zero := ⟨rfl, by unfold in64 E.zero; decide, by unfold in64 E.zero; decide⟩
theorem at_good {l : List E} (hg : Good l) (k d : Int) (key : ByteArray) : GoodE ((atE l k d key).getD E.zero) := by
  cases h : atE l k d key with
  | none => exact zero_good
  | some e => exact hg e (at_mem h).1
theorem GoodE.b {e : E} (h : GoodE e) : 0 ≤ e.day ∧ e.day ≤ 73048 ∧ -9223372036854775808 ≤ e.num ∧ e.num ≤ 9223372036854775807 ∧ -9223372036854775808 ≤ e.den ∧ e.den ≤ 9223372036854775807 :=
  ⟨((dayB_iff _).1 h.day).1, ((dayB_iff _).1 h.day).2, h.num.1, h.num.2, h.den.1, h.den.2⟩

/-- Is there a price, and is it young enough? -/
def prB2 (o : Option E) (d : Int) : Bool := o.isSome && !decide (5 < d - (o.getD E.zero).day)
def prN (o : Option E) (d : Int) : Int := bif prB2 o d then (o.getD E.zero).n else 0
def prE (o : Option E) (d : Int) : Int := bif prB2 o d then 0 else 20
def eligO (m s h p : Option E) (d : Int) (mem : ByteArray) : Int :=
  bif !m.isSome then 9 else bif !s.isSome then 9 else bif (!(s.getD E.zero).act || ((s.getD E.zero).text.toList == mem.toList)) || !h.isSome then 24 else prE p d
def elig (l : List E) (d : Int) (mem isin : ByteArray) : Int := eligO (atE l 0 d mem) (atE l 1 d isin) (atE l 3 d isin) (atE l 2 d isin) d mem
def worthN (l : List E) (d : Int) (mem isin : ByteArray) (q : Int) : Int :=
  bif elig l d mem isin != 0 then 0 else vNum q (prN (atE l 2 d isin) d) ((atE l 3 d isin).getD E.zero).num ((atE l 3 d isin).getD E.zero).den
def worthE (l : List E) (d : Int) (mem isin : ByteArray) (q : Int) : Int :=
  bif elig l d mem isin != 0 then elig l d mem isin else vErr q (prN (atE l 2 d isin) d) ((atE l 3 d isin).getD E.zero).num ((atE l 3 d isin).getD E.zero).den
def coverN (l : List E) (d : Int) (mem isin : ByteArray) (a : Int) : Int :=
  bif elig l d mem isin != 0 then 0 else nNum a (prN (atE l 2 d isin) d) ((atE l 1 d isin).getD E.zero).n ((atE l 3 d isin).getD E.zero).num ((atE l 3 d isin).getD E.zero).den
def coverE (l : List E) (d : Int) (mem isin : ByteArray) (a : Int) : Int :=
  bif elig l d mem isin != 0 then elig l d mem isin else nErr a (prN (atE l 2 d isin) d) ((atE l 1 d isin).getD E.zero).n ((atE l 3 d isin).getD E.zero).num ((atE l 3 d isin).getD E.zero).den
def marketN (l : List E) (d : Int) (isin : ByteArray) (q : Int) : Int :=
  bif !(atE l 1 d isin).isSome then 0 else bif prE (atE l 2 d isin) d != 0 then 0 else vNum q (prN (atE l 2 d isin) d) 0 1
def marketE (l : List E) (d : Int) (isin : ByteArray) (q : Int) : Int :=
  bif !(atE l 1 d isin).isSome then 9 else bif prE (atE l 2 d isin) d != 0 then prE (atE l 2 d isin) d else vErr q (prN (atE l 2 d isin) d) 0 1

/-- At, its answer written out. -/
theorem at_o (A : Option Addr) (l : List E) (c : Nat) (k d : Int) (key : ByteArray) (hl : l.length ≤ c) (hc : c ≤ 9223372036854775807) (W : World) (h : SlE W A l) :
    Calls Tryz.prog 37 #[.slice A l.length c, .int .i64 k, .int .i64 d, .string key] W fun r w' => r = .returned (.tuple #[.agg #[.int .i64 ((atE l k d key).getD E.zero).kind, .int .i64 ((atE l k d key).getD E.zero).day, .string ((atE l k d key).getD E.zero).key, .string ((atE l k d key).getD E.zero).text, .int .i64 ((atE l k d key).getD E.zero).n, .int .i64 ((atE l k d key).getD E.zero).num, .int .i64 ((atE l k d key).getD E.zero).den, .bool ((atE l k d key).getD E.zero).act], .bool (atE l k d key).isSome]) ∧ Below W.heap.size W w' :=
  at_any A l c k d key W h hl hc
end Go.Proofs.YtongoicadcmfaaaGreatDoor.V
