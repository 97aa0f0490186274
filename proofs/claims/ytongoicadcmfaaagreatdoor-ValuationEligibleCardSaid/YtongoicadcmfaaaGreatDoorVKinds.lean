/- ident.kinds: the four kinds of identifiers as the program builds them. -/
import Derived.Test.YtongoicadcmfaaaGreatDoorVClasses
namespace Go.Proofs.YtongoicadcmfaaaGreatDoor.V
open Go.RowKit

def spanSl (g n : Nat) : Value := .slice (some ⟨g, 0, none⟩) n n
def spans0 : Array Value := #[int64 2, fn 123, int64 9, fn 124, int64 1, fn 125]
def spans1 : Array Value := #[int64 1, fn 123, int64 7, fn 124]
def spans2 : Array Value := #[int64 16, fn 127]
def spans3 : Array Value := #[int64 18, fn 124, int64 2, fn 125]
def kindsVal (g : Nat) : Value := .agg #[int64 12, spanSl g 3, int64 11, fn 126, int64 4, spanSl (g + 1) 2, int64 0, .nilFunc, int64 1, spanSl (g + 2) 1, int64 0, .nilFunc, int64 20, spanSl (g + 3) 2, int64 18, fn 128]

set_option maxHeartbeats 4000000 in
theorem kinds115 (w : World) : Calls Tryz.prog 115 #[] w fun e w' => e = .returned (kindsVal (w.heap.size + 1)) ∧ Blk w' (w.heap.size + 1) 216 spans0 ∧ Blk w' (w.heap.size + 2) 216 spans1 ∧ Blk w' (w.heap.size + 3) 216 spans2 ∧ Blk w' (w.heap.size + 4) 216 spans3 ∧ Below w.heap.size w w' := by
  go_enter Tryz.func115, Tryz.ntmps115
  go_wp2
  refine bodyPost_ret (v := kindsVal (w.heap.size + 1)) (by simp [results, Tryz.results115, go_sem, kindsVal, int64, spanSl, fn]) rfl ⟨rfl, ?_, ?_, ?_, ?_, ?_⟩
  · exact ((Blk.new1 _ _ _ _).alloc _).alloc _ |>.alloc _
  · exact (Blk.new2 _ _ _ _ _).alloc _ |>.alloc _
  · exact (Blk.new3 _ _ _ _ _ _).alloc _
  · exact Blk.new4 _ _ _ _ _ _ _
  · exact bl_alloc (bl_alloc (bl_alloc (bl_alloc (bl_alloc (Below.refl _ _) _) _) _) _) _
end Go.Proofs.YtongoicadcmfaaaGreatDoor.V
