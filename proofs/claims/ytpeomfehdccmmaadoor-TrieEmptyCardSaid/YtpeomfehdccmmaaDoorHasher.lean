/- Walks: sha.begin, sha.New: a Hasher that has taken nothing. -/
import Derived.Test.YtpeomfehdccmmaaDoorBlk
namespace Go.Proofs.YtpeomfehdccmmaaDoor
open Go.RowKit
set_option linter.unusedVariables false
set_option linter.unusedSimpArgs false
/-- a Hasher's cells -/
def hL (s : List UInt32) (rest : Value) (n : Int) : List Value := s.map vW ++ [rest, .int .i64 n]
def hW (s : List UInt32) (rest : Value) (n : Int) : Array Value := (hL s rest n).toArray
set_option maxRecDepth 20000 in
theorem Begin_calls (w : World) : Calls Tryd.prog 90 #[] w fun e w' => e = .returned (.agg (rW h0)) ∧ Below w.heap.size w w' := by
  have hg := heap_alloc_new w (.cells (rW h0) 130)
  have hb : Below w.heap.size w (w.alloc (.cells (rW h0) 130)) := (Below.refl _ _).alloc (Nat.le_refl _) _
  have HG := Lib.hid hg
  have HB := Lib.hid hb
  clear hg hb
  go_enter Tryd.func90, Tryd.ntmps90
  go_wp2_with (refine st_stNew rfl (.tmp 0) (.tmp 1) rfl h0 rfl (by rfl) _ _ (by rfl) (by rfl) ?_)
  try simp only [Exit.inBlock, Exit.then]
  refine bodyPost_ret (v := .agg (rW h0)) (results_cellW rfl _ _ _ ⟨w.heap.size, 0, none⟩ _ rfl ?_) rfl ?_
  · exact st_load rfl (rangeW HG.out)
  · exact ⟨rfl, HB.out⟩
theorem hfold : Array.foldl (fun cs (x : Value × Nat) => cs.setIfInBounds x.snd x.fst) #[.int .u32 0, .int .u32 0, .int .u32 0, .int .u32 0, .int .u32 0, .int .u32 0, .int .u32 0, .int .u32 0, .slice none 0 0, .int .i64 0] (rW h0).zipIdx 0 (rW h0).size = hW h0 (.slice none 0 0) 0 := by kernel_rfl
def NewPost (w : World) (e : Ending) (w' : World) : Prop :=
  ∃ G, e = .returned (.pointer (some ⟨G, 0, none⟩)) ∧ w.heap.size ≤ G ∧ w'.heap[G]? = some (.cells (hW h0 (.slice none 0 0) 0) 133 (0, 0)) ∧ Below w.heap.size w w'
theorem New_calls (w : World) : Calls Tryd.prog 71 #[] w (NewPost w) := by
  have BC := Begin_calls w
  have BH := hfold
  go_enter Tryd.func71, Tryd.ntmps71
  go_wp2_with fail
  refine BC.mono ?_; rintro e w1 ⟨rfl, hb⟩
  have hg := heap_alloc_new w1 (.cells (hW h0 (.slice none 0 0) 0) 133)
  have HG := Lib.hid hg
  have HB := Lib.hid hb
  clear BC hg hb
  go_wp2_with fail
  go_ret
  exact ⟨w1.heap.size, rfl, HB.out.size, HG.out, HB.out.alloc HB.out.size _⟩
end Go.Proofs.YtpeomfehdccmmaaDoor
