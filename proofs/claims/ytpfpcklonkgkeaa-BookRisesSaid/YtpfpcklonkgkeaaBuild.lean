/- A list of one value of many cells is made, as a step of a region. It says nothing of the program. -/
import Derived.Test.YtpfpcklonkgkeaaMem3
import Derived.Great.BuildSlice
namespace Go.Proofs.Ytpfpcklonkgkeaa
open Go.RowKit
theorem fill_one (cs c0 : Array Value) (size : Nat) (hs : 0 < size) (h : cs.size = size) (h0 : c0.size = size) : Instr.fill (fun i => some (i * size, size)) c0 [(0, .agg cs)] = some cs := by
  have := Great.fill_whole hs [.agg cs] c0 (fun v hv => by rw [List.mem_singleton.1 hv]; exact h) (by simp [h0])
  refine Eq.trans this ?_
  simp [Value.cells]
section
variable {P : Program} {w : World} {ops : Array Oper} {o : Oper} {a : Act} {K : Act → World → Prop} {Q : Exit → Act → World → Prop} {E : Prop}
theorem wpBuild1 (T e : TypeId) (z : Value) (size bytes : Nat) (ht : P.underlying T = some (.slice e)) (hinfo : (P.info? e).map (fun i => (i.zero, i.size, i.bytes)) = some (some z, size, bytes)) (hsz : 0 < size) (hsm : size ≤ 1000)
    (x : Operand) (ho : o.op = .buildSlice T 1 #[(0, x)]) (cs : Array Value) (hx : a.eval x = .agg cs) (hcs : cs.size = size)
    (h : K (a.put o.dst (.slice (some ⟨w.heap.size, 0, none⟩) 1 1)) (w.alloc (.cells cs e))) : Oper.wp P o a w K Q := by
  obtain ⟨i, hi, hz, hs', hb⟩ := info_parts hinfo
  refine wp_buildSlice T e 1 _ ho cs i z ht hi hz (by rw [hs']; omega) (by rw [hs']; omega) ?_ h
  have he : (Array.map (fun x => match x with | (i, x) => (i, a.eval x)) #[(0, x)]).toList = [(0, .agg cs)] := by
    simp [hx]
  rw [hs']
  refine Eq.trans (congrArg _ he) ?_
  exact fill_one cs _ size hsz hcs (by simp)
theorem stepBuild1 (T e : TypeId) (z : Value) (size bytes : Nat) (ht : P.underlying T = some (.slice e)) (hinfo : (P.info? e).map (fun i => (i.zero, i.size, i.bytes)) = some (some z, size, bytes)) (hsz : 0 < size) (hsm : size ≤ 1000) (hgd : o.guard = none)
    (x : Operand) (ho : o.op = .buildSlice T 1 #[(0, x)]) (cs : Array Value) (hx : a.eval x = .agg cs) (hcs : cs.size = size)
    (h : K (a.put o.dst (.slice (some ⟨w.heap.size, 0, none⟩) 1 1)) (w.alloc (.cells cs e))) : if Region.wanted o (yielded ops a.tmps) = true then Oper.wp P o a w K Q else E := by
  rw [if_pos (by unfold Region.wanted; rw [hgd])]
  exact wpBuild1 T e z size bytes ht hinfo hsz hsm x ho cs hx hcs h
end
end Go.Proofs.Ytpfpcklonkgkeaa
