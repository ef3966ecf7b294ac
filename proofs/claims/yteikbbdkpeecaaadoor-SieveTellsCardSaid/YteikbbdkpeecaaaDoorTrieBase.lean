/- Words for walks over digests. They say nothing of the program. -/
import Derived.Test.YteikbbdkpeecaaaDoorSha
import Derived.Test.YteikbbdkpeecaaaDoorTrieLaw
import Derived.Test.YteikbbdkpeecaaaDoorRSum
import Derived.Test.YteikbbdkpeecaaaDoorArrA
import Derived.Test.YteikbbdkpeecaaaDoorMemA
import Derived.Great.BuildSlice
import Derived.Laws.Tables
import Derived.StillTailTactics
import Derived.Laws.OwnMore
import Derived.Deep.DeepCutAuto
namespace Go.Proofs.YteikbbdkpeecaaaDoor
open Go.RowKit
set_option linter.unusedVariables false
theorem zdig : (#[.int .u8 0, .int .u8 0, .int .u8 0, .int .u8 0, .int .u8 0, .int .u8 0, .int .u8 0, .int .u8 0, .int .u8 0, .int .u8 0, .int .u8 0, .int .u8 0, .int .u8 0, .int .u8 0, .int .u8 0, .int .u8 0, .int .u8 0, .int .u8 0, .int .u8 0, .int .u8 0, .int .u8 0, .int .u8 0, .int .u8 0, .int .u8 0, .int .u8 0, .int .u8 0, .int .u8 0, .int .u8 0, .int .u8 0, .int .u8 0, .int .u8 0, .int .u8 0] : Array Value) = dV nz := by kernel_rfl
theorem Rd.box (w : World) (d : List UInt8) (t : TypeId) : Rd (w.alloc (.cells (dV d) t)) (some ⟨w.heap.size, 0, none⟩) t (d.map vB) := by
  have := Rd.new w (dV d) t
  rwa [dV_list] at this
theorem own_byte1 (w : World) (x : UInt8) (base : Nat) (hb : base ≤ w.heap.size) : (w.alloc (.cells #[.int .u8 x.toNat] 5)).ownsRow base 5 1 (.slice (some ⟨w.heap.size, 0, none⟩) 1 1) 1 ([x].map vB) :=
  World.ownsRow_lit (base := base) (e := 5) (size := 1) w #[.int .u8 x.toNat] 1 hb (by simp only [maxLen]; decide) rfl
theorem RoundsAt.below {w w' : World} {B : Nat} (h : RoundsAt w) (hb : Below B w w') (hB : 1 < B) : RoundsAt w' := by
  obtain ⟨t, f, h⟩ := h
  exact ⟨t, f, (hb.block _ hB).trans h⟩
theorem RoundsAt.lt {w : World} (h : RoundsAt w) : 1 < w.heap.size := by
  obtain ⟨t, f, h⟩ := h
  exact lt_of_heap h
theorem RoundsAt.at_ {w w' : World} (h : RoundsAt w) (hb : Below w.heap.size w w') : RoundsAt w' := h.below hb h.lt
theorem fill_two (c1 c2 c0 : Array Value) (size : Nat) (hs : 0 < size) (h1 : c1.size = size) (h2 : c2.size = size) (h0 : c0.size = 2 * size) : Instr.fill (fun i => some (i * size, size)) c0 [(0, .agg c1), (1, .agg c2)] = some (c1 ++ c2) := by
  have := Great.fill_whole hs [.agg c1, .agg c2] c0 (fun v hv => by
    rcases List.mem_cons.1 hv with rfl | hv
    · exact h1
    · rw [List.mem_singleton.1 hv]; exact h2) (by simp [h0])
  refine Eq.trans this ?_
  simp [Value.cells]
section
variable {P : Program} {w : World} {ops : Array Oper} {rest : List Oper} {o : Oper} {a : Act} {Q : Exit → Act → World → Prop}
theorem wpl_build2 (T e : TypeId) (z : Value) (size bytes : Nat) (ht : P.underlying T = some (.slice e)) (hinfo : (P.info? e).map (fun i => (i.zero, i.size, i.bytes)) = some (some z, size, bytes)) (hsz : 0 < size) (hsm : size ≤ 1000) (hgd : o.guard = none)
    (x y : Operand) (ho : o.op = .buildSlice T 2 #[(0, x), (1, y)]) (c1 c2 : Array Value) (hx : a.eval x = .agg c1) (hy : a.eval y = .agg c2) (h1 : c1.size = size) (h2 : c2.size = size)
    (h : wpList P ops Q rest (a.put o.dst (.slice (some ⟨w.heap.size, 0, none⟩) 2 2)) (w.alloc (.cells (c1 ++ c2) e))) : wpList P ops Q (o :: rest) a w := by
  unfold wpList
  rw [if_pos (by unfold Region.wanted; rw [hgd])]
  refine .inl ?_
  obtain ⟨i, hi, hz, hs', hb⟩ := info_parts hinfo
  refine wp_buildSlice T e 2 _ ho (c1 ++ c2) i z ht hi hz (by rw [hs']; omega) (by rw [hs']; omega) ?_ h
  have he : (Array.map (fun x => match x with | (i, x) => (i, a.eval x)) #[(0, x), (1, y)]).toList = [(0, .agg c1), (1, .agg c2)] := by
    simp [hx, hy]
  rw [hs']
  refine Eq.trans (congrArg _ he) ?_
  exact fill_two c1 c2 _ size hsz h1 h2 (by simp)
end
theorem built_nz : Tryd.prog.built 55 [] = some (dV nz) := by kernel_rfl
theorem wpl_zero {w : World} {ops : Array Oper} {rest : List Oper} {o : Oper} {a : Act} {Q : Exit → Act → World → Prop} (hg : o.guard = none) (ho : o.op = .build 55 #[]) (Z : List UInt8) (hZ : Z = nz) (h : wpList Tryd.prog ops Q rest (a.put o.dst (.agg (dV Z))) w) : wpList Tryd.prog ops Q (o :: rest) a w := by
  subst hZ
  refine wpList_plain hg fun _ hK => ?_
  unfold Oper.wp execOp
  simp only [ho, Sem.run_bind]
  have := run_build (P := Tryd.prog) w 55 #[] (dV nz) built_nz
  simp only [List.map_toArray, List.map_nil, this, Result.andThen_ok]
  exact hK _ _ h
theorem still_dig {w : World} {ops : Array Oper} {rest : List Oper} {op : Oper} {a : Act} {Q : Act → Prop} (hgd : Region.wanted op (yielded ops a.tmps) = true) (x : Operand) (ho : op.op = .load 55 x) (b o : Nat) (hx : a.eval x = .pointer (some ⟨b, o, none⟩)) (d : List UInt8) (hl : d.length = 32) (hc : w.rangeAt b o (d.map vB))
    (h : wpStill Tryd.prog ops w Q rest (a.put op.dst (.agg (dV d)))) : wpStill Tryd.prog ops w Q (op :: rest) a := by
  unfold wpStill
  rw [if_pos hgd]
  unfold Oper.still execOp
  simp only [ho, hx, Instr.loadAt, Instr.sureAddr, Sem.run_bind, Sem.run_pure, Result.andThen_ok, run_loadVar_mid w b o _ (d.map vB) _ hc Tryd.underlying55 rfl (by rw [List.length_map, hl]; exact dig_size)]
  exact ⟨rfl, h⟩
theorem results_cell_tmp {fn : Func} {k u : Nat} {t : TypeId} (h : fn.results = #[.cell k t, .tmp u]) (tmps : Array Value) (P : Program) (w : World) (p : Addr) (v : Value) (hp : tmps.getD k undef = .pointer (some p)) (hl : (loadVar t p).run P w = .ok v w) : (results fn tmps).run P w = .ok (.tuple #[v, tmps.getD u undef]) w := by
  have hp2 : tmps[k]?.getD undef = .pointer (some p) := by simpa using hp
  simp [results, h, hp2, asAddr, hl]
theorem dV_app (d e : List UInt8) : dV d ++ dV e = dV (d ++ e) := by unfold dV; simp
end Go.Proofs.YteikbbdkpeecaaaDoor
