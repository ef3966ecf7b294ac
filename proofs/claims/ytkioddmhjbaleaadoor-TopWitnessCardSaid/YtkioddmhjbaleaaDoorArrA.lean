/- Digests as values: whole loads and stores, an element of one; a list of digests with one of them set. Words for the walks; they say nothing of what the program does. -/
import Derived.Test.YtkioddmhjbaleaaDoorOpenA
import Derived.Test.YtkioddmhjbaleaaDoorMemA
import Derived.Test.YtkioddmhjbaleaaDoorChecked
import Derived.Deep.MidRow
import Derived.Deep.WholeRow
import Derived.Stop.BytesEq
import Derived.BigQuiet
import Derived.Laws.Cover1
import Derived.Lib.Strings
import Derived.Below
import Derived.WalkSmall
namespace Go.Proofs.YtkioddmhjbaleaaDoor
open Go.RowKit
set_option linter.unusedVariables false

theorem info_dig : (Tryd.prog.info? 23).map (fun i => (i.zero, i.size, i.bytes)) = some (some (.agg #[.int .u8 0, .int .u8 0, .int .u8 0, .int .u8 0, .int .u8 0, .int .u8 0, .int .u8 0, .int .u8 0, .int .u8 0, .int .u8 0, .int .u8 0, .int .u8 0, .int .u8 0, .int .u8 0, .int .u8 0, .int .u8 0, .int .u8 0, .int .u8 0, .int .u8 0, .int .u8 0, .int .u8 0, .int .u8 0, .int .u8 0, .int .u8 0, .int .u8 0, .int .u8 0, .int .u8 0, .int .u8 0, .int .u8 0, .int .u8 0, .int .u8 0, .int .u8 0]), 32, 32) := by kernel_rfl
theorem dig_size : (Tryd.prog.info? 23).map (·.size) = some 32 := by kernel_rfl
def dV (d : List UInt8) : Array Value := (d.map vB).toArray
theorem dV_size {d : List UInt8} (h : d.length = 32) : (dV d).size = 32 := by simp [dV, h]
theorem dV_get {d : List UInt8} {k : Nat} (hk : k < d.length) : (dV d)[k]? = some (.int .u8 d[k].toNat) := by simp [dV, hk, vB]
theorem dV_one (d : List UInt8) : (dV d).all (·.oneCell') = true := by
  unfold dV
  exact all_oneCell_toArray (one_bytes d)
theorem dV_list (d : List UInt8) : (dV d).toList = d.map vB := by simp [dV]
theorem dV_of (d : List UInt8) : (d.map vB).toArray = dV d := rfl
theorem map_vB_inj : ∀ d e : List UInt8, d.map vB = e.map vB → d = e := by
  intro d
  induction d with
  | nil => intro e h; cases e with
    | nil => rfl
    | cons b e => simp at h
  | cons a d ih => intro e h; cases e with
    | nil => simp at h
    | cons b e =>
      simp only [List.map_cons, List.cons.injEq, vB, Value.int.injEq, true_and] at h
      rw [ih e h.2, UInt8.toNat_inj.1 (show a.toNat = b.toNat by omega)]
theorem dV_inj {d e : List UInt8} (h : dV d = dV e) : d = e := by
  have h1 := congrArg Array.toList h
  rw [dV_list, dV_list] at h1
  exact map_vB_inj d e h1
/-- an element of a digest by value -/
theorem run_index_dig {d : List UInt8} (h : d.length = 32) {k : Nat} (hk : k < 32) (w : World) : (Instr.index 23 (.agg (dV d)) (.int .i64 (k : Int))).run Tryd.prog w = .ok (.int .u8 (d[k]'(by omega)).toNat) w := by
  have hs : ∀ w, (sizeOf 5).run Tryd.prog w = .ok 1 w := fun w => by kernel_rfl
  have ha : ∀ w, (isAgg 5).run Tryd.prog w = .ok false w := fun w => by kernel_rfl
  have hg := dV_get (d := d) (k := k) (by omega)
  simp [Instr.index, asIntOf, run_underlying Tryd.underlying23, go_sem, hk, hs, ha, part, hg]
/-- are two digests the same? -/
theorem dig_eq {d e : List UInt8} (hd : d.length = 32) (he : e.length = 32) (w : World) : (Op.equalIn 10000 23 (.agg (dV d)) (.agg (dV e))).run Tryd.prog w = .ok (d == e) w :=
  run_equalIn_bytes w 9998 _ _ 32 Tryd.underlying23 Tryd.underlying5 (fun w => by kernel_rfl) d e hd he
/-! a list of digests that the call owns -/
theorem own_setS {w : World} {base : Nat} {e : TypeId} {size g n cap : Nat} {xs : List Value} (h : w.ownsRow base e size (.slice (some ⟨g, 0, none⟩) n cap) n xs) (k : Nat) (u : Value) :
    (w.setCell ⟨g, k, none⟩ u).ownsRow base e size (.slice (some ⟨g, 0, none⟩) n cap) n (xs.set k u) := by
  obtain ⟨hl, h⟩ := h
  refine ⟨by simpa using hl, ?_⟩
  rcases h with ⟨h, _⟩ | ⟨g', cap', cur, hv, hb, hg, hn, hm, hs, ht⟩
  · simp at h
  · simp only [Value.slice.injEq, Option.some.injEq, Addr.mk.injEq, true_and] at hv
    obtain ⟨⟨rfl, _⟩, rfl⟩ := hv
    refine .inr ⟨g, cap, cur.setIfInBounds k u, rfl, hb, ?_, hn, hm, by simpa using hs, ?_⟩
    · simp only [World.setCell, Array.getElem?_modify, if_pos, hg]
      simp
    · rw [← ht, Array.toList_setIfInBounds, List.take_set]
theorem own_cellS {w : World} {base : Nat} {e : TypeId} {size g n cap : Nat} {xs : List Value} (h : w.ownsRow base e size (.slice (some ⟨g, 0, none⟩) n cap) n xs) {k : Nat} (hk : k < xs.length) :
    w.cell? ⟨g, k, none⟩ = some xs[k] ∧ w.frozen? ⟨g, k, none⟩ = false := by
  obtain ⟨hl, h⟩ := h
  rcases h with ⟨h, _⟩ | ⟨g', cap', cur, hv, hb, hg, hn, hm, hs, ht⟩
  · simp at h
  · simp only [Value.slice.injEq, Option.some.injEq, Addr.mk.injEq, true_and] at hv
    obtain ⟨⟨rfl, _⟩, rfl⟩ := hv
    constructor
    · rw [cell_of_row w g k cur e (0, 0) hg]
      have hx : xs[k]? = some xs[k] := List.getElem?_eq_getElem hk
      conv at hx => lhs; rw [← ht]
      rw [List.getElem?_take] at hx
      split at hx
      · simpa using hx
      · cases hx
    · exact frozen_of_row w g k cur e hg
def setRange (xs : List Value) : Nat → List Value → List Value
  | _, [] => xs
  | o, v :: r => setRange (xs.set o v) (o + 1) r
theorem setRange_length : ∀ (vs : List Value) (xs : List Value) (o : Nat), (setRange xs o vs).length = xs.length := by
  intro vs
  induction vs with
  | nil => intro xs o; rfl
  | cons v r ih => intro xs o; simp only [setRange]; rw [ih]; simp
theorem setRange_get : ∀ (vs : List Value) (xs : List Value) (o j : Nat), o + vs.length ≤ xs.length → (setRange xs o vs)[j]? = if o ≤ j ∧ j < o + vs.length then vs[j - o]? else xs[j]? := by
  intro vs
  induction vs with
  | nil => intro xs o j _; simp only [setRange, List.length_nil, Nat.add_zero]; rw [if_neg (by omega)]
  | cons v r ih =>
    intro xs o j h
    simp only [setRange, List.length_cons] at h ⊢
    rw [ih (xs.set o v) (o + 1) j (by simp; omega)]
    by_cases e : j = o
    · subst e
      rw [if_neg (by omega), if_pos (by omega), List.getElem?_set_self (by omega)]
      simp
    · by_cases g : o + 1 ≤ j ∧ j < o + 1 + r.length
      · rw [if_pos g, if_pos (by omega)]
        obtain ⟨d, hd⟩ : ∃ d, j = o + 1 + d := ⟨j - (o + 1), by omega⟩
        subst hd
        rw [show o + 1 + d - (o + 1) = d by omega, show o + 1 + d - o = d + 1 by omega]
        rfl
      · rw [if_neg g, if_neg (by omega), List.getElem?_set_ne (by omega)]
theorem own_setCells {base : Nat} {e : TypeId} {size g n cap : Nat} : ∀ (vs : List Value) (w : World) (xs : List Value) (o : Nat), w.ownsRow base e size (.slice (some ⟨g, 0, none⟩) n cap) n xs →
    (w.setCells g o vs).ownsRow base e size (.slice (some ⟨g, 0, none⟩) n cap) n (setRange xs o vs) := by
  intro vs
  induction vs with
  | nil => intro w xs o h; exact h
  | cons v r ih => intro w xs o h; exact ih _ _ _ (own_setS h o v)
theorem below_setCells {B g : Nat} : ∀ (vs : List Value) {w w' : World} (o : Nat), Below B w w' → B ≤ g → Below B w (w'.setCells g o vs) := by
  intro vs
  induction vs with
  | nil => intro w w' o h _; exact h
  | cons v r ih => intro w w' o h hg; exact ih (o + 1) (h.setCell (p := ⟨g, o, none⟩) hg v) hg
theorem heap_setCells_other {g k : Nat} (h : k ≠ g) : ∀ (vs : List Value) (w : World) (o : Nat), (w.setCells g o vs).heap[k]? = w.heap[k]? := by
  intro vs
  induction vs with
  | nil => intro w o; rfl
  | cons v r ih => intro w o; exact (ih _ (o + 1)).trans (Below.heap_setCell w ⟨g, o, none⟩ v k h)
theorem size_setCells {g : Nat} : ∀ (vs : List Value) (w : World) (o : Nat), (w.setCells g o vs).heap.size = w.heap.size := by
  intro vs
  induction vs with
  | nil => intro w o; rfl
  | cons v r ih => intro w o; exact (ih _ (o + 1)).trans (by simp [World.setCell])
theorem range_of_row {w : World} {g : Nat} {d : List UInt8} {t : TypeId} {fr : Nat × Nat} (h : w.heap[g]? = some (.cells (dV d) t fr)) : w.rangeAt g 0 (d.map vB) := by
  intro j v hj
  rw [Nat.zero_add, cell_of_row w g j _ t fr h]
  unfold dV
  simpa using hj
theorem flat_set (ds : List (List UInt8)) (hd : ∀ d ∈ ds, d.length = 32) (k : Nat) (hk : k < ds.length) (d : List UInt8) (h : d.length = 32) : setRange (ds.flatten.map vB) (k * 32) (d.map vB) = (ds.set k d).flatten.map vB := by
  have hd2 : ∀ x ∈ ds.set k d, x.length = 32 := by
    intro x hx
    rcases List.mem_or_eq_of_mem_set hx with hx | rfl
    · exact hd x hx
    · exact h
  obtain ⟨l1, g1⟩ := flat_get ds hd
  obtain ⟨l2, g2⟩ := flat_get (ds.set k d) hd2
  rw [List.length_set] at l2
  apply List.ext_getElem?
  intro j
  rw [setRange_get _ _ _ _ (by rw [List.length_map, List.length_map, l1, h]; omega)]
  rw [List.length_map, h, List.getElem?_map, List.getElem?_map, List.getElem?_map]
  by_cases hj : j < 32 * ds.length
  · have hq : j / 32 < ds.length := by omega
    have hr : j % 32 < 32 := Nat.mod_lt _ (by omega)
    have e2 := g2 (j / 32) (j % 32) (by rw [List.length_set]; exact hq) (by rw [hd2 _ (List.getElem_mem _)]; exact hr)
    rw [show 32 * (j / 32) + j % 32 = j by omega] at e2
    rw [e2]
    by_cases c : k * 32 ≤ j ∧ j < k * 32 + 32
    · have hk2 : j / 32 = k := by omega
      rw [if_pos c]
      congr 1
      have e3 : (ds.set k d)[j / 32]'(by rw [List.length_set]; exact hq) = d := by
        simp only [hk2, List.getElem_set_self]
      have e4 : j - k * 32 = j % 32 := by omega
      rw [e4, List.getElem?_eq_getElem (show j % 32 < d.length by omega)]
      simp only [e3]
    · rw [if_neg c]
      have e1 := g1 (j / 32) (j % 32) hq (by rw [hd _ (List.getElem_mem _)]; exact hr)
      rw [show 32 * (j / 32) + j % 32 = j by omega] at e1
      rw [e1]
      have hne : k ≠ j / 32 := by omega
      have e3 : (ds.set k d)[j / 32]'(by rw [List.length_set]; exact hq) = ds[j / 32] := List.getElem_set_ne hne _
      simp only [e3]
  · rw [if_neg (by omega), List.getElem?_eq_none (by omega), List.getElem?_eq_none (by omega)]
/-- one of the digests set -/
theorem own_digset {w : World} {base g cap : Nat} {e : TypeId} {ds : List (List UInt8)} {n : Nat} (h : w.ownsRow base e 32 (.slice (some ⟨g, 0, none⟩) n cap) n (ds.flatten.map vB)) (hd : ∀ d ∈ ds, d.length = 32) (k : Nat) (hk : k < ds.length) (d : List UInt8) (hl : d.length = 32) :
    (w.setCells g (k * 32) (d.map vB)).ownsRow base e 32 (.slice (some ⟨g, 0, none⟩) n cap) n ((ds.set k d).flatten.map vB) := by
  have := own_setCells (d.map vB) w _ (k * 32) h
  rwa [flat_set ds hd k hk d hl] at this
theorem own_there {w : World} {base g cap : Nat} {e : TypeId} {ds : List (List UInt8)} {n : Nat} (h : w.ownsRow base e 32 (.slice (some ⟨g, 0, none⟩) n cap) n (ds.flatten.map vB)) (hd : ∀ d ∈ ds, d.length = 32) (k : Nat) (hk : k < ds.length) : w.there g (k * 32) 32 := by
  obtain ⟨l1, _⟩ := flat_get ds hd
  intro j hj
  have := own_cellS h (k := k * 32 + j) (by rw [List.length_map, l1]; omega)
  exact ⟨by rw [this.1]; rfl, this.2⟩
/-- the cells of one of the digests that come in -/
theorem Rd.range {w : World} {a : Option Addr} {e : TypeId} {ds : List (List UInt8)} (h : Rd w a e (ds.flatten.map vB)) (hd : ∀ d ∈ ds, d.length = 32) {k : Nat} (hk : k < ds.length) : ∃ b o, a = some ⟨b, o, none⟩ ∧ b < w.heap.size ∧ w.rangeAt b (o + k * 32) (ds[k].map vB) := by
  obtain ⟨l1, g1⟩ := flat_get ds hd
  have hl : 0 < (ds.flatten.map vB).length := by rw [List.length_map, l1]; omega
  obtain ⟨b, o, ha, hb, hc⟩ := h.cell hl
  refine ⟨b, o, ha, hb, fun j v hj => ?_⟩
  rw [List.getElem?_map] at hj
  have hlen : ds[k].length = 32 := hd _ (List.getElem_mem _)
  by_cases hjl : j < ds[k].length
  · rw [List.getElem?_eq_getElem hjl] at hj
    have e1 := g1 k j hk hjl
    have hlt : 32 * k + j < (ds.flatten.map vB).length := by rw [List.length_map, l1]; omega
    have e2 := hc (32 * k + j) hlt
    rw [show o + (32 * k + j) = o + k * 32 + j by omega] at e2
    rw [e2]
    have e3 : (ds.flatten.map vB)[32 * k + j]? = some (vB ds[k][j]) := by rw [List.getElem?_map, e1]; rfl
    rw [List.getElem?_eq_getElem hlt] at e3
    rw [e3]
    simpa using hj
  · rw [List.getElem?_eq_none (by omega)] at hj; cases hj
/-! loads and stores of whole digests, at the list of a region's operations -/
section
variable {ops : Array Oper} {rest : List Oper} {op : Oper} {a : Act} {w : World} {Q : Exit → Act → World → Prop}
theorem info_dV {d : List UInt8} (h : d.length = 32) : (Tryd.prog.info? 23).map (·.size) = some (dV d).size := by rw [dV_size h]; exact dig_size
/-- a load out of some place -/
theorem ld_dig (hgd : op.guard = none) (x : Operand) (ho : op.op = .load 23 x) (b o : Nat) (hx : a.eval x = .pointer (some ⟨b, o, none⟩)) (d : List UInt8) (hl : d.length = 32) (hc : w.rangeAt b o (d.map vB))
    (h : wpList Tryd.prog ops Q rest (a.put op.dst (.agg (dV d))) w) : wpList Tryd.prog ops Q (op :: rest) a w :=
  wpList_load_mid hgd _ x ho b o hx (d.map vB) _ hc Tryd.underlying23 rfl (by rw [List.length_map, hl]; exact dig_size) h
/-- a load out of a block that holds it alone -/
theorem ld_row (hgd : op.guard = none) (x : Operand) (ho : op.op = .load 23 x) (g : Nat) (hx : a.eval x = .pointer (some ⟨g, 0, none⟩)) (d : List UInt8) (hl : d.length = 32) (t : TypeId) (fr : Nat × Nat) (hg : w.heap[g]? = some (.cells (dV d) t fr))
    (h : wpList Tryd.prog ops Q rest (a.put op.dst (.agg (dV d))) w) : wpList Tryd.prog ops Q (op :: rest) a w :=
  wpList_load_row hgd _ x ho g hx t (dV d) fr _ hg Tryd.underlying23 rfl (info_dV hl) h
/-- .. that was made last -/
theorem ld_new (hgd : op.guard = none) (x : Operand) (ho : op.op = .load 23 x) (d : List UInt8) (hl : d.length = 32) (t : TypeId) (hx : a.eval x = .pointer (some ⟨w.heap.size, 0, none⟩))
    (h : wpList Tryd.prog ops Q rest (a.put op.dst (.agg (dV d))) (w.alloc (.cells (dV d) t))) : wpList Tryd.prog ops Q (op :: rest) a (w.alloc (.cells (dV d) t)) :=
  ld_row hgd x ho w.heap.size hx d hl t (0, 0) (heap_alloc_new w _) h
/-- a store into some place -/
theorem st_dig (hgd : op.guard = none) (x y : Operand) (ho : op.op = .store 23 x y) (b o : Nat) (d : List UInt8) (hl : d.length = 32) (hx : a.eval x = .pointer (some ⟨b, o, none⟩)) (hy : a.eval y = .agg (dV d)) (ht : w.there b o 32)
    (h : wpList Tryd.prog ops Q rest (a.put op.dst undef) (w.setCells b o (d.map vB))) : wpList Tryd.prog ops Q (op :: rest) a w :=
  wpList_store_mid hgd _ x y ho b o (dV d) hx hy (by rw [dV_size hl]; exact ht) (info_dV hl) (dV_one d) (by rw [dV_list]; exact h)
/-- a store into a block that holds a digest alone -/
theorem st_row (hgd : op.guard = none) (x y : Operand) (ho : op.op = .store 23 x y) (g : Nat) (d : List UInt8) (hl : d.length = 32) (hx : a.eval x = .pointer (some ⟨g, 0, none⟩)) (hy : a.eval y = .agg (dV d)) (old : Array Value) (hold : old.size = 32) (t : TypeId) (hg : w.heap[g]? = some (.cells old t (0, 0)))
    (h : wpList Tryd.prog ops Q rest (a.put op.dst undef) (w.setRow g (dV d))) : wpList Tryd.prog ops Q (op :: rest) a w :=
  wpList_store_row hgd _ x y ho g (dV d) hx hy t old hg (info_dV hl) (by rw [dV_size hl, hold]) (dV_one d) h
/-- .. that was made last -/
theorem st_new (hgd : op.guard = none) (x y : Operand) (ho : op.op = .store 23 x y) (d : List UInt8) (hl : d.length = 32) (hy : a.eval y = .agg (dV d)) (Z : Array Value) (t : TypeId) (hZ : Z.size = 32) (hx : a.eval x = .pointer (some ⟨w.heap.size, 0, none⟩))
    (h : wpList Tryd.prog ops Q rest (a.put op.dst undef) (w.alloc (.cells (dV d) t))) : wpList Tryd.prog ops Q (op :: rest) a (w.alloc (.cells Z t)) :=
  st_row hgd x y ho w.heap.size d hl hx hy Z hZ t (heap_alloc_new w _) (by rw [World.setRow_alloc_new]; exact h)
end
theorem dV_set (d : List UInt8) (k : Nat) (y : UInt8) : (dV d).setIfInBounds k (.int .u8 y.toNat) = dV (d.set k y) := by
  unfold dV
  rw [List.map_set]
  simp [vB]
theorem below_setRow {B : Nat} {w w' : World} (h : Below B w w') {g : Nat} (hg : B ≤ g) (cs : Array Value) : Below B w (w'.setRow g cs) :=
  h.trans ⟨rfl, rfl, rfl, by rw [setRow_size]; exact Nat.le_refl _, fun k hk => setRow_other _ _ _ _ (by omega)⟩
end Go.Proofs.YtkioddmhjbaleaaDoor
/- A value of many cells is loaded in a region that draws its order and only reads. It says nothing of the program. -/
namespace Go.Proofs.YtkioddmhjbaleaaDoor
open Go.RowKit
theorem results_cell {fn : Func} {k : Nat} {t : TypeId} (h : fn.results = #[.cell k t]) (tmps : Array Value) (P : Program) (w : World) (p : Addr) (v : Value) (hp : tmps.getD k undef = .pointer (some p)) (hl : (loadVar t p).run P w = .ok v w) : (results fn tmps).run P w = .ok v w := by
  have hp2 : tmps[k]?.getD undef = .pointer (some p) := by simpa using hp
  simp [results, h, hp2, asAddr, hl]
section
variable {P : Program} {ops : Array Oper} {C : World → Prop} {Q : Act → Prop} {a : Act} {op : Oper} {rest : List Oper}
theorem quiet_mid (hgd : Region.wanted op (yielded ops a.tmps) = true) (ty : TypeId) (x : Operand) (ho : op.op = .load ty x) (b o : Nat) (hx : a.eval x = .pointer (some ⟨b, o, none⟩)) (cs : List Value) (d : TypeDesc) (hC : ∀ w, C w → w.rangeAt b o cs)
    (hu : P.underlying ty = some d) (hd : d.isRow = true) (hi : (P.info? ty).map (·.size) = some cs.length) (h : wpQuiet P ops C Q rest (a.put op.dst (.agg cs.toArray))) : wpQuiet P ops C Q (op :: rest) a :=
  BigFrame.wpQuiet_want hgd fun K hK => ⟨.agg cs.toArray, fun w hw => by
    unfold Oper.quietAt execOp
    simp only [ho, hx, Instr.loadAt, Instr.sureAddr, Sem.run_bind, Sem.run_pure, Result.andThen_ok, run_loadVar_mid w b o ty cs d (hC w hw) hu hd hi]
    exact ⟨rfl, rfl⟩, hK _ h⟩
theorem quiet_dig_0 (hgd : Region.wanted op (yielded ops a.tmps) = true) (x : Operand) (ho : op.op = .load 23 x) (b o : Nat) (hx : a.eval x = .pointer (some ⟨b, o, none⟩)) (d : List UInt8) (hl : d.length = 32) (hC : ∀ w, C w → w.rangeAt b o (d.map vB))
    (h : wpQuiet Tryd.prog ops C Q rest (a.put op.dst (.agg (dV d)))) : wpQuiet Tryd.prog ops C Q (op :: rest) a :=
  quiet_mid hgd _ x ho b o hx (d.map vB) _ hC Tryd.underlying23 rfl (by rw [List.length_map, hl]; exact dig_size) h
theorem quiet_dig {x1 : Operand} (ho : op.op = .load 23 x1) (x : Operand) (he_ : x1 = x) (b o : Nat) (hx : a.eval x = .pointer (some ⟨b, o, none⟩)) (d : List UInt8) (hl : d.length = 32) (hC : ∀ w, C w → w.rangeAt b o (d.map vB))
    (h : wpQuiet Tryd.prog ops C Q rest (a.put op.dst (.agg (dV d)))) (hgd : Region.wanted op (yielded ops a.tmps) = true := by rfl) : wpQuiet Tryd.prog ops C Q (op :: rest) a := by
  cases he_
  exact quiet_dig_0 hgd _ ho b o hx d hl hC h
theorem quiet_dig_eq_0 (hgd : Region.wanted op (yielded ops a.tmps) = true) (x y : Operand) (t : TypeId) (ho : op.op = .binOp .eql 23 x y t) (d e : List UInt8) (hx : a.eval x = .agg (dV d)) (hy : a.eval y = .agg (dV e)) (hd : d.length = 32) (he : e.length = 32)
    (h : wpQuiet Tryd.prog ops C Q rest (a.put op.dst (.bool (d == e)))) : wpQuiet Tryd.prog ops C Q (op :: rest) a :=
  BigFrame.wpQuiet_want hgd fun K hK => ⟨.bool (d == e), fun w hw => by
    unfold Oper.quietAt execOp
    have DE := dig_eq hd he w
    simp only [ho, hx, hy]
    simp [go_sem, DE], hK _ h⟩
theorem quiet_dig_eq {x1 y1 : Operand} {t1 : TypeId} (ho : op.op = .binOp .eql 23 x1 y1 t1) (x y : Operand) (t : TypeId) (he_ : (x1, y1, t1) = (x, y, t)) (d e : List UInt8) (hx : a.eval x = .agg (dV d)) (hy : a.eval y = .agg (dV e)) (hd : d.length = 32) (he : e.length = 32)
    (h : wpQuiet Tryd.prog ops C Q rest (a.put op.dst (.bool (d == e)))) (hgd : Region.wanted op (yielded ops a.tmps) = true := by rfl) : wpQuiet Tryd.prog ops C Q (op :: rest) a := by
  cases he_
  exact quiet_dig_eq_0 hgd _ _ _ ho d e hx hy hd he h
theorem run_dig_neq {d e : List UInt8} (hd : d.length = 32) (he : e.length = 32) (w : World) : (binOp .neq 23 (.agg (dV d)) (.agg (dV e))).run Tryd.prog w = .ok (.bool (!(d == e))) w := by
  show (Op.equalIn 10000 23 (.agg (dV d)) (.agg (dV e)) >>= fun b => pure (Value.bool (!b))).run _ _ = _
  rw [Sem.run_bind, dig_eq hd he w]; rfl
theorem quiet_dig_neq_0 (hgd : Region.wanted op (yielded ops a.tmps) = true) (x y : Operand) (t : TypeId) (ho : op.op = .binOp .neq 23 x y t) (d e : List UInt8) (hx : a.eval x = .agg (dV d)) (hy : a.eval y = .agg (dV e)) (hd : d.length = 32) (he : e.length = 32)
    (h : wpQuiet Tryd.prog ops C Q rest (a.put op.dst (.bool (!(d == e))))) : wpQuiet Tryd.prog ops C Q (op :: rest) a :=
  BigFrame.wpQuiet_want hgd fun K hK => ⟨.bool (!(d == e)), fun w hw => by
    unfold Oper.quietAt execOp
    have g : (eqGuard .neq 23 x y (.agg (dV d)) (.agg (dV e))).run Tryd.prog w = .ok () w := by simp [go_sem]
    simp only [ho, hx, hy, Sem.run_bind, g, run_dig_neq hd he w, Result.andThen_ok]
    exact ⟨rfl, rfl⟩, hK _ h⟩
theorem quiet_dig_neq {x1 y1 : Operand} {t1 : TypeId} (ho : op.op = .binOp .neq 23 x1 y1 t1) (x y : Operand) (t : TypeId) (he_ : (x1, y1, t1) = (x, y, t)) (d e : List UInt8) (hx : a.eval x = .agg (dV d)) (hy : a.eval y = .agg (dV e)) (hd : d.length = 32) (he : e.length = 32)
    (h : wpQuiet Tryd.prog ops C Q rest (a.put op.dst (.bool (!(d == e))))) (hgd : Region.wanted op (yielded ops a.tmps) = true := by rfl) : wpQuiet Tryd.prog ops C Q (op :: rest) a := by
  cases he_
  exact quiet_dig_neq_0 hgd _ _ _ ho d e hx hy hd he h
theorem quiet_sleq (hgd : Region.wanted op (yielded ops a.tmps) = true) (x y : Operand) (t : TypeId) (ho : op.op = .binOp .leq 9 x y t) (d e : ByteArray) (hx : a.eval x = .string d) (hy : a.eval y = .string e)
    (h : wpQuiet Tryd.prog ops C Q rest (a.put op.dst (.bool (Op.bytesLess d.data.toList e.data.toList || d.data.toList == e.data.toList)))) : wpQuiet Tryd.prog ops C Q (op :: rest) a :=
  BigFrame.wpQuiet_want hgd fun K hK => ⟨.bool (Op.bytesLess d.data.toList e.data.toList || d.data.toList == e.data.toList), fun w hw => by
    unfold Oper.quietAt execOp
    simp only [ho, hx, hy]
    simp [go_sem, ← Lib.toList_data], hK _ h⟩
end
end Go.Proofs.YtkioddmhjbaleaaDoor
/- A region that draws its order, whose operations read what lies below, and whose calls leave that as it was: one walk of the order of the text. It says nothing of the program. -/
namespace Go.Proofs.YtkioddmhjbaleaaDoor
open Go.RowKit
set_option linter.unusedVariables false
/-- all below B is as it was in w -/
def InB (B : Nat) (w w' : World) : Prop := Below B w w'
theorem inB_ex (B : Nat) (w : World) : ∃ x, InB B w x := ⟨w, Below.refl _ _⟩
section
variable {P : Program} {B : Nat} {w : World}
theorem wp_region_inB {id : Nat} {Q : Exit → Act → World → Prop} {a : Act} {l : List Oper} (B : Nat) (hm : P.follows .mixedOrders = true) (hB : Region.lexB .any l.toArray = true)
    (h : wpQuiet P l.toArray (InB B w) (fun a' => ∀ w', InB B w w' → Q .normal a' w') l a) : (Code.region id l.toArray true).wp P Q a w :=
  wp_region_quiet (C := InB B w) hm hB (show Below B w w.drew from (Below.refl B w).drew) (by simpa using h)
theorem InB.call {w' : World} {f : FuncId} {args : Array Value} {v : Value} (hC : InB B w w') (hB : B ≤ w.heap.size) (h : Calls P f args w' fun e w'' => e = .returned v ∧ Below w'.heap.size w' w'') : Calls P f args w' fun e w'' => e = .returned v ∧ InB B w w'' :=
  h.mono fun _ _ ⟨he, hb⟩ => ⟨he, Below.trans hC (hb.mono (Nat.le_trans hB (Below.size hC)))⟩
theorem InB.calm {w' : World} {f : FuncId} {args : Array Value} {v : Value} (hC : InB B w w') (h : Calls P f args w' fun e w'' => e = .returned v ∧ w' = w'') : Calls P f args w' fun e w'' => e = .returned v ∧ InB B w w'' :=
  h.mono fun _ _ ⟨he, hb⟩ => ⟨he, by rw [← hb]; exact hC⟩
theorem InB.drawn {w' : World} {f : FuncId} {args : Array Value} {v : Value} (hC : InB B w w') (h : Calls P f args w' fun e w'' => e = .returned v ∧ ∃ n, w'' = w'.drewN n) : Calls P f args w' fun e w'' => e = .returned v ∧ InB B w w'' :=
  h.mono fun _ _ ⟨he, n, hb⟩ => ⟨he, by rw [hb]; exact below_drewN hC n⟩
variable {ops : Array Oper} {C : World → Prop} {Q : Act → Prop} {a : Act} {op : Oper} {rest : List Oper}
/-- an operation that reads no memory -/
theorem quiet_pure (hgd : Region.wanted op (yielded ops a.tmps) = true) (v : Value) (hv : ∀ w, (execOp a.eval op).run P w = .ok (.value v) w) (h : wpQuiet P ops C Q rest (a.put op.dst v)) : wpQuiet P ops C Q (op :: rest) a :=
  BigFrame.wpQuiet_want hgd fun K hK => ⟨v, fun w hw => by
    unfold Oper.quietAt
    rw [hv w]
    exact ⟨rfl, rfl⟩, hK _ h⟩
/-- a call of a function that is known -/
theorem quiet_call (hgd : Region.wanted op (yielded ops a.tmps) = true) (v : Value) (f : FuncId) (vs : Array Value) (he : ∀ w, (execOp a.eval op).run P w = .ok (.enter f vs) w) (hc : ∀ w', C w' → Calls P f vs w' fun e w'' => e = .returned v ∧ C w'')
    (h : wpQuiet P ops C Q rest (a.put op.dst v)) : wpQuiet P ops C Q (op :: rest) a :=
  BigFrame.wpQuiet_want hgd fun K hK => ⟨v, fun w hw => by
    unfold Oper.quietAt
    rw [he w]
    exact ⟨rfl, hc w hw⟩, hK _ h⟩
/-- a load of one cell -/
theorem quiet_cell (hgd : Region.wanted op (yielded ops a.tmps) = true) (ty : TypeId) (x : Operand) (ho : op.op = .load ty x) (p : Addr) (hx : a.eval x = .pointer (some p)) (v : Value) (hC : ∀ w, C w → (loadVar ty p).run P w = .ok v w)
    (h : wpQuiet P ops C Q rest (a.put op.dst v)) : wpQuiet P ops C Q (op :: rest) a :=
  BigFrame.wpQuiet_want hgd fun K hK => ⟨v, fun w hw => by
    unfold Oper.quietAt execOp
    simp only [ho, hx, Instr.loadAt, Instr.sureAddr, Sem.run_bind, Sem.run_pure, Result.andThen_ok, hC w hw]
    exact ⟨rfl, rfl⟩, hK _ h⟩
end
theorem InB.range {B : Nat} {w w' : World} (hC : InB B w w') {b o : Nat} (hb : b < B) {cs : List Value} (h : w.rangeAt b o cs) : w'.rangeAt b o cs :=
  fun j v hj => (Below.cell hC (p := ⟨b, o + j, none⟩) hb).trans (h j v hj)
end Go.Proofs.YtkioddmhjbaleaaDoor
/- Digests loaded and held against each other behind a guard. It says nothing of what the program does. -/
namespace Go.Proofs.YtkioddmhjbaleaaDoor
open Go.RowKit
set_option linter.unusedVariables false
section
variable {ops : Array Oper} {rest : List Oper} {op : Oper} {a : Act} {w : World} {Q : Exit → Act → World → Prop}
theorem eq_digG_0 (hgd : Region.wanted op (yielded ops a.tmps) = true) (x y : Operand) (t : TypeId) (ho : op.op = .binOp .eql 23 x y t) (d e : List UInt8) (hx : a.eval x = .agg (dV d)) (hy : a.eval y = .agg (dV e)) (hd : d.length = 32) (he : e.length = 32)
    (h : wpList Tryd.prog ops Q rest (a.put op.dst (.bool (d == e))) w) : wpList Tryd.prog ops Q (op :: rest) a w := by
  unfold wpList
  rw [if_pos hgd]
  refine .inl ?_
  unfold Oper.wp execOp
  have g : (eqGuard .eql 23 x y (.agg (dV d)) (.agg (dV e))).run Tryd.prog w = .ok () w := by simp [go_sem]
  have b : (binOp .eql 23 (.agg (dV d)) (.agg (dV e))).run Tryd.prog w = .ok (.bool (d == e)) w := by
    show (Op.equalIn 10000 23 (.agg (dV d)) (.agg (dV e)) >>= fun b => pure (Value.bool b)).run _ _ = _
    rw [Sem.run_bind, dig_eq hd he w]; rfl
  simp only [ho, hx, hy, Sem.run_bind, g, b, Result.andThen_ok]
  exact h
theorem eq_digG {x1 y1 : Operand} {t1 : TypeId} (ho : op.op = .binOp .eql 23 x1 y1 t1) (x y : Operand) (t : TypeId) (he_ : (x1, y1, t1) = (x, y, t)) (d e : List UInt8) (hx : a.eval x = .agg (dV d)) (hy : a.eval y = .agg (dV e)) (hd : d.length = 32) (he : e.length = 32)
    (h : wpList Tryd.prog ops Q rest (a.put op.dst (.bool (d == e))) w) (hgd : Region.wanted op (yielded ops a.tmps) = true := by rfl) : wpList Tryd.prog ops Q (op :: rest) a w := by
  cases he_
  exact eq_digG_0 hgd _ _ _ ho d e hx hy hd he h
theorem neq_digG_0 (hgd : Region.wanted op (yielded ops a.tmps) = true) (x y : Operand) (t : TypeId) (ho : op.op = .binOp .neq 23 x y t) (d e : List UInt8) (hx : a.eval x = .agg (dV d)) (hy : a.eval y = .agg (dV e)) (hd : d.length = 32) (he : e.length = 32)
    (h : wpList Tryd.prog ops Q rest (a.put op.dst (.bool (!(d == e)))) w) : wpList Tryd.prog ops Q (op :: rest) a w := by
  unfold wpList
  rw [if_pos hgd]
  refine .inl ?_
  unfold Oper.wp execOp
  have g : (eqGuard .neq 23 x y (.agg (dV d)) (.agg (dV e))).run Tryd.prog w = .ok () w := by simp [go_sem]
  simp only [ho, hx, hy, Sem.run_bind, g, run_dig_neq hd he w, Result.andThen_ok]
  exact h
theorem neq_digG {x1 y1 : Operand} {t1 : TypeId} (ho : op.op = .binOp .neq 23 x1 y1 t1) (x y : Operand) (t : TypeId) (he_ : (x1, y1, t1) = (x, y, t)) (d e : List UInt8) (hx : a.eval x = .agg (dV d)) (hy : a.eval y = .agg (dV e)) (hd : d.length = 32) (he : e.length = 32)
    (h : wpList Tryd.prog ops Q rest (a.put op.dst (.bool (!(d == e)))) w) (hgd : Region.wanted op (yielded ops a.tmps) = true := by rfl) : wpList Tryd.prog ops Q (op :: rest) a w := by
  cases he_
  exact neq_digG_0 hgd _ _ _ ho d e hx hy hd he h
theorem ld_digG_0 (hgd : Region.wanted op (yielded ops a.tmps) = true) (x : Operand) (ho : op.op = .load 23 x) (b o : Nat) (hx : a.eval x = .pointer (some ⟨b, o, none⟩)) (d : List UInt8) (hl : d.length = 32) (hc : w.rangeAt b o (d.map vB))
    (h : wpList Tryd.prog ops Q rest (a.put op.dst (.agg (dV d))) w) : wpList Tryd.prog ops Q (op :: rest) a w := by
  unfold wpList
  rw [if_pos hgd]
  exact .inl (wp_load_mid _ x ho b o hx (d.map vB) _ hc Tryd.underlying23 rfl (by rw [List.length_map, hl]; exact dig_size) h)
theorem ld_digG {x1 : Operand} (ho : op.op = .load 23 x1) (x : Operand) (he_ : x1 = x) (b o : Nat) (hx : a.eval x = .pointer (some ⟨b, o, none⟩)) (d : List UInt8) (hl : d.length = 32) (hc : w.rangeAt b o (d.map vB))
    (h : wpList Tryd.prog ops Q rest (a.put op.dst (.agg (dV d))) w) (hgd : Region.wanted op (yielded ops a.tmps) = true := by rfl) : wpList Tryd.prog ops Q (op :: rest) a w := by
  cases he_
  exact ld_digG_0 hgd _ ho b o hx d hl hc h
end
end Go.Proofs.YtkioddmhjbaleaaDoor
