/- A head in memory: 97 cells. -/
import Derived.Test.YtkioddmhjbaleaaDoorMacL
import Derived.Test.YtkioddmhjbaleaaDoorConcat
import Derived.Test.YtkioddmhjbaleaaDoorArrA
import Derived.Test.YtkioddmhjbaleaaDoorOctPut
import Derived.Test.YtkioddmhjbaleaaDoorHsum
namespace Go.Proofs.YtkioddmhjbaleaaDoor
open Go.RowKit
set_option linter.unusedVariables false
set_option linter.unusedSimpArgs false
def hdV (z : Int) (r m t : List UInt8) : Array Value := (.int .i64 z :: (r.map vB ++ (m.map vB ++ t.map vB))).toArray
theorem hsetCells {g : Nat} : ∀ (vs : List Value) (w : World) (o : Nat) (cur : Array Value) (t : TypeId) (fr : Nat × Nat), w.heap[g]? = some (.cells cur t fr) → (w.setCells g o vs).heap[g]? = some (.cells (setRange cur.toList o vs).toArray t fr)
  | [], w, o, cur, t, fr, h => by simpa [setRange, World.setCells] using h
  | v :: vs, w, o, cur, t, fr, h => by
    have h1 : (w.setCell ⟨g, o, none⟩ v).heap[g]? = some (.cells (cur.setIfInBounds o v) t fr) := by simp [World.setCell, Array.getElem?_modify, h]
    have := hsetCells vs _ (o + 1) _ t fr h1
    rw [Array.toList_setIfInBounds] at this
    exact this
theorem setCells_other {g b : Nat} (hb : b ≠ g) : ∀ (vs : List Value) (w : World) (o : Nat), (w.setCells g o vs).heap[b]? = w.heap[b]? ∧ (w.setCells g o vs).heap.size = w.heap.size
  | [], w, o => by simp [World.setCells]
  | v :: vs, w, o => by
    obtain ⟨h1, h2⟩ := setCells_other hb vs (w.setCell ⟨g, o, none⟩ v) (o + 1)
    exact ⟨h1.trans (Below.heap_setCell _ _ _ _ (by show b ≠ g; exact hb)), h2.trans (by simp [World.setCell])⟩
section
variable {z : Int} {r m t : List UInt8} (hr : r.length = 32) (hm : m.length = 32) (ht : t.length = 32) {w : World} {X : Nat} {ty : TypeId} {fr : Nat × Nat}
include hr hm ht
theorem hdV_size : (hdV z r m t).size = 97 := by simp [hdV, hr, hm, ht]
omit hr hm ht in
theorem hdV_int (hg : w.heap[X]? = some (.cells (hdV z r m t) ty fr)) : w.cell? ⟨X, 0, none⟩ = some (.int .i64 z) := by
  rw [cell_of_row w X 0 _ ty fr hg]; rfl
omit hm ht in
theorem hdV_root (hg : w.heap[X]? = some (.cells (hdV z r m t) ty fr)) : w.rangeAt X 1 (r.map vB) := by
  intro j v hj
  have hlt : j < 32 := by have := (List.getElem?_eq_some_iff.1 hj).1; simpa [hr] using this
  rw [cell_of_row w X (1 + j) _ ty fr hg]
  unfold hdV
  rw [List.getElem?_toArray, show 1 + j = (0 + j) + 1 by omega, List.getElem?_cons_succ]
  rw [List.getElem?_append_left (by rw [List.length_map]; omega), show 0 + j = j by omega]
  exact hj
omit ht in
theorem hdV_map (hg : w.heap[X]? = some (.cells (hdV z r m t) ty fr)) : w.rangeAt X 33 (m.map vB) := by
  intro j v hj
  have hlt : j < 32 := by have := (List.getElem?_eq_some_iff.1 hj).1; simpa [hm] using this
  rw [cell_of_row w X (33 + j) _ ty fr hg]
  unfold hdV
  rw [List.getElem?_toArray, show 33 + j = (32 + j) + 1 by omega, List.getElem?_cons_succ]
  rw [List.getElem?_append_right (by rw [List.length_map]; omega), List.getElem?_append_left (by simp only [List.length_map]; omega), List.length_map, hr, show 32 + j - 32 = j by omega]
  exact hj
theorem hdV_tag (hg : w.heap[X]? = some (.cells (hdV z r m t) ty fr)) : w.rangeAt X 65 (t.map vB) := by
  intro j v hj
  have hlt : j < 32 := by have := (List.getElem?_eq_some_iff.1 hj).1; simpa [ht] using this
  rw [cell_of_row w X (65 + j) _ ty fr hg]
  unfold hdV
  rw [List.getElem?_toArray, show 65 + j = (64 + j) + 1 by omega, List.getElem?_cons_succ]
  rw [List.getElem?_append_right (by rw [List.length_map]; omega), List.getElem?_append_right (by simp only [List.length_map]; omega), List.length_map, List.length_map, hr, hm, show 64 + j - 32 - 32 = j by omega]
  exact hj
omit hr hm ht in
theorem hdV_whole (hg : w.heap[X]? = some (.cells (hdV z r m t) ty fr)) : w.rangeAt X 0 (hdV z r m t).toList := by
  intro j v hj
  rw [Nat.zero_add, cell_of_row w X j _ ty fr hg]
  simpa using hj
omit hr hm ht in
theorem rd_range {vs : List Value} {cur : Array Value} {o : Nat} (hg : w.heap[X]? = some (.cells cur ty fr)) (h : w.rangeAt X o vs) : Rd w (some ⟨X, o, none⟩) ty vs :=
  .inr ⟨X, o, cur, fr, rfl, hg, fun i hi => by rw [← cell_of_row w X (o + i) cur ty fr hg]; exact h i _ (List.getElem?_eq_getElem hi)⟩
omit hr hm ht in
theorem hdV_split : (hdV z r m t).toList = (Value.int .i64 z :: (r.map vB ++ m.map vB)) ++ t.map vB := by simp [hdV]
theorem hdV_put {t' : List UInt8} (ht' : t'.length = 32) : (setRange (hdV z r m t).toList 65 (t'.map vB)).toArray = hdV z r m t' := by
  have hl : (Value.int .i64 z :: (r.map vB ++ m.map vB)).length = 65 := by simp [hr, hm]
  have h97 : (hdV z r m t).toList.length = 97 := by rw [hdV_split, List.length_append, hl, List.length_map, ht]
  have h98 : (hdV z r m t').toList.length = 97 := by rw [hdV_split, List.length_append, hl, List.length_map, ht']
  have h32 : (t'.map vB).length = 32 := by rw [List.length_map, ht']
  apply Array.ext'
  show setRange (hdV z r m t).toList 65 (t'.map vB) = (hdV z r m t').toList
  apply List.ext_getElem?
  intro j
  rw [setRange_get _ _ _ _ (by rw [h97, h32]; omega), h32]
  split
  · rename_i h
    rw [hdV_split, List.getElem?_append_right (by omega), hl]
  · rename_i h
    by_cases h1 : j < 65
    · rw [hdV_split, hdV_split, List.getElem?_append_left (l₁ := Value.int .i64 z :: (r.map vB ++ m.map vB)) (l₂ := t.map vB) (by omega), List.getElem?_append_left (l₁ := Value.int .i64 z :: (r.map vB ++ m.map vB)) (l₂ := t'.map vB) (by omega)]
    · rw [List.getElem?_eq_none (by omega), List.getElem?_eq_none (by omega)]
theorem hdV_there (hg : w.heap[X]? = some (.cells (hdV z r m t) ty (0, 0))) : w.there X 65 32 := by
  intro j hj
  refine ⟨?_, frozen_of_row _ _ _ _ _ hg⟩
  rw [cell_of_row w X (65 + j) _ ty _ hg, Array.getElem?_eq_getElem (by rw [hdV_size hr hm ht]; omega)]
  rfl
theorem hdV_stored {t' : List UInt8} (ht' : t'.length = 32) (hg : w.heap[X]? = some (.cells (hdV z r m t) ty fr)) : (w.setCells X 65 (t'.map vB)).heap[X]? = some (.cells (hdV z r m t') ty fr) := by
  rw [hsetCells _ w 65 _ ty fr hg, hdV_put hr hm ht ht']
end
theorem hdV_one (z : Int) (r m t : List UInt8) : (hdV z r m t).all (·.oneCell') = true := by
  unfold hdV
  refine all_oneCell_toArray fun u hu => ?_
  rcases List.mem_cons.1 hu with rfl | hu
  · rfl
  · rcases List.mem_append.1 hu with hu | hu
    · exact one_bytes _ u hu
    · rcases List.mem_append.1 hu with hu | hu
      · exact one_bytes _ u hu
      · exact one_bytes _ u hu
theorem info_head : (Tryd.prog.info? 75).map (·.size) = some 97 := by kernel_rfl
set_option maxRecDepth 20000 in
theorem run_build_head32 (z : Int) (k0 k1 k2 k3 k4 k5 k6 k7 k8 k9 k10 k11 k12 k13 k14 k15 k16 k17 k18 k19 k20 k21 k22 k23 k24 k25 k26 k27 k28 k29 k30 k31 : UInt8) (w : World) : (Instr.build 75 #[(0, .int .i64 z), (1, .agg (dV [k0, k1, k2, k3, k4, k5, k6, k7, k8, k9, k10, k11, k12, k13, k14, k15, k16, k17, k18, k19, k20, k21, k22, k23, k24, k25, k26, k27, k28, k29, k30, k31]))]).run Tryd.prog w = .ok (.agg (hdV z [k0, k1, k2, k3, k4, k5, k6, k7, k8, k9, k10, k11, k12, k13, k14, k15, k16, k17, k18, k19, k20, k21, k22, k23, k24, k25, k26, k27, k28, k29, k30, k31] nz nz)) w := by kernel_rfl
theorem run_build_head (z : Int) : ∀ (d : List UInt8), d.length = 32 → ∀ w : World, (Instr.build 75 #[(0, .int .i64 z), (1, .agg (dV d))]).run Tryd.prog w = .ok (.agg (hdV z d nz nz)) w := by
  intro key hk
  match key, hk with
  | [k0, k1, k2, k3, k4, k5, k6, k7, k8, k9, k10, k11, k12, k13, k14, k15, k16, k17, k18, k19, k20, k21, k22, k23, k24, k25, k26, k27, k28, k29, k30, k31], _ => exact run_build_head32 z k0 k1 k2 k3 k4 k5 k6 k7 k8 k9 k10 k11 k12 k13 k14 k15 k16 k17 k18 k19 k20 k21 k22 k23 k24 k25 k26 k27 k28 k29 k30 k31
section
variable {ops : Array Oper} {rest : List Oper} {op : Oper} {a : Act} {w : World} {Q : Exit → Act → World → Prop}
theorem bld_head (hgd : op.guard = none) (x y : Operand) (ho : op.op = .build 75 #[(0, x), (1, y)]) (z : Int) (d : List UInt8) (hd : d.length = 32) (hx : a.eval x = .int .i64 z) (hy : a.eval y = .agg (dV d))
    (hw : wpList Tryd.prog ops Q rest (a.put op.dst (.agg (hdV z d nz nz))) w) : wpList Tryd.prog ops Q (op :: rest) a w := by
  refine wpList_plain hgd fun K hK => ?_
  unfold Oper.wp execOp
  simp only [ho, List.map_toArray, List.map_cons, List.map_nil, hx, hy, Sem.run_bind, run_build_head z d hd w, Result.andThen_ok, Sem.run_pure]
  exact hK _ _ hw
/-- a head is loaded out of its block -/
theorem ld_headG_0 (hgd : Region.wanted op (yielded ops a.tmps) = true) (x : Operand) (ho : op.op = .load 75 x) (g : Nat) (hx : a.eval x = .pointer (some ⟨g, 0, none⟩)) (z : Int) (r m t : List UInt8) (hr : r.length = 32) (hm : m.length = 32) (ht : t.length = 32) (ty : TypeId) (fr : Nat × Nat) (hg : w.heap[g]? = some (.cells (hdV z r m t) ty fr))
    (h : wpList Tryd.prog ops Q rest (a.put op.dst (.agg (hdV z r m t))) w) : wpList Tryd.prog ops Q (op :: rest) a w := by
  unfold wpList
  rw [if_pos hgd]
  exact .inl (wp_load_mid _ x ho g 0 hx (hdV z r m t).toList _ (hdV_whole hg) Tryd.underlying75 rfl (by rw [Array.length_toList, hdV_size hr hm ht]; exact info_head) (by rw [Array.toArray_toList]; exact h))
theorem ld_headG {x1 : Operand} (ho : op.op = .load 75 x1) (x : Operand) (he_ : x1 = x) (g : Nat) (hx : a.eval x = .pointer (some ⟨g, 0, none⟩)) (z : Int) (r m t : List UInt8) (hr : r.length = 32) (hm : m.length = 32) (ht : t.length = 32) (ty : TypeId) (fr : Nat × Nat) (hg : w.heap[g]? = some (.cells (hdV z r m t) ty fr))
    (h : wpList Tryd.prog ops Q rest (a.put op.dst (.agg (hdV z r m t))) w) (hgd : Region.wanted op (yielded ops a.tmps) = true := by rfl) : wpList Tryd.prog ops Q (op :: rest) a w := by
  cases he_
  exact ld_headG_0 hgd _ ho g hx z r m t hr hm ht ty fr hg h
theorem st_head (hgd : op.guard = none) (x y : Operand) (ho : op.op = .store 75 x y) (g : Nat) (z : Int) (r m t : List UInt8) (hr : r.length = 32) (hm : m.length = 32) (ht : t.length = 32) (hx : a.eval x = .pointer (some ⟨g, 0, none⟩)) (hy : a.eval y = .agg (hdV z r m t)) (old : Array Value) (hold : old.size = 97) (ty : TypeId) (hg : w.heap[g]? = some (.cells old ty (0, 0)))
    (h : wpList Tryd.prog ops Q rest (a.put op.dst undef) (w.setRow g (hdV z r m t))) : wpList Tryd.prog ops Q (op :: rest) a w :=
  wpList_store_row hgd _ x y ho g (hdV z r m t) hx hy ty old hg (by rw [hdV_size hr hm ht]; exact info_head) (by rw [hdV_size hr hm ht, hold]) (hdV_one _ _ _ _) h
theorem st_headNew (hgd : op.guard = none) (x y : Operand) (ho : op.op = .store 75 x y) (z : Int) (r m t : List UInt8) (hr : r.length = 32) (hm : m.length = 32) (ht : t.length = 32) (hy : a.eval y = .agg (hdV z r m t)) (Z : Array Value) (ty : TypeId) (hZ : Z.size = 97) (hx : a.eval x = .pointer (some ⟨w.heap.size, 0, none⟩))
    (h : wpList Tryd.prog ops Q rest (a.put op.dst undef) (w.alloc (.cells (hdV z r m t) ty))) : wpList Tryd.prog ops Q (op :: rest) a (w.alloc (.cells Z ty)) :=
  st_head hgd x y ho w.heap.size z r m t hr hm ht hx hy Z hZ ty (heap_alloc_new w _) (by rw [World.setRow_alloc_new]; exact h)
/-- a head's tag is stored -/
theorem st_tag (hgd : op.guard = none) (x y : Operand) (ho : op.op = .store 23 x y) (g : Nat) (z : Int) (r m t t' : List UInt8) (hr : r.length = 32) (hm : m.length = 32) (ht : t.length = 32) (ht' : t'.length = 32) (hx : a.eval x = .pointer (some ⟨g, 65, none⟩)) (hy : a.eval y = .agg (dV t')) (ty : TypeId) (hg : w.heap[g]? = some (.cells (hdV z r m t) ty (0, 0)))
    (h : wpList Tryd.prog ops Q rest (a.put op.dst undef) (w.setCells g 65 (t'.map vB))) : wpList Tryd.prog ops Q (op :: rest) a w :=
  wpList_store_mid hgd _ x y ho g 65 (dV t') hx hy (by rw [dV_size ht']; exact hdV_there hr hm ht hg) (info_dV ht') (dV_one _) (by rw [show (dV t').toList = t'.map vB from rfl]; exact h)
end
end Go.Proofs.YtkioddmhjbaleaaDoor
/- Walks: log.Tag and team.Mark. -/
namespace Go.Proofs.YtkioddmhjbaleaaDoor
open Go.RowKit
set_option linter.unusedVariables false
set_option linter.unusedSimpArgs false
theorem OPut_z (n : Nat) (hn : n < 4294967296) (z : Int) (hz : z = (n : Int)) (w : World) :
    Calls Tryd.prog 65 #[.int .i64 z, .int .i64 4] w fun e w' => ∃ a cap, e = .returned (.tuple #[.slice a 4 cap, .nilIface]) ∧ Rd w' a 5 ((oc4 n).map vB) ∧ Below w.heap.size w w' := by
  subst hz
  exact (OPut_ok n hn w).mono fun e w' ⟨a, cap, h1, h2, h3⟩ => ⟨a, cap, h1, Rd.of_own h2, h3⟩
theorem OPut_no0 (n : Int) (hn : n < 0 ∨ 4294967296 ≤ n) (h : n ≤ 9223372036854775807) (w : World) :
    Calls Tryd.prog 65 #[.int .i64 n, .int .i64 4] w fun e w' => e = .returned (.tuple #[.slice none 0 0, .iface 41 (.int .i64 2)]) ∧ Below w.heap.size w w' :=
  (OPut_no n hn h w).mono fun e w' ⟨h1, h2⟩ => ⟨h1, by rw [← h2]; exact Below.refl _ _⟩
def b8 (z : Int) : UInt8 := UInt8.ofNat (z % 256).toNat
def hi4 (z : Int) : List UInt8 := [b8 (z / 16777216), b8 (z / 65536), b8 (z / 256), b8 z]
theorem vB_b8 (z : Int) : Value.int .u8 (z % 256) = vB (b8 z) := by
  have h : 0 ≤ z % 256 ∧ z % 256 < 256 := by omega
  unfold vB b8
  rw [UInt8.toNat_ofNat_of_lt' (by show (z % 256).toNat < 256; omega), Int.toNat_of_nonneg h.1]
theorem hi4_eq (z : Int) : (#[.int .u8 (z / 16777216 % 256), .int .u8 (z / 65536 % 256), .int .u8 (z / 256 % 256), .int .u8 (z % 256)] : Array Value) = dV (hi4 z) := by
  rw [vB_b8, vB_b8, vB_b8, vB_b8]; rfl
theorem Mac_at (KY : List UInt8) (KU : KY.length ≤ 140737488355328) (ka : Option Addr) (kc ke : Nat) (b : List UInt8) (n : Nat) (hn : b.length = n) (hb0 : 0 < n) (hbl : n ≤ 1000000000) (ba : Option Addr) (bc be : Nat) (w : World) (hk : Rd w ka ke (KY.map vB)) (hb : Rd w ba be (b.map vB)) (hro : RoundsAt w) :
    Calls Tryd.prog 66 #[.slice ka KY.length kc, .slice ba n bc] w fun e w' => e = .returned (.agg (dV (macOf KY b))) ∧ Below w.heap.size w w' := by
  subst hn; exact Mac_any KY KU ka kc ke b hb0 hbl ba bc be w hk hb hro
theorem oc4_len (n : Nat) : (oc4 n).length = 4 := by first | rfl | simp [oc4]
/-- three rows, one behind the other -/
theorem rows3_calls (a b c : List UInt8) (la lb lc : Nat) (ha : a.length = la) (hb : b.length = lb) (hc : c.length = lc) (ha1 : 0 < la ∧ la ≤ 1000) (hb1 : 0 < lb ∧ lb ≤ 1000) (hc1 : 0 < lc ∧ lc ≤ 1000) (W : World) (T : Nat) (pa pb pc : Option Addr) (ca cb cc ea eb ec : Nat) (hT : W.heap[T]? = some (.cells #[.slice pa la ca, .slice pb lb cb, .slice pc lc cc] 67 (0, 0))) (r1 : Rd W pa ea (a.map vB)) (r2 : Rd W pb eb (b.map vB)) (r3 : Rd W pc ec (c.map vB)) :
    Calls Tryd.prog 67 #[.slice (some ⟨T, 0, none⟩) 3 3] W fun e w' => ∃ x cap, e = .returned (.slice x (la + (lb + lc)) cap) ∧ Rd w' x 5 ((a ++ (b ++ c)).map vB) ∧ Below W.heap.size W w' := by
  subst ha hb hc
  have hr : Rd W (some ⟨T, 0, none⟩) 67 [.slice pa a.length ca, .slice pb b.length cb, .slice pc c.length cc] := .inr ⟨T, 0, _, _, rfl, hT, fun i hi => by
    simp only [Nat.zero_add]
    rw [List.getElem?_toArray, List.getElem?_eq_getElem hi]⟩
  have hv : AreB (fun _ _ => True) W [a, b, c] [.slice pa a.length ca, .slice pb b.length cb, .slice pc c.length cc] := by
    refine ⟨rfl, fun i h h' => ?_⟩
    have hi : i = 0 ∨ i = 1 ∨ i = 2 := by simp at h; omega
    rcases hi with rfl | rfl | rfl
    · exact ⟨pa, ca, ea, rfl, r1, fun _ _ _ => trivial, by show a.length ≤ _; omega⟩
    · exact ⟨pb, cb, eb, rfl, r2, fun _ _ _ => trivial, by show b.length ≤ _; omega⟩
    · exact ⟨pc, cc, ec, rfl, r3, fun _ _ _ => trivial, by show c.length ≤ _; omega⟩
  have hne : ∀ r ∈ [a, b, c], r ≠ [] := by
    intro r hr e
    have hl := congrArg List.length e
    simp only [List.mem_cons, List.not_mem_nil, or_false] at hr
    rcases hr with rfl | rfl | rfl
    · simp only [List.length_nil] at hl; omega
    · simp only [List.length_nil] at hl; omega
    · simp only [List.length_nil] at hl; omega
  have he : [a, b, c].flatten = a ++ (b ++ c) := by simp
  have := Concat_calls [a, b, c] (some ⟨T, 0, none⟩) 3 _ _ _ hr hv (by simp) hne (by rw [he]; simp only [List.length_append]; omega)
  rw [he] at this
  refine this.mono ?_
  rintro e w' ⟨x, cap, h1, h2, h3⟩
  refine ⟨x, cap, by rw [h1]; simp only [List.length_append], Rd.of_own h2, h3⟩
set_option maxRecDepth 20000 in
set_option maxHeartbeats 1000000 in
theorem Tag_ok (KY : List UInt8) (KU : KY.length ≤ 140737488355328) (ka : Option Addr) (kc ke : Nat) (n : Nat) (hn : n < 4294967296) (zi : Int) (hz : zi = (n : Int)) (dr dm dt : List UInt8) (hr : dr.length = 32) (hm : dm.length = 32) (ht : dt.length = 32) (w : World) (hk : Rd w ka ke (KY.map vB)) (hro : RoundsAt w) :
    Calls Tryd.prog 34 #[.slice ka KY.length kc, .agg (hdV zi dr dm dt)] w fun e w' => e = .returned (.agg (dV (macOf KY ((oc4 n) ++ (dr ++ dm))))) ∧ Below w.heap.size w w' := by
  have ZL := Lib.hid nz_length
  have LR := Lib.hid hr
  have LM := Lib.hid hm
  have LT := Lib.hid ht
  have RO := Lib.hid hro
  have RK := Lib.hid hk
  have KUH := Lib.hid KU
  clear hr hm ht hro hk KU
  have HN := Lib.hid hn
  have HZ := Lib.hid hz
  clear hn hz
  obtain ⟨X, hX⟩ : ∃ z, z = w.heap.size := ⟨_, rfl⟩
  obtain ⟨w1, hw1⟩ : ∃ z, z = w.alloc (.cells (hdV zi dr dm dt) 75) := ⟨_, rfl⟩
  have st1 : Below w.heap.size w w1 := by rw [hw1]; exact (Below.refl _ _).alloc (Nat.le_refl _) _
  have B1 := Lib.hid (show Below w.heap.size w w1 from Below.trans (Below.refl w.heap.size w) (Below.mono st1 (Below.size (Below.refl w.heap.size w))))
  have GX_1 := Lib.hid (show w1.heap[X]? = some (.cells (hdV zi dr dm dt) 75 (0, 0)) by rw [hw1, hX]; exact heap_alloc_new _ _)
  have LX_1 := Lib.hid (lt_of_heap GX_1.out)
  have HX := Lib.hid hX
  have Hw1 := Lib.hid hw1
  clear hX hw1 st1
  have SZX := Lib.hid (show X = w.heap.size from HX.out)
  obtain ⟨R, hR⟩ : ∃ z, z = w1.heap.size := ⟨_, rfl⟩
  obtain ⟨w2, hw2⟩ : ∃ z, z = w1.alloc (.cells (dV nz) 23) := ⟨_, rfl⟩
  have st2 : Below w1.heap.size w1 w2 := by rw [hw2]; exact (Below.refl _ _).alloc (Nat.le_refl _) _
  have B2 := Lib.hid (show Below w.heap.size w w2 from Below.trans B1.out (Below.mono st2 (Below.size B1.out)))
  have GX_2 := Lib.hid ((Below.block st2 X LX_1.out).trans GX_1.out)
  have LX_2 := Lib.hid (Nat.lt_of_lt_of_le LX_1.out (Below.size st2))
  have GR_2 := Lib.hid (show w2.heap[R]? = some (.cells (dV nz) 23 (0, 0)) by rw [hw2, hR]; exact heap_alloc_new _ _)
  have LR_2 := Lib.hid (lt_of_heap GR_2.out)
  have HR := Lib.hid hR
  have Hw2 := Lib.hid hw2
  clear hR hw2 st2
  have SZR := Lib.hid (show R = w.heap.size + 1 by rw [HR.out, Hw1.out, World.size_alloc, ← HX.out, SZX.out])
  have RK_2 := Lib.hid (RK.out.below (show Below w.heap.size w w2 from B2.out))
  go_enter Tryd.func34, Tryd.ntmps34
  go_upto_region 1 with fail
  rw [zdig]
  rw [← SZR.out, ← SZX.out, ← Hw1.out, ← Hw2.out]
  have c0 := hdV_int GX_2.out
  go_wp2_with fail
  refine (OPut_z n HN.out zi HZ.out w2).mono ?_
  rintro e w3 ⟨pa, pcap, rfl, hown, hb3⟩
  have B3 := Lib.hid (show Below w.heap.size w w3 from Below.trans B2.out (Below.mono hb3 (Below.size B2.out)))
  have GX_3 := Lib.hid ((Below.block hb3 X LX_2.out).trans GX_2.out)
  have LX_3 := Lib.hid (Nat.lt_of_lt_of_le LX_2.out (Below.size hb3))
  have GR_3 := Lib.hid ((Below.block hb3 R LR_2.out).trans GR_2.out)
  have LR_3 := Lib.hid (Nat.lt_of_lt_of_le LR_2.out (Below.size hb3))
  have RK_3 := Lib.hid (RK_2.out.below hb3)
  have RP_3 := Lib.hid hown
  clear hown
  clear hb3
  clear c0
  have RR_3 := Lib.hid (rd_range GX_3.out (hdV_root LR.out GX_3.out))
  have RM_3 := Lib.hid (rd_range GX_3.out (hdV_map LR.out LM.out GX_3.out))
  go_wp2_with fail
  have BB_wd := Lib.hid (show Below w.heap.size w w3.drew from B3.out.drew)
  have BD_wd := Lib.hid (show Below w3.heap.size w3 w3.drew from (Below.refl _ _).drew)
  obtain ⟨wd, hwd⟩ : ∃ z, z = w3.drew := ⟨_, rfl⟩
  refine wp_region_held_drew (S := fun w' => Below w.heap.size w w') (by kernel_rfl) BB_wd.out (fun hHeld => ?_)
  rw [← hwd] at hHeld BB_wd BD_wd ⊢
  clear hwd
  refine wpAnyH_take (i := 0) (oi := _) (v := .slice ka KY.length kc) rfl (by kernel_rfl) (by kernel_rfl) (by kernel_rfl) (fun _ _ _ h => h) (Or.inl ⟨by rfl, fun w hw => by go_simp⟩) hHeld ?_
  simp only [Act.put, List.getElem_toArray, List.getElem_cons_zero, List.getElem_cons_succ, List.setIfInBounds_toArray, List.set_cons_zero, List.set_cons_succ]
  refine wpAnyH_take (i := 1) (oi := _) (v := .slice pa 4 pcap) rfl (by kernel_rfl) (by kernel_rfl) (by kernel_rfl) (fun _ _ _ h => h) (Or.inl ⟨by rfl, fun w hw => by go_simp⟩) hHeld ?_
  simp only [Act.put, List.getElem_toArray, List.getElem_cons_zero, List.getElem_cons_succ, List.setIfInBounds_toArray, List.set_cons_zero, List.set_cons_succ]
  refine wpAnyH_take (i := 2) (oi := _) (v := .pointer (some ⟨X, 1, none⟩)) rfl (by kernel_rfl) (by kernel_rfl) (by kernel_rfl) (fun _ _ _ h => h) (Or.inl ⟨by rfl, fun w hw => by go_simp⟩) hHeld ?_
  simp only [Act.put, List.getElem_toArray, List.getElem_cons_zero, List.getElem_cons_succ, List.setIfInBounds_toArray, List.set_cons_zero, List.set_cons_succ]
  refine wpAnyH_take (i := 3) (oi := _) (v := .slice (some ⟨X, 1, none⟩) 32 32) rfl (by kernel_rfl) (by kernel_rfl) (by kernel_rfl) (fun _ _ _ h => h) (Or.inl ⟨by rfl, fun w hw => by go_simp⟩) hHeld ?_
  simp only [Act.put, List.getElem_toArray, List.getElem_cons_zero, List.getElem_cons_succ, List.setIfInBounds_toArray, List.set_cons_zero, List.set_cons_succ]
  refine wpAnyH_take (i := 4) (oi := _) (v := .pointer (some ⟨X, 33, none⟩)) rfl (by kernel_rfl) (by kernel_rfl) (by kernel_rfl) (fun _ _ _ h => h) (Or.inl ⟨by rfl, fun w hw => by go_simp⟩) hHeld ?_
  simp only [Act.put, List.getElem_toArray, List.getElem_cons_zero, List.getElem_cons_succ, List.setIfInBounds_toArray, List.set_cons_zero, List.set_cons_succ]
  refine wpAnyH_take (i := 5) (oi := _) (v := .slice (some ⟨X, 33, none⟩) 32 32) rfl (by kernel_rfl) (by kernel_rfl) (by kernel_rfl) (fun _ _ _ h => h) (Or.inl ⟨by rfl, fun w hw => by go_simp⟩) hHeld ?_
  simp only [Act.put, List.getElem_toArray, List.getElem_cons_zero, List.getElem_cons_succ, List.setIfInBounds_toArray, List.set_cons_zero, List.set_cons_succ]
  refine wpAnyH_ready (rs := [6]) (by kernel_rfl) (by simp) ?_
  refine AllReadyH.cons (o := _) rfl (fun K hK => ?_) AllReadyH.nil
  have HK := Lib.hid hK
  clear hK
  go_simp
  obtain ⟨T, hT⟩ : ∃ z, z = wd.heap.size := ⟨_, rfl⟩
  obtain ⟨wa, hwa⟩ : ∃ z, z = wd.alloc (.cells #[.slice pa 4 pcap, .slice (some ⟨X, 1, none⟩) 32 32, .slice (some ⟨X, 33, none⟩) 32 32] 67) := ⟨_, rfl⟩
  have BB_wa := Lib.hid (show Below w.heap.size w wa by rw [hwa]; exact BB_wd.out.alloc BB_wd.out.size _)
  have BD_wa := Lib.hid (show Below w3.heap.size w3 wa by rw [hwa]; exact BD_wd.out.alloc BD_wd.out.size _)
  have GT := Lib.hid (show wa.heap[T]? = some (.cells #[.slice pa 4 pcap, .slice (some ⟨X, 1, none⟩) 32 32, .slice (some ⟨X, 33, none⟩) 32 32] 67 (0, 0)) by rw [hwa, hT]; exact heap_alloc_new _ _)
  rw [← hT, ← hwa]
  clear hT hwa
  refine HK.out _ _ BB_wa.out ?_
  clear HK K hHeld
  try simp only [Act.put, List.getElem_toArray, List.getElem_cons_zero, List.getElem_cons_succ, List.setIfInBounds_toArray, List.set_cons_zero, List.set_cons_succ]
  intro hHeld
  refine wpAnyH_ready (rs := [7]) (by kernel_rfl) (by simp) ?_
  refine AllReadyH.cons (o := _) rfl (fun K hK => ?_) AllReadyH.nil
  have HK := Lib.hid hK
  clear hK
  go_simp
  go_at_call 67
  refine (rows3_calls (oc4 n) dr dm 4 32 32 (oc4_len n) LR.out LM.out (by omega) (by omega) (by omega) wa T _ _ _ _ _ _ _ _ _ GT.out (RP_3.out.below BD_wa.out) (RR_3.out.below BD_wa.out) (RM_3.out.below BD_wa.out)).mono ?_
  rintro e wb ⟨cx, ccp, rfl, hrd, hb⟩
  have BB_wb := Lib.hid (show Below w.heap.size w wb from BB_wa.out.trans (hb.mono BB_wa.out.size))
  have BD_wb := Lib.hid (show Below w3.heap.size w3 wb from BD_wa.out.trans (hb.mono BD_wa.out.size))
  have RCX := Lib.hid hrd
  clear hb hrd
  dsimp only
  refine HK.out _ _ BB_wb.out ?_
  clear HK K hHeld
  try simp only [Act.put, List.getElem_toArray, List.getElem_cons_zero, List.getElem_cons_succ, List.setIfInBounds_toArray, List.set_cons_zero, List.set_cons_succ]
  intro hHeld
  refine wpAnyH_ready (rs := [8]) (by kernel_rfl) (by simp) ?_
  refine AllReadyH.cons (o := _) rfl (fun K hK => ?_) AllReadyH.nil
  have HK := Lib.hid hK
  clear hK
  go_simp
  go_at_call 66
  refine (Mac_at KY KUH.out ka kc ke ((oc4 n) ++ (dr ++ dm)) 68 (by simp only [List.length_append]; rw [(oc4_len n), LR.out, LM.out]) (by omega) (by omega) cx ccp _ wb (RK_3.out.below BD_wb.out) RCX.out (RO.out.at_ BB_wb.out)).mono ?_
  rintro e wf ⟨rfl, hb⟩
  have BB_wf := Lib.hid (show Below w.heap.size w wf from BB_wb.out.trans (hb.mono BB_wb.out.size))
  have BD_wf := Lib.hid (show Below w3.heap.size w3 wf from BD_wb.out.trans (hb.mono BD_wb.out.size))
  have GRF := Lib.hid ((BD_wf.out.block R LR_3.out).trans GR_3.out)
  clear hb
  dsimp only
  refine HK.out _ _ BB_wf.out ?_
  clear HK K hHeld
  try simp only [Act.put, List.getElem_toArray, List.getElem_cons_zero, List.getElem_cons_succ, List.setIfInBounds_toArray, List.set_cons_zero, List.set_cons_succ]
  intro hHeld
  refine wpAnyH_ready (rs := [9]) (by kernel_rfl) (by simp) ?_
  refine AllReadyH.cons (o := _) rfl (fun K hK => ?_) AllReadyH.nil
  have HK := Lib.hid hK
  clear hK
  rw [if_pos (by rfl)]
  have ML := Lib.hid (macOf_length KY ((oc4 n) ++ (dr ++ dm)))
  refine wp_store_row _ _ _ rfl R (dV (macOf KY ((oc4 n) ++ (dr ++ dm)))) (by rfl) (by rfl) _ (dV nz) GRF.out (by rw [dV_size ML.out]; exact dig_size) (by rw [dV_size ML.out, dV_size nz_length]) (dV_one _) ?_
  obtain ⟨wg, hwg⟩ : ∃ z, z = wf.setRow R (dV (macOf KY ((oc4 n) ++ (dr ++ dm)))) := ⟨_, rfl⟩
  have GF := Lib.hid (show wg.heap[R]? = some (.cells (dV (macOf KY ((oc4 n) ++ (dr ++ dm)))) 23 (0, 0)) by rw [hwg]; exact setRow_heap _ _ _ _ _ _ GRF.out)
  have BB_wg := Lib.hid (show Below w.heap.size w wg by rw [hwg]; exact below_setRowW BB_wf.out (by have := SZR.out; omega) _)
  rw [← hwg]
  clear hwg
  refine HK.out _ _ BB_wg.out ?_
  clear HK K hHeld
  try simp only [Act.put, List.getElem_toArray, List.getElem_cons_zero, List.getElem_cons_succ, List.setIfInBounds_toArray, List.set_cons_zero, List.set_cons_succ]
  intro hHeld
  refine wpAnyH_done (by kernel_rfl) ?_ _
  clear hHeld
  go_wp2_with fail
  try simp only [Exit.inBlock, Exit.then]
  refine bodyPost_ret (v := .agg (dV (macOf KY ((oc4 n) ++ (dr ++ dm))))) (results_cellW rfl _ _ _ ⟨R, 0, none⟩ _ rfl ?_) rfl ?_
  · exact dig_load ML.out (range_of_row GF.out)
  · exact ⟨rfl, BB_wg.out⟩
set_option maxRecDepth 20000 in
set_option maxHeartbeats 1000000 in
theorem Tag_no (KY : List UInt8) (KU : KY.length ≤ 140737488355328) (ka : Option Addr) (kc ke : Nat) (zi : Int) (hz : (zi < 0 ∨ 4294967296 ≤ zi) ∧ zi ≤ 9223372036854775807) (dr dm dt : List UInt8) (hr : dr.length = 32) (hm : dm.length = 32) (ht : dt.length = 32) (w : World) (hk : Rd w ka ke (KY.map vB)) (hro : RoundsAt w) :
    Calls Tryd.prog 34 #[.slice ka KY.length kc, .agg (hdV zi dr dm dt)] w fun e w' => e = .returned (.agg (dV (macOf KY ((hi4 zi) ++ (dr ++ dm))))) ∧ Below w.heap.size w w' := by
  have ZL := Lib.hid nz_length
  have LR := Lib.hid hr
  have LM := Lib.hid hm
  have LT := Lib.hid ht
  have RO := Lib.hid hro
  have RK := Lib.hid hk
  have KUH := Lib.hid KU
  clear hr hm ht hro hk KU
  have HZ := Lib.hid hz
  clear hz
  obtain ⟨X, hX⟩ : ∃ z, z = w.heap.size := ⟨_, rfl⟩
  obtain ⟨w1, hw1⟩ : ∃ z, z = w.alloc (.cells (hdV zi dr dm dt) 75) := ⟨_, rfl⟩
  have st1 : Below w.heap.size w w1 := by rw [hw1]; exact (Below.refl _ _).alloc (Nat.le_refl _) _
  have B1 := Lib.hid (show Below w.heap.size w w1 from Below.trans (Below.refl w.heap.size w) (Below.mono st1 (Below.size (Below.refl w.heap.size w))))
  have GX_1 := Lib.hid (show w1.heap[X]? = some (.cells (hdV zi dr dm dt) 75 (0, 0)) by rw [hw1, hX]; exact heap_alloc_new _ _)
  have LX_1 := Lib.hid (lt_of_heap GX_1.out)
  have HX := Lib.hid hX
  have Hw1 := Lib.hid hw1
  clear hX hw1 st1
  have SZX := Lib.hid (show X = w.heap.size from HX.out)
  obtain ⟨R, hR⟩ : ∃ z, z = w1.heap.size := ⟨_, rfl⟩
  obtain ⟨w2, hw2⟩ : ∃ z, z = w1.alloc (.cells (dV nz) 23) := ⟨_, rfl⟩
  have st2 : Below w1.heap.size w1 w2 := by rw [hw2]; exact (Below.refl _ _).alloc (Nat.le_refl _) _
  have B2 := Lib.hid (show Below w.heap.size w w2 from Below.trans B1.out (Below.mono st2 (Below.size B1.out)))
  have GX_2 := Lib.hid ((Below.block st2 X LX_1.out).trans GX_1.out)
  have LX_2 := Lib.hid (Nat.lt_of_lt_of_le LX_1.out (Below.size st2))
  have GR_2 := Lib.hid (show w2.heap[R]? = some (.cells (dV nz) 23 (0, 0)) by rw [hw2, hR]; exact heap_alloc_new _ _)
  have LR_2 := Lib.hid (lt_of_heap GR_2.out)
  have HR := Lib.hid hR
  have Hw2 := Lib.hid hw2
  clear hR hw2 st2
  have SZR := Lib.hid (show R = w.heap.size + 1 by rw [HR.out, Hw1.out, World.size_alloc, ← HX.out, SZX.out])
  have RK_2 := Lib.hid (RK.out.below (show Below w.heap.size w w2 from B2.out))
  go_enter Tryd.func34, Tryd.ntmps34
  go_upto_region 1 with fail
  rw [zdig]
  rw [← SZR.out, ← SZX.out, ← Hw1.out, ← Hw2.out]
  have c0 := hdV_int GX_2.out
  go_wp2_with fail
  refine (OPut_no0 zi HZ.out.1 HZ.out.2 w2).mono ?_
  rintro e w3 ⟨rfl, hb3⟩
  have B3 := Lib.hid (show Below w.heap.size w w3 from Below.trans B2.out (Below.mono hb3 (Below.size B2.out)))
  have GX_3 := Lib.hid ((Below.block hb3 X LX_2.out).trans GX_2.out)
  have LX_3 := Lib.hid (Nat.lt_of_lt_of_le LX_2.out (Below.size hb3))
  have GR_3 := Lib.hid ((Below.block hb3 R LR_2.out).trans GR_2.out)
  have LR_3 := Lib.hid (Nat.lt_of_lt_of_le LR_2.out (Below.size hb3))
  have RK_3 := Lib.hid (RK_2.out.below hb3)
  clear hb3
  clear c0
  have c0 := hdV_int GX_3.out
  obtain ⟨P, hP⟩ : ∃ z, z = w3.heap.size := ⟨_, rfl⟩
  obtain ⟨w4, hw4⟩ : ∃ z, z = w3.alloc (.cells (dV (hi4 zi)) 5) := ⟨_, rfl⟩
  have st4 : Below w3.heap.size w3 w4 := by rw [hw4]; exact (Below.refl _ _).alloc (Nat.le_refl _) _
  have B4 := Lib.hid (show Below w.heap.size w w4 from Below.trans B3.out (Below.mono st4 (Below.size B3.out)))
  have GX_4 := Lib.hid ((Below.block st4 X LX_3.out).trans GX_3.out)
  have LX_4 := Lib.hid (Nat.lt_of_lt_of_le LX_3.out (Below.size st4))
  have GR_4 := Lib.hid ((Below.block st4 R LR_3.out).trans GR_3.out)
  have LR_4 := Lib.hid (Nat.lt_of_lt_of_le LR_3.out (Below.size st4))
  have RK_4 := Lib.hid (RK_3.out.below st4)
  have GP_4 := Lib.hid (show w4.heap[P]? = some (.cells (dV (hi4 zi)) 5 (0, 0)) by rw [hw4, hP]; exact heap_alloc_new _ _)
  have LP_4 := Lib.hid (lt_of_heap GP_4.out)
  have HP := Lib.hid hP
  have Hw4 := Lib.hid hw4
  clear hP hw4 st4
  go_upto_region 4 with fail
  rw [hi4_eq zi, ← HP.out, ← Hw4.out]
  have RP_4 := Lib.hid (rd_of_row GP_4.out)
  clear c0
  have RR_4 := Lib.hid (rd_range GX_4.out (hdV_root LR.out GX_4.out))
  have RM_4 := Lib.hid (rd_range GX_4.out (hdV_map LR.out LM.out GX_4.out))
  have BB_wd := Lib.hid (show Below w.heap.size w w4.drew from B4.out.drew)
  have BD_wd := Lib.hid (show Below w4.heap.size w4 w4.drew from (Below.refl _ _).drew)
  obtain ⟨wd, hwd⟩ : ∃ z, z = w4.drew := ⟨_, rfl⟩
  refine wp_region_held_drew (S := fun w' => Below w.heap.size w w') (by kernel_rfl) BB_wd.out (fun hHeld => ?_)
  rw [← hwd] at hHeld BB_wd BD_wd ⊢
  clear hwd
  refine wpAnyH_take (i := 0) (oi := _) (v := .slice ka KY.length kc) rfl (by kernel_rfl) (by kernel_rfl) (by kernel_rfl) (fun _ _ _ h => h) (Or.inl ⟨by rfl, fun w hw => by go_simp⟩) hHeld ?_
  simp only [Act.put, List.getElem_toArray, List.getElem_cons_zero, List.getElem_cons_succ, List.setIfInBounds_toArray, List.set_cons_zero, List.set_cons_succ]
  refine wpAnyH_take (i := 1) (oi := _) (v := .slice (some ⟨P, 0, none⟩) 4 4) rfl (by kernel_rfl) (by kernel_rfl) (by kernel_rfl) (fun _ _ _ h => h) (Or.inl ⟨by rfl, fun w hw => by go_simp⟩) hHeld ?_
  simp only [Act.put, List.getElem_toArray, List.getElem_cons_zero, List.getElem_cons_succ, List.setIfInBounds_toArray, List.set_cons_zero, List.set_cons_succ]
  refine wpAnyH_take (i := 2) (oi := _) (v := .pointer (some ⟨X, 1, none⟩)) rfl (by kernel_rfl) (by kernel_rfl) (by kernel_rfl) (fun _ _ _ h => h) (Or.inl ⟨by rfl, fun w hw => by go_simp⟩) hHeld ?_
  simp only [Act.put, List.getElem_toArray, List.getElem_cons_zero, List.getElem_cons_succ, List.setIfInBounds_toArray, List.set_cons_zero, List.set_cons_succ]
  refine wpAnyH_take (i := 3) (oi := _) (v := .slice (some ⟨X, 1, none⟩) 32 32) rfl (by kernel_rfl) (by kernel_rfl) (by kernel_rfl) (fun _ _ _ h => h) (Or.inl ⟨by rfl, fun w hw => by go_simp⟩) hHeld ?_
  simp only [Act.put, List.getElem_toArray, List.getElem_cons_zero, List.getElem_cons_succ, List.setIfInBounds_toArray, List.set_cons_zero, List.set_cons_succ]
  refine wpAnyH_take (i := 4) (oi := _) (v := .pointer (some ⟨X, 33, none⟩)) rfl (by kernel_rfl) (by kernel_rfl) (by kernel_rfl) (fun _ _ _ h => h) (Or.inl ⟨by rfl, fun w hw => by go_simp⟩) hHeld ?_
  simp only [Act.put, List.getElem_toArray, List.getElem_cons_zero, List.getElem_cons_succ, List.setIfInBounds_toArray, List.set_cons_zero, List.set_cons_succ]
  refine wpAnyH_take (i := 5) (oi := _) (v := .slice (some ⟨X, 33, none⟩) 32 32) rfl (by kernel_rfl) (by kernel_rfl) (by kernel_rfl) (fun _ _ _ h => h) (Or.inl ⟨by rfl, fun w hw => by go_simp⟩) hHeld ?_
  simp only [Act.put, List.getElem_toArray, List.getElem_cons_zero, List.getElem_cons_succ, List.setIfInBounds_toArray, List.set_cons_zero, List.set_cons_succ]
  refine wpAnyH_ready (rs := [6]) (by kernel_rfl) (by simp) ?_
  refine AllReadyH.cons (o := _) rfl (fun K hK => ?_) AllReadyH.nil
  have HK := Lib.hid hK
  clear hK
  go_simp
  obtain ⟨T, hT⟩ : ∃ z, z = wd.heap.size := ⟨_, rfl⟩
  obtain ⟨wa, hwa⟩ : ∃ z, z = wd.alloc (.cells #[.slice (some ⟨P, 0, none⟩) 4 4, .slice (some ⟨X, 1, none⟩) 32 32, .slice (some ⟨X, 33, none⟩) 32 32] 67) := ⟨_, rfl⟩
  have BB_wa := Lib.hid (show Below w.heap.size w wa by rw [hwa]; exact BB_wd.out.alloc BB_wd.out.size _)
  have BD_wa := Lib.hid (show Below w4.heap.size w4 wa by rw [hwa]; exact BD_wd.out.alloc BD_wd.out.size _)
  have GT := Lib.hid (show wa.heap[T]? = some (.cells #[.slice (some ⟨P, 0, none⟩) 4 4, .slice (some ⟨X, 1, none⟩) 32 32, .slice (some ⟨X, 33, none⟩) 32 32] 67 (0, 0)) by rw [hwa, hT]; exact heap_alloc_new _ _)
  rw [← hT, ← hwa]
  clear hT hwa
  refine HK.out _ _ BB_wa.out ?_
  clear HK K hHeld
  try simp only [Act.put, List.getElem_toArray, List.getElem_cons_zero, List.getElem_cons_succ, List.setIfInBounds_toArray, List.set_cons_zero, List.set_cons_succ]
  intro hHeld
  refine wpAnyH_ready (rs := [7]) (by kernel_rfl) (by simp) ?_
  refine AllReadyH.cons (o := _) rfl (fun K hK => ?_) AllReadyH.nil
  have HK := Lib.hid hK
  clear hK
  go_simp
  go_at_call 67
  refine (rows3_calls (hi4 zi) dr dm 4 32 32 (show (hi4 zi).length = 4 from rfl) LR.out LM.out (by omega) (by omega) (by omega) wa T _ _ _ _ _ _ _ _ _ GT.out (RP_4.out.below BD_wa.out) (RR_4.out.below BD_wa.out) (RM_4.out.below BD_wa.out)).mono ?_
  rintro e wb ⟨cx, ccp, rfl, hrd, hb⟩
  have BB_wb := Lib.hid (show Below w.heap.size w wb from BB_wa.out.trans (hb.mono BB_wa.out.size))
  have BD_wb := Lib.hid (show Below w4.heap.size w4 wb from BD_wa.out.trans (hb.mono BD_wa.out.size))
  have RCX := Lib.hid hrd
  clear hb hrd
  dsimp only
  refine HK.out _ _ BB_wb.out ?_
  clear HK K hHeld
  try simp only [Act.put, List.getElem_toArray, List.getElem_cons_zero, List.getElem_cons_succ, List.setIfInBounds_toArray, List.set_cons_zero, List.set_cons_succ]
  intro hHeld
  refine wpAnyH_ready (rs := [8]) (by kernel_rfl) (by simp) ?_
  refine AllReadyH.cons (o := _) rfl (fun K hK => ?_) AllReadyH.nil
  have HK := Lib.hid hK
  clear hK
  go_simp
  go_at_call 66
  refine (Mac_at KY KUH.out ka kc ke ((hi4 zi) ++ (dr ++ dm)) 68 (by simp only [List.length_append]; rw [(show (hi4 zi).length = 4 from rfl), LR.out, LM.out]) (by omega) (by omega) cx ccp _ wb (RK_4.out.below BD_wb.out) RCX.out (RO.out.at_ BB_wb.out)).mono ?_
  rintro e wf ⟨rfl, hb⟩
  have BB_wf := Lib.hid (show Below w.heap.size w wf from BB_wb.out.trans (hb.mono BB_wb.out.size))
  have BD_wf := Lib.hid (show Below w4.heap.size w4 wf from BD_wb.out.trans (hb.mono BD_wb.out.size))
  have GRF := Lib.hid ((BD_wf.out.block R LR_4.out).trans GR_4.out)
  clear hb
  dsimp only
  refine HK.out _ _ BB_wf.out ?_
  clear HK K hHeld
  try simp only [Act.put, List.getElem_toArray, List.getElem_cons_zero, List.getElem_cons_succ, List.setIfInBounds_toArray, List.set_cons_zero, List.set_cons_succ]
  intro hHeld
  refine wpAnyH_ready (rs := [9]) (by kernel_rfl) (by simp) ?_
  refine AllReadyH.cons (o := _) rfl (fun K hK => ?_) AllReadyH.nil
  have HK := Lib.hid hK
  clear hK
  rw [if_pos (by rfl)]
  have ML := Lib.hid (macOf_length KY ((hi4 zi) ++ (dr ++ dm)))
  refine wp_store_row _ _ _ rfl R (dV (macOf KY ((hi4 zi) ++ (dr ++ dm)))) (by rfl) (by rfl) _ (dV nz) GRF.out (by rw [dV_size ML.out]; exact dig_size) (by rw [dV_size ML.out, dV_size nz_length]) (dV_one _) ?_
  obtain ⟨wg, hwg⟩ : ∃ z, z = wf.setRow R (dV (macOf KY ((hi4 zi) ++ (dr ++ dm)))) := ⟨_, rfl⟩
  have GF := Lib.hid (show wg.heap[R]? = some (.cells (dV (macOf KY ((hi4 zi) ++ (dr ++ dm)))) 23 (0, 0)) by rw [hwg]; exact setRow_heap _ _ _ _ _ _ GRF.out)
  have BB_wg := Lib.hid (show Below w.heap.size w wg by rw [hwg]; exact below_setRowW BB_wf.out (by have := SZR.out; omega) _)
  rw [← hwg]
  clear hwg
  refine HK.out _ _ BB_wg.out ?_
  clear HK K hHeld
  try simp only [Act.put, List.getElem_toArray, List.getElem_cons_zero, List.getElem_cons_succ, List.setIfInBounds_toArray, List.set_cons_zero, List.set_cons_succ]
  intro hHeld
  refine wpAnyH_done (by kernel_rfl) ?_ _
  clear hHeld
  go_wp2_with fail
  try simp only [Exit.inBlock, Exit.then]
  refine bodyPost_ret (v := .agg (dV (macOf KY ((hi4 zi) ++ (dr ++ dm))))) (results_cellW rfl _ _ _ ⟨R, 0, none⟩ _ rfl ?_) rfl ?_
  · exact dig_load ML.out (range_of_row GF.out)
  · exact ⟨rfl, BB_wg.out⟩
end Go.Proofs.YtkioddmhjbaleaaDoor
/- Walk: team.Mark; log.Tag for any size. -/
namespace Go.Proofs.YtkioddmhjbaleaaDoor
open Go.RowKit
set_option linter.unusedVariables false
set_option linter.unusedSimpArgs false
def tagB (z : Int) : List UInt8 := if 0 ≤ z ∧ z < 4294967296 then oc4 z.toNat else hi4 z
theorem Tag_calls (KY : List UInt8) (KU : KY.length ≤ 140737488355328) (ka : Option Addr) (kc ke : Nat) (zi : Int) (hz : zi ≤ 9223372036854775807) (dr dm dt : List UInt8) (hr : dr.length = 32) (hm : dm.length = 32) (ht : dt.length = 32) (w : World) (hk : Rd w ka ke (KY.map vB)) (hro : RoundsAt w) :
    Calls Tryd.prog 34 #[.slice ka KY.length kc, .agg (hdV zi dr dm dt)] w fun e w' => e = .returned (.agg (dV (macOf KY (tagB zi ++ (dr ++ dm))))) ∧ Below w.heap.size w w' := by
  unfold tagB
  split
  · rename_i h
    exact Tag_ok KY KU ka kc ke zi.toNat (by omega) zi (by omega) dr dm dt hr hm ht w hk hro
  · exact Tag_no KY KU ka kc ke zi ⟨by omega, hz⟩ dr dm dt hr hm ht w hk hro
def u64 (z : Int) : Nat := (IntKind.u64.wrap z).toNat
theorem u64_eq (z : Int) : IntKind.u64.wrap z = (u64 z : Int) := by
  unfold u64
  rw [IntKind.wrap_u64]
  omega
def markB (z : Int) : List UInt8 := 13 :: be8 (u64 z)
theorem markB_length (z : Int) : (markB z).length = 9 := by simp [markB, be8_length]
set_option maxRecDepth 20000 in
set_option maxHeartbeats 2000000 in
theorem Mark_calls (KY : List UInt8) (KU : KY.length ≤ 140737488355328) (ka : Option Addr) (kc ke : Nat) (zi : Int) (dr dm dt : List UInt8) (hr : dr.length = 32) (hm : dm.length = 32) (ht : dt.length = 32) (w : World) (hk : Rd w ka ke (KY.map vB)) (hro : RoundsAt w) :
    Calls Tryd.prog 36 #[.slice ka KY.length kc, .agg (hdV zi dr dm dt)] w fun e w' => e = .returned (.agg (dV (macOf KY (markB zi ++ (dr ++ dm))))) ∧ Below w.heap.size w w' := by
  have ZL := Lib.hid nz_length
  have LR := Lib.hid hr
  have LM := Lib.hid hm
  have LT := Lib.hid ht
  have RO := Lib.hid hro
  have RK := Lib.hid hk
  have KUH := Lib.hid KU
  clear hr hm ht hro hk KU
  obtain ⟨N, hN⟩ : ∃ N, N = u64 zi := ⟨_, rfl⟩
  have HN := Lib.hid hN
  clear hN
  obtain ⟨X, hX⟩ : ∃ z, z = w.heap.size := ⟨_, rfl⟩
  obtain ⟨w1, hw1⟩ : ∃ z, z = w.alloc (.cells (hdV zi dr dm dt) 75) := ⟨_, rfl⟩
  have st1 : Below w.heap.size w w1 := by rw [hw1]; exact (Below.refl _ _).alloc (Nat.le_refl _) _
  have B1 := Lib.hid (show Below w.heap.size w w1 from Below.trans (Below.refl w.heap.size w) (Below.mono st1 (Below.size (Below.refl w.heap.size w))))
  have GX_1 := Lib.hid (show w1.heap[X]? = some (.cells (hdV zi dr dm dt) 75 (0, 0)) by rw [hw1, hX]; exact heap_alloc_new _ _)
  have LX_1 := Lib.hid (lt_of_heap GX_1.out)
  have HX := Lib.hid hX
  have Hw1 := Lib.hid hw1
  clear hX hw1 st1
  have SZX := Lib.hid (show X = w.heap.size from HX.out)
  obtain ⟨R, hR⟩ : ∃ z, z = w1.heap.size := ⟨_, rfl⟩
  obtain ⟨w2, hw2⟩ : ∃ z, z = w1.alloc (.cells (dV nz) 23) := ⟨_, rfl⟩
  have st2 : Below w1.heap.size w1 w2 := by rw [hw2]; exact (Below.refl _ _).alloc (Nat.le_refl _) _
  have B2 := Lib.hid (show Below w.heap.size w w2 from Below.trans B1.out (Below.mono st2 (Below.size B1.out)))
  have GX_2 := Lib.hid ((Below.block st2 X LX_1.out).trans GX_1.out)
  have LX_2 := Lib.hid (Nat.lt_of_lt_of_le LX_1.out (Below.size st2))
  have GR_2 := Lib.hid (show w2.heap[R]? = some (.cells (dV nz) 23 (0, 0)) by rw [hw2, hR]; exact heap_alloc_new _ _)
  have LR_2 := Lib.hid (lt_of_heap GR_2.out)
  have HR := Lib.hid hR
  have Hw2 := Lib.hid hw2
  clear hR hw2 st2
  have SZR := Lib.hid (show R = w.heap.size + 1 by rw [HR.out, Hw1.out, World.size_alloc, ← HX.out, SZX.out])
  have RK_2 := Lib.hid (RK.out.below (show Below w.heap.size w w2 from B2.out))
  go_enter Tryd.func36, Tryd.ntmps36
  go_upto_region 1 with fail
  rw [zdig]
  rw [← SZR.out, ← SZX.out, ← Hw1.out, ← Hw2.out]
  obtain ⟨P, hP⟩ : ∃ z, z = w2.heap.size := ⟨_, rfl⟩
  obtain ⟨w3, hw3⟩ : ∃ z, z = w2.alloc (.cells (dV [13]) 5) := ⟨_, rfl⟩
  have st3 : Below w2.heap.size w2 w3 := by rw [hw3]; exact (Below.refl _ _).alloc (Nat.le_refl _) _
  have B3 := Lib.hid (show Below w.heap.size w w3 from Below.trans B2.out (Below.mono st3 (Below.size B2.out)))
  have GX_3 := Lib.hid ((Below.block st3 X LX_2.out).trans GX_2.out)
  have LX_3 := Lib.hid (Nat.lt_of_lt_of_le LX_2.out (Below.size st3))
  have GR_3 := Lib.hid ((Below.block st3 R LR_2.out).trans GR_2.out)
  have LR_3 := Lib.hid (Nat.lt_of_lt_of_le LR_2.out (Below.size st3))
  have RK_3 := Lib.hid (RK_2.out.below st3)
  have GP_3 := Lib.hid (show w3.heap[P]? = some (.cells (dV [13]) 5 (0, 0)) by rw [hw3, hP]; exact heap_alloc_new _ _)
  have LP_3 := Lib.hid (lt_of_heap GP_3.out)
  have HP := Lib.hid hP
  have Hw3 := Lib.hid hw3
  clear hP hw3 st3
  go_upto_region 2 with fail
  rw [show (#[.int .u8 13] : Array Value) = dV [13] from rfl, ← HP.out, ← Hw3.out]
  have O0 := Lib.hid (show w3.ownsRow P 5 1 (.slice (some ⟨P, 0, none⟩) 1 1) 1 ([13].map vB) by rw [Hw3.out, HP.out]; exact World.ownsRow_lit _ (dV [13]) 1 (Nat.le_refl _) (by decide) rfl)
  go_wp2_with fail
  go_loopw [6, 5] (fun i t wr => ∃ (k : Nat) (av : Option Addr) (cp : Nat), k ≤ 8 ∧ i = .int .i64 (7 - (k : Int)) ∧ t = .slice av (1 + k) cp ∧ wr.ownsRow P 5 1 (.slice av (1 + k) cp) (1 + k) (([13] ++ (be8 N).take k).map vB) ∧ Below P w3 wr) (fun i _ _ => (intOf i + 1).toNat)
  case atStart => exact ⟨0, _, _, by omega, rfl, rfl, O0.out, Below.refl _ _⟩
  case round =>
    clear O0
    obtain ⟨k, av, cpp, hk, rfl, rfl, hown, hbl⟩ := hrel
    have hbs := hbl.size
    obtain ⟨M, hM⟩ : ∃ M, M = 1 + k := ⟨_, rfl⟩
    rw [← hM] at hown ⊢
    have HM := Lib.hid hM
    have hM200 : M ≤ 140 := by omega
    have XP : X < P := by rw [HP.out]; exact LX_2.out
    have hPs : P < w3.heap.size := LP_3.out
    by_cases hlt : k < 8
    · obtain ⟨j, hj⟩ : ∃ j : Nat, j = 7 - k := ⟨_, rfl⟩
      have hji : (7 : Int) - (k : Int) = (j : Int) := by omega
      have hj8 : j < 8 := by omega
      have c0 := (hbl.cell (p := ⟨X, 0, none⟩) XP).trans (hdV_int GX_3.out)
      have j0 : (0 : Int) ≤ (j : Int) := by omega
      have e1 : IntKind.u64.wrap zi = (N : Int) := by rw [HN.out]; exact u64_eq zi
      have e3 : IntKind.i64.wrap (8 * (j : Int)) = ((8 * j : Nat) : Int) := by rw [IntWalk.i64_in _ (by omega)]; omega
      rw [hji]
      have HJ := Lib.hid hj
      have OWN := Lib.hid hown
      have BL := Lib.hid hbl
      obtain ⟨x, hx⟩ : ∃ x : UInt8, x = UInt8.ofNat (N / 2 ^ (8 * j)) := ⟨_, rfl⟩
      have ex : (N : Int) / 2 ^ (8 * j) % 256 = (x.toNat : Int) := by
        rw [hx, UInt8.toNat_ofNat']
        show (N : Int) / 2 ^ (8 * j) % 256 = ((N / 2 ^ (8 * j) % 256 : Nat) : Int)
        rw [Int.natCast_emod, Int.natCast_ediv, Int.natCast_pow]
        rfl
      have hbt : (be8 N).take (k + 1) = (be8 N).take k ++ [x] := by
        rw [List.take_succ_eq_append_getElem (by rw [be8_length]; exact hlt), hx, hj]
        congr 2
        simp [be8]
      have HBT := Lib.hid hbt
      clear hown hbl hM hj hji hbt hx
      go_wp2_with (at_builtin; refine appAllw 67 5 (.int .u8 0) 1 1 Tryd.underlying67 info_byte rfl (by omega) rfl (.tmp 12) (.tmp 20) (by rfl) P (.slice av M cpp) M _ (by rfl) (OWN.out.alloc _) (some ⟨wr.heap.size, 0, none⟩) 1 1 ([x].map vB) (by rfl) _ (push_rd wr x) (by simp) (one_bytes _) (by omega) (by omega) (by rw [World.size_alloc]; omega) ?_; intro av7 cp7 w7 hown7 hb7; rw [← List.map_append, List.append_assoc, ← HBT.out] at hown7; have OWN7 := Lib.hid hown7; have B7 := Lib.hid hb7; clear hown7 hb7)
      have B17 : Below P w3 w7 := BL.out.trans ((((Below.refl _ _).alloc (Nat.le_refl _) _ : Below wr.heap.size wr (wr.alloc (.cells #[.int .u8 x.toNat] 5))).mono (by omega)).trans B7.out)
      have hM1 : M + 1 = 1 + (k + 1) := by rw [HM.out]; omega
      have OWN8 : w7.ownsRow P 5 1 (.slice av7 (1 + (k + 1)) cp7) (1 + (k + 1)) (([13] ++ (be8 N).take (k + 1)).map vB) := by rw [← hM1]; exact OWN7.out
      have O8 := Lib.hid OWN8
      have BB8 := Lib.hid B17
      have HM1 := Lib.hid hM1
      have hjj : (j : Int) - 1 = 7 - ((k + 1 : Nat) : Int) := by have := HJ.out; omega
      have HJJ := Lib.hid hjj
      clear B17 OWN8 hM1 hjj ex e1 e3 c0
      go_roundw
      case rel => exact ⟨k + 1, av7, cp7, by omega, by rw [← HJJ.out], by rw [HM1.out], O8.out, BB8.out⟩
      case measure => have := HJ.out; simp only [intOf]; omega
    · obtain rfl : k = 8 := by omega
      have htl : [13] ++ (be8 N).take 8 = markB zi := by rw [List.take_of_length_le (by rw [be8_length]; omega), HN.out]; rfl
      rw [htl] at hown
      have hwP : w.heap.size ≤ P := by rw [HP.out]; exact Below.size B2.out
      have B9 := Lib.hid (show Below w.heap.size w wr from B3.out.trans (hbl.mono hwP))
      have GX_9 := Lib.hid ((hbl.block X XP).trans GX_3.out)
      have RP' : R < P := by rw [HP.out]; exact LR_2.out
      have GR_9 := Lib.hid ((hbl.block R RP').trans GR_3.out)
      have LR_9 := Lib.hid (lt_of_heap GR_9.out)
      have RK_9 := Lib.hid (RK.out.below B9.out)
      obtain rfl : M = 9 := by omega
      have RP_9 := Lib.hid (Rd.of_own hown)
      clear hown hbl
      have RR_9 := Lib.hid (rd_range GX_9.out (hdV_root LR.out GX_9.out))
      have RM_9 := Lib.hid (rd_range GX_9.out (hdV_map LR.out LM.out GX_9.out))
      go_wp2_with fail
      have BB_wd := Lib.hid (show Below w.heap.size w wr.drew from B9.out.drew)
      have BD_wd := Lib.hid (show Below wr.heap.size wr wr.drew from (Below.refl _ _).drew)
      obtain ⟨wd, hwd⟩ : ∃ z, z = wr.drew := ⟨_, rfl⟩
      refine wp_region_held_drew (S := fun w' => Below w.heap.size w w') (by kernel_rfl) BB_wd.out (fun hHeld => ?_)
      rw [← hwd] at hHeld BB_wd BD_wd ⊢
      clear hwd
      refine wpAnyH_take (i := 0) (oi := _) (v := .slice ka KY.length kc) rfl (by kernel_rfl) (by kernel_rfl) (by kernel_rfl) (fun _ _ _ h => h) (Or.inl ⟨by rfl, fun w hw => by go_simp⟩) hHeld ?_
      simp only [Act.put, List.getElem_toArray, List.getElem_cons_zero, List.getElem_cons_succ, List.setIfInBounds_toArray, List.set_cons_zero, List.set_cons_succ]
      refine wpAnyH_take (i := 1) (oi := _) (v := .slice av 9 cpp) rfl (by kernel_rfl) (by kernel_rfl) (by kernel_rfl) (fun _ _ _ h => h) (Or.inl ⟨by rfl, fun w hw => by go_simp⟩) hHeld ?_
      simp only [Act.put, List.getElem_toArray, List.getElem_cons_zero, List.getElem_cons_succ, List.setIfInBounds_toArray, List.set_cons_zero, List.set_cons_succ]
      refine wpAnyH_take (i := 2) (oi := _) (v := .pointer (some ⟨X, 1, none⟩)) rfl (by kernel_rfl) (by kernel_rfl) (by kernel_rfl) (fun _ _ _ h => h) (Or.inl ⟨by rfl, fun w hw => by go_simp⟩) hHeld ?_
      simp only [Act.put, List.getElem_toArray, List.getElem_cons_zero, List.getElem_cons_succ, List.setIfInBounds_toArray, List.set_cons_zero, List.set_cons_succ]
      refine wpAnyH_take (i := 3) (oi := _) (v := .slice (some ⟨X, 1, none⟩) 32 32) rfl (by kernel_rfl) (by kernel_rfl) (by kernel_rfl) (fun _ _ _ h => h) (Or.inl ⟨by rfl, fun w hw => by go_simp⟩) hHeld ?_
      simp only [Act.put, List.getElem_toArray, List.getElem_cons_zero, List.getElem_cons_succ, List.setIfInBounds_toArray, List.set_cons_zero, List.set_cons_succ]
      refine wpAnyH_take (i := 4) (oi := _) (v := .pointer (some ⟨X, 33, none⟩)) rfl (by kernel_rfl) (by kernel_rfl) (by kernel_rfl) (fun _ _ _ h => h) (Or.inl ⟨by rfl, fun w hw => by go_simp⟩) hHeld ?_
      simp only [Act.put, List.getElem_toArray, List.getElem_cons_zero, List.getElem_cons_succ, List.setIfInBounds_toArray, List.set_cons_zero, List.set_cons_succ]
      refine wpAnyH_take (i := 5) (oi := _) (v := .slice (some ⟨X, 33, none⟩) 32 32) rfl (by kernel_rfl) (by kernel_rfl) (by kernel_rfl) (fun _ _ _ h => h) (Or.inl ⟨by rfl, fun w hw => by go_simp⟩) hHeld ?_
      simp only [Act.put, List.getElem_toArray, List.getElem_cons_zero, List.getElem_cons_succ, List.setIfInBounds_toArray, List.set_cons_zero, List.set_cons_succ]
      refine wpAnyH_ready (rs := [6]) (by kernel_rfl) (by simp) ?_
      refine AllReadyH.cons (o := _) rfl (fun K hK => ?_) AllReadyH.nil
      have HK := Lib.hid hK
      clear hK
      go_simp
      obtain ⟨T, hT⟩ : ∃ z, z = wd.heap.size := ⟨_, rfl⟩
      obtain ⟨wa, hwa⟩ : ∃ z, z = wd.alloc (.cells #[.slice av 9 cpp, .slice (some ⟨X, 1, none⟩) 32 32, .slice (some ⟨X, 33, none⟩) 32 32] 67) := ⟨_, rfl⟩
      have BB_wa := Lib.hid (show Below w.heap.size w wa by rw [hwa]; exact BB_wd.out.alloc BB_wd.out.size _)
      have BD_wa := Lib.hid (show Below wr.heap.size wr wa by rw [hwa]; exact BD_wd.out.alloc BD_wd.out.size _)
      have GT := Lib.hid (show wa.heap[T]? = some (.cells #[.slice av 9 cpp, .slice (some ⟨X, 1, none⟩) 32 32, .slice (some ⟨X, 33, none⟩) 32 32] 67 (0, 0)) by rw [hwa, hT]; exact heap_alloc_new _ _)
      rw [← hT, ← hwa]
      clear hT hwa
      refine HK.out _ _ BB_wa.out ?_
      clear HK K hHeld
      try simp only [Act.put, List.getElem_toArray, List.getElem_cons_zero, List.getElem_cons_succ, List.setIfInBounds_toArray, List.set_cons_zero, List.set_cons_succ]
      intro hHeld
      refine wpAnyH_ready (rs := [7]) (by kernel_rfl) (by simp) ?_
      refine AllReadyH.cons (o := _) rfl (fun K hK => ?_) AllReadyH.nil
      have HK := Lib.hid hK
      clear hK
      go_simp
      go_at_call 67
      refine (rows3_calls (markB zi) dr dm 9 32 32 (markB_length zi) LR.out LM.out (by omega) (by omega) (by omega) wa T _ _ _ _ _ _ _ _ _ GT.out (RP_9.out.below BD_wa.out) (RR_9.out.below BD_wa.out) (RM_9.out.below BD_wa.out)).mono ?_
      rintro e wb ⟨cx, ccp, rfl, hrd, hb⟩
      have BB_wb := Lib.hid (show Below w.heap.size w wb from BB_wa.out.trans (hb.mono BB_wa.out.size))
      have BD_wb := Lib.hid (show Below wr.heap.size wr wb from BD_wa.out.trans (hb.mono BD_wa.out.size))
      have RCX := Lib.hid hrd
      clear hb hrd
      dsimp only
      refine HK.out _ _ BB_wb.out ?_
      clear HK K hHeld
      try simp only [Act.put, List.getElem_toArray, List.getElem_cons_zero, List.getElem_cons_succ, List.setIfInBounds_toArray, List.set_cons_zero, List.set_cons_succ]
      intro hHeld
      refine wpAnyH_ready (rs := [8]) (by kernel_rfl) (by simp) ?_
      refine AllReadyH.cons (o := _) rfl (fun K hK => ?_) AllReadyH.nil
      have HK := Lib.hid hK
      clear hK
      go_simp
      go_at_call 66
      refine (Mac_at KY KUH.out ka kc ke ((markB zi) ++ (dr ++ dm)) 73 (by simp only [List.length_append]; rw [(markB_length zi), LR.out, LM.out]) (by omega) (by omega) cx ccp _ wb (RK_9.out.below BD_wb.out) RCX.out (RO.out.at_ BB_wb.out)).mono ?_
      rintro e wf ⟨rfl, hb⟩
      have BB_wf := Lib.hid (show Below w.heap.size w wf from BB_wb.out.trans (hb.mono BB_wb.out.size))
      have BD_wf := Lib.hid (show Below wr.heap.size wr wf from BD_wb.out.trans (hb.mono BD_wb.out.size))
      have GRF := Lib.hid ((BD_wf.out.block R LR_9.out).trans GR_9.out)
      clear hb
      dsimp only
      refine HK.out _ _ BB_wf.out ?_
      clear HK K hHeld
      try simp only [Act.put, List.getElem_toArray, List.getElem_cons_zero, List.getElem_cons_succ, List.setIfInBounds_toArray, List.set_cons_zero, List.set_cons_succ]
      intro hHeld
      refine wpAnyH_ready (rs := [9]) (by kernel_rfl) (by simp) ?_
      refine AllReadyH.cons (o := _) rfl (fun K hK => ?_) AllReadyH.nil
      have HK := Lib.hid hK
      clear hK
      rw [if_pos (by rfl)]
      have ML := Lib.hid (macOf_length KY ((markB zi) ++ (dr ++ dm)))
      refine wp_store_row _ _ _ rfl R (dV (macOf KY ((markB zi) ++ (dr ++ dm)))) (by rfl) (by rfl) _ (dV nz) GRF.out (by rw [dV_size ML.out]; exact dig_size) (by rw [dV_size ML.out, dV_size nz_length]) (dV_one _) ?_
      obtain ⟨wg, hwg⟩ : ∃ z, z = wf.setRow R (dV (macOf KY ((markB zi) ++ (dr ++ dm)))) := ⟨_, rfl⟩
      have GF := Lib.hid (show wg.heap[R]? = some (.cells (dV (macOf KY ((markB zi) ++ (dr ++ dm)))) 23 (0, 0)) by rw [hwg]; exact setRow_heap _ _ _ _ _ _ GRF.out)
      have BB_wg := Lib.hid (show Below w.heap.size w wg by rw [hwg]; exact below_setRowW BB_wf.out (by have := SZR.out; omega) _)
      rw [← hwg]
      clear hwg
      refine HK.out _ _ BB_wg.out ?_
      clear HK K hHeld
      try simp only [Act.put, List.getElem_toArray, List.getElem_cons_zero, List.getElem_cons_succ, List.setIfInBounds_toArray, List.set_cons_zero, List.set_cons_succ]
      intro hHeld
      refine wpAnyH_done (by kernel_rfl) ?_ _
      clear hHeld
      go_wp2_with fail
      try simp only [Exit.inBlock, Exit.then]
      refine bodyPost_ret (v := .agg (dV (macOf KY ((markB zi) ++ (dr ++ dm))))) (results_cellW rfl _ _ _ ⟨R, 0, none⟩ _ rfl ?_) rfl ?_
      · exact dig_load ML.out (range_of_row GF.out)
      · exact ⟨rfl, BB_wg.out⟩
end Go.Proofs.YtkioddmhjbaleaaDoor
/- Walks: pin.told, pin.Fork: a fork that is shown. -/
namespace Go.Proofs.YtkioddmhjbaleaaDoor
open Go.RowKit
set_option linter.unusedVariables false
set_option linter.unusedSimpArgs false
theorem yieldsIf_head {ops : Array Oper} {S : World → Prop} {op : Oper} {a : Act} (hw : Region.wanted op (yielded ops a.tmps) = true) (x : Operand) (ho : op.op = .load 75 x) (b : Nat) (hx : a.eval x = .pointer (some ⟨b, 0, none⟩)) (z : Int) (r m t : List UInt8) (hr : r.length = 32) (hm : m.length = 32) (ht : t.length = 32) (ty : TypeId) (hS : ∀ w, S w → w.heap[b]? = some (.cells (hdV z r m t) ty (0, 0))) : YieldsIf Tryd.prog ops S op (.agg (hdV z r m t)) a := by
  have := yieldsIf_load_mid (P := Tryd.prog) (S := S) hw 75 x ho b 0 hx (hdV z r m t).toList _ (fun w h => hdV_whole (hS w h)) Tryd.underlying75 rfl (by rw [Array.length_toList, hdV_size hr hm ht]; exact info_head)
  rwa [Array.toArray_toList] at this
theorem yieldsIf_digG {ops : Array Oper} {S : World → Prop} {op : Oper} {a : Act} (hw : Region.wanted op (yielded ops a.tmps) = true) (x : Operand) (ho : op.op = .load 23 x) (b o : Nat) (hx : a.eval x = .pointer (some ⟨b, o, none⟩)) (d : List UInt8) (hd : d.length = 32) (hS : ∀ w, S w → w.rangeAt b o (d.map vB)) : YieldsIf Tryd.prog ops S op (.agg (dV d)) a :=
  yieldsIf_load_mid (P := Tryd.prog) (S := S) hw 23 x ho b o hx (d.map vB) _ hS Tryd.underlying23 rfl (by rw [List.length_map, hd]; exact dig_size)
theorem run_dig_eq {d e : List UInt8} (hd : d.length = 32) (he : e.length = 32) (w : World) : (binOp .eql 23 (.agg (dV d)) (.agg (dV e))).run Tryd.prog w = .ok (.bool (d == e)) w := by
  show (Op.equalIn 10000 23 (.agg (dV d)) (.agg (dV e)) >>= fun b => pure (Value.bool b)).run _ _ = _
  rw [Sem.run_bind, dig_eq hd he w]; rfl
theorem yieldsIf_eqD {ops : Array Oper} {S : World → Prop} {op : Oper} {a : Act} (hw : Region.wanted op (yielded ops a.tmps) = true) (x y : Operand) (t : TypeId) (ho : op.op = .binOp .eql 23 x y t) (d e : List UInt8) (hx : a.eval x = .agg (dV d)) (hy : a.eval y = .agg (dV e)) (hd : d.length = 32) (he : e.length = 32) (r : Bool) (hr : (d == e) = r) : YieldsIf Tryd.prog ops S op (.bool r) a :=
  .inl ⟨hw, fun w _ => by
    subst hr
    unfold execOp
    have g : (eqGuard .eql 23 x y (.agg (dV d)) (.agg (dV e))).run Tryd.prog w = .ok () w := by simp [go_sem]
    simp only [ho, hx, hy, Sem.run_bind, g, run_dig_eq hd he w, Result.andThen_ok, Sem.run_pure]⟩
theorem yieldsIf_neqD {ops : Array Oper} {S : World → Prop} {op : Oper} {a : Act} (hw : Region.wanted op (yielded ops a.tmps) = true) (x y : Operand) (t : TypeId) (ho : op.op = .binOp .neq 23 x y t) (d e : List UInt8) (hx : a.eval x = .agg (dV d)) (hy : a.eval y = .agg (dV e)) (hd : d.length = 32) (he : e.length = 32) (r : Bool) (hr : (!(d == e)) = r) : YieldsIf Tryd.prog ops S op (.bool r) a :=
  .inl ⟨hw, fun w _ => by
    subst hr
    unfold execOp
    have g : (eqGuard .neq 23 x y (.agg (dV d)) (.agg (dV e))).run Tryd.prog w = .ok () w := by simp [go_sem]
    simp only [ho, hx, hy, Sem.run_bind, g, run_dig_neq hd he w, Result.andThen_ok, Sem.run_pure]⟩
set_option maxRecDepth 20000 in
set_option maxHeartbeats 2000000 in
theorem Told_true (KY : List UInt8) (KU : KY.length ≤ 140737488355328) (ka : Option Addr) (kc ke : Nat) (zi : Int) (hz : zi ≤ 9223372036854775807) (dr dm dt : List UInt8) (hr : dr.length = 32) (hm : dm.length = 32) (ht : dt = macOf KY (tagB zi ++ (dr ++ dm))) (w : World) (hk : Rd w ka ke (KY.map vB)) (hro : RoundsAt w) :
    Calls Tryd.prog 68 #[.slice ka KY.length kc, .agg (hdV zi dr dm dt)] w fun e w' => e = .returned (.bool true) ∧ Below w.heap.size w w' := by
  have LR := Lib.hid hr
  have LM := Lib.hid hm
  have LT := Lib.hid (show dt.length = 32 by rw [ht]; exact macOf_length _ _)
  have RO := Lib.hid hro
  have RK := Lib.hid hk
  have KUH := Lib.hid KU
  have HT := Lib.hid ht
  have HZU := Lib.hid hz
  clear hr hm ht hro hk KU hz
  obtain ⟨X, hX⟩ : ∃ z, z = w.heap.size := ⟨_, rfl⟩
  obtain ⟨w1, hw1⟩ : ∃ z, z = w.alloc (.cells (hdV zi dr dm dt) 75) := ⟨_, rfl⟩
  have st1 : Below w.heap.size w w1 := by rw [hw1]; exact (Below.refl _ _).alloc (Nat.le_refl _) _
  have B1 := Lib.hid (show Below w.heap.size w w1 from Below.trans (Below.refl w.heap.size w) (Below.mono st1 (Below.size (Below.refl w.heap.size w))))
  have GX_1 := Lib.hid (show w1.heap[X]? = some (.cells (hdV zi dr dm dt) 75 (0, 0)) by rw [hw1, hX]; exact heap_alloc_new _ _)
  have LX_1 := Lib.hid (lt_of_heap GX_1.out)
  have HX := Lib.hid hX
  have Hw1 := Lib.hid hw1
  clear hX hw1 st1
  have SZX := Lib.hid (show X = w.heap.size from HX.out)
  have RK_1 := Lib.hid (RK.out.below (show Below w.heap.size w w1 from B1.out))
  go_enter Tryd.func68, Tryd.ntmps68
  go_upto_region 1 with fail
  rw [← SZX.out, ← Hw1.out]
  have BB_wd := Lib.hid (show Below w.heap.size w w1.drew from B1.out.drew)
  have BD_wd := Lib.hid (show Below w1.heap.size w1 w1.drew from (Below.refl _ _).drew)
  obtain ⟨wd, hwd⟩ : ∃ z, z = w1.drew := ⟨_, rfl⟩
  refine wp_region_held_drew (S := fun w' => Below w1.heap.size w1 w') (by kernel_rfl) BD_wd.out (fun hHeld => ?_)
  rw [← hwd] at hHeld BB_wd BD_wd ⊢
  clear hwd
  refine wpAnyH_take (i := 0) (oi := _) (v := .pointer (some ⟨X, 65, none⟩)) rfl (by kernel_rfl) (by kernel_rfl) (by kernel_rfl) (fun _ _ _ h => h) (Or.inl ⟨by rfl, fun w hw => by go_simp⟩) hHeld ?_
  simp only [Act.put, List.getElem_toArray, List.getElem_cons_zero, List.getElem_cons_succ, List.setIfInBounds_toArray, List.set_cons_zero, List.set_cons_succ]
  refine wpAnyH_take (i := 1) (oi := _) (v := .agg (dV dt)) rfl (by kernel_rfl) (by kernel_rfl) (by kernel_rfl) (fun _ _ _ h => h) (yieldsIf_digG (by rfl) _ rfl X 65 rfl dt LT.out (fun w hw => hdV_tag LR.out LM.out LT.out ((hw.block X LX_1.out).trans GX_1.out))) hHeld ?_
  simp only [Act.put, List.getElem_toArray, List.getElem_cons_zero, List.getElem_cons_succ, List.setIfInBounds_toArray, List.set_cons_zero, List.set_cons_succ]
  refine wpAnyH_take (i := 2) (oi := _) (v := .slice ka KY.length kc) rfl (by kernel_rfl) (by kernel_rfl) (by kernel_rfl) (fun _ _ _ h => h) (Or.inl ⟨by rfl, fun w hw => by go_simp⟩) hHeld ?_
  simp only [Act.put, List.getElem_toArray, List.getElem_cons_zero, List.getElem_cons_succ, List.setIfInBounds_toArray, List.set_cons_zero, List.set_cons_succ]
  refine wpAnyH_take (i := 3) (oi := _) (v := .agg (hdV zi dr dm dt)) rfl (by kernel_rfl) (by kernel_rfl) (by kernel_rfl) (fun _ _ _ h => h) (yieldsIf_head (by rfl) _ rfl X rfl zi dr dm dt LR.out LM.out LT.out _ (fun w hw => (hw.block X LX_1.out).trans GX_1.out)) hHeld ?_
  simp only [Act.put, List.getElem_toArray, List.getElem_cons_zero, List.getElem_cons_succ, List.setIfInBounds_toArray, List.set_cons_zero, List.set_cons_succ]
  refine wpAnyH_ready (rs := [4]) (by kernel_rfl) (by simp) ?_
  refine AllReadyH.cons (o := _) rfl (fun K hK => ?_) AllReadyH.nil
  have HK := Lib.hid hK
  clear hK
  go_simp
  go_at_call 34
  refine (Tag_calls KY KUH.out ka kc ke zi HZU.out dr dm dt LR.out LM.out LT.out wd (RK.out.below BB_wd.out) (RO.out.at_ BB_wd.out)).mono ?_
  rintro e wa ⟨rfl, hb⟩
  have BB_wa := Lib.hid (show Below w.heap.size w wa from BB_wd.out.trans (hb.mono BB_wd.out.size))
  have BD_wa := Lib.hid (show Below w1.heap.size w1 wa from BD_wd.out.trans (hb.mono BD_wd.out.size))
  clear hb
  dsimp only
  refine HK.out _ _ BD_wa.out ?_
  clear HK K hHeld
  try simp only [Act.put, List.getElem_toArray, List.getElem_cons_zero, List.getElem_cons_succ, List.setIfInBounds_toArray, List.set_cons_zero, List.set_cons_succ]
  intro hHeld
  refine wpAnyH_take (i := 5) (oi := _) (v := .bool true) rfl (by kernel_rfl) (by kernel_rfl) (by kernel_rfl) (fun _ _ _ h => h) (yieldsIf_eqD (by rfl) _ _ _ rfl dt (macOf KY (tagB zi ++ (dr ++ dm))) rfl rfl LT.out (macOf_length _ _) true (by rw [← HT.out]; exact beq_self_eq_true _)) hHeld ?_
  simp only [Act.put, List.getElem_toArray, List.getElem_cons_zero, List.getElem_cons_succ, List.setIfInBounds_toArray, List.set_cons_zero, List.set_cons_succ]
  refine wpAnyH_take (i := 6) (oi := _) (v := .bool true) rfl (by kernel_rfl) (by kernel_rfl) (by kernel_rfl) (fun _ _ _ h => h) (Or.inl ⟨by rfl, fun w hw => by go_simp⟩) hHeld ?_
  simp only [Act.put, List.getElem_toArray, List.getElem_cons_zero, List.getElem_cons_succ, List.setIfInBounds_toArray, List.set_cons_zero, List.set_cons_succ]
  refine wpAnyH_done (by kernel_rfl) ?_ _
  clear hHeld
  go_wp2_with fail
  go_ret
  exact ⟨rfl, BB_wa.out⟩
set_option maxRecDepth 20000 in
set_option maxHeartbeats 2000000 in
theorem Fork_true (KY : List UInt8) (KU : KY.length ≤ 140737488355328) (ka : Option Addr) (kc ke : Nat) (zi : Int) (hz : zi ≤ 9223372036854775807) (dr dm dt er em et : List UInt8) (hr : dr.length = 32) (hm : dm.length = 32) (ht : dt = macOf KY (tagB zi ++ (dr ++ dm))) (hr2 : er.length = 32) (hm2 : em.length = 32) (ht2 : et = macOf KY (tagB zi ++ (er ++ em))) (hne : dr ≠ er) (w : World) (hk : Rd w ka ke (KY.map vB)) (hro : RoundsAt w) :
    Calls Tryd.prog 35 #[.slice ka KY.length kc, .agg (hdV zi dr dm dt), .agg (hdV zi er em et)] w fun e w' => e = .returned (.bool true) ∧ Below w.heap.size w w' := by
  have LR := Lib.hid hr
  have LM := Lib.hid hm
  have LT := Lib.hid (show dt.length = 32 by rw [ht]; exact macOf_length _ _)
  have LR2 := Lib.hid hr2
  have LM2 := Lib.hid hm2
  have LT2 := Lib.hid (show et.length = 32 by rw [ht2]; exact macOf_length _ _)
  have RO := Lib.hid hro
  have RK := Lib.hid hk
  have KUH := Lib.hid KU
  have HT := Lib.hid ht
  have HT2 := Lib.hid ht2
  have HZU := Lib.hid hz
  have NE := Lib.hid (show (!(dr == er)) = true by simpa using hne)
  clear hr hm ht hr2 hm2 ht2 hro hk KU hz hne
  obtain ⟨X, hX⟩ : ∃ z, z = w.heap.size := ⟨_, rfl⟩
  obtain ⟨w1, hw1⟩ : ∃ z, z = w.alloc (.cells (hdV zi dr dm dt) 75) := ⟨_, rfl⟩
  have st1 : Below w.heap.size w w1 := by rw [hw1]; exact (Below.refl _ _).alloc (Nat.le_refl _) _
  have B1 := Lib.hid (show Below w.heap.size w w1 from Below.trans (Below.refl w.heap.size w) (Below.mono st1 (Below.size (Below.refl w.heap.size w))))
  have GX_1 := Lib.hid (show w1.heap[X]? = some (.cells (hdV zi dr dm dt) 75 (0, 0)) by rw [hw1, hX]; exact heap_alloc_new _ _)
  have LX_1 := Lib.hid (lt_of_heap GX_1.out)
  have HX := Lib.hid hX
  have Hw1 := Lib.hid hw1
  clear hX hw1 st1
  have SZX := Lib.hid (show X = w.heap.size from HX.out)
  obtain ⟨Y, hY⟩ : ∃ z, z = w1.heap.size := ⟨_, rfl⟩
  obtain ⟨w2, hw2⟩ : ∃ z, z = w1.alloc (.cells (hdV zi er em et) 75) := ⟨_, rfl⟩
  have st2 : Below w1.heap.size w1 w2 := by rw [hw2]; exact (Below.refl _ _).alloc (Nat.le_refl _) _
  have B2 := Lib.hid (show Below w.heap.size w w2 from Below.trans B1.out (Below.mono st2 (Below.size B1.out)))
  have GX_2 := Lib.hid ((Below.block st2 X LX_1.out).trans GX_1.out)
  have LX_2 := Lib.hid (Nat.lt_of_lt_of_le LX_1.out (Below.size st2))
  have GY_2 := Lib.hid (show w2.heap[Y]? = some (.cells (hdV zi er em et) 75 (0, 0)) by rw [hw2, hY]; exact heap_alloc_new _ _)
  have LY_2 := Lib.hid (lt_of_heap GY_2.out)
  have HY := Lib.hid hY
  have Hw2 := Lib.hid hw2
  clear hY hw2 st2
  have SZY := Lib.hid (show Y = w.heap.size + 1 by rw [HY.out, Hw1.out, World.size_alloc, ← HX.out, SZX.out])
  have RK_2 := Lib.hid (RK.out.below (show Below w.heap.size w w2 from B2.out))
  go_enter Tryd.func35, Tryd.ntmps35
  go_upto_region 1 with fail
  rw [← SZY.out, ← SZX.out, ← Hw1.out, ← Hw2.out]
  go_wp2_with (first
    | ((refine ld_headG rfl (.tmp 4) rfl X (by rfl) zi dr dm dt LR.out LM.out LT.out _ _ GX_2.out ?_); simp only [Act.put, List.setIfInBounds_toArray, List.set_cons_zero, List.set_cons_succ]))
  refine (Told_true KY KUH.out ka kc ke zi HZU.out dr dm dt LR.out LM.out HT.out w2 RK_2.out (RO.out.at_ B2.out)).mono ?_
  rintro e w3 ⟨rfl, hb3⟩
  have B3 := Lib.hid (show Below w.heap.size w w3 from Below.trans B2.out (Below.mono hb3 (Below.size B2.out)))
  have GX_3 := Lib.hid ((Below.block hb3 X LX_2.out).trans GX_2.out)
  have LX_3 := Lib.hid (Nat.lt_of_lt_of_le LX_2.out (Below.size hb3))
  have GY_3 := Lib.hid ((Below.block hb3 Y LY_2.out).trans GY_2.out)
  have LY_3 := Lib.hid (Nat.lt_of_lt_of_le LY_2.out (Below.size hb3))
  have RK_3 := Lib.hid (RK_2.out.below hb3)
  clear hb3
  go_wp2_with (first
    | ((refine ld_headG rfl (.tmp 5) rfl Y (by rfl) zi er em et LR2.out LM2.out LT2.out _ _ GY_3.out ?_); simp only [Act.put, List.setIfInBounds_toArray, List.set_cons_zero, List.set_cons_succ]))
  refine (Told_true KY KUH.out ka kc ke zi HZU.out er em et LR2.out LM2.out HT2.out w3 RK_3.out (RO.out.at_ B3.out)).mono ?_
  rintro e w4 ⟨rfl, hb4⟩
  have B4 := Lib.hid (show Below w.heap.size w w4 from Below.trans B3.out (Below.mono hb4 (Below.size B3.out)))
  have GX_4 := Lib.hid ((Below.block hb4 X LX_3.out).trans GX_3.out)
  have LX_4 := Lib.hid (Nat.lt_of_lt_of_le LX_3.out (Below.size hb4))
  have GY_4 := Lib.hid ((Below.block hb4 Y LY_3.out).trans GY_3.out)
  have LY_4 := Lib.hid (Nat.lt_of_lt_of_le LY_3.out (Below.size hb4))
  have RK_4 := Lib.hid (RK_3.out.below hb4)
  clear hb4
  have c0 := hdV_int GX_4.out
  have c1 := hdV_int GY_4.out
  go_wp2_with (first
    | ((refine ld_digG rfl (.tmp 23) rfl X 1 (by rfl) dr LR.out (hdV_root LR.out GX_4.out) ?_); simp only [Act.put, List.setIfInBounds_toArray, List.set_cons_zero, List.set_cons_succ])
    | ((refine ld_digG rfl (.tmp 25) rfl Y 1 (by rfl) er LR2.out (hdV_root LR2.out GY_4.out) ?_); simp only [Act.put, List.setIfInBounds_toArray, List.set_cons_zero, List.set_cons_succ])
    | ((refine neq_digG rfl (.tmp 24) (.tmp 26) _ rfl dr er (by rfl) (by rfl) LR.out LR2.out ?_); rw [NE.out]; simp only [Act.put, List.setIfInBounds_toArray, List.set_cons_zero, List.set_cons_succ]))
  go_ret
  exact ⟨rfl, B4.out⟩
end Go.Proofs.YtkioddmhjbaleaaDoor
