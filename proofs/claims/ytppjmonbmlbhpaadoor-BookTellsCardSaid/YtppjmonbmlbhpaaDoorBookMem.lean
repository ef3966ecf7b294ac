/- Books in memory, and books that come in: contacts of 34 cells each. Words for the walks; they say nothing of what the program does. -/
import Derived.Test.YtppjmonbmlbhpaaDoorBookLaw
import Derived.Test.YtppjmonbmlbhpaaDoorMemA
namespace Go.Proofs.YtppjmonbmlbhpaaDoor
open Go.RowKit Go.ChangeShapes Go.WideShapes Go.ChangeAt
set_option linter.unusedVariables false

theorem contT : RecT Tryd.prog 37 5 := ⟨_, _, _, Tryd.underlying37, ⟨by decide, by decide, by decide⟩, ⟨rfl, rfl, rfl⟩, ⟨by kernel_rfl, by kernel_rfl, by kernel_rfl, by kernel_rfl⟩, ⟨by kernel_rfl, by kernel_rfl, by kernel_rfl, by kernel_rfl, by kernel_rfl⟩, by kernel_rfl, fun w => by kernel_rfl, fun w => by kernel_rfl, by kernel_rfl⟩
/-- the cells of a contact, and its value -/
def cL (c : Ct) : List Value := nL c.name c.key c.lvl
def cV (c : Ct) : Array Value := nV c.name c.key c.lvl
/-- a contact that a value can be -/
def CtW (c : Ct) : Prop := c.key.length = 32 ∧ c.name.size ≤ 9223372036854775807 ∧ (-9223372036854775808 ≤ c.lvl ∧ c.lvl ≤ 9223372036854775807)
def cellsC (b : List Ct) : List Value := b.flatMap cL
theorem cL_length {c : Ct} (h : CtW c) : (cL c).length = 34 := nL_length _ _ _ h.1
theorem cL_array (c : Ct) : (cL c).toArray = cV c := rfl
theorem cV_list (c : Ct) : (cV c).toList = cL c := nV_list _ _ _
theorem cV_size {c : Ct} (h : CtW c) : (cV c).size = 34 := nV_size _ _ _ h.1
theorem cL_0 (c : Ct) : (cL c)[0]? = some (.string c.name) := rfl
theorem cL_33 {c : Ct} (h : CtW c) : (cL c)[33]? = some (.int .i64 c.lvl) := by
  have := nV_33 c.name c.key c.lvl h.1
  unfold nV at this
  rwa [List.getElem?_toArray] at this
theorem cL_key {c : Ct} (h : CtW c) (j : Nat) (hj : j < 32) : (cL c)[1 + j]? = some (vB (c.key[j]'(by have := h.1; omega))) := by
  have := nV_key c.name c.key c.lvl h.1 j hj
  unfold nV at this
  rwa [List.getElem?_toArray] at this
theorem cL_one (c : Ct) : ∀ u ∈ cL c, u.oneCell' = true := by
  intro v hv
  unfold cL nL at hv
  rcases List.mem_cons.1 hv with rfl | hv
  · rfl
  · rcases List.mem_append.1 hv with hv | hv
    · exact one_bytes _ v hv
    · rw [List.mem_singleton.1 hv]; rfl
theorem cells_nil : cellsC [] = [] := rfl
theorem cells_cons (c : Ct) (b : List Ct) : cellsC (c :: b) = cL c ++ cellsC b := rfl
theorem cells_append (a b : List Ct) : cellsC (a ++ b) = cellsC a ++ cellsC b := by unfold cellsC; rw [List.flatMap_append]
theorem cells_one (c : Ct) : cellsC [c] = cL c := by rw [cells_cons, cells_nil, List.append_nil]
theorem cells_length : ∀ b : List Ct, (∀ c ∈ b, CtW c) → (cellsC b).length = b.length * 34 := by
  intro b
  induction b with
  | nil => intro _; rfl
  | cons c b ih =>
    intro h
    rw [cells_cons, List.length_append, cL_length (h c (List.mem_cons_self ..)), ih (fun d hd => h d (List.mem_cons_of_mem _ hd)), List.length_cons]
    omega
theorem cells_drop : ∀ (b : List Ct) (k : Nat), (∀ c ∈ b, CtW c) → (cellsC b).drop (k * 34) = cellsC (b.drop k) := by
  intro b
  induction b with
  | nil => intro k _; simp [cells_nil]
  | cons c b ih =>
    intro k h
    cases k with
    | zero => simp
    | succ k =>
      have hl := cL_length (h c (List.mem_cons_self ..))
      rw [cells_cons, List.drop_succ_cons, ← ih k (fun d hd => h d (List.mem_cons_of_mem _ hd))]
      rw [List.drop_append, hl, List.drop_eq_nil_of_le (by omega), List.nil_append]
      congr 1
      omega
theorem cells_one_all (b : List Ct) : ∀ u ∈ cellsC b, u.oneCell' = true := by
  intro u hu
  unfold cellsC at hu
  obtain ⟨c, _, hc⟩ := List.mem_flatMap.1 hu
  exact cL_one c u hc
/-- the cells of one contact of a book that is read -/
theorem Rd.cont {w : World} {a : Option Addr} {e : TypeId} {b : List Ct} (h : Rd w a e (cellsC b)) (hw : ∀ c ∈ b, CtW c) {k : Nat} (hk : k < b.length) :
    ∃ B o, a = some ⟨B, o, none⟩ ∧ B < w.heap.size ∧ w.rangeAt B (o + k * 34) (cL b[k]) := by
  have hl := cells_length b hw
  have hlt : k * 34 < (cellsC b).length := by omega
  obtain ⟨B, o, ha, hB, hc⟩ := h.cell hlt
  refine ⟨B, o, ha, hB, fun j v hj => ?_⟩
  have hj34 : j < 34 := by
    have := (List.getElem?_eq_some_iff.1 hj).1
    rwa [cL_length (hw _ (List.getElem_mem _))] at this
  have hlt2 : k * 34 + j < (cellsC b).length := by omega
  have e1 := hc (k * 34 + j) hlt2
  rw [show o + (k * 34 + j) = o + k * 34 + j by omega] at e1
  rw [e1]
  have e2 : (cellsC b)[k * 34 + j]? = (cL b[k])[j]? := by
    have e3 : ((cellsC b).drop (k * 34))[j]? = (cellsC b)[k * 34 + j]? := by rw [List.getElem?_drop]
    rw [← e3, cells_drop b k hw, List.drop_eq_getElem_cons hk, cells_cons, List.getElem?_append_left (by rw [cL_length (hw _ (List.getElem_mem _))]; exact hj34)]
  rw [hj, List.getElem?_eq_getElem hlt2] at e2
  exact e2
theorem range_name {w : World} {B o : Nat} {c : Ct} (h : w.rangeAt B o (cL c)) : w.cell? ⟨B, o, none⟩ = some (.string c.name) := h 0 _ (cL_0 c)
theorem range_lvl {w : World} {B o : Nat} {c : Ct} (hw : CtW c) (h : w.rangeAt B o (cL c)) : w.cell? ⟨B, o + 33, none⟩ = some (.int .i64 c.lvl) := h 33 _ (cL_33 hw)
theorem range_key {w : World} {B o : Nat} {c : Ct} (hw : CtW c) (h : w.rangeAt B o (cL c)) : w.rangeAt B (o + 1) (c.key.map vB) := by
  intro j v hj
  have hj32 : j < 32 := by
    have := (List.getElem?_eq_some_iff.1 hj).1
    rwa [List.length_map, hw.1] at this
  have := h (1 + j) _ (cL_key hw j hj32)
  rw [show o + (1 + j) = o + 1 + j by omega] at this
  rw [this, ← hj, List.getElem?_map, List.getElem?_eq_getElem (show j < c.key.length by have := hw.1; omega)]
  rfl
theorem range_rec {w : World} {g : Nat} {c : Ct} {t : TypeId} {fr : Nat × Nat} (h : w.heap[g]? = some (.cells (cV c) t fr)) : w.rangeAt g 0 (cL c) := by
  intro j v hj
  rw [Nat.zero_add, cell_of_row w g j _ t fr h, ← cL_array]
  simpa using hj
theorem range_below {w w' : World} {D B o : Nat} {cs : List Value} (h : w.rangeAt B o cs) (hb : Below D w w') (hB : B < D) : w'.rangeAt B o cs := fun j v hj => (hb.cell (p := ⟨B, o + j, none⟩) hB).trans (h j v hj)
section
variable {H : Type} {enc : TypeId × Value → H} {P : Program} {w : World} {spare : Nat → Bool} {held : Bool}
theorem flatMap_cells (F : Nat → List Value) (D : Nat → Ct) (n : Nat) (h : ∀ i, i < n → F i = cL (D i)) : (List.range n).flatMap F = cellsC ((List.range n).map D) := by
  induction n with
  | zero => rfl
  | succ n ih =>
    rw [List.range_succ, List.flatMap_append, ih (fun i hi => h i (by omega)), List.map_append, cells_append]
    congr 1
    simp [h n (by omega), cells_one]
/-- a book that came in -/
theorem open_book {T e B : TypeId} (ht : P.underlying T = some (.slice e)) (he : RecT P e B) {r : Reach} {b0 : Nat} {v : Value} {d : DataW H} {ps : List MemPlace}
    (hval : Value.okWide P w r b0 T v) (h : DataW.Trod enc P w 0 spare held T v d ps) : ∃ (b : List Ct) (a : Option Addr) (cap e' : Nat), v = .slice a b.length cap ∧ b.length ≤ cap ∧ cap ≤ 9223372036854775807 ∧ (∀ c ∈ b, CtW c) ∧ Rd w a e' (cellsC b) := by
  obtain ⟨a, len, cap, rfl⟩ := okWide_slice ht hval
  obtain ⟨fuel, hf⟩ := h
  obtain ⟨a', len', cap', hcs, hl, hm, F, n, hF, e', hr⟩ := trod_list ht hf
  simp [Value.cells] at hcs
  obtain ⟨rfl, rfl, rfl⟩ := hcs
  obtain ⟨D, hD⟩ := Deep.choose_lt (α := Ct) (n := len) (p := fun i c => CtW c ∧ F i = cL c) (fun i hi => by
    obtain ⟨y, hy⟩ := (hF i hi).2
    obtain ⟨s, key, z, h1, h2, h3, h4⟩ := trod_rec he hy
    exact ⟨⟨s, key, z⟩, ⟨h2, h3, h4⟩, h1⟩)
  refine ⟨(List.range len).map D, a, cap, e', by simp, by simpa using hl, by simp only [maxLen] at hm; omega, ?_, ?_⟩
  · intro x hx
    obtain ⟨i, hi, rfl⟩ := List.mem_map.1 hx
    exact (hD i (List.mem_range.1 hi)).1
  · rw [← flatMap_cells F D len (fun i hi => (hD i hi).2)]; exact hr
end
section
variable {P : Program} {T B : TypeId} {ops : Array Oper} {rest : List Oper} {op : Oper} {a : Act} {w : World} {Q : Exit → Act → World → Prop}
/-- a contact is loaded out of some place -/
theorem ld_recM (hT : RecT P T B) (hgd : op.guard = none) (x : Operand) (ho : op.op = .load T x) (b o : Nat) (hx : a.eval x = .pointer (some ⟨b, o, none⟩)) (c : Ct) (hc : CtW c) (hr : w.rangeAt b o (cL c))
    (h : wpList P ops Q rest (a.put op.dst (.agg (cV c))) w) : wpList P ops Q (op :: rest) a w := by
  obtain ⟨f0, f1, f2, ht, _, _, _, _, _, _, _, hi⟩ := hT
  exact wpList_load_mid hgd T x ho b o hx (cL c) _ hr ht rfl (by rw [cL_length hc]; exact hi) h
theorem ld_recMG (hT : RecT P T B) (hgd : Region.wanted op (yielded ops a.tmps) = true) (x : Operand) (ho : op.op = .load T x) (b o : Nat) (hx : a.eval x = .pointer (some ⟨b, o, none⟩)) (c : Ct) (hc : CtW c) (hr : w.rangeAt b o (cL c))
    (h : wpList P ops Q rest (a.put op.dst (.agg (cV c))) w) : wpList P ops Q (op :: rest) a w := by
  obtain ⟨f0, f1, f2, ht, _, _, _, _, _, _, _, hi⟩ := hT
  unfold wpList
  rw [if_pos hgd]
  exact .inl (wp_load_mid T x ho b o hx (cL c) _ hr ht rfl (by rw [cL_length hc]; exact hi) h)
/-- a contact is stored into a block that holds one alone -/
theorem st_rec (hT : RecT P T B) (hgd : op.guard = none) (x y : Operand) (ho : op.op = .store T x y) (g : Nat) (c : Ct) (hc : CtW c) (hx : a.eval x = .pointer (some ⟨g, 0, none⟩)) (hy : a.eval y = .agg (cV c)) (old : Array Value) (hold : old.size = 34) (t : TypeId) (hg : w.heap[g]? = some (.cells old t (0, 0)))
    (h : wpList P ops Q rest (a.put op.dst undef) (w.setRow g (cV c))) : wpList P ops Q (op :: rest) a w := by
  obtain ⟨f0, f1, f2, ht, _, _, _, _, _, _, _, hi⟩ := hT
  exact wpList_store_row hgd T x y ho g (cV c) hx hy t old hg (by rw [cV_size hc]; exact hi) (by rw [cV_size hc, hold]) (nV_one _ _ _) h
/-- .. that was made last -/
theorem st_recNew (hT : RecT P T B) (hgd : op.guard = none) (x y : Operand) (ho : op.op = .store T x y) (c : Ct) (hc : CtW c) (hy : a.eval y = .agg (cV c)) (Z : Array Value) (t : TypeId) (hZ : Z.size = 34) (hx : a.eval x = .pointer (some ⟨w.heap.size, 0, none⟩))
    (h : wpList P ops Q rest (a.put op.dst undef) (w.alloc (.cells (cV c) t))) : wpList P ops Q (op :: rest) a (w.alloc (.cells Z t)) :=
  st_rec hT hgd x y ho w.heap.size c hc hx hy Z hZ t (heap_alloc_new w _) (by rw [World.setRow_alloc_new]; exact h)
end
/-- are two contacts the same? -/
theorem cont_eq {P : Program} {T B : TypeId} (hT : RecT P T B) {c d : Ct} (hc : CtW c) (hd : CtW d) (w : World) : (Op.equalIn 10000 T (.agg (cV c)) (.agg (cV d))).run P w = .ok (decide (c = d)) w := by
  have := rec_eq hT (s := c.name) (s' := d.name) (key := c.key) (key' := d.key) (t := c.lvl) (t' := d.lvl) hc.1 hd.1 w
  refine Eq.trans this ?_
  congr 1
  refine decide_eq_decide.2 ⟨fun ⟨h1, h2, h3⟩ => by cases c; cases d; simp_all, fun h => by rw [h]; exact ⟨rfl, rfl, rfl⟩⟩
theorem noKey_length : noKey.length = 32 := by unfold noKey; rw [List.length_replicate]
theorem both_W {c d : Ct} (hc : CtW c) (hd : CtW d) : 1 ≤ c.lvl → c.lvl ≤ 4 → CtW (bothC c d) := by
  intro h1 h2
  unfold bothC
  split
  · exact hc
  · split
    · exact hd
    · refine ⟨noKey_length, hc.2.1, ?_⟩
      show -9223372036854775808 ≤ 2 * rk c ∧ 2 * rk c ≤ 9223372036854775807
      unfold rk; omega
end Go.Proofs.YtppjmonbmlbhpaaDoor
