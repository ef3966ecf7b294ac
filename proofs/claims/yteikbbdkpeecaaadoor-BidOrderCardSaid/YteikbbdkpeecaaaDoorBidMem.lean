/- Bids in memory, and bids that come in: 34 cells each. Words for the walks; they say nothing of what the program does. -/
import Derived.Test.YteikbbdkpeecaaaDoorVow
import Derived.Test.YteikbbdkpeecaaaDoorBidLaw
import Derived.Deep.Strs
namespace Go.Proofs.YteikbbdkpeecaaaDoor
open Go.RowKit Go.ChangeShapes Go.WideShapes Go.ChangeAt
set_option linter.unusedVariables false
instance : Inhabited Bd := ⟨⟨0, 0, []⟩⟩
/-- the cells of an entry -/
def bL (e : Bd) : List Value := .int .i64 e.who :: .int .i64 e.amount :: e.salt.map vB
def bV (k m : Int) (v : List UInt8) : Array Value := (.int .i64 k :: .int .i64 m :: v.map vB).toArray
theorem bV_size (k m : Int) (v : List UInt8) (h : v.length = 32) : (bV k m v).size = 34 := by simp [bV, h]
/-- an entry that a value can be -/
def BdW (e : Bd) : Prop := e.salt.length = 32 ∧ (-9223372036854775808 ≤ e.who ∧ e.who ≤ 9223372036854775807) ∧ -9223372036854775808 ≤ e.amount ∧ e.amount ≤ 9223372036854775807
def cellsP (es : List Bd) : List Value := es.flatMap bL
theorem bL_length {e : Bd} (h : e.salt.length = 32) : (bL e).length = 34 := by simp [bL, h]
theorem bL_array (e : Bd) : (bL e).toArray = bV e.who e.amount e.salt := rfl
theorem bV_list (e : Bd) : (bV e.who e.amount e.salt).toList = bL e := rfl
theorem bL_0 (e : Bd) : (bL e)[0]? = some (.int .i64 e.who) := rfl
theorem bL_1 (e : Bd) : (bL e)[1]? = some (.int .i64 e.amount) := rfl
theorem bL_one (e : Bd) : ∀ u ∈ bL e, u.oneCell' = true := by
  intro u hu
  rcases List.mem_cons.1 hu with rfl | hu
  · rfl
  · rcases List.mem_cons.1 hu with rfl | hu
    · rfl
    · exact one_bytes _ u hu
theorem bV_one (e : Bd) : (bV e.who e.amount e.salt).all (·.oneCell') = true := all_oneCell_toArray (bL_one e)
theorem cellsP_cons (e : Bd) (b : List Bd) : cellsP (e :: b) = bL e ++ cellsP b := rfl
theorem cellsP_append (a b : List Bd) : cellsP (a ++ b) = cellsP a ++ cellsP b := by unfold cellsP; rw [List.flatMap_append]
theorem cellsP_one (e : Bd) : cellsP [e] = bL e := by rw [cellsP_cons]; simp [cellsP]
theorem cellsP_length : ∀ b : List Bd, (∀ e ∈ b, e.salt.length = 32) → (cellsP b).length = b.length * 34 := by
  intro b
  induction b with
  | nil => intro _; rfl
  | cons e b ih =>
    intro h
    rw [cellsP_cons, List.length_append, bL_length (h e (List.mem_cons_self ..)), ih (fun d hd => h d (List.mem_cons_of_mem _ hd)), List.length_cons]
    omega
theorem cellsP_drop : ∀ (b : List Bd) (k : Nat), (∀ e ∈ b, e.salt.length = 32) → (cellsP b).drop (k * 34) = cellsP (b.drop k) := by
  intro b
  induction b with
  | nil => intro k _; simp [cellsP]
  | cons e b ih =>
    intro k h
    cases k with
    | zero => simp
    | succ k =>
      have hl := bL_length (h e (List.mem_cons_self ..))
      rw [cellsP_cons, List.drop_succ_cons, ← ih k (fun d hd => h d (List.mem_cons_of_mem _ hd))]
      rw [List.drop_append, hl, List.drop_eq_nil_of_le (by omega), List.nil_append]
      congr 1
      omega
theorem cellsP_take (b : List Bd) (k : Nat) (h : ∀ e ∈ b, e.salt.length = 32) : cellsP (b.take k) = (cellsP b).take (k * 34) := by
  by_cases hk : k ≤ b.length
  · have h1 := cellsP_append (b.take k) (b.drop k)
    rw [List.take_append_drop] at h1
    have h2 := cellsP_length (b.take k) (fun e he => h e (List.mem_of_mem_take he))
    rw [List.length_take, Nat.min_eq_left hk] at h2
    rw [h1, List.take_append_of_le_length (show k * 34 ≤ (cellsP (b.take k)).length by omega), List.take_of_length_le (show (cellsP (b.take k)).length ≤ k * 34 by omega)]
  · rw [List.take_of_length_le (by omega), List.take_of_length_le (by rw [cellsP_length b h]; omega)]
theorem cellsP_one_all (b : List Bd) : ∀ u ∈ cellsP b, u.oneCell' = true := by
  intro u hu
  unfold cellsP at hu
  obtain ⟨e, _, hc⟩ := List.mem_flatMap.1 hu
  exact bL_one e u hc
theorem cellsP_get (b : List Bd) (h : ∀ e ∈ b, e.salt.length = 32) (k j : Nat) (hk : k < b.length) (hj : j < 34) : (cellsP b)[k * 34 + j]? = (bL b[k])[j]? := by
  have e3 : ((cellsP b).drop (k * 34))[j]? = (cellsP b)[k * 34 + j]? := by rw [List.getElem?_drop]
  rw [← e3, cellsP_drop b k h, List.drop_eq_getElem_cons hk, cellsP_cons, List.getElem?_append_left (by rw [bL_length (h _ (List.getElem_mem _))]; exact hj)]
/-- the cells of one entry of a list that is read -/
theorem Rd.bid {w : World} {a : Option Addr} {e : TypeId} {b : List Bd} (h : Rd w a e (cellsP b)) (hw : ∀ e ∈ b, e.salt.length = 32) {k : Nat} (hk : k < b.length) :
    ∃ B o, a = some ⟨B, o, none⟩ ∧ B < w.heap.size ∧ w.rangeAt B (o + k * 34) (bL b[k]) := by
  have hl := cellsP_length b hw
  have hlt : k * 34 < (cellsP b).length := by omega
  obtain ⟨B, o, ha, hB, hc⟩ := h.cell hlt
  refine ⟨B, o, ha, hB, fun j v hj => ?_⟩
  have hj34 : j < 34 := by
    have := (List.getElem?_eq_some_iff.1 hj).1
    rwa [bL_length (hw _ (List.getElem_mem _))] at this
  have hlt2 : k * 34 + j < (cellsP b).length := by omega
  have e1 := hc (k * 34 + j) hlt2
  rw [show o + (k * 34 + j) = o + k * 34 + j by omega] at e1
  rw [e1]
  have e2 := cellsP_get b hw k j hk hj34
  rw [hj, List.getElem?_eq_getElem hlt2] at e2
  exact e2
theorem range_who {w : World} {B o : Nat} {e : Bd} (h : w.rangeAt B o (bL e)) : w.cell? ⟨B, o, none⟩ = some (.int .i64 e.who) := h 0 _ (bL_0 e)
theorem range_amount {w : World} {B o : Nat} {e : Bd} (h : w.rangeAt B o (bL e)) : w.cell? ⟨B, o + 1, none⟩ = some (.int .i64 e.amount) := h 1 _ (bL_1 e)
theorem range_salt {w : World} {B o : Nat} {e : Bd} (h : w.rangeAt B o (bL e)) : w.rangeAt B (o + 2) (e.salt.map vB) := by
  intro j v hj
  have := h (j + 2) v (by unfold bL; simpa using hj)
  rwa [show o + (j + 2) = o + 2 + j by omega] at this
theorem range_bid {w : World} {g : Nat} {e : Bd} {t : TypeId} {fr : Nat × Nat} (h : w.heap[g]? = some (.cells (bV e.who e.amount e.salt) t fr)) : w.rangeAt g 0 (bL e) := by
  intro j v hj
  rw [Nat.zero_add, cell_of_row w g j _ t fr h, ← bL_array]
  simpa using hj
theorem range_low {w w' : World} {D B o : Nat} {cs : List Value} (h : w.rangeAt B o cs) (hb : Below D w w') (hB : B < D) : w'.rangeAt B o cs := fun j v hj => (hb.cell (p := ⟨B, o + j, none⟩) hB).trans (h j v hj)
theorem info_bid : (Tryd.prog.info? 59).map (·.size) = some 34 := by kernel_rfl
theorem info_bidz : (Tryd.prog.info? 59).map (fun i => (i.zero, i.size, i.bytes)) = some (some (.agg (bV 0 0 nz)), 34, 48) := by kernel_rfl
theorem bVs {e : Bd} (h : e.salt.length = 32) : (bV e.who e.amount e.salt).size = 34 := bV_size _ _ _ h
section
variable {ops : Array Oper} {rest : List Oper} {op : Oper} {a : Act} {w : World} {Q : Exit → Act → World → Prop} {C : World → Prop} {Qa : Act → Prop}
/-- an entry is loaded out of some place -/
theorem ld_bidG_0 (hgd : Region.wanted op (yielded ops a.tmps) = true) (x : Operand) (ho : op.op = .load 59 x) (b o : Nat) (hx : a.eval x = .pointer (some ⟨b, o, none⟩)) (e : Bd) (he : e.salt.length = 32) (hr : w.rangeAt b o (bL e))
    (h : wpList Tryd.prog ops Q rest (a.put op.dst (.agg (bV e.who e.amount e.salt))) w) : wpList Tryd.prog ops Q (op :: rest) a w := by
  unfold wpList
  rw [if_pos hgd]
  exact .inl (wp_load_mid _ x ho b o hx (bL e) _ hr Tryd.underlying59 rfl (by rw [bL_length he]; exact info_bid) h)
theorem ld_bidG {x1 : Operand} (ho : op.op = .load 59 x1) (x : Operand) (he_ : x1 = x) (b o : Nat) (hx : a.eval x = .pointer (some ⟨b, o, none⟩)) (e : Bd) (he : e.salt.length = 32) (hr : w.rangeAt b o (bL e))
    (h : wpList Tryd.prog ops Q rest (a.put op.dst (.agg (bV e.who e.amount e.salt))) w) (hgd : Region.wanted op (yielded ops a.tmps) = true := by rfl) : wpList Tryd.prog ops Q (op :: rest) a w := by
  cases he_
  exact ld_bidG_0 hgd _ ho b o hx e he hr h
theorem quiet_bid_0 (hgd : Region.wanted op (yielded ops a.tmps) = true) (x : Operand) (ho : op.op = .load 59 x) (b o : Nat) (hx : a.eval x = .pointer (some ⟨b, o, none⟩)) (e : Bd) (he : e.salt.length = 32) (hC : ∀ w, C w → w.rangeAt b o (bL e))
    (h : wpQuiet Tryd.prog ops C Qa rest (a.put op.dst (.agg (bV e.who e.amount e.salt)))) : wpQuiet Tryd.prog ops C Qa (op :: rest) a :=
  quiet_mid hgd _ x ho b o hx (bL e) _ hC Tryd.underlying59 rfl (by rw [bL_length he]; exact info_bid) h
theorem quiet_bid {x1 : Operand} (ho : op.op = .load 59 x1) (x : Operand) (he_ : x1 = x) (b o : Nat) (hx : a.eval x = .pointer (some ⟨b, o, none⟩)) (e : Bd) (he : e.salt.length = 32) (hC : ∀ w, C w → w.rangeAt b o (bL e))
    (h : wpQuiet Tryd.prog ops C Qa rest (a.put op.dst (.agg (bV e.who e.amount e.salt)))) (hgd : Region.wanted op (yielded ops a.tmps) = true := by rfl) : wpQuiet Tryd.prog ops C Qa (op :: rest) a := by
  cases he_
  exact quiet_bid_0 hgd _ ho b o hx e he hC h
/-- an entry is stored into a block that holds one alone -/
theorem st_bid (hgd : op.guard = none) (x y : Operand) (ho : op.op = .store 59 x y) (g : Nat) (e : Bd) (he : e.salt.length = 32) (hx : a.eval x = .pointer (some ⟨g, 0, none⟩)) (hy : a.eval y = .agg (bV e.who e.amount e.salt)) (old : Array Value) (hold : old.size = 34) (t : TypeId) (hg : w.heap[g]? = some (.cells old t (0, 0)))
    (h : wpList Tryd.prog ops Q rest (a.put op.dst undef) (w.setRow g (bV e.who e.amount e.salt))) : wpList Tryd.prog ops Q (op :: rest) a w :=
  wpList_store_row hgd _ x y ho g (bV e.who e.amount e.salt) hx hy t old hg (by rw [bVs he]; exact info_bid) (by rw [bVs he, hold]) (bV_one e) h
theorem st_bidNew (hgd : op.guard = none) (x y : Operand) (ho : op.op = .store 59 x y) (e : Bd) (he : e.salt.length = 32) (hy : a.eval y = .agg (bV e.who e.amount e.salt)) (Z : Array Value) (t : TypeId) (hZ : Z.size = 34) (hx : a.eval x = .pointer (some ⟨w.heap.size, 0, none⟩))
    (h : wpList Tryd.prog ops Q rest (a.put op.dst undef) (w.alloc (.cells (bV e.who e.amount e.salt) t))) : wpList Tryd.prog ops Q (op :: rest) a (w.alloc (.cells Z t)) :=
  st_bid hgd x y ho w.heap.size e he hx hy Z hZ t (heap_alloc_new w _) (by rw [World.setRow_alloc_new]; exact h)
end
/-- cells that are read, in whatever block -/
theorem Rd.of_cellq {w : World} {b o : Nat} {vs : List Value} (h : ∀ i, (hi : i < vs.length) → w.cell? ⟨b, o + i, none⟩ = some vs[i]) : ∃ e, Rd w (some ⟨b, o, none⟩) e vs := by
  cases vs with
  | nil => exact ⟨0, .inl rfl⟩
  | cons v vs =>
    have h0 := h 0 (by simp)
    unfold World.cell? at h0
    simp only at h0
    rcases hb : w.heap[b]? with _ | ob
    · rw [hb] at h0; cases h0
    · rcases ob with ⟨cur, e, fr⟩ | _ | _ | _ | _ | _ | _ <;> try (rw [hb] at h0; cases h0; done)
      refine ⟨e, .inr ⟨b, o, cur, fr, rfl, hb, fun i hi => ?_⟩⟩
      rw [← cell_of_row w b (o + i) cur e fr hb]
      exact h i hi
section
variable {H : Type} {enc : TypeId × Value → H} {P : Program} {w : World} {spare : Nat → Bool} {held : Bool}
theorem trod_bid {t u : TypeId} {f0 f1 f2 : Field} {n : Nat} {cs : List Value} {y : DataW H × List MemPlace} (ht : P.underlying t = some (.struct #[f0, f1, f2])) (h0 : P.underlying f0.type = some (.int .i64)) (h1 : P.underlying f1.type = some (.int .i64)) (h2 : P.underlying f2.type = some (.array 32 u)) (hu : P.underlying u = some (.int .u8))
    (hc : P.cellsOf t = 34) (c0 : P.cellsOf f0.type = 1) (c1 : P.cellsOf f1.type = 1) (c2 : P.cellsOf f2.type = 32) (cu : P.cellsOf u = 1) (o0 : f0.offset = 0) (o1 : f1.offset = 1) (o2 : f2.offset = 2)
    (h : DataW.trod enc P w 0 spare held n t cs = some y) : ∃ e : Bd, BdW e ∧ cs = bL e := by
  obtain ⟨y0, y1, y2, m, _, hl, g0, g1, g2⟩ := Deep.trod_struct3 ht h
  rw [hc] at hl
  rw [o0, c0] at g0
  rw [o1, c1] at g1
  rw [o2, c2] at g2
  obtain ⟨z, e4, _, hw⟩ := DataW.trod_int h0 g0
  obtain ⟨z1, e6, _, hw1⟩ := DataW.trod_int h1 g1
  obtain ⟨d, hd, e5⟩ := trod_digest h2 hu c2 cu g2
  refine ⟨⟨z, z1, d⟩, ⟨hd, bounds_i64 hw, bounds_i64 hw1⟩, ?_⟩
  match cs, hl with
  | c :: c' :: r, hl =>
    simp only [List.drop_zero, List.take_succ_cons, List.take_zero, List.drop_succ_cons, List.cons.injEq, and_true] at e4 e6
    simp only [List.drop_succ_cons, List.drop_zero] at e5
    rw [List.take_of_length_le (by simp at hl; omega)] at e5
    rw [e4, e6, e5]; rfl
theorem flatMap_bids (F : Nat → List Value) (D : Nat → Bd) (n : Nat) (h : ∀ i, i < n → F i = bL (D i)) : (List.range n).flatMap F = cellsP ((List.range n).map D) := by
  induction n with
  | zero => rfl
  | succ n ih =>
    rw [List.range_succ, List.flatMap_append, ih (fun i hi => h i (by omega)), List.map_append, cellsP_append]
    congr 1
    simp [h n (by omega), cellsP_one]
theorem open_bids {r : Reach} {b0 : Nat} {T t u : TypeId} {f0 f1 f2 : Field} {v : Value} {d : DataW H} {ps : List MemPlace} (hT : P.underlying T = some (.slice t)) (ht : P.underlying t = some (.struct #[f0, f1, f2])) (h0 : P.underlying f0.type = some (.int .i64)) (h1 : P.underlying f1.type = some (.int .i64)) (h2 : P.underlying f2.type = some (.array 32 u)) (hu : P.underlying u = some (.int .u8))
    (hc : P.cellsOf t = 34) (c0 : P.cellsOf f0.type = 1) (c1 : P.cellsOf f1.type = 1) (c2 : P.cellsOf f2.type = 32) (cu : P.cellsOf u = 1) (o0 : f0.offset = 0) (o1 : f1.offset = 1) (o2 : f2.offset = 2)
    (hval : Value.okWide P w r b0 T v) (h : DataW.Trod enc P w 0 spare held T v d ps) : ∃ (es : List Bd) (a : Option Addr) (cap e' : Nat), v = .slice a es.length cap ∧ es.length ≤ cap ∧ cap ≤ 9223372036854775807 ∧ (∀ e ∈ es, BdW e) ∧ Rd w a e' (cellsP es) := by
  obtain ⟨a, len, cap, rfl⟩ := okWide_slice hT hval
  obtain ⟨fuel, hf⟩ := h
  obtain ⟨a', len', cap', hcs, hl, hm, F, n, hF, e', hr⟩ := trod_list hT hf
  simp [Value.cells] at hcs
  obtain ⟨rfl, rfl, rfl⟩ := hcs
  obtain ⟨D, hD⟩ := Deep.choose_lt (α := Bd) (n := len) (p := fun i c => BdW c ∧ F i = bL c) (fun i hi => by
    obtain ⟨y, hy⟩ := (hF i hi).2
    exact trod_bid ht h0 h1 h2 hu hc c0 c1 c2 cu o0 o1 o2 hy)
  refine ⟨(List.range len).map D, a, cap, e', by simp, by simpa using hl, by simp only [maxLen] at hm; omega, ?_, ?_⟩
  · intro x hx
    obtain ⟨i, hi, rfl⟩ := List.mem_map.1 hx
    exact (hD i (List.mem_range.1 hi)).1
  · rw [← flatMap_bids F D len (fun i hi => (hD i hi).2)]; exact hr
theorem open_bid {r : Reach} {b0 : Nat} {t u : TypeId} {f0 f1 f2 : Field} {v : Value} {d : DataW H} {ps : List MemPlace} (ht : P.underlying t = some (.struct #[f0, f1, f2])) (h0 : P.underlying f0.type = some (.int .i64)) (h1 : P.underlying f1.type = some (.int .i64)) (h2 : P.underlying f2.type = some (.array 32 u)) (hu : P.underlying u = some (.int .u8))
    (hc : P.cellsOf t = 34) (c0 : P.cellsOf f0.type = 1) (c1 : P.cellsOf f1.type = 1) (c2 : P.cellsOf f2.type = 32) (cu : P.cellsOf u = 1) (o0 : f0.offset = 0) (o1 : f1.offset = 1) (o2 : f2.offset = 2)
    (hval : Value.okWide P w r b0 t v) (h : DataW.Trod enc P w 0 spare held t v d ps) : ∃ e : Bd, BdW e ∧ v = .agg (bV e.who e.amount e.salt) := by
  obtain ⟨cs, rfl, _⟩ := okWide_struct ht hval
  obtain ⟨fuel, hf⟩ := h
  obtain ⟨e, he, h9⟩ := trod_bid ht h0 h1 h2 hu hc c0 c1 c2 cu o0 o1 o2 hf
  refine ⟨e, he, ?_⟩
  simp only [Value.cells] at h9
  rw [← bL_array, ← h9]
end
end Go.Proofs.YteikbbdkpeecaaaDoor
