/- The memory of hyper's keys: a Hyper's block, its stamps. -/
import Derived.Test.YtkioddmhjbaleaaDoorStampL
import Derived.Test.YtkioddmhjbaleaaDoorHypKeys
namespace Go.Proofs.YtkioddmhjbaleaaDoor
open Go.RowKit
set_option linter.unusedVariables false
set_option linter.unusedSimpArgs false
def hV (p : Value) (seed : List UInt8) (h turn : Int) (low x0 x1 x2 : Value) : Array Value := (p :: (seed.map vB ++ [.int .i64 h, .int .i64 turn, low, x0, x1, x2])).toArray
section
variable {seed : List UInt8} (hs : seed.length = 32) (p : Value) (h turn : Int) (low x0 x1 x2 : Value)
include hs
theorem hV_size : (hV p seed h turn low x0 x1 x2).size = 39 := by simp [hV, hs]
omit hs in
theorem hV_0 : (hV p seed h turn low x0 x1 x2)[0]? = some p := rfl
theorem hV_33 : (hV p seed h turn low x0 x1 x2)[33]? = some (.int .i64 h) := by
  unfold hV; rw [List.getElem?_toArray, List.getElem?_cons_succ, List.getElem?_append_right (by simp [hs])]; simp [hs]
theorem hV_34 : (hV p seed h turn low x0 x1 x2)[34]? = some (.int .i64 turn) := by
  unfold hV; rw [List.getElem?_toArray, List.getElem?_cons_succ, List.getElem?_append_right (by simp [hs])]; simp [hs]
theorem hV_35 : (hV p seed h turn low x0 x1 x2)[35]? = some low := by
  unfold hV; rw [List.getElem?_toArray, List.getElem?_cons_succ, List.getElem?_append_right (by simp [hs])]; simp [hs]
theorem hV_36 : (hV p seed h turn low x0 x1 x2)[36]? = some x0 := by
  unfold hV; rw [List.getElem?_toArray, List.getElem?_cons_succ, List.getElem?_append_right (by simp [hs])]; simp [hs]
theorem hV_37 : (hV p seed h turn low x0 x1 x2)[37]? = some x1 := by
  unfold hV; rw [List.getElem?_toArray, List.getElem?_cons_succ, List.getElem?_append_right (by simp [hs])]; simp [hs]
theorem hV_38 : (hV p seed h turn low x0 x1 x2)[38]? = some x2 := by
  unfold hV; rw [List.getElem?_toArray, List.getElem?_cons_succ, List.getElem?_append_right (by simp [hs])]; simp [hs]
theorem hV_set (i : Nat) (v : Value) (rest' : List Value) (he : [Value.int .i64 h, .int .i64 turn, low, x0, x1, x2].set i v = rest') : (hV p seed h turn low x0 x1 x2).setIfInBounds (33 + i) v = (p :: (seed.map vB ++ rest')).toArray := by
  unfold hV
  apply Array.toList_inj.1
  rw [Array.toList_setIfInBounds]
  show (p :: (seed.map vB ++ _)).set (33 + i) v = p :: (seed.map vB ++ rest')
  rw [show 33 + i = (32 + i) + 1 by omega, List.set_cons_succ, List.set_append_right _ _ (by simp [hs]), List.length_map, hs, Nat.add_sub_cancel_left, he]
theorem hV_set34 (t' : Int) : (hV p seed h turn low x0 x1 x2).setIfInBounds 34 (.int .i64 t') = hV p seed h t' low x0 x1 x2 := hV_set hs p h turn low x0 x1 x2 1 _ _ rfl
theorem hV_set35 (l' : Value) : (hV p seed h turn low x0 x1 x2).setIfInBounds 35 l' = hV p seed h turn l' x0 x1 x2 := hV_set hs p h turn low x0 x1 x2 2 _ _ rfl
theorem hV_set36 (l' : Value) : (hV p seed h turn low x0 x1 x2).setIfInBounds 36 l' = hV p seed h turn low l' x1 x2 := hV_set hs p h turn low x0 x1 x2 3 _ _ rfl
theorem hV_set37 (l' : Value) : (hV p seed h turn low x0 x1 x2).setIfInBounds 37 l' = hV p seed h turn low x0 l' x2 := hV_set hs p h turn low x0 x1 x2 4 _ _ rfl
theorem hV_set38 (l' : Value) : (hV p seed h turn low x0 x1 x2).setIfInBounds 38 l' = hV p seed h turn low x0 x1 l' := hV_set hs p h turn low x0 x1 x2 5 _ _ rfl
variable {p h turn low x0 x1 x2} {w : World} {X : Nat} {t : TypeId} {fr : Nat × Nat}
omit hs in
theorem hV_seed (hg : w.heap[X]? = some (.cells (hV p seed h turn low x0 x1 x2) t fr)) : w.rangeAt X 1 (seed.map vB) := by
  intro j v hj
  rw [cell_of_row w X (1 + j) _ t fr hg]
  unfold hV
  rw [List.getElem?_toArray, show 1 + j = j + 1 by omega, List.getElem?_cons_succ, List.getElem?_append_left (by have := (List.getElem?_eq_some_iff.1 hj).1; exact this)]
  exact hj
theorem hV_key (hg : w.heap[X]? = some (.cells (hV p seed h turn low x0 x1 x2) t fr)) : w.rangeAt X 36 [x0, x1, x2] := by
  intro j v hj
  rw [cell_of_row w X (36 + j) _ t fr hg]
  match j with
  | 0 => rw [hV_36 hs]; simpa using hj
  | 1 => rw [hV_37 hs]; simpa using hj
  | 2 => rw [hV_38 hs]; simpa using hj
  | j + 3 => simp at hj
theorem hV_there (hg : w.heap[X]? = some (.cells (hV p seed h turn low x0 x1 x2) t (0, 0))) : w.there X 36 3 := by
  intro j hj
  refine ⟨?_, frozen_of_row _ _ _ _ _ hg⟩
  rw [cell_of_row w X (36 + j) _ t _ hg, Array.getElem?_eq_getElem (by rw [hV_size hs]; omega)]
  rfl
theorem hV_put (hg : w.heap[X]? = some (.cells (hV p seed h turn low x0 x1 x2) t fr)) (y0 y1 y2 : Value) : (w.setCells X 36 [y0, y1, y2]).heap[X]? = some (.cells (hV p seed h turn low y0 y1 y2) t fr) := by
  show (((w.setCell ⟨X, 36, none⟩ y0).setCell ⟨X, 37, none⟩ y1).setCell ⟨X, 38, none⟩ y2).heap[X]? = _
  have h1 := setCell_rowS hg (i := 36) y0
  rw [hV_set36 hs] at h1
  have h2 := setCell_rowS h1 (i := 37) y1
  rw [hV_set37 hs] at h2
  have h3 := setCell_rowS h2 (i := 38) y2
  rw [hV_set38 hs] at h3
  exact h3
end
theorem Only.trans {a b c : World} {X : Nat} (h : Only a b X) (k : Only b c X) : Only a c X := ⟨k.1.trans h.1, fun b' hb => (k.2 b' hb).trans (h.2 b' hb)⟩
theorem Only.setCells3 (w : World) (X o : Nat) (a b c : Value) : Only w (w.setCells X o [a, b, c]) X := ((Only.setCell w X o a).trans (Only.setCell _ X (o + 1) b)).trans (Only.setCell _ X (o + 2) c)
theorem run_build_hyper32 (P : Nat) (h : Int) (k0 k1 k2 k3 k4 k5 k6 k7 k8 k9 k10 k11 k12 k13 k14 k15 k16 k17 k18 k19 k20 k21 k22 k23 k24 k25 k26 k27 k28 k29 k30 k31 : UInt8) (w : World) : (Instr.build 100 #[(0, .pointer (some ⟨P, 0, none⟩)), (1, .agg (dV [k0, k1, k2, k3, k4, k5, k6, k7, k8, k9, k10, k11, k12, k13, k14, k15, k16, k17, k18, k19, k20, k21, k22, k23, k24, k25, k26, k27, k28, k29, k30, k31])), (2, .int .i64 h)]).run Tryd.prog w = .ok (.agg (hV (.pointer (some ⟨P, 0, none⟩)) [k0, k1, k2, k3, k4, k5, k6, k7, k8, k9, k10, k11, k12, k13, k14, k15, k16, k17, k18, k19, k20, k21, k22, k23, k24, k25, k26, k27, k28, k29, k30, k31] h 0 (.pointer none) (.int .i64 0) (.slice none 0 0) (.slice none 0 0))) w := by kernel_rfl
theorem run_build_hyper (P : Nat) (h : Int) : ∀ (key : List UInt8), key.length = 32 → ∀ w : World, (Instr.build 100 #[(0, .pointer (some ⟨P, 0, none⟩)), (1, .agg (dV key)), (2, .int .i64 h)]).run Tryd.prog w = .ok (.agg (hV (.pointer (some ⟨P, 0, none⟩)) key h 0 (.pointer none) (.int .i64 0) (.slice none 0 0) (.slice none 0 0))) w := by
  intro key hk
  match key, hk with
  | [k0, k1, k2, k3, k4, k5, k6, k7, k8, k9, k10, k11, k12, k13, k14, k15, k16, k17, k18, k19, k20, k21, k22, k23, k24, k25, k26, k27, k28, k29, k30, k31], _ => exact run_build_hyper32 P h k0 k1 k2 k3 k4 k5 k6 k7 k8 k9 k10 k11 k12 k13 k14 k15 k16 k17 k18 k19 k20 k21 k22 k23 k24 k25 k26 k27 k28 k29 k30 k31
theorem bld_hyper {ops : Array Oper} {rest : List Oper} {op : Oper} {a : Act} {w : World} {Q : Exit → Act → World → Prop} (hgd : op.guard = none) (x y z : Operand) (ho : op.op = .build 100 #[(0, x), (1, y), (2, z)]) (P : Nat) (key : List UInt8) (hk : key.length = 32) (h : Int) (hx : a.eval x = .pointer (some ⟨P, 0, none⟩)) (hy : a.eval y = .agg (dV key)) (hz : a.eval z = .int .i64 h)
    (hw : wpList Tryd.prog ops Q rest (a.put op.dst (.agg (hV (.pointer (some ⟨P, 0, none⟩)) key h 0 (.pointer none) (.int .i64 0) (.slice none 0 0) (.slice none 0 0)))) w) : wpList Tryd.prog ops Q (op :: rest) a w := by
  refine wpList_plain hgd fun K hK => ?_
  unfold Oper.wp execOp
  simp only [ho, List.map_toArray, List.map_cons, List.map_nil, hx, hy, hz, Sem.run_bind, run_build_hyper P h key hk w, Result.andThen_ok, Sem.run_pure]
  exact hK _ _ hw
/-- below B nothing has turned; above it stamps and hypers alone -/
def Ho (B : Nat) (w w' : World) : Prop := Below B w w' ∧ ∀ (b : Nat) (c : Array Value) (t : TypeId) (fr : Nat × Nat), w.heap[b]? = some (.cells c t fr) → t ≠ 85 → t ≠ 100 → w'.heap[b]? = some (.cells c t fr)
theorem Ho.refl (B : Nat) (w : World) : Ho B w w := ⟨Below.refl _ _, fun _ _ _ _ h _ _ => h⟩
theorem Ho.trans {B : Nat} {a b c : World} (h : Ho B a b) (k : Ho B b c) : Ho B a c := ⟨h.1.trans k.1, fun b c t fr hb h1 h2 => k.2 b c t fr (h.2 b c t fr hb h1 h2) h1 h2⟩
theorem Ho.size {B : Nat} {a b : World} (h : Ho B a b) : a.heap.size ≤ b.heap.size := h.1.size
theorem Ho.of_below {B : Nat} {w w' : World} (h : Below w.heap.size w w') (hB : B ≤ w.heap.size) : Ho B w w' := ⟨h.mono hB, fun b c t fr hb _ _ => (h.block b (lt_of_heap hb)).trans hb⟩
theorem Ho.of_save {B : Nat} {w w' : World} {P n nx : Nat} {seed : List UInt8} (h : Save w w' P) (hs : StampAt w P seed n nx) (hB : B ≤ P) : Ho B w w' := ⟨h.1.mono hB, fun b c t fr hb h1 _ => h.blk hs hb h1⟩
theorem Ho.of_only {B : Nat} {w w' : World} {X : Nat} (h : Only w w' X) (hb : Below B w w') {c : Array Value} {fr : Nat × Nat} (hX : w.heap[X]? = some (.cells c 100 fr)) : Ho B w w' := ⟨hb, fun b c' t' fr' hb' _ h2 => h.blk hX hb' (Ne.symm h2)⟩
theorem Ho.rd {B : Nat} {w w' : World} (h : Ho B w w') {a : Option Addr} {e : TypeId} {vs : List Value} (hr : Rd w a e vs) (h1 : e ≠ 85) (h2 : e ≠ 100) : Rd w' a e vs := by
  rcases hr with h0 | ⟨b, o, cur, fr', rfl, hc, hi⟩
  · exact .inl h0
  · exact .inr ⟨b, o, cur, fr', rfl, h.2 b _ _ _ hc h1 h2, hi⟩
theorem Ho.rounds {B : Nat} {w w' : World} (h : Ho B w w') (hB : 1 < B) (hr : RoundsAt w) : RoundsAt w' := by
  obtain ⟨t, fr, hr⟩ := hr
  exact ⟨t, fr, (h.1.block _ hB).trans hr⟩
theorem Save.stamp {w w' : World} {P Q n nx m mx : Nat} {s s' : List UInt8} (h : Save w w' P) (hs : StampAt w P s n nx) (hne : Q ≠ P) (hq : StampAt w Q s' m mx) : StampAt w' Q s' m mx := by
  obtain ⟨la, cap, h1, h2, h3, h4, h5⟩ := hq
  exact ⟨la, cap, (h.2.2 Q hne (lt_of_heap h1)).trans h1, h2, h3, h.rdS hs h4, h5⟩
/-- the key of a lower stamp, signed -/
def KeyAt (w : World) (up low : List UInt8) (N t : Nat) (x0 x1 x2 : Value) : Prop := ∃ (sa : Option Addr) (sc : Nat) (pa : Option Addr) (pc : Nat), x0 = .int .i64 (t : Int) ∧ x1 = .slice sa 67 sc ∧ x2 = .slice pa (tlong t N) pc ∧ Rd w sa 23 ((wsig (skey up t) (troot (leavesK low N))).flatten.map vB) ∧ Rd w pa 23 ((tpath (leavesK up N) t).flatten.map vB)
def One3 (x0 x1 x2 : Value) : Prop := (#[x0, x1, x2] : Array Value).all (·.oneCell') = true
/-- t + 1 lower stamps were made; the last of them, at Q, has nx used -/
def LowAt (w : World) (B P : Nat) (seed : List UInt8) (N turn i : Nat) (low x0 x1 x2 : Value) : Prop :=
  (turn = 0 ∧ i = 0 ∧ low = .pointer none) ∨ ∃ t Q nx, turn = t + 1 ∧ t < N ∧ low = .pointer (some ⟨Q, 0, none⟩) ∧ B ≤ Q ∧ Q ≠ P ∧ nx ≤ N ∧ i = t * N + nx ∧ StampAt w Q (hlow seed t) N nx ∧ (nx < N → KeyAt w (hup seed) (hlow seed t) N t x0 x1 x2)
/-- a Hyper at X that has signed i -/
def HyAt (w : World) (X B : Nat) (seed : List UInt8) (h : Int) (N i : Nat) : Prop :=
  ∃ (P turn : Nat) (low x0 x1 x2 : Value), w.heap[X]? = some (.cells (hV (.pointer (some ⟨P, 0, none⟩)) seed h (turn : Int) low x0 x1 x2) 100 (0, 0)) ∧ B ≤ X ∧ B ≤ P ∧ StampAt w P (hup seed) N turn ∧ turn ≤ N ∧ One3 x0 x1 x2 ∧ LowAt w B P seed N turn i low x0 x1 x2
theorem KeyAt.ho {B : Nat} {w w' : World} {up low : List UInt8} {N t : Nat} {x0 x1 x2 : Value} (h : KeyAt w up low N t x0 x1 x2) (hb : Ho B w w') : KeyAt w' up low N t x0 x1 x2 := by
  obtain ⟨sa, sc, pa, pc, h1, h2, h3, h4, h5⟩ := h
  exact ⟨sa, sc, pa, pc, h1, h2, h3, hb.rd h4 (by decide) (by decide), hb.rd h5 (by decide) (by decide)⟩
theorem HyAt.below {w w' : World} {X B : Nat} {seed : List UInt8} {h : Int} {N i : Nat} (hy : HyAt w X B seed h N i) (hb : Below w.heap.size w w') : HyAt w' X B seed h N i := by
  obtain ⟨P, turn, low, x0, x1, x2, h1, h2, h3, h4, h5, h6, h7⟩ := hy
  refine ⟨P, turn, low, x0, x1, x2, (hb.block X (lt_of_heap h1)).trans h1, h2, h3, h4.below hb, h5, h6, ?_⟩
  rcases h7 with h7 | ⟨t, Q, nx, e1, e2, e3, e4, e5, e6, e7, e8, e9⟩
  · exact .inl h7
  · exact .inr ⟨t, Q, nx, e1, e2, e3, e4, e5, e6, e7, e8.below hb, fun hl => (e9 hl).ho (Ho.of_below hb (Nat.le_refl _))⟩
theorem HyAt.lt {w : World} {X B : Nat} {seed : List UInt8} {h : Int} {N i : Nat} (hy : HyAt w X B seed h N i) : X < w.heap.size := by
  obtain ⟨P, turn, low, x0, x1, x2, h1, _⟩ := hy
  exact lt_of_heap h1
/-- the three heights -/
def High3 (h : Int) (N : Nat) : Prop := (h = 0 ∧ N = 1) ∨ (h = 1 ∧ N = 2) ∨ (h = 2 ∧ N = 4)
theorem High3.pow {h : Int} {N : Nat} (g : High3 h N) : ∃ k : Nat, h = (k : Int) ∧ k ≤ 4 ∧ N = 2 ^ k := by
  rcases g with ⟨rfl, rfl⟩ | ⟨rfl, rfl⟩ | ⟨rfl, rfl⟩
  · exact ⟨0, rfl, by omega, rfl⟩
  · exact ⟨1, rfl, by omega, rfl⟩
  · exact ⟨2, rfl, by omega, rfl⟩
theorem High3.bounds {h : Int} {N : Nat} (g : High3 h N) : 0 ≤ h ∧ h ≤ 2 ∧ 1 ≤ N ∧ N ≤ 4 := by rcases g with ⟨rfl, rfl⟩ | ⟨rfl, rfl⟩ | ⟨rfl, rfl⟩ <;> omega
theorem High3.of {h : Int} (h0 : 0 ≤ h) (h2 : h ≤ 2) : ∃ N, High3 h N := by
  rcases (by omega : h = 0 ∨ h = 1 ∨ h = 2) with rfl | rfl | rfl
  · exact ⟨1, .inl ⟨rfl, rfl⟩⟩
  · exact ⟨2, .inr (.inl ⟨rfl, rfl⟩)⟩
  · exact ⟨4, .inr (.inr ⟨rfl, rfl⟩)⟩
end Go.Proofs.YtkioddmhjbaleaaDoor
