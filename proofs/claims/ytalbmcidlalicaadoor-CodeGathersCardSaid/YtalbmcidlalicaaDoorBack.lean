/- Walks: slices.Backward over a list of bytes, and the value of a polynomial, which ranges over it. -/
import Derived.RangeFuncBox
import Derived.RangeFuncNested
import Derived.RangeFuncBound
import Derived.RangeFuncCalls
import Derived.RangeFuncLeaves
import Derived.Shelf.Abstract
import Derived.WalkKit
import Derived.OwnWalkIn
import Derived.TacticsInMore
import Derived.LoopNIn
import Derived.LoopIn
import Derived.Test.YtalbmcidlalicaaDoorField
import Derived.Test.YtalbmcidlalicaaDoorPoly
import Derived.Test.YtalbmcidlalicaaDoorMem
namespace Go.Proofs.YtalbmcidlalicaaDoor
open Go.RowKit Go.Shelf
set_option linter.unusedVariables false
attribute [local go_sem] Oper.semAt_some

/-- what has come when k rounds are over: from the list's end on -/
def bk (xs : List UInt8) (k : Nat) : List (Nat × UInt8) := (List.range k).map fun j => (xs.length - 1 - j, xs.getD (xs.length - 1 - j) 0)
theorem bk_succ (xs : List UInt8) (k : Nat) : bk xs (k + 1) = bk xs k ++ [(xs.length - 1 - k, xs.getD (xs.length - 1 - k) 0)] := by simp [bk, List.range_succ]
theorem bk_length (xs : List UInt8) (k : Nat) : (bk xs k).length = k := by simp [bk]

/-- below a number all is as it was, and one block beside -/
def KeepB (n₀ Bs : Nat) (A B : World) : Prop := Below n₀ A B ∧ B.heap[Bs]? = A.heap[Bs]?
theorem KeepB.refl (n₀ Bs : Nat) (A : World) : KeepB n₀ Bs A A := ⟨Below.refl _ _, rfl⟩
theorem KeepB.trans {n₀ Bs : Nat} {A B C : World} (h : KeepB n₀ Bs A B) (k : KeepB n₀ Bs B C) : KeepB n₀ Bs A C := ⟨h.1.trans k.1, k.2.trans h.2⟩
theorem keepB_b {n₀ Bs : Nat} {w : World} (hn : n₀ ≤ w.heap.size) (hB : Bs < w.heap.size) (W : World) (l : Nat) (o o' : Obj) (hl : w.heap.size ≤ l) (h : W.heap[l]? = some o) (hc : o.isCells = false) (hw : o.isWalk = false) : KeepB n₀ Bs W (W.putObj l o') :=
  ⟨belowK_b hn W l o o' hl h hc hw, World.putObj_heap_other (by omega)⟩

set_option maxRecDepth 100000 in
set_option maxHeartbeats 2000000 in
theorem back1_in (F : Fence) (n : Nat) (h8 : F.fn 41) (hro : F.round = none) (hn : 1 ≤ n) (l Bs n₀ cap : Nat) (a : Option Addr) (e : TypeId) (xs : List UInt8) (hx : xs.length ≤ 9223372036854775807) (J Jx : List (Nat × UInt8) → World → Prop)
    (hY : ∀ pre x W, J pre W → pre.length < xs.length → YieldAt F (n - 1) Tryd.prog l #[.int .i64 (x.1 : Int), .int .u8 (x.2.toNat : Int)] W fun e W' =>
      (e = .returned (.bool true) ∧ J (pre ++ [x]) W' ∧ KeepB n₀ Bs W W') ∨ (e = .returned (.bool false) ∧ Jx (pre ++ [x]) W'))
    (W : World) (hBs : W.cell? ⟨Bs, 0, none⟩ = some (.slice a xs.length cap)) (hr : Rd W a e (xs.map vB)) (hrn : ∀ x, a = some x → xs ≠ [] → x.block < n₀) (h0 : J [] W) :
    CallsIn F n Tryd.prog 41 #[.func (.yield l) #[] #[], .pointer (some ⟨Bs, 0, none⟩)] W fun e W' => (∃ v, e = .returned v) ∧
      ((∃ ys, ys = bk xs xs.length ∧ J ys W') ∨ (∃ pre, (∃ k, k ≤ xs.length ∧ pre = bk xs k) ∧ Jx pre W')) := by
  refine callsIn_of_wp Tryd.func41 rfl h8 ?_ hro
  simp only [Tryd.ntmps41, List.size_toArray, List.length_cons, List.length_nil, Nat.reduceAdd, Nat.reduceSub, Array.replicate_succ, Array.replicate_zero, List.push_toArray, List.append_toArray, List.nil_append, List.cons_append]
  gi_wp2
  gi_loopw [3] (fun i wr => ∃ k : Nat, k ≤ xs.length ∧ i = .int .i64 ((xs.length : Int) - 1 - k) ∧ J (bk xs k) wr ∧ KeepB n₀ Bs W wr)
    (fun i _ => (intOf i + 1).toNat)
  case atStart => exact ⟨0, Nat.zero_le _, by go_num, h0, KeepB.refl _ _ _⟩
  case round =>
    obtain ⟨k, hk, rfl, hJs, hnx⟩ := hrel
    by_cases hlt : k < xs.length
    · obtain ⟨m, hm⟩ : ∃ m : Nat, m = xs.length - 1 - k := ⟨_, rfl⟩
      have hml : m < xs.length := by omega
      have hmi : (xs.length : Int) - 1 - (k : Int) = (m : Int) := by omega
      rw [hmi]
      obtain ⟨b, o, rfl, _, hc⟩ := hr.bytes hml
      have hbn : b < n₀ := hrn _ rfl (fun h => by rw [h] at hml; simp at hml)
      have hcx : wr.cell? ⟨b, o + m, none⟩ = some (.int .u8 (xs[m].toNat : Int)) := (hnx.1.cell (p := ⟨b, o + m, none⟩) hbn).trans (hc m hml)
      have hBx : wr.cell? ⟨Bs, 0, none⟩ = some (.slice (some ⟨b, o, none⟩) xs.length cap) := (World.cell?_of_block (w := W) (a := ⟨Bs, 0, none⟩) hnx.2).trans hBs
      obtain ⟨fn, tmps, assign, body, hy, hR⟩ := hY _ (m, xs[m]) wr hJs (by rw [bk_length]; exact hlt)
      dsimp only at hy
      have hsucc : bk xs k ++ [(m, xs[m])] = bk xs (k + 1) := by
        rw [bk_succ, ← hm, List.getD_eq_getElem?_getD, List.getElem?_eq_getElem hml]; rfl
      have Hs := Lib.hid hsucc
      have Hm := Lib.hid hm
      clear hsucc hm hc hmi
      gi_wp2
      refine hR.mono ?_
      rintro e' W3 (⟨rfl, hJ3, hk3⟩ | ⟨rfl, hJx3⟩)
      · gi_wp2
        go_roundw
        case rel => exact ⟨k + 1, by omega, by have := Hm.out; go_num, by rw [← Hs.out]; exact hJ3, hnx.trans hk3⟩
        case measure => simp [intOf] <;> omega
      · gi_wp2
        refine bodyPost_ret (results_none rfl _ _ _) rfl ?_
        exact ⟨⟨_, rfl⟩, .inr ⟨_, ⟨k + 1, by omega, Hs.out⟩, hJx3⟩⟩
    · obtain rfl : k = xs.length := by omega
      have e1 : (xs.length : Int) - 1 - (xs.length : Int) = -1 := by omega
      rw [e1]
      gi_wp2
      go_end0
      exact ⟨⟨_, rfl⟩, .inl ⟨_, rfl, hJs⟩⟩

theorem Backward_in (F : Fence) (n : Nat) (h6 : F.fn 35) (hro : F.round = none) (a : Option Addr) (len cap : Nat) (w : World) :
    CallsIn F n Tryd.prog 35 #[.slice a len cap] w fun e w' => e = .returned (.func (.func 41) #[] #[.pointer (some ⟨w.heap.size, 0, none⟩)]) ∧ w' = w.alloc (.cells #[.slice a len cap] 33) := by
  refine callsIn_of_wp Tryd.func35 rfl h6 ?_ hro
  simp only [Tryd.ntmps35, List.size_toArray, List.length_cons, List.length_nil, Nat.reduceAdd, Nat.reduceSub, Array.replicate_succ, Array.replicate_zero, List.push_toArray, List.append_toArray, List.nil_append, List.cons_append]
  gi_wp2
  go_ret
  exact ⟨rfl, rfl⟩

theorem back_stops (F : Fence) (n : Nat) (h8 : F.fn 41) (hro : F.round = none) (hn : 1 ≤ n) (Bs n₀ cap : Nat) (a : Option Addr) (e : TypeId) (xs : List UInt8) (hx : xs.length ≤ 9223372036854775807) (w : World) (hBs : Bs < w.heap.size)
    (hc : w.cell? ⟨Bs, 0, none⟩ = some (.slice a xs.length cap)) (hr : Rd w a e (xs.map vB)) (hrn : ∀ x, a = some x → xs ≠ [] → x.block < n₀) :
    SeqStopsK F n Tryd.prog 41 #[.pointer (some ⟨Bs, 0, none⟩)] (fun x : Nat × UInt8 => #[Value.int .i64 (x.1 : Int), Value.int .u8 (x.2.toNat : Int)]) (KeepB n₀ Bs) (fun ys => ys = bk xs xs.length)
      (fun pre => ∃ k, k ≤ xs.length ∧ pre = bk xs k) xs.length w := fun l J Jx W hW _ _ hY h0 => by
  have hc' := (hW.cell (p := ⟨Bs, 0, none⟩) hBs).trans hc
  exact back1_in F n h8 hro hn l Bs n₀ cap a e xs hx J Jx hY W hc' (hr.below hW) hrn h0

/-- the value of what has come, from the end on -/
def valP (x : UInt8) : List (Nat × UInt8) → UInt8 := List.foldl (fun v p => Gf.add (Gf.mul v x) p.2) 0
theorem valP_snoc (x : UInt8) (pre : List (Nat × UInt8)) (p : Nat × UInt8) : valP x (pre ++ [p]) = Gf.add (Gf.mul (valP x pre) x) p.2 := by simp [valP]
theorem valP_bk (x : UInt8) (xs : List UInt8) : ∀ k, k ≤ xs.length → valP x (bk xs k) = Gf.val (xs.drop (xs.length - k)) x := by
  intro k
  induction k with
  | zero => intro _; simp [bk, valP, Gf.val]
  | succ k ih =>
    intro hk
    rw [bk_succ, valP_snoc, ih (by omega)]
    have h1 : xs.length - (k + 1) < xs.length := by omega
    rw [List.drop_eq_getElem_cons h1, Gf.val]
    have h2 : xs.length - (k + 1) + 1 = xs.length - k := by omega
    have h3 : xs.length - 1 - k = xs.length - (k + 1) := by omega
    unfold Gf.add
    rw [h2]
    simp only [h3]
    rw [List.getD_eq_getElem?_getD, List.getElem?_eq_getElem h1]; rfl

set_option maxRecDepth 100000 in
set_option maxHeartbeats 2000000 in
theorem Value_calls (xs : List UInt8) (x : UInt8) (a : Option Addr) (cap e : Nat) (w : World) (hr : Rd w a e (xs.map vB)) (hx : xs.length ≤ 9223372036854775807) :
    Calls Tryd.prog 16 #[.slice a xs.length cap, .int .u8 x.toNat] w fun e W' => e = .returned (.int .u8 (Gf.val xs x).toNat) ∧ Below w.heap.size w W' := by
  refine (callsIn_wide (n := 6)).1 ?_
  refine callsIn_of_wp_marks Tryd.func16 rfl trivial ?_ rfl
  simp only [Tryd.ntmps16, List.size_toArray, List.length_cons, List.length_nil, Nat.reduceAdd, Nat.reduceSub, Array.replicate_succ, Array.replicate_zero, List.push_toArray, List.append_toArray, List.nil_append, List.cons_append]
  gi_wp2_with (refine ⟨trivial, ?_⟩; gi_at_call 35; refine (Backward_in _ _ trivial rfl _ _ _ _).mono ?_; rintro e w' ⟨rfl, rfl⟩)
  have bX := Boxed.new w 5 (.int .u8 x.toNat)
  have bV := Boxed.new (w.alloc (.cells #[.int .u8 x.toNat] 5)) 5 (.int .u8 0)
  have bS := Boxed.new ((w.alloc (.cells #[.int .u8 x.toNat] 5)).alloc (.cells #[.int .u8 0] 5)) 33 (.slice a xs.length cap)
  simp only [World.size_alloc] at bV bS
  have hB0 : Below w.heap.size w (((w.alloc (.cells #[.int .u8 x.toNat] 5)).alloc (.cells #[.int .u8 0] 5)).alloc (.cells #[.slice a xs.length cap] 33)) := (((Below.refl _ w).alloc (Nat.le_refl _) _).alloc (by simp) _).alloc (by simp; omega) _
  obtain ⟨W0, hW0⟩ : ∃ W0, (((w.alloc (.cells #[.int .u8 x.toNat] 5)).alloc (.cells #[.int .u8 0] 5)).alloc (.cells #[.slice a xs.length cap] 33)) = W0 := ⟨_, rfl⟩
  have hsz : W0.heap.size = w.heap.size + 3 := by rw [← hW0]; simp
  rw [hW0] at bS hB0 ⊢
  have bX0 : Boxed W0 w.heap.size 5 (.int .u8 x.toNat) := by rw [← hW0]; exact (bX.alloc _).alloc _
  have bV0 : Boxed W0 (w.heap.size + 1) 5 (.int .u8 0) := by rw [← hW0]; exact bV.alloc _
  refine wpIn_rangeFunc_ownG rfl (by omega) (gf := 41) (lb := #[.pointer (some ⟨w.heap.size + 2, 0, none⟩)]) rfl trivial (enters_of Tryd.func41 (by kernel_rfl) rfl)
    (back_stops Fence.wide (6 - 1) trivial rfl (by omega) (w.heap.size + 2) w.heap.size cap a e xs hx W0 (by omega) bS.cell (hr.below hB0) (fun y hy hne => by
      rcases hr with h | ⟨b, o, cur, fr, h, hc, _⟩
      · exact absurd (by simpa using h) hne
      · rw [hy] at h; cases h; exact lt_of_heap hc)) KeepB.trans (keepB_b (by omega) (by omega)) (Below.refl _ _) (fun _ => rfl)
    (fun pre W => (W.cell? ⟨w.heap.size, 0, none⟩ = some (.int .u8 x.toNat) ∧ W.cell? ⟨w.heap.size + 1, 0, none⟩ = some (.int .u8 (valP x pre).toNat) ∧ W.frozen? ⟨w.heap.size + 1, 0, none⟩ = false) ∧ Below w.heap.size w W)
    (fun _ _ _ => False)
    (OwnFrom.and (Own.from (fun s A B row hs hg hr => ⟨cell_kept hs.1 hg hr, cell_kept hs.2.1 hg hr, (frozen_kept hs.2.1 hg hr).trans hs.2.2⟩) _) (ownFrom_below (Nat.le_refl _) (by omega)))
    (fun _ _ _ _ _ hs _ _ => hs)
    ⟨⟨bX0.cell, bV0.cell, bV0.frozen⟩, hB0⟩
    (fun p => { tmps := #[.slice a xs.length cap, .int .u8 x.toNat, undef, .pointer (some ⟨w.heap.size, 0, none⟩), .int .u8 0, .pointer (some ⟨w.heap.size + 1, 0, none⟩), undef, .int .u8 p.2.toNat, .slice a xs.length cap, .func (.func 41) #[] #[.pointer (some ⟨w.heap.size + 2, 0, none⟩)], .int .i64 (p.1 : Int), .int .u8 p.2.toNat, undef, undef, undef, undef, undef, undef], defers := [] }) ?assign ?body ?done ?stop
  case assign =>
    intro l p W K hK
    gi_wp2
    exact hK
  case body =>
    rintro l pre p W ⟨⟨hcx, hcv, hfv⟩, hB⟩ _
    gi_wp2_with fail
    refine ⟨trivial, ?_⟩
    refine (CallsIn.inRound l (callsIn_wide.2 (Mul_calls _ _ _))).mono ?_
    rintro e w' ⟨rfl, rfl⟩
    gi_wp2_with fail
    refine ⟨trivial, ?_⟩
    refine (CallsIn.inRound l (callsIn_wide.2 (Add_calls _ _ _))).mono ?_
    rintro e w' ⟨rfl, rfl⟩
    gi_wp2
    exact ⟨(KeepsOthers.setCell _ _ _).from _, ⟨(Below.refl w.heap.size W).setCell (p := ⟨w.heap.size + 1, 0, none⟩) (by simp) _, Below.heap_setCell _ _ _ _ (by simp)⟩, ⟨(World.cell?_setCell_other _ _ _ _ (by simp)).trans hcx, by rw [valP_snoc]; exact World.cell?_setCell_same' _ _ _ (by rw [hcv]; rfl), by rw [World.frozen?_setCell]; exact hfv⟩, hB.setCell (p := ⟨w.heap.size + 1, 0, none⟩) (by simp) _⟩
  case done =>
    rintro D ys W hD rfl ⟨⟨_, hcv, _⟩, hB⟩ hK
    gi_wp2
    refine ⟨by simp, .inl ⟨_, _, rfl, run_takeDeferred hK, ?_⟩⟩
    refine ⟨_, results_tmp rfl _ _ _, ?_, hB.trans (belowK_b (w := w) (Nat.le_refl _) W D _ _ (by omega) hK rfl rfl)⟩
    rw [valP_bk x xs _ (Nat.le_refl _), Nat.sub_self]
    rfl
  case stop =>
    rintro D c pre W _ _ h _
    exact h.elim
end Go.Proofs.YtalbmcidlalicaaDoor
