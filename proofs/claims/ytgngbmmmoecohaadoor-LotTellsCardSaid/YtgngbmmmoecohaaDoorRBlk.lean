/- Walk: oathbookref1.block: a block taken into the state, as the document reckons it. -/
import Derived.Test.YtgngbmmmoecohaaDoorRTurn
import Derived.Test.YtgngbmmmoecohaaDoorRNum
import Derived.Test.YtgngbmmmoecohaaDoorWords
import Derived.Test.YtgngbmmmoecohaaDoorAppW
import Derived.Test.YtgngbmmmoecohaaDoorRBlkLaw
import Derived.Deep.Onto
import Derived.StillTailTactics
import Derived.Laws.MakeOwn
namespace Go.Proofs.YtgngbmmmoecohaaDoor
open Go.RowKit
set_option linter.unusedVariables false
set_option linter.unusedSimpArgs false
/-- a word as an integer -/
def vN (a : UInt32) : Value := .int .i64 a.toNat
def nW (l : List UInt32) : Array Value := (l.map vN).toArray
theorem nW_get (l : List UInt32) (k : Nat) (h : k < l.length) : (nW l)[k]? = some (.int .i64 (g l k).toNat) := by
  unfold nW g
  simp [h, vN]
theorem cellN {w : World} {B : Nat} {l : List UInt32} {t : TypeId} {fr : Nat × Nat} (h : w.heap[B]? = some (.cells (nW l) t fr)) (k : Nat) (hk : k < l.length) : w.cell? ⟨B, k, none⟩ = some (.int .i64 (g l k).toNat) := by
  rw [cell_of_row w B k _ t fr h, nW_get l k hk]
theorem setN {w : World} {B : Nat} {l : List UInt32} {t : TypeId} {fr : Nat × Nat} (h : w.heap[B]? = some (.cells (nW l) t fr)) (k : Nat) (x : UInt32) : (w.setCell ⟨B, k, none⟩ (.int .i64 x.toNat)).heap[B]? = some (.cells (nW (l.set k x)) t fr) := by
  simp only [World.setCell, Array.getElem?_modify, if_pos, h]
  unfold nW
  simp only [Option.map_some, List.setIfInBounds_toArray, List.map_set]
  rfl

theorem run_cut4 (B o c k : Nat) (hk : 4 * k + 4 ≤ c) (w : World) : (Instr.slice 24 (.slice (some ⟨B, o, none⟩) 64 c) (some (.int .i64 (4 * (k : Int)))) (some (.int .i64 (4 * (k : Int) + 4))) none).run Tryd.prog w = .ok (.slice (some ⟨B, o + 4 * k, none⟩) 4 (c - 4 * k)) w := by
  have hs : (sizeOf 5).run Tryd.prog w = .ok 1 w := by kernel_rfl
  have h0 : (0 : Int) ≤ 4 * (k : Int) := by omega
  have h00 : (0 : Int) ≤ 4 * (k : Int) + 4 := by omega
  have h1 : (4 * (k : Int) + 4) ≤ (c : Int) := by omega
  have h2 : (4 * (k : Int)) ≤ (4 * (k : Int) + 4) := by omega
  have h3 : (4 * (k : Int)).toNat = 4 * k := by omega
  have h4 : (4 * (k : Int) + 4).toNat = 4 * k + 4 := by omega
  have h5 : ¬ c = 4 * k := by omega
  have h6 : 4 * k + 4 - 4 * k = 4 := by omega
  unfold Instr.slice
  simp only [Sem.run_bind, run_underlying Tryd.underlying24 w, Result.andThen_ok]
  simp [go_sem, hs, h0, h00, h1, h2, h3, h4, h5, h6, Instr.sliceBounds, Addr.add, Ne.symm h5]
theorem four (b : List UInt8) (k : Nat) (h : 4 * k + 4 ≤ b.length) : (b.drop (4 * k)).take 4 = [b[4 * k], b[4 * k + 1], b[4 * k + 2], b[4 * k + 3]] := by
  rw [List.drop_eq_getElem_cons (by omega), List.drop_eq_getElem_cons (by omega), List.drop_eq_getElem_cons (by omega), List.drop_eq_getElem_cons (by omega)]
  rfl
theorem in4 (a b c d : UInt32) : IntKind.i64.wrap ((a.toNat : Int) + (b.toNat : Int)) = (a.toNat : Int) + (b.toNat : Int) ∧ IntKind.i64.wrap ((a.toNat : Int) + (b.toNat : Int) + (c.toNat : Int)) = (a.toNat : Int) + (b.toNat : Int) + (c.toNat : Int) ∧ IntKind.i64.wrap ((a.toNat : Int) + (b.toNat : Int) + (c.toNat : Int) + (d.toNat : Int)) = (a.toNat : Int) + (b.toNat : Int) + (c.toNat : Int) + (d.toNat : Int) := by
  have := w_lt a; have := w_lt b; have := w_lt c; have := w_lt d
  exact ⟨IntWalk.i64_in _ (by omega), IntWalk.i64_in _ (by omega), IntWalk.i64_in _ (by omega)⟩
theorem info_int : (Tryd.prog.info? 3).map (fun i => (i.zero, i.size, i.bytes)) = some (some (.int .i64 0), 1, 8) := by kernel_rfl
theorem make64 (w : World) : (Instr.makeSlice 52 (.int .i64 64) (.int .i64 64)).run Tryd.prog w = .ok (.slice (some ⟨w.heap.size, 0, none⟩) 64 64) (w.alloc (.cells (nW (List.replicate 64 0)) 3)) := by
  obtain ⟨i, hi, hz, hsz, hb⟩ := info_parts info_int
  have h := run_makeSlice (P := Tryd.prog) w 52 3 i (.int .i64 0) Tryd.underlying52 hi hz .i64 .i64 64 64 (by omega) (by omega) (by rw [hsz]; decide) (by rw [hb]; decide) (by omega)
  have e : madeCells (Value.int .i64 0).cells ((64 : Int).toNat * 1) = nW (List.replicate 64 0) := by kernel_rfl
  rw [h, hsz, e]
  rfl
theorem one_words (l : List UInt32) : ∀ u ∈ l.map vN, u.oneCell' = true := by
  intro u hu
  obtain ⟨b, _, rfl⟩ := List.mem_map.1 hu
  rfl
theorem own_some {w : World} {base : Nat} {e : TypeId} {size : Nat} {a : Option Addr} {n cap : Nat} {xs : List Value} (h : w.ownsRow base e size (.slice a n cap) n xs) (hn : 0 < n) : ∃ g, a = some ⟨g, 0, none⟩ ∧ base ≤ g := by
  rcases h.2 with ⟨h1, h2⟩ | ⟨g, cap', cur, hv, hb, _⟩
  · simp only [Value.slice.injEq] at h1; omega
  · simp only [Value.slice.injEq] at hv; exact ⟨g, hv.1, hb⟩
theorem mapN_get (l : List UInt32) (k : Nat) (h : k < l.length) : (l.map vN)[k]'(by simpa using h) = .int .i64 (g l k).toNat := by
  unfold g
  simp [h, vN]
theorem ownN {w : World} {base : Nat} {e : TypeId} {V n cap : Nat} {l : List UInt32} (h : w.ownsRow base e 1 (.slice (some ⟨V, 0, none⟩) n cap) n (l.map vN)) {k : Nat} (hk : k < l.length) : w.cell? ⟨V, k, none⟩ = some (.int .i64 (g l k).toNat) ∧ w.frozen? ⟨V, k, none⟩ = false := by
  have := own_cell h (k := k) (by simpa using hk)
  rw [mapN_get l k hk] at this
  exact this
theorem ownN_set {w : World} {base : Nat} {e : TypeId} {V n cap : Nat} {l : List UInt32} (h : w.ownsRow base e 1 (.slice (some ⟨V, 0, none⟩) n cap) n (l.map vN)) (k : Nat) (x : UInt32) : (w.setCell ⟨V, k, none⟩ (.int .i64 x.toNat)).ownsRow base e 1 (.slice (some ⟨V, 0, none⟩) n cap) n ((l.set k x).map vN) := by
  have := own_set h k (.int .i64 x.toNat)
  rw [List.map_set]; exact this
theorem Rd.words {w : World} {a : Option Addr} {e : TypeId} {xs : List UInt32} (h : Rd w a e (xs.map vN)) {k : Nat} (hk : k < xs.length) :
    ∃ b o, a = some ⟨b, o, none⟩ ∧ b < w.heap.size ∧ ∀ i, (h : i < xs.length) → w.cell? ⟨b, o + i, none⟩ = some (.int .i64 (g xs i).toNat) := by
  obtain ⟨b, o, ha, hb, hc⟩ := h.cell (k := k) (by simpa using hk)
  exact ⟨b, o, ha, hb, fun i h => by have := hc i (by simpa using h); rw [mapN_get xs i h] at this; exact this⟩
set_option maxRecDepth 100000 in
set_option maxHeartbeats 8000000 in
theorem RBlock_calls (s : List UInt32) (hs : s.length = 8) (b : List UInt8) (hb : b.length = 64) (cm : Nat) (hcm : 64 ≤ cm) (ah ak am : Option Addr) (ch ck eh ek em : Nat) (w : World) (hrh : Rd w ah eh (s.map vN)) (hrk : Rd w ak ek (rk64.map vN)) (hrm : Rd w am em (b.map vB)) :
    Calls Tryd.prog 47 #[.slice ah 8 ch, .slice ak 64 ck, .slice am 64 cm] w fun e w' => ∃ av cv, e = .returned (.slice av 8 cv) ∧ w'.ownsRow w.heap.size 3 1 (.slice av 8 cv) 8 ((blk s b).map vN) ∧ Below w.heap.size w w' := by
  obtain ⟨W, hW⟩ : ∃ W, W = w.heap.size := ⟨_, rfl⟩
  have HW := Lib.hid hW
  have MS := make64 w
  obtain ⟨w1, hw1⟩ : ∃ w1, w1 = w.alloc (.cells (nW (List.replicate 64 0)) 3) := ⟨_, rfl⟩
  have g1 : w1.heap[W]? = some (.cells (nW (List.replicate 64 0)) 3 (0, 0)) := by rw [hw1, hW]; exact heap_alloc_new _ _
  have b1 : Below W w w1 := by rw [hw1, hW]; exact (Below.refl _ _).alloc (Nat.le_refl _) _
  rw [← hw1, ← hW] at MS
  have G1 := Lib.hid g1
  have B1 := Lib.hid b1
  have HB := Lib.hid hb
  have HS := Lib.hid hs
  have hW1 : W < w1.heap.size := lt_of_heap g1
  have RH := Lib.hid hrh
  have RK := Lib.hid hrk
  have RM := Lib.hid hrm
  clear hW hw1 g1 b1 hrh hrk hrm hb hs
  go_enter Tryd.func47, Tryd.ntmps47
  go_wp2_with fail
  go_loopw [8] (fun i wr => ∃ (k : Nat) (l : List UInt32), k ≤ 64 ∧ i = .int .i64 k ∧ l.length = 64 ∧ (∀ i, i < k → g l i = wOf b i) ∧ wr.heap[W]? = some (.cells (nW l) 3 (0, 0)) ∧ Below W w1 wr) (fun i _ => 64 - (intOf i).toNat)
  case atStart => exact ⟨0, List.replicate 64 0, Nat.zero_le _, rfl, by simp, fun i hi => by omega, G1.out, Below.refl _ _⟩
  case round =>
    obtain ⟨k, l, hk, rfl, hll, hlw, hhw, hbl⟩ := hrel
    by_cases hlt : k < 64
    · by_cases h16 : k < 16
      · have hrw := RM.out.below (by rw [← HW.out]; exact B1.out.trans hbl)
        obtain ⟨ba, oa, hBa, _, _⟩ := hrw.bytes (k := 4 * k) (by rw [HB.out]; omega)
        obtain rfl := hBa
        have hr4 := (hrw.drop (4 * k)).take 4
        rw [← List.map_drop, ← List.map_take, four b k (by rw [HB.out]; omega)] at hr4
        obtain ⟨y0, hy0⟩ : ∃ y, y = b[4 * k]'(by rw [HB.out]; omega) := ⟨_, rfl⟩
        obtain ⟨y1, hy1⟩ : ∃ y, y = b[4 * k + 1]'(by rw [HB.out]; omega) := ⟨_, rfl⟩
        obtain ⟨y2, hy2⟩ : ∃ y, y = b[4 * k + 2]'(by rw [HB.out]; omega) := ⟨_, rfl⟩
        obtain ⟨y3, hy3⟩ : ∃ y, y = b[4 * k + 3]'(by rw [HB.out]; omega) := ⟨_, rfl⟩
        rw [← hy0, ← hy1, ← hy2, ← hy3] at hr4
        have hword : numB [y0, y1, y2, y3] = (wOf b k).toNat := by
          have hbl := HB.out
          rw [← word_num, wOf_first b k h16, hy0, hy1, hy2, hy3]
          unfold word
          simp only [List.getD_eq_getElem?_getD, List.getElem?_eq_getElem (show 4 * k < b.length by omega), List.getElem?_eq_getElem (show 4 * k + 1 < b.length by omega), List.getElem?_eq_getElem (show 4 * k + 2 < b.length by omega), List.getElem?_eq_getElem (show 4 * k + 3 < b.length by omega), Option.getD_some]
        have CUT := run_cut4 ba oa cm k (by omega)
        have NUM := RNum_calls [y0, y1, y2, y3] (by simp) (by simp) (some ⟨ba, oa + 4 * k, none⟩) (cm - 4 * k) em wr hr4
        rw [hword] at NUM
        have NUM2 : Calls Tryd.prog 53 #[.slice (some ⟨ba, oa + 4 * k, none⟩) 4 (cm - 4 * k)] wr fun e w' => e = .returned (.tuple #[.int .i64 (wOf b k).toNat, .bool true]) ∧ wr = w' := NUM
        have cw := cellN hhw k (by omega)
        have cf := frozenW hhw k
        have m0 : IntKind.i64.wrap (4 * (k : Int)) = 4 * (k : Int) := IntWalk.i64_in _ (by omega)
        have m1 : IntKind.i64.wrap (4 * (k : Int) + 4) = 4 * (k : Int) + 4 := IntWalk.i64_in _ (by omega)
        have HN := Lib.hid NUM2
        have HLW := Lib.hid hlw
        have HLL := Lib.hid hll
        have HHW := Lib.hid hhw
        have HBL := Lib.hid hbl
        have k0 : (0 : Int) ≤ (k : Int) := by omega
        have k64i : (k : Int) < 64 := by omega
        have k16i : decide ((k : Int) < 16) = true := decide_eq_true (by omega)
        clear hlw hll hhw hbl hrw hr4 hy0 hy1 hy2 hy3 hword NUM NUM2
        go_wp2_with fail
        refine HN.out.mono ?_
        rintro e w2 ⟨rfl, rfl⟩
        go_wp2_with fail
        go_roundw
        case rel => exact ⟨k + 1, l.set k (wOf b k), by omega, by go_num, by rw [List.length_set]; exact HLL.out, fun i hi => by rw [g_set _ _ _ _ (by rw [HLL.out]; omega)]; split; (rename_i h; rw [h]); exact HLW.out i (by omega), setN HHW.out k _, HBL.out.setCell (Nat.le_refl _) _⟩
        case measure => simp [intOf] <;> omega
      · have hk16 : 16 ≤ k := by omega
        have hword := wOf_next b k hk16 hlt
        have d15 := cellN hhw (k - 15) (by omega)
        rw [hlw (k - 15) (by omega)] at d15
        obtain ⟨X15, hX15⟩ : ∃ x, x = wOf b (k - 15) := ⟨_, rfl⟩
        rw [← hX15] at d15 hword
        have m15 : IntKind.i64.wrap ((k : Int) - 15) = (k : Int) - 15 := IntWalk.i64_in _ (by omega)
        have p15 : (0 : Int) ≤ (k : Int) - 15 := by omega
        have p_15 : (15 : Int) ≤ (k : Int) := by omega
        have q15 : (k : Int) - 15 < 64 := by omega
        have t15 : ((k : Int) - 15).toNat = k - 15 := by omega
        have d2 := cellN hhw (k - 2) (by omega)
        rw [hlw (k - 2) (by omega)] at d2
        obtain ⟨X2, hX2⟩ : ∃ x, x = wOf b (k - 2) := ⟨_, rfl⟩
        rw [← hX2] at d2 hword
        have m2 : IntKind.i64.wrap ((k : Int) - 2) = (k : Int) - 2 := IntWalk.i64_in _ (by omega)
        have p2 : (0 : Int) ≤ (k : Int) - 2 := by omega
        have p_2 : (2 : Int) ≤ (k : Int) := by omega
        have q2 : (k : Int) - 2 < 64 := by omega
        have t2 : ((k : Int) - 2).toNat = k - 2 := by omega
        have d7 := cellN hhw (k - 7) (by omega)
        rw [hlw (k - 7) (by omega)] at d7
        obtain ⟨X7, hX7⟩ : ∃ x, x = wOf b (k - 7) := ⟨_, rfl⟩
        rw [← hX7] at d7 hword
        have m7 : IntKind.i64.wrap ((k : Int) - 7) = (k : Int) - 7 := IntWalk.i64_in _ (by omega)
        have p7 : (0 : Int) ≤ (k : Int) - 7 := by omega
        have p_7 : (7 : Int) ≤ (k : Int) := by omega
        have q7 : (k : Int) - 7 < 64 := by omega
        have t7 : ((k : Int) - 7).toNat = k - 7 := by omega
        have d16 := cellN hhw (k - 16) (by omega)
        rw [hlw (k - 16) (by omega)] at d16
        obtain ⟨X16, hX16⟩ : ∃ x, x = wOf b (k - 16) := ⟨_, rfl⟩
        rw [← hX16] at d16 hword
        have m16 : IntKind.i64.wrap ((k : Int) - 16) = (k : Int) - 16 := IntWalk.i64_in _ (by omega)
        have p16 : (0 : Int) ≤ (k : Int) - 16 := by omega
        have p_16 : (16 : Int) ≤ (k : Int) := by omega
        have q16 : (k : Int) - 16 < 64 := by omega
        have t16 : ((k : Int) - 16).toNat = k - 16 := by omega
        have cw := cellN hhw k (by omega)
        have cf := frozenW hhw k
        have o1 := ri_xor (rot X15 7) (rot X15 18)
        have o2 : (X15.toNat : Int) / 8 = ((shr X15 3).toNat : Int) := r_shr X15 3
        have o3 : bits .xor .i64 ((xr (rot X15 7) (rot X15 18)).toNat : Int) ((shr X15 3).toNat : Int) = ((s0 X15).toNat : Int) := ri_xor _ _
        have o4 := ri_xor (rot X2 17) (rot X2 19)
        have o5 : (X2.toNat : Int) / 1024 = ((shr X2 10).toNat : Int) := r_shr X2 10
        have o6 : bits .xor .i64 ((xr (rot X2 17) (rot X2 19)).toNat : Int) ((shr X2 10).toNat : Int) = ((s1 X2).toNat : Int) := ri_xor _ _
        have HW2 := Lib.hid hword
        have HX7 := Lib.hid hX7
        have HX16 := Lib.hid hX16
        have HLW := Lib.hid hlw
        have HLL := Lib.hid hll
        have HHW := Lib.hid hhw
        have HBL := Lib.hid hbl
        have k0 : (0 : Int) ≤ (k : Int) := by omega
        have k64i : (k : Int) < 64 := by omega
        have k16i : decide ((k : Int) < 16) = false := decide_eq_false (by omega)
        clear hword hlw hll hhw hbl hX15 hX2 hX7 hX16
        go_wp2_with fail
        refine (RTurn_calls X15 7 (by omega) (by omega) _).mono ?_
        rintro e w2 ⟨rfl, n2, hw2⟩
        have Q2 := Lib.hid hw2
        clear hw2
        go_wp2_with fail
        refine (RTurn_calls X15 18 (by omega) (by omega) _).mono ?_
        rintro e w3 ⟨rfl, n3, hw3⟩
        have Q3 := Lib.hid hw3
        clear hw3
        go_wp2_with fail
        refine (RTurn_calls X2 17 (by omega) (by omega) _).mono ?_
        rintro e w4 ⟨rfl, n4, hw4⟩
        have Q4 := Lib.hid hw4
        clear hw4
        go_wp2_with fail
        refine (RTurn_calls X2 19 (by omega) (by omega) _).mono ?_
        rintro e w5 ⟨rfl, n5, hw5⟩
        have g5 : w5.heap[W]? = some (.cells (nW l) 3 (0, 0)) := by rw [hw5, Q4.out, Q3.out, Q2.out]; exact HHW.out
        have b5 : Below W w1 w5 := by rw [hw5, Q4.out, Q3.out, Q2.out]; exact below_drewN (below_drewN (below_drewN (below_drewN HBL.out _) _) _) _
        have e7 := cellN g5 (k - 7) (by have := HLL.out; omega)
        have e16 := cellN g5 (k - 16) (by have := HLL.out; omega)
        have ew := cellN g5 k (by have := HLL.out; omega)
        have ef := frozenW g5 k
        rw [HLW.out (k - 7) (by omega), ← HX7.out] at e7
        rw [HLW.out (k - 16) (by omega), ← HX16.out] at e16
        obtain ⟨l1, l2, l3⟩ := sums4 (s1 X2) X7 (s0 X15) X16
        obtain ⟨a1, a2, a3⟩ := in4 (s1 X2) X7 (s0 X15) X16
        have a4 := ri_low _ l3
        rw [of_add, of_add, of_add, of_toNat, of_toNat, of_toNat, of_toNat, ← HW2.out, Int.natCast_add, Int.natCast_add, Int.natCast_add] at a4
        have G5 := Lib.hid g5
        have B5 := Lib.hid b5
        clear hw5 g5 b5 d15 d2 d7 d16 cw cf l1 l2 l3
        go_wp2_with fail
        refine wp_region_still_tail 19 (by kernel_rfl) (by kernel_rfl) ?_
        simp only [List.take_succ_cons, List.take_zero, List.drop_succ_cons, List.drop_zero]
        repeat still_step
        refine wpStill_nil ?_
        change wpList _ _ _ _ _ w5.drew
        clear o1 o2 o3 o4 o5 o6 a1 a2 a3 a4 m15 m2 m7 m16 p15 p2 p7 p16 p_15 p_2 p_7 p_16 q15 q2 q7 q16 t15 t2 t7 t16 e7 e16
        go_wp2_with fail
        go_roundw
        case rel => exact ⟨k + 1, l.set k (wOf b k), by omega, by go_num, by rw [List.length_set]; exact HLL.out, fun i hi => by rw [g_set _ _ _ _ (by rw [HLL.out]; omega)]; split; (rename_i h; rw [h]); exact HLW.out i (by omega), setN (w := w5.drew) G5.out k _, B5.out.drew.setCell (Nat.le_refl _) _⟩
        case measure => simp [intOf] <;> omega
    · obtain rfl : k = 64 := by omega
      rw [show (((64 : Nat) : Int)) = (64 : Int) from rfl]
      clear hlt hk
      obtain ⟨wA, rfl⟩ : ∃ x, x = wr := ⟨_, rfl⟩
      have HHW := Lib.hid hhw
      have HLW := Lib.hid hlw
      have HLL := Lib.hid hll
      have HBL := Lib.hid hbl
      have hWr : W < wA.heap.size := lt_of_heap hhw
      obtain ⟨D, hD⟩ : ∃ D, D = wA.heap.size := ⟨_, rfl⟩
      rw [← hD] at hWr
      have b1r : Below W w wA := B1.out.trans hbl
      have rh1 : Rd wA ah eh (s.map vN) := RH.out.below (by rw [← HW.out]; exact b1r)
      have rk1 : Rd wA ak ek (rk64.map vN) := RK.out.below (by rw [← HW.out]; exact b1r)
      have bD : Below D wA (wA.alloc (.cells #[] 3)) := by rw [hD]; exact (Below.refl _ _).alloc (Nat.le_refl _) _
      have sD : D ≤ (wA.alloc (.cells #[] 3)).heap.size := by rw [hD, World.size_alloc]; omega
      have oD : (wA.alloc (.cells #[] 3)).ownsRow D 3 1 (.slice (some ⟨wA.heap.size, 0, none⟩) 0 0) 0 [] := World.ownsRow_made wA #[] 0 (by omega) (Nat.zero_le _) rfl
      have HRH := Lib.hid (rh1.alloc (.cells #[] 3))
      have HR1 := Lib.hid rh1
      have HRK := Lib.hid rk1
      have HB1R := Lib.hid b1r
      have HBD := Lib.hid bD
      have HSD := Lib.hid sD
      have HOD := Lib.hid oD
      have HD := Lib.hid hD
      clear hhw hlw hll hbl hD rh1 rk1 b1r bD sD oD
      go_wp2_with (at_builtin; refine appAllw 52 3 (.int .i64 0) 1 8 Tryd.underlying52 info_int rfl (by omega) rfl (.tmp 87) (.tmp 88) (by rfl) D _ 0 [] (by rfl) HOD.out ah 8 ch (s.map vN) (by rfl) eh HRH.out (by rw [List.length_map]; exact HS.out) (one_words s) (by omega) (by omega) HSD.out ?_; intro av3 cp3 w3 hown3 hb3; rw [Nat.zero_add, List.nil_append] at hown3; rw [Nat.zero_add]; have OWN3 := Lib.hid hown3; have B3 := Lib.hid hb3; clear hown3 hb3)
      obtain ⟨V, hav, hDV⟩ := own_some OWN3.out (by omega)
      have B3D := Lib.hid (HBD.out.trans B3.out)
      have OWNV : w3.ownsRow D 3 1 (.slice (some ⟨V, 0, none⟩) 8 cp3) 8 (s.map vN) := by rw [← hav]; exact OWN3.out
      have OV := Lib.hid OWNV
      subst hav
      clear OWN3 B3 HRH HBD HSD HOD OWNV
      go_loopw [14] (fun i wr => ∃ k : Nat, k ≤ 64 ∧ i = .int .i64 k ∧ wr.ownsRow D 3 1 (.slice (some ⟨V, 0, none⟩) 8 cp3) 8 ((rnds s l k).map vN) ∧ Below D wA wr) (fun i _ => 64 - (intOf i).toNat)
      case atStart => exact ⟨0, by omega, rfl, OV.out, B3D.out⟩
      case round =>
        clear OV B3D
        obtain ⟨k, hk, rfl, hov, hbl⟩ := hrel
        by_cases hlt : k < 64
        · obtain ⟨v, hv⟩ : ∃ v, v = rnds s l k := ⟨_, rfl⟩
          have hv8 : v.length = 8 := by rw [hv]; exact rnds_length s l HS.out k
          have hnext : rnds s l (k + 1) = rnd v (g rk64 k) (g l k) := by rw [hv]; rfl
          rw [← hv] at hov
          obtain ⟨y0, y0l⟩ := ownN hov (k := 0) (by omega)
          obtain ⟨y4, y4l⟩ := ownN hov (k := 4) (by omega)
          obtain ⟨c1, _⟩ := ownN hov (k := 1) (by omega)
          obtain ⟨c2, _⟩ := ownN hov (k := 2) (by omega)
          obtain ⟨c5, _⟩ := ownN hov (k := 5) (by omega)
          obtain ⟨c6, _⟩ := ownN hov (k := 6) (by omega)
          obtain ⟨c7, _⟩ := ownN hov (k := 7) (by omega)
          obtain ⟨bk, ok, hak, _, hck⟩ := Rd.words (HRK.out.below (show Below wA.heap.size wA wr by rw [← HD.out]; exact hbl)) (k := k) (by exact hlt)
          subst hak
          have ck := hck k (by exact hlt)
          have T6 : ∀ w, Calls Tryd.prog 63 #[.int .i64 (g v 4).toNat, .int .i64 6] w fun e w' => e = .returned (.int .i64 (rot (g v 4) 6).toNat) ∧ ∃ m, w' = w.drewN m := fun w => RTurn_calls (g v 4) 6 (by omega) (by omega) w
          have T11 : ∀ w, Calls Tryd.prog 63 #[.int .i64 (g v 4).toNat, .int .i64 11] w fun e w' => e = .returned (.int .i64 (rot (g v 4) 11).toNat) ∧ ∃ m, w' = w.drewN m := fun w => RTurn_calls (g v 4) 11 (by omega) (by omega) w
          have T25 : ∀ w, Calls Tryd.prog 63 #[.int .i64 (g v 4).toNat, .int .i64 25] w fun e w' => e = .returned (.int .i64 (rot (g v 4) 25).toNat) ∧ ∃ m, w' = w.drewN m := fun w => RTurn_calls (g v 4) 25 (by omega) (by omega) w
          have T2 : ∀ w, Calls Tryd.prog 63 #[.int .i64 (g v 0).toNat, .int .i64 2] w fun e w' => e = .returned (.int .i64 (rot (g v 0) 2).toNat) ∧ ∃ m, w' = w.drewN m := fun w => RTurn_calls (g v 0) 2 (by omega) (by omega) w
          have T13 : ∀ w, Calls Tryd.prog 63 #[.int .i64 (g v 0).toNat, .int .i64 13] w fun e w' => e = .returned (.int .i64 (rot (g v 0) 13).toNat) ∧ ∃ m, w' = w.drewN m := fun w => RTurn_calls (g v 0) 13 (by omega) (by omega) w
          have T22 : ∀ w, Calls Tryd.prog 63 #[.int .i64 (g v 0).toNat, .int .i64 22] w fun e w' => e = .returned (.int .i64 (rot (g v 0) 22).toNat) ∧ ∃ m, w' = w.drewN m := fun w => RTurn_calls (g v 0) 22 (by omega) (by omega) w
          have cl := cellN ((hbl.block W hWr).trans HHW.out) k (by rw [HLL.out]; exact hlt)
          have x1 := ri_xor (rot (g v 4) 6) (rot (g v 4) 11)
          have x2 : bits .xor .i64 ((xr (rot (g v 4) 6) (rot (g v 4) 11)).toNat : Int) ((rot (g v 4) 25).toNat : Int) = ((turn3 (g v 4) 6 11 25).toNat : Int) := ri_xor _ _
          have x3 := ri_and (g v 4) (g v 5)
          obtain ⟨x4, x4'⟩ := ri_not (g v 4)
          have x5 := ri_and (nt (g v 4)) (g v 6)
          have x6 := ri_xor (an (g v 4) (g v 5)) (an (nt (g v 4)) (g v 6))
          obtain ⟨P, hP, hPw, p1, p2, p3, p4, p5⟩ := p_walk (g v 7) (turn3 (g v 4) 6 11 25) (xr (an (g v 4) (g v 5)) (an (nt (g v 4)) (g v 6))) (g rk64 k) (g l k)
          have z1 := ri_xor (rot (g v 0) 2) (rot (g v 0) 13)
          have z2 : bits .xor .i64 ((xr (rot (g v 0) 2) (rot (g v 0) 13)).toNat : Int) ((rot (g v 0) 22).toNat : Int) = ((turn3 (g v 0) 2 13 22).toNat : Int) := ri_xor _ _
          have z3 := ri_and (g v 0) (g v 1)
          have z4 := ri_and (g v 0) (g v 2)
          have z5 := ri_and (g v 1) (g v 2)
          have z6 := ri_xor (an (g v 0) (g v 1)) (an (g v 0) (g v 2))
          have z7 := ri_xor (xr (an (g v 0) (g v 1)) (an (g v 0) (g v 2))) (an (g v 1) (g v 2))
          obtain ⟨Q, hQ, hQw, q1, q2⟩ := q_walk (turn3 (g v 0) 2 13 22) (xr (xr (an (g v 0) (g v 1)) (an (g v 0) (g v 2))) (an (g v 1) (g v 2)))
          have pw := in_n P (Nat.lt_trans hP (by decide))
          have qw := in_n Q (Nat.lt_trans hQ (by decide))
          have hPw2 : UInt32.ofNat P = pOf v (g rk64 k) (g l k) := hPw
          have hQw2 : UInt32.ofNat Q = qOf v := hQw
          have k0 : (0 : Int) ≤ (k : Int) := by omega
          have k64i : (k : Int) < 64 := by omega
          have HP := Lib.hid hPw2
          have HQ := Lib.hid hQw2
          have HV := Lib.hid hv
          have HV8 := Lib.hid hv8
          have HNX := Lib.hid hnext
          have HOV := Lib.hid hov
          have HBL := Lib.hid hbl
          clear hPw hQw hPw2 hQw2 hnext hv hv8 hov hbl hck
          go_wp2_with fail
          go_quiet ((go_at_call 63; first | (with_reducible exact Calls.quiet_of (T6 _)) | (with_reducible exact Calls.quiet_of (T11 _)) | (with_reducible exact Calls.quiet_of (T25 _))))
          obtain ⟨wq, hwq⟩ : ∃ wq, wq = wr.drewN nq := ⟨_, rfl⟩
          rw [← hwq]
          have OQ := Lib.hid (show wq.ownsRow D 3 1 (.slice (some ⟨V, 0, none⟩) 8 cp3) 8 (v.map vN) by rw [hwq]; exact HOV.out)
          have BQ := Lib.hid (show Below D wA wq by rw [hwq]; exact below_drewN HBL.out nq)
          clear hwq HOV HBL y0 y0l y4 y4l c1 c2 c5 c6 c7 ck cl T6 T11 T25 x1 x2 x3 x4 x4' x5 x6 p1 p2 p3 p4 p5
          have c1 := (ownN OQ.out (k := 1) (by rw [HV8.out]; omega)).1
          have c2 := (ownN OQ.out (k := 2) (by rw [HV8.out]; omega)).1
          go_wp2_with fail
          go_quiet ((go_at_call 63; first | (with_reducible exact Calls.quiet_of (T2 _)) | (with_reducible exact Calls.quiet_of (T13 _)) | (with_reducible exact Calls.quiet_of (T22 _))))
          obtain ⟨wp, hwp⟩ : ∃ wp, wp = wq.drewN nq := ⟨_, rfl⟩
          rw [← hwp]
          have OP := Lib.hid (show wp.ownsRow D 3 1 (.slice (some ⟨V, 0, none⟩) 8 cp3) 8 ((shf v 7).map vN) by rw [hwp, shf_7 v HV8.out]; exact OQ.out)
          have BP := Lib.hid (show Below D wA wp by rw [hwp]; exact below_drewN BQ.out _)
          clear hwp OQ BQ c1 c2 T2 T13 T22 z1 z2 z3 z4 z5 z6 z7 q1 q2
          go_wp2_with fail
          go_loopw [19] (fun i wr => ∃ j : Nat, j ≤ 7 ∧ i = .int .i64 j ∧ wr.ownsRow D 3 1 (.slice (some ⟨V, 0, none⟩) 8 cp3) 8 ((shf v j).map vN) ∧ Below D wA wr) (fun i _ => (intOf i).toNat)
          case atStart => exact ⟨7, by omega, rfl, OP.out, BP.out⟩
          case round =>
            clear OP BP
            obtain ⟨j, hj, rfl, hoj, hbj⟩ := hrel
            by_cases hj0 : 0 < j
            · have cj := (ownN hoj (k := j - 1) (by rw [shf_length]; omega)).1
              rw [g_shf _ _ _ (by omega), if_pos (by omega)] at cj
              obtain ⟨cjj, cjf⟩ := ownN hoj (k := j) (by rw [shf_length]; omega)
              have m1 : IntKind.i64.wrap ((j : Int) - 1) = (j : Int) - 1 := IntWalk.i64_in _ (by omega)
              have m2 : (0 : Int) ≤ (j : Int) - 1 := by omega
              have m3 : (1 : Int) ≤ (j : Int) := by omega
              have m4 : ((j : Int) - 1).toNat = j - 1 := by omega
              have m5 : (j : Int) - 1 < 8 := by omega
              have m6 : (j : Int) < 8 := by omega
              have m7 : (0 : Int) < (j : Int) := by omega
              have hs := ownN_set hoj j (g v (j - 1))
              rw [shf_set v j hj0 (by omega)] at hs
              have hjj : (j : Int) - 1 = ((j - 1 : Nat) : Int) := by omega
              have HS5 := Lib.hid hs
              have HJJ := Lib.hid hjj
              have HBJ := Lib.hid (hbj.setCell (p := ⟨V, j, none⟩) hDV (.int .i64 (g v (j - 1)).toNat))
              have hj1 : j - 1 ≤ 7 := by omega
              clear hs hjj hoj hbj
              go_wp2_with fail
              go_roundw
              case rel => exact ⟨j - 1, hj1, by rw [← HJJ.out], HS5.out, HBJ.out⟩
              case measure => simp only [intOf]; omega
            · obtain rfl : j = 0 := by omega
              have o4 := ownN hoj (k := 4) (by rw [shf_length]; omega)
              have o0 := ownN hoj (k := 0) (by rw [shf_length]; omega)
              obtain ⟨o4, o4f⟩ := o4
              obtain ⟨o0, o0f⟩ := o0
              rw [show g (shf v 0) 4 = g v 3 from g_shf v 0 4 (by omega)] at o4
              have hv3 := w_lt (g v 3)
              obtain ⟨a1, a2⟩ := low_sum (g v 3).toNat P (by omega) (by omega)
              rw [of_toNat, HP.out] at a2
              obtain ⟨a3, a4⟩ := low_sum P Q (by omega) (by omega)
              rw [HP.out, HQ.out] at a4
              have hs := ownN_set (ownN_set hoj 4 (ad (g v 3) (pOf v (g rk64 k) (g l k)))) 0 (ad (pOf v (g rk64 k) (g l k)) (qOf v))
              rw [shf_end, ← HNX.out] at hs
              have HS5 := Lib.hid hs
              have HBJ := Lib.hid ((hbj.setCell (p := ⟨V, 4, none⟩) hDV (.int .i64 (ad (g v 3) (pOf v (g rk64 k) (g l k))).toNat)).setCell (p := ⟨V, 0, none⟩) hDV (.int .i64 (ad (pOf v (g rk64 k) (g l k)) (qOf v)).toNat))
              have hk1 : k + 1 ≤ 64 := hlt
              clear hs hoj hbj
              rw [show (((0 : Nat) : Int)) = (0 : Int) from rfl]
              go_wp2_with fail
              go_roundw
              case rel => exact ⟨k + 1, hk1, by go_num, HS5.out, HBJ.out⟩
              case measure => simp [intOf] <;> omega
        · obtain rfl : k = 64 := by omega
          rw [show (((64 : Nat) : Int)) = (64 : Int) from rfl]
          obtain ⟨v, hv⟩ : ∃ v, v = rnds s l 64 := ⟨_, rfl⟩
          have hv8 : v.length = 8 := by rw [hv]; exact rnds_length s l HS.out 64
          have hblk : blk s b = sumW v s := by
            unfold blk
            rw [rnds_congr s (sched (words b) 48) l 64 (fun i hi => (HLW.out i hi).symm), hv]
          rw [← hv] at hov
          have HV8 := Lib.hid hv8
          have HBK := Lib.hid hblk
          have HOV := Lib.hid hov
          have HBL := Lib.hid hbl
          clear hv hv8 hblk hov hbl hlt hk
          go_wp2_with fail
          go_loopw [20] (fun i wr => ∃ (k : Nat) (l4 : List UInt32), k ≤ 8 ∧ i = .int .i64 k ∧ l4.length = 8 ∧ (∀ i, i < k → g l4 i = ad (g v i) (g s i)) ∧ (∀ i, k ≤ i → g l4 i = g v i) ∧ wr.ownsRow D 3 1 (.slice (some ⟨V, 0, none⟩) 8 cp3) 8 (l4.map vN) ∧ Below D wA wr) (fun i _ => 8 - (intOf i).toNat)
          case atStart => exact ⟨0, v, by omega, rfl, HV8.out, fun i hi => by omega, fun i hi => rfl, HOV.out, HBL.out⟩
          case round =>
            clear HOV HBL
            obtain ⟨k, l4, hk, rfl, h48, hlo, hhi, hov, hbl⟩ := hrel
            by_cases hlt : k < 8
            · obtain ⟨c0, cf⟩ := ownN hov (k := k) (by omega)
              rw [hhi k (Nat.le_refl _)] at c0
              obtain ⟨bh, oh, hah, _, hch⟩ := Rd.words (HR1.out.below (show Below wA.heap.size wA wr by rw [← HD.out]; exact hbl)) (k := k) (by rw [HS.out]; exact hlt)
              subst hah
              have cs := hch k (by rw [HS.out]; exact hlt)
              have ha := w_lt (g v k)
              have hb := w_lt (g s k)
              obtain ⟨a1, a2⟩ := low_sum (g v k).toNat (g s k).toNat (by omega) (by omega)
              rw [of_toNat, of_toNat] at a2
              have k0 : (0 : Int) ≤ (k : Int) := by omega
              have k8 : (k : Int) < 8 := by omega
              have hs := ownN_set hov k (ad (g v k) (g s k))
              have HS5 := Lib.hid hs
              have HBJ := Lib.hid (hbl.setCell (p := ⟨V, k, none⟩) hDV (.int .i64 (ad (g v k) (g s k)).toNat))
              have HLO := Lib.hid hlo
              have HHI := Lib.hid hhi
              have H48 := Lib.hid h48
              clear hs hov hbl hlo hhi h48 hch
              go_wp2_with fail
              refine wp_region_still_tail 13 (by kernel_rfl) (by kernel_rfl) ?_
              simp only [List.take_succ_cons, List.take_zero, List.drop_succ_cons, List.drop_zero]
              repeat still_step
              refine wpStill_nil ?_
              change wpList _ _ _ _ _ wr.drew
              clear a1 a2 cs
              go_wp2_with fail
              go_roundw
              case rel => exact ⟨k + 1, l4.set k (ad (g v k) (g s k)), by omega, by go_num, by rw [List.length_set]; exact H48.out, fun i hi => by rw [g_set _ _ _ _ (by rw [H48.out]; exact hlt)]; split; (rename_i h; rw [h]); exact HLO.out i (by omega), fun i hi => by rw [g_set _ _ _ _ (by rw [H48.out]; exact hlt), if_neg (by omega)]; exact HHI.out i (by omega), HS5.out.drew, HBJ.out.drew⟩
              case measure => simp [intOf] <;> omega
            · obtain rfl : k = 8 := by omega
              have hl4 : l4 = blk s b := by
                rw [HBK.out]
                apply list8 _ _ h48 (sumW_length _ _)
                intro i hi
                rw [hlo i hi]
                unfold sumW g
                rw [List.getD_eq_getElem?_getD (l := List.map _ _), List.getElem?_map, List.getElem?_range hi]
                rfl
              rw [hl4] at hov
              have HOV := Lib.hid hov
              have HBE := Lib.hid hbl
              clear hov hbl hl4 hlo hhi h48 hlt hk
              rw [show (((8 : Nat) : Int)) = (8 : Int) from rfl]
              go_wp2_with fail
              go_ret
              have hWD : w.heap.size ≤ D := by rw [← HW.out]; omega
              exact ⟨_, _, rfl, HOV.out.mono hWD, by rw [← HW.out]; exact HB1R.out.trans (HBE.out.mono (by omega))⟩
end Go.Proofs.YtgngbmmmoecohaaDoor
