/- Walks: the numbers that a digest is signed by: the program's and the document's. -/
import Derived.Test.YtkioddmhjbaleaaGreatDoorWalks
import Derived.Laws.Rows
namespace Go.Proofs.YtkioddmhjbaleaaGreatDoor
open Go.RowKit
set_option linter.unusedVariables false
set_option linter.unusedSimpArgs false

def vQ (n : Nat) : Value := .int .i64 n
def iV (l : List Nat) : Array Value := (l.map vQ).toArray
theorem iV_size (l : List Nat) : (iV l).size = l.length := by simp [iV]
theorem iV_one (l : List Nat) : (iV l).all (·.oneCell') = true := by
  unfold iV
  refine all_oneCell_toArray fun u hu => ?_
  obtain ⟨n, _, rfl⟩ := List.mem_map.1 hu
  rfl
theorem cellI {w : World} {B : Nat} {l : List Nat} {t : TypeId} {fr : Nat × Nat} (h : w.heap[B]? = some (.cells (iV l) t fr)) (k : Nat) (hk : k < l.length) : w.cell? ⟨B, k, none⟩ = some (.int .i64 (l[k] : Nat)) := by
  rw [cell_of_row w B k _ t fr h]
  unfold iV
  simp [hk, vQ]
theorem setI {w : World} {B : Nat} {l : List Nat} {t : TypeId} {fr : Nat × Nat} (h : w.heap[B]? = some (.cells (iV l) t fr)) (k : Nat) (x : Nat) : (w.setCell ⟨B, k, none⟩ (.int .i64 (x : Int))).heap[B]? = some (.cells (iV (l.set k x)) t fr) := by
  have e : (iV l).setIfInBounds k (.int .i64 (x : Int)) = iV (l.set k x) := by unfold iV; rw [List.map_set]; simp [vQ]
  rw [← e]
  simp [World.setCell, Array.getElem?_modify, h]
theorem z67_lit : Tryz.zeroCells113 = iV (List.replicate 67 0) := by kernel_rfl
theorem info_67 (l : List Nat) (h : l.length = 67) : (Tryz.prog.info? 113).map (·.size) = some (iV l).size := by rw [iV_size, h]; kernel_rfl
theorem rangeI {w : World} {B : Nat} {l : List Nat} {t : TypeId} {fr : Nat × Nat} (h : w.heap[B]? = some (.cells (iV l) t fr)) : w.rangeAt B 0 (l.map vQ) := by
  intro j v hj
  rw [Nat.zero_add, cell_of_row w B j _ t fr h]
  unfold iV
  simpa using hj
theorem load_67 {l : List Nat} (hl : l.length = 67) {w : World} {b : Nat} (hr : w.rangeAt b 0 (l.map vQ)) : (loadVar 113 ⟨b, 0, none⟩).run Tryz.prog w = .ok (.agg (iV l)) w :=
  run_loadVar_mid w b 0 _ (l.map vQ) _ hr Tryz.underlying113 rfl (by have := info_67 l hl; rw [iV_size] at this; rw [List.length_map]; exact this)
section
variable {ops : Array Oper} {rest : List Oper} {op : Oper} {a : Act} {w : World} {Q : Exit → Act → World → Prop}
theorem ld_67 (hgd : op.guard = none) (x : Operand) (ho : op.op = .load 113 x) (b : Nat) (hx : a.eval x = .pointer (some ⟨b, 0, none⟩)) (l : List Nat) (hl : l.length = 67) (hc : w.rangeAt b 0 (l.map vQ))
    (h : wpList Tryz.prog ops Q rest (a.put op.dst (.agg (iV l))) w) : wpList Tryz.prog ops Q (op :: rest) a w :=
  wpList_load_mid hgd _ x ho b 0 hx (l.map vQ) _ hc Tryz.underlying113 rfl (by have := info_67 l hl; rw [iV_size] at this; rw [List.length_map]; exact this) h
theorem st_67 (hgd : op.guard = none) (x y : Operand) (ho : op.op = .store 113 x y) (g : Nat) (l : List Nat) (hl : l.length = 67) (hx : a.eval x = .pointer (some ⟨g, 0, none⟩)) (hy : a.eval y = .agg (iV l)) (old : Array Value) (hold : old.size = 67) (t : TypeId) (hg : w.heap[g]? = some (.cells old t (0, 0)))
    (h : wpList Tryz.prog ops Q rest (a.put op.dst undef) (w.setRow g (iV l))) : wpList Tryz.prog ops Q (op :: rest) a w :=
  wpList_store_row hgd _ x y ho g (iV l) hx hy t old hg (info_67 l hl) (by rw [iV_size, hl, hold]) (iV_one l) h
theorem st_67new (hgd : op.guard = none) (x y : Operand) (ho : op.op = .store 113 x y) (l : List Nat) (hl : l.length = 67) (hy : a.eval y = .agg (iV l)) (Z : Array Value) (t : TypeId) (hZ : Z.size = 67) (hx : a.eval x = .pointer (some ⟨w.heap.size, 0, none⟩))
    (h : wpList Tryz.prog ops Q rest (a.put op.dst undef) (w.alloc (.cells (iV l) t))) : wpList Tryz.prog ops Q (op :: rest) a (w.alloc (.cells Z t)) :=
  st_67 hgd x y ho w.heap.size l hl hx hy Z hZ t (heap_alloc_new w _) (by rw [World.setRow_alloc_new]; exact h)
end
def nibF (m : List UInt8) : List Nat := (List.range 64).map (nibA m)
theorem nibF_length (m : List UInt8) : (nibF m).length = 64 := by simp [nibF]
def nibS (m : List UInt8) (k : Nat) : List Nat := (nibF m).take k ++ List.replicate (67 - k) 0
theorem nibS_length (m : List UInt8) {k : Nat} (h : k ≤ 64) : (nibS m k).length = 67 := by unfold nibS; rw [List.length_append, List.length_take, nibF_length, List.length_replicate]; omega
theorem nibS_zero (m : List UInt8) : nibS m 0 = List.replicate 67 0 := rfl
theorem nibS_set (m : List UInt8) (k : Nat) (h : k < 64) : (nibS m k).set k (nibA m k) = nibS m (k + 1) := by
  unfold nibS
  have hl : ((nibF m).take k).length = k := by rw [List.length_take, nibF_length]; omega
  rw [List.set_append_right _ _ (by omega), hl, Nat.sub_self, List.take_succ_eq_append_getElem (by rw [nibF_length]; exact h), List.append_assoc]
  congr 1
  rw [show 67 - k = (67 - (k + 1)) + 1 by omega, List.replicate_succ, List.set_cons_zero]
  simp [nibF]
theorem nibS_last (m : List UInt8) (x y z : Nat) (hx : x = lackK m 64 / 256) (hy : y = lackK m 64 / 16 % 16) (hz : z = lackK m 64 % 16) : (((nibS m 64).set 64 x).set 65 y).set 66 z = nibs m := by
  subst hx hy hz
  have hl : (nibF m).length = 64 := nibF_length m
  unfold nibS nibs
  rw [List.take_of_length_le (by omega), show 67 - 64 = 3 by rfl]
  show (((nibF m ++ [0, 0, 0]).set 64 _).set 65 _).set 66 _ = nibF m ++ _
  rw [List.set_append_right _ _ (by omega), List.set_append_right _ _ (by omega), List.set_append_right _ _ (by omega), hl]
  rfl
theorem and15_u8 (x : UInt8) : bits .and .u8 (x.toNat : Int) 15 = ((x.toNat % 16 : Nat) : Int) := by
  have h := Gf.all_of (fun x => decide (bits .and .u8 (x.toNat : Int) 15 = ((x.toNat % 16 : Nat) : Int))) (by decide +kernel) x
  simpa using h
theorem and15_i64 (n : Nat) (h : n < 9223372036854775808) : bits .and .i64 (n : Int) 15 = ((n % 16 : Nat) : Int) := by
  have := i64_and_nat n 15 h (by decide)
  rw [show ((15 : Nat) : Int) = 15 from rfl] at this
  rw [this]
  congr 1
  exact Nat.and_two_pow_sub_one_eq_mod n 4
structure DigI (w : World) (S O : Nat) (m : List UInt8) (k : Nat) (wr : World) : Prop where
  o : wr.heap[O]? = some (.cells (iV (nibS m k)) 113 (0, 0))
  bel : Below w.heap.size w wr
set_option maxRecDepth 20000 in
set_option maxHeartbeats 4000000 in
theorem Digits_calls (m : List UInt8) (hm : m.length = 32) (w : World) :
    Calls Tryz.prog 72 #[.agg (dV m)] w fun e w' => e = .returned (.agg (iV (nibs m))) ∧ Below w.heap.size w w' := by
  have ML := Lib.hid hm
  clear hm
  obtain ⟨S, hS⟩ : ∃ z, z = w.heap.size := ⟨_, rfl⟩
  obtain ⟨w1, hw1⟩ : ∃ z, z = w.alloc (.cells (dV m) 23) := ⟨_, rfl⟩
  have st1 : Below w.heap.size w w1 := by rw [hw1]; exact (Below.refl _ _).alloc (Nat.le_refl _) _
  have B1 := Lib.hid (show Below w.heap.size w w1 from Below.trans (Below.refl w.heap.size w) (Below.mono st1 (Below.size (Below.refl w.heap.size w))))
  have GS_1 := Lib.hid (show w1.heap[S]? = some (.cells (dV m) 23 (0, 0)) by rw [hw1, hS]; exact heap_alloc_new _ _)
  have LS_1 := Lib.hid (lt_of_heap GS_1.out)
  have HS := Lib.hid hS
  have Hw1 := Lib.hid hw1
  clear hS hw1 st1
  have SZS := Lib.hid (show S = w.heap.size from HS.out)
  obtain ⟨O, hO⟩ : ∃ z, z = w1.heap.size := ⟨_, rfl⟩
  obtain ⟨w2, hw2⟩ : ∃ z, z = w1.alloc (.cells (iV (List.replicate 67 0)) 113) := ⟨_, rfl⟩
  have st2 : Below w1.heap.size w1 w2 := by rw [hw2]; exact (Below.refl _ _).alloc (Nat.le_refl _) _
  have B2 := Lib.hid (show Below w.heap.size w w2 from Below.trans B1.out (Below.mono st2 (Below.size B1.out)))
  have GS_2 := Lib.hid ((Below.block st2 S LS_1.out).trans GS_1.out)
  have LS_2 := Lib.hid (Nat.lt_of_lt_of_le LS_1.out (Below.size st2))
  have GO_2 := Lib.hid (show w2.heap[O]? = some (.cells (iV (List.replicate 67 0)) 113 (0, 0)) by rw [hw2, hO]; exact heap_alloc_new _ _)
  have LO_2 := Lib.hid (lt_of_heap GO_2.out)
  have HO := Lib.hid hO
  have Hw2 := Lib.hid hw2
  clear hO hw2 st2
  have SZO := Lib.hid (show O = w.heap.size + 1 by rw [HO.out, Hw1.out, World.size_alloc, ← HS.out, SZS.out])
  have hOw : w.heap.size ≤ O := by rw [SZO.out]; omega
  have D0 := Lib.hid (show DigI w S O m (2 * 0) w2 from ⟨by rw [nibS_zero]; exact GO_2.out, B2.out⟩)
  go_enter Tryz.func72, Tryz.ntmps72
  go_upto_region 1 with fail
  rw [z67_lit]
  rw [← SZO.out, ← SZS.out, ← Hw1.out, ← Hw2.out]
  go_wp2_with (first
    | (refine at_ld 23 (.tmp 1) rfl ?_; (refine ld_digG rfl (.tmp 1) rfl (S) 0 (by rfl) m ML.out (range_of_row GS_2.out) ?_); simp only [Act.put, List.setIfInBounds_toArray, List.set_cons_zero, List.set_cons_succ]))
  go_loopw [3, 4, 5, 7] (fun l i b q wr => ∃ k : Nat, k ≤ 32 ∧ q = .int .i64 k ∧ l = .int .i64 ((lackK m (2 * k) : Nat) : Int) ∧ Hid (DigI w S O m (2 * k) wr)) (fun _ _ _ q _ => 32 - (intOf q).toNat)
  case atStart => exact ⟨0, Nat.zero_le _, rfl, rfl, D0⟩
  case round =>
    obtain ⟨k, hk, rfl, rfl, HI⟩ := hrel
    obtain ⟨L, hL⟩ : ∃ L, L = lackK m (2 * k) := ⟨_, rfl⟩
    have hLb : L ≤ 15 * (2 * k) := by rw [hL]; exact lackK_le _ _
    rw [← hL]
    have HL := Lib.hid hL
    clear hL
    by_cases hlt : k < 32
    · have hmk : k < m.length := by rw [ML.out]; exact hlt
      have IX := fun w => run_index_dig ML.out hlt w
      obtain ⟨X, hX⟩ : ∃ X, X = m[k] := ⟨_, rfl⟩
      rw [← hX] at IX
      obtain ⟨j, hj⟩ : ∃ j, j = 2 * k := ⟨_, rfl⟩
      rw [← hj] at HI
      have hgd : m.getD k 0 = X := by rw [List.getD_eq_getElem?_getD, List.getElem?_eq_getElem hmk, hX]; rfl
      have n1 : nibA m j = X.toNat / 16 := by unfold nibA; rw [if_neg (by omega), show j / 2 = k by omega, hgd]
      have n2 : nibA m (j + 1) = X.toNat % 16 := by unfold nibA; rw [if_pos (by omega), show (j + 1) / 2 = k by omega, hgd]
      obtain ⟨u, hu⟩ : ∃ u, u = X.toNat / 16 := ⟨_, rfl⟩
      obtain ⟨v, hv⟩ : ∃ v, v = X.toNat % 16 := ⟨_, rfl⟩
      have hXl := X.toNat_lt
      have hu15 : u ≤ 15 := by omega
      have hv15 : v ≤ 15 := by omega
      have a1 : bits .and .u8 (X.toNat : Int) 15 = (v : Int) := by rw [hv]; exact and15_u8 X
      have a2 : (X.toNat : Int) / 16 = (u : Int) := by omega
      have hl1 : lackK m (2 * (k + 1)) = L + (15 - u) + (15 - v) := by
        rw [show 2 * (k + 1) = j + 1 + 1 by omega, lackK, lackK, n2, n1, ← hu, ← hv, hj, ← HL.out]
      have e2 : (2 : Int) * (k : Int) = (j : Int) := by omega
      have hjl : j < 64 := by omega
      have g0 := HI.out.o
      obtain ⟨y1, c1⟩ : ∃ y : Nat, wr.cell? ⟨O, j, none⟩ = some (.int .i64 (y : Int)) := ⟨_, cellI g0 j (by rw [nibS_length m (by omega)]; omega)⟩
      have f1 := frozen_of_row wr O j _ _ g0
      have g1 := setI g0 j u
      rw [hu, ← n1, nibS_set m j (by omega)] at g1
      rw [n1, ← hu] at g1
      obtain ⟨y2, c2⟩ : ∃ y : Nat, (wr.setCell ⟨O, j, none⟩ (.int .i64 (u : Int))).cell? ⟨O, j + 1, none⟩ = some (.int .i64 (y : Int)) := ⟨_, cellI g1 (j + 1) (by rw [nibS_length m (by omega)]; omega)⟩
      have f2 := frozen_of_row _ O (j + 1) _ _ g1
      have g2 := setI g1 (j + 1) v
      rw [hv, ← n2, nibS_set m (j + 1) (by omega), n2, ← hv] at g2
      have b2 : Below w.heap.size w ((wr.setCell ⟨O, j, none⟩ (.int .i64 (u : Int))).setCell ⟨O, j + 1, none⟩ (.int .i64 (v : Int))) := (HI.out.bel.setCell (p := ⟨O, j, none⟩) hOw _).setCell (p := ⟨O, j + 1, none⟩) hOw _
      have D2 := Lib.hid (show DigI w S O m (j + 1 + 1) _ from ⟨g2, b2⟩)
      obtain ⟨L2, hL2⟩ : ∃ z, z = lackK m (2 * (k + 1)) := ⟨_, rfl⟩
      rw [← hL2] at hl1
      have HL2 := Lib.hid hL2
      obtain ⟨p, hp⟩ : ∃ p, p = 30 - u := ⟨_, rfl⟩
      obtain ⟨q', hq'⟩ : ∃ q', q' = p - v := ⟨_, rfl⟩
      have s1 : IntKind.i64.wrap (2 * (k : Int)) = (j : Int) := by rw [IntWalk.i64_in _ (by omega)]; omega
      have s2 : IntKind.i64.wrap ((j : Int) + 1) = (j : Int) + 1 := IntWalk.i64_in _ (by omega)
      have s2b : ((j : Int) + 1).toNat = j + 1 := by omega
      have s3 : IntKind.i64.wrap (30 - (u : Int)) = (p : Int) := by rw [IntWalk.i64_in _ (by omega)]; omega
      have s4 : IntKind.i64.wrap ((p : Int) - (v : Int)) = (q' : Int) := by rw [IntWalk.i64_in _ (by omega)]; omega
      have s5 : IntKind.i64.wrap ((L : Int) + (q' : Int)) = (L2 : Int) := by rw [IntWalk.i64_in _ (by omega)]; omega
      have j2 : (0 : Int) ≤ (j : Int) + 1 := by omega
      have j3 : (j : Int) < 67 := by omega
      obtain ⟨wB, hwB⟩ : ∃ z, z = (wr.setCell ⟨O, j, none⟩ (.int .i64 (u : Int))).setCell ⟨O, j + 1, none⟩ (.int .i64 (v : Int)) := ⟨_, rfl⟩
      have d2 : wB.cell? ⟨O, j + 1, none⟩ = some (.int .i64 (v : Int)) := by rw [hwB]; exact World.cell?_setCell_same _ _ _ c2
      have d1 : wB.cell? ⟨O, j, none⟩ = some (.int .i64 (u : Int)) := by rw [hwB, World.cell?_setCell_other _ _ _ _ (by simp)]; exact World.cell?_setCell_same _ _ _ c1
      have HWB := Lib.hid hwB
      have HSS := Lib.hid (And.intro s1 (And.intro s2 (And.intro s2b (And.intro s3 (And.intro s4 s5)))))
      have HD12 := Lib.hid (And.intro d1 d2)
      have jj := Lib.hid (show 2 * (k + 1) = j + 1 + 1 by omega)
      clear s1 s2 s2b s3 s4 s5 d1 d2 hL2 hl1 hwB hp hq'
      have HJ := Lib.hid hj
      have e4 : IntKind.i64.wrap ((k : Int) + 1) = (k : Int) + 1 := IntWalk.i64_in _ (by omega)
      have k0 : (0 : Int) ≤ (j : Int) := by omega
      have k1 : (j : Int) + 1 < 67 := by omega
      clear hX hj hgd n1 n2 hu hv g0 g1 g2 b2 hmk
      go_upto_region 6 with fail
      rw [← HWB.out]
      rw [← HWB.out] at D2
      clear c1 c2 f1 f2 a1 a2 e2
      obtain ⟨s1, s2, s2b, s3, s4, s5⟩ := HSS.out
      obtain ⟨d1, d2⟩ := HD12.out
      go_quiet (fail)
      clear s1 s2 s2b s3 s4 s5 d1 d2
      have D3 := Lib.hid (show DigI w S O m (j + 1 + 1) (wB.drewN nq) from ⟨D2.out.o, below_drewN D2.out.bel nq⟩)
      go_wp2_with fail
      go_roundw
      case rel => exact ⟨k + 1, by omega, by go_num, by rw [HL2.out], Lib.hid (by rw [jj.out]; exact D3.out)⟩
      case measure => simp [intOf]; omega
    · obtain rfl : k = 32 := by omega
      have g0 := HI.out.o
      rw [show 2 * 32 = 64 from rfl] at g0 hLb
      obtain ⟨x, hx⟩ : ∃ x, x = L / 256 := ⟨_, rfl⟩
      obtain ⟨l16, hl16⟩ : ∃ x, x = L / 16 := ⟨_, rfl⟩
      obtain ⟨y, hy⟩ : ∃ x, x = l16 % 16 := ⟨_, rfl⟩
      obtain ⟨z, hz⟩ : ∃ x, x = L % 16 := ⟨_, rfl⟩
      have r1 : (L : Int) / 256 = (x : Int) := by omega
      have r2 : (L : Int) / 16 = (l16 : Int) := by omega
      have r3 : bits .and .i64 (l16 : Int) 15 = (y : Int) := by rw [hy]; exact and15_i64 l16 (by omega)
      have r4 : bits .and .i64 (L : Int) 15 = (z : Int) := by rw [hz]; exact and15_i64 L (by omega)
      have l64 := nibS_length m (k := 64) (Nat.le_refl _)
      obtain ⟨y1, c1⟩ : ∃ q : Nat, wr.cell? ⟨O, 64, none⟩ = some (.int .i64 (q : Int)) := ⟨_, cellI g0 64 (by omega)⟩
      have f1 := frozen_of_row wr O 64 _ _ g0
      have g1 := setI g0 64 x
      obtain ⟨y2, c2⟩ : ∃ q : Nat, (wr.setCell ⟨O, 64, none⟩ (.int .i64 (x : Int))).cell? ⟨O, 65, none⟩ = some (.int .i64 (q : Int)) := ⟨_, cellI g1 65 (by simp; omega)⟩
      have f2 := frozen_of_row _ O 65 _ _ g1
      have g2 := setI g1 65 y
      obtain ⟨y3, c3⟩ : ∃ q : Nat, ((wr.setCell ⟨O, 64, none⟩ (.int .i64 (x : Int))).setCell ⟨O, 65, none⟩ (.int .i64 (y : Int))).cell? ⟨O, 66, none⟩ = some (.int .i64 (q : Int)) := ⟨_, cellI g2 66 (by simp; omega)⟩
      have f3 := frozen_of_row _ O 66 _ _ g2
      have g3 := setI g2 66 z
      rw [nibS_last m x y z (by rw [hx, HL.out]) (by rw [hy, hl16, HL.out]) (by rw [hz, HL.out])] at g3
      obtain ⟨wB, hwB⟩ : ∃ q, q = ((wr.setCell ⟨O, 64, none⟩ (.int .i64 (x : Int))).setCell ⟨O, 65, none⟩ (.int .i64 (y : Int))).setCell ⟨O, 66, none⟩ (.int .i64 (z : Int)) := ⟨_, rfl⟩
      have bB : Below w.heap.size w wB := by rw [hwB]; exact ((HI.out.bel.setCell (p := ⟨O, 64, none⟩) hOw _).setCell (p := ⟨O, 65, none⟩) hOw _).setCell (p := ⟨O, 66, none⟩) hOw _
      rw [← hwB] at g3
      have HWB := Lib.hid hwB
      have GB := Lib.hid g3
      have BB := Lib.hid bB
      have NL := Lib.hid (nibs_length m)
      clear hx hl16 hy hz g0 g1 g2 g3 hwB bB l64 HI
      go_upto_region 9 with fail
      rw [← HWB.out]
      clear c1 c2 c3 f1 f2 f3 r1 r2 r3 r4
      go_wp2_with (first
        | (refine ld_67 rfl (.tmp 2) rfl O (by rfl) (nibs m) NL.out (rangeI GB.out) ?_)
        | (refine st_67 rfl (.tmp 2) (.tmp 48) rfl O (nibs m) NL.out (by rfl) (by rfl) (iV (nibs m)) (by rw [iV_size, NL.out]) _ GB.out ?_))
      try simp only [Exit.inBlock, Exit.then]
      refine bodyPost_ret (v := .agg (iV (nibs m))) (results_cellW rfl _ _ _ ⟨O, 0, none⟩ _ rfl ?_) rfl ?_
      · exact load_67 NL.out (rangeI (setRow_heap _ _ _ _ _ _ GB.out))
      · exact ⟨rfl, below_setRowW BB.out hOw _⟩
end Go.Proofs.YtkioddmhjbaleaaGreatDoor
