/- Walks: log.leaf. -/
import Derived.Test.YtkioddmhjbaleaaDoorWrite
import Derived.Test.YtkioddmhjbaleaaDoorTreeLf
import Derived.Test.YtkioddmhjbaleaaDoorSealMem
import Derived.Lib.AppendStr
import Derived.Test.YtkioddmhjbaleaaDoorClone
import Derived.MapKept
import Derived.Test.YtkioddmhjbaleaaDoorFinalH
import Derived.Test.YtkioddmhjbaleaaDoorTreePath
import Derived.Deep.RegionHeld3
import Derived.Maps.RangeRun
import Derived.LoopN
import Derived.Test.YtkioddmhjbaleaaDoorHeadA
import Derived.Test.YtkioddmhjbaleaaDoorTrieP2
namespace Go.Proofs.YtkioddmhjbaleaaDoor
open Go.RowKit
set_option linter.unusedVariables false
set_option linter.unusedSimpArgs false
theorem info_noteL : (Tryd.prog.info? 111).map (·.size) = some 34 := by kernel_rfl
theorem ld_noteL {ops : Array Oper} {rest : List Oper} {op : Oper} {a : Act} {w : World} {Q : Exit → Act → World → Prop} (hgd : op.guard = none) (x : Operand) (ho : op.op = .load 111 x) (g : Nat) (hx : a.eval x = .pointer (some ⟨g, 0, none⟩)) (s : ByteArray) (key : List UInt8) (t : Int) (hk : key.length = 32) (ty : TypeId) (fr : Nat × Nat) (hg : w.heap[g]? = some (.cells (nV s key t) ty fr))
    (h : wpList Tryd.prog ops Q rest (a.put op.dst (.agg (nV s key t))) w) : wpList Tryd.prog ops Q (op :: rest) a w :=
  wpList_load_mid hgd _ x ho g 0 hx (nL s key t) _ (fun j v hj => by
    rw [Nat.zero_add, cell_of_row w g j _ ty fr hg]
    unfold nV
    rw [List.getElem?_toArray]
    exact hj) Tryd.underlying111 rfl (by rw [nL_length s key t hk]; exact info_noteL) h
theorem TLeaf_at (b : List UInt8) (n : Nat) (hn : b.length = n) (hb : n ≤ 1000000) (a : Option Addr) (cap e : Nat) (w : World) (hr : Rd w a e (b.map vB)) (hro : RoundsAt w) :
    Calls Tryd.prog 128 #[.slice a n cap] w fun e w' => e = .returned (.agg (dV (tleaf b))) ∧ Below w.heap.size w w' := by
  subst hn; exact TLeaf_calls b a cap e hb w hr hro
set_option maxRecDepth 20000 in
set_option maxHeartbeats 1000000 in
theorem leaf_calls (s : ByteArray) (hnm : named s = true) (key : List UInt8) (hk : key.length = 32) (w : World) (hro : RoundsAt w) :
    Calls Tryd.prog 102 #[.agg (nV s key 0)] w fun e w' => e = .returned (.tuple #[.agg (dV (tleaf (noteB s key 0))), .nilIface]) ∧ Below w.heap.size w w' := by
  have ZL := Lib.hid nz_length
  have KL := Lib.hid hk
  have RO := Lib.hid hro
  have HNM := Lib.hid hnm
  have HNS := Lib.hid (named_size hnm)
  have NBL := Lib.hid (noteB_length s key 0 hk)
  clear hk hro hnm
  obtain ⟨N, hN⟩ : ∃ z, z = w.heap.size := ⟨_, rfl⟩
  obtain ⟨w1, hw1⟩ : ∃ z, z = w.alloc (.cells (nV s key 0) 111) := ⟨_, rfl⟩
  have st1 : Below w.heap.size w w1 := by rw [hw1]; exact (Below.refl _ _).alloc (Nat.le_refl _) _
  have B1 := Lib.hid (show Below w.heap.size w w1 from Below.trans (Below.refl w.heap.size w) (Below.mono st1 (Below.size (Below.refl w.heap.size w))))
  have GN_1 := Lib.hid (show w1.heap[N]? = some (.cells (nV s key 0) 111 (0, 0)) by rw [hw1, hN]; exact heap_alloc_new _ _)
  have LN_1 := Lib.hid (lt_of_heap GN_1.out)
  have HN := Lib.hid hN
  have Hw1 := Lib.hid hw1
  clear hN hw1 st1
  have SZN := Lib.hid (show N = w.heap.size from HN.out)
  obtain ⟨R, hR⟩ : ∃ z, z = w1.heap.size := ⟨_, rfl⟩
  obtain ⟨w2, hw2⟩ : ∃ z, z = w1.alloc (.cells (dV nz) 23) := ⟨_, rfl⟩
  have st2 : Below w1.heap.size w1 w2 := by rw [hw2]; exact (Below.refl _ _).alloc (Nat.le_refl _) _
  have B2 := Lib.hid (show Below w.heap.size w w2 from Below.trans B1.out (Below.mono st2 (Below.size B1.out)))
  have GN_2 := Lib.hid ((Below.block st2 N LN_1.out).trans GN_1.out)
  have LN_2 := Lib.hid (Nat.lt_of_lt_of_le LN_1.out (Below.size st2))
  have GR_2 := Lib.hid (show w2.heap[R]? = some (.cells (dV nz) 23 (0, 0)) by rw [hw2, hR]; exact heap_alloc_new _ _)
  have LR_2 := Lib.hid (lt_of_heap GR_2.out)
  have HR := Lib.hid hR
  have Hw2 := Lib.hid hw2
  clear hR hw2 st2
  have SZR := Lib.hid (show R = w.heap.size + 1 by rw [HR.out, Hw1.out, World.size_alloc, ← HN.out, SZN.out])
  go_enter Tryd.func102, Tryd.ntmps102
  go_upto_region 1 with fail
  rw [zdig]
  rw [← SZR.out, ← SZN.out, ← Hw1.out, ← Hw2.out]
  go_wp2_with (first
    | ((refine ld_noteL rfl (.tmp 1) rfl N (by rfl) s key 0 KL.out _ _ GN_2.out ?_); simp only [Act.put, List.setIfInBounds_toArray, List.set_cons_zero, List.set_cons_succ]))
  refine (Write_calls s key 0 KL.out (by have := HNS.out; omega) (by omega) w2).mono ?_
  rintro e w3 ⟨hb, hh⟩
  rcases hh with ⟨_, _, _, ba, bc, rfl, hown⟩ | ⟨hh, _⟩
  rotate_left
  · exfalso; rw [HNM.out] at hh; rcases hh with h | h | h
    · exact absurd h (by decide)
    · omega
    · omega
  have B3 := Lib.hid (show Below w.heap.size w w3 from Below.trans B2.out (Below.mono hb (Below.size B2.out)))
  have GN_3 := Lib.hid ((Below.block hb N LN_2.out).trans GN_2.out)
  have LN_3 := Lib.hid (Nat.lt_of_lt_of_le LN_2.out (Below.size hb))
  have GR_3 := Lib.hid ((Below.block hb R LR_2.out).trans GR_2.out)
  have LR_3 := Lib.hid (Nat.lt_of_lt_of_le LR_2.out (Below.size hb))
  have RB_3 := Lib.hid (Rd.of_own hown)
  clear hown hb
  obtain ⟨nb, hnb⟩ : ∃ z, z = noteB s key (Int.toNat 0) := ⟨_, rfl⟩
  rw [← hnb] at RB_3
  have NBE := Lib.hid hnb
  have NBL2 := Lib.hid (show nb.length = s.size + 37 by rw [hnb]; exact NBL.out)
  clear hnb
  go_wp2_with fail
  refine (TLeaf_at nb (s.size + 37) NBL2.out (by have := HNS.out; omega) ba bc _ w3 RB_3.out (RO.out.at_ B3.out)).mono ?_
  rintro e w4 ⟨rfl, hb4⟩
  have B4 := Lib.hid (show Below w.heap.size w w4 from Below.trans B3.out (Below.mono hb4 (Below.size B3.out)))
  have GN_4 := Lib.hid ((Below.block hb4 N LN_3.out).trans GN_3.out)
  have LN_4 := Lib.hid (Nat.lt_of_lt_of_le LN_3.out (Below.size hb4))
  have GR_4 := Lib.hid ((Below.block hb4 R LR_3.out).trans GR_3.out)
  have LR_4 := Lib.hid (Nat.lt_of_lt_of_le LR_3.out (Below.size hb4))
  have RB_4 := Lib.hid (RB_3.out.below hb4)
  clear hb4
  have TL := Lib.hid (tleaf_length nb)
  obtain ⟨w5, hw5⟩ : ∃ z, z = w4.setRow R (dV (tleaf nb)) := ⟨_, rfl⟩
  have B5 := Lib.hid (show Below w.heap.size w w5 by rw [hw5]; exact below_setRowW B4.out (by rw [HR.out]; exact Below.size B1.out) _)
  have sz5 : w5.heap.size = w4.heap.size := by rw [hw5]; exact setRow_size _ _ _
  have GN_5 := Lib.hid (show w5.heap[N]? = some (.cells (nV s key 0) 111 (0, 0)) by rw [hw5]; exact (_root_.Go.setRow_other _ _ _ _ (by rw [HR.out]; exact Nat.ne_of_lt LN_1.out)).trans GN_4.out)
  have LN_5 := Lib.hid (show N < w5.heap.size by rw [sz5]; exact LN_4.out)
  have GR_5 := Lib.hid (show w5.heap[R]? = some (.cells (dV (tleaf nb)) 23 (0, 0)) by rw [hw5]; exact setRow_heap _ _ _ _ _ _ GR_4.out)
  have LR_5 := Lib.hid (show R < w5.heap.size by rw [sz5]; exact LR_4.out)
  have Hw5 := Lib.hid hw5
  clear hw5 sz5
  go_wp2_with (first
    | ((refine st_row rfl (.tmp 2) (.tmp 16) rfl R (tleaf nb) TL.out (by rfl) (by rfl) (dV nz) (dV_size ZL.out) _ GR_4.out ?_); rw [← Hw5.out]))
  try simp only [Exit.inBlock, Exit.then]
  refine bodyPost_ret (results_cell_tmp rfl _ _ _ ⟨R, 0, none⟩ (.agg (dV (tleaf nb))) rfl ?_) rfl ⟨by rw [NBE.out]; rfl, B5.out⟩
  exact dig_load TL.out (range_of_row GR_5.out)
end Go.Proofs.YtkioddmhjbaleaaDoor
/- Walk: note.Index: some number of four bytes. -/
namespace Go.Proofs.YtkioddmhjbaleaaDoor
open Go.RowKit
set_option linter.unusedVariables false
set_option linter.unusedSimpArgs false
theorem strCells_vB (s : ByteArray) : Lib.strCells s = (sb s).map vB := by
  unfold Lib.strCells sb vB
  simp
theorem Sha_at (b : List UInt8) (n : Nat) (hn : b.length = n) (a : Option Addr) (cap e : Nat) (w : World) (hr : Rd w a e (b.map vB)) (hl : n ≤ 140737488355328) (hro : RoundsAt w) :
    Calls Tryd.prog 105 #[.slice a n cap] w fun e w' => e = .returned (.agg (dV (shaOf b))) ∧ Below w.heap.size w w' := by
  subst hn; exact Sha_calls b a cap e w hr hl hro hro.lt
theorem or4 (a0 a1 a2 a3 : UInt8) : ∃ n : Nat, n < 4294967296 ∧ bits .or .i64 (bits .or .i64 (bits .or .i64 (wrap64 (wrap64 (a0.toNat : Int) * 16777216)) (wrap64 (wrap64 (a1.toNat : Int) * 65536))) (wrap64 (wrap64 (a2.toNat : Int) * 256))) (wrap64 (a3.toNat : Int)) = (n : Int) := by
  have h0 := a0.toNat_lt
  have h1 := a1.toNat_lt
  have h2 := a2.toNat_lt
  have h3 := a3.toNat_lt
  have e0 : wrap64 (wrap64 (a0.toNat : Int) * 16777216) = ((a0.toNat * 16777216 : Nat) : Int) := by unfold wrap64; omega
  have e1 : wrap64 (wrap64 (a1.toNat : Int) * 65536) = ((a1.toNat * 65536 : Nat) : Int) := by unfold wrap64; omega
  have e2 : wrap64 (wrap64 (a2.toNat : Int) * 256) = ((a2.toNat * 256 : Nat) : Int) := by unfold wrap64; omega
  have e3 : wrap64 (a3.toNat : Int) = (a3.toNat : Int) := by unfold wrap64; omega
  have l1 : a0.toNat * 16777216 ||| a1.toNat * 65536 < 2 ^ 32 := Nat.or_lt_two_pow (by omega) (by omega)
  have l2 : a0.toNat * 16777216 ||| a1.toNat * 65536 ||| a2.toNat * 256 < 2 ^ 32 := Nat.or_lt_two_pow l1 (by omega)
  have l3 : a0.toNat * 16777216 ||| a1.toNat * 65536 ||| a2.toNat * 256 ||| a3.toNat < 2 ^ 32 := Nat.or_lt_two_pow l2 (by omega)
  refine ⟨_, l3, ?_⟩
  rw [e0, e1, e2, e3, i64_or_nat _ _ (by omega) (by omega), i64_or_nat _ _ (by omega) (by omega), i64_or_nat _ _ (by omega) (by omega)]
theorem four_of {w : World} {R : Nat} {D : List UInt8} (h : w.rangeAt R 0 (D.map vB)) (hl : D.length = 32) : ∃ a0 a1 a2 a3 : UInt8, w.cell? ⟨R, 0, none⟩ = some (.int .u8 a0.toNat) ∧ w.cell? ⟨R, 1, none⟩ = some (.int .u8 a1.toNat) ∧ w.cell? ⟨R, 2, none⟩ = some (.int .u8 a2.toNat) ∧ w.cell? ⟨R, 3, none⟩ = some (.int .u8 a3.toNat) := by
  match D, hl with
  | a :: b :: c :: d :: r, _ => exact ⟨a, b, c, d, h 0 _ rfl, h 1 _ rfl, h 2 _ rfl, h 3 _ rfl⟩
set_option maxRecDepth 20000 in
set_option maxHeartbeats 1000000 in
theorem NIndex_calls (s : ByteArray) (hs : s.size ≤ 1000) (w : World) (hro : RoundsAt w) :
    Calls Tryd.prog 101 #[.string s] w fun e w' => ∃ k : Nat, k < 4294967296 ∧ e = .returned (.int .i64 (k : Int)) ∧ Below w.heap.size w w' := by
  have ZL := Lib.hid nz_length
  have RO := Lib.hid hro
  obtain ⟨i0, hi0, hz0, hs0, hb0⟩ := info_parts info_byte
  clear hro
  go_enter Tryd.func101, Tryd.ntmps101
  obtain ⟨P, hP⟩ : ∃ z, z = w.heap.size := ⟨_, rfl⟩
  obtain ⟨w1, hw1⟩ : ∃ z, z = w.alloc (.cells (dV [12]) 5) := ⟨_, rfl⟩
  have st1 : Below w.heap.size w w1 := by rw [hw1]; exact (Below.refl _ _).alloc (Nat.le_refl _) _
  have B1 := Lib.hid (show Below w.heap.size w w1 from Below.trans (Below.refl w.heap.size w) (Below.mono st1 (Below.size (Below.refl w.heap.size w))))
  have GP_1 := Lib.hid (show w1.heap[P]? = some (.cells (dV [12]) 5 (0, 0)) by rw [hw1, hP]; exact heap_alloc_new _ _)
  have LP_1 := Lib.hid (lt_of_heap GP_1.out)
  have HP := Lib.hid hP
  have Hw1 := Lib.hid hw1
  clear hP hw1 st1
  have O0 := Lib.hid (show w1.ownsRow P 5 1 (.slice (some ⟨P, 0, none⟩) 1 1) 1 ([12].map vB) by rw [Hw1.out, HP.out]; exact World.ownsRow_lit _ (dV [12]) 1 (Nat.le_refl _) (by decide) rfl)
  obtain ⟨w1v, hw1v⟩ : ∃ z, z = w1 := ⟨_, rfl⟩
  go_wp2_with (at_builtin; rw [show (#[.int .u8 12] : Array Value) = dV [12] from rfl, ← HP.out, ← Hw1.out]; refine Lib.wpList_append_own_string _ rfl (.tmp 4) (.tmp 5) 67 9 rfl P 5 i0 Tryd.underlying67 Tryd.underlying9 hi0 hz0 hs0 hb0 (.slice (some ⟨P, 0, none⟩) 1 1) 1 _ (by rfl) O0.out s (by rfl) (by simp only [maxLen]; omega) (by omega) (Nat.le_of_lt LP_1.out) ?_; intro v2 w2 hown2 hg2 _; have OWN2 := Lib.hid hown2; have GR2 := Lib.hid hg2; clear hown2 hg2)
  have SV := strCells_vB s
  obtain ⟨va, vc, hv2⟩ := own_slice OWN2.out
  subst hv2
  have BW2 := Lib.hid (show Below w.heap.size w w2 from B1.out.grown GR2.out (Nat.le_of_lt (by have := HP.out; have := LP_1.out; omega)) (fun j hj => by have : P = j := Option.some.inj hj; have := HP.out; omega))
  have RS2 := Lib.hid (show Rd w2 va 5 (([12] ++ sb s).map vB) by rw [List.map_append, ← SV]; exact Rd.of_own OWN2.out)
  have SL := Lib.hid (show ([12] ++ sb s).length = 1 + s.size by rw [List.length_append, sb_length]; rfl)
  clear OWN2 GR2 SV
  refine (Sha_at ([12] ++ sb s) (1 + s.size) SL.out va vc _ w2 RS2.out (by omega) (RO.out.at_ BW2.out)).mono ?_
  rintro e w3 ⟨rfl, hb⟩
  obtain ⟨D, hD⟩ : ∃ z, z = shaOf ([12] ++ sb s) := ⟨_, rfl⟩
  have DL := Lib.hid (show D.length = 32 by rw [hD]; exact shaOf_length _)
  rw [← hD]
  obtain ⟨R, hR⟩ : ∃ z, z = w3.heap.size := ⟨_, rfl⟩
  obtain ⟨w4, hw4⟩ : ∃ z, z = w3.alloc (.cells (dV D) 23) := ⟨_, rfl⟩
  have B3 := BW2.out.trans (hb.mono BW2.out.size)
  have B4 := Lib.hid (show Below w.heap.size w w4 by rw [hw4]; exact B3.alloc B3.size _)
  have GR := Lib.hid (show w4.heap[R]? = some (.cells (dV D) 23 (0, 0)) by rw [hw4, hR]; exact heap_alloc_new _ _)
  have HR := Lib.hid hR
  have HW4 := Lib.hid hw4
  clear hD hR hw4 hb B3
  go_upto_region 2 with ((refine st_new rfl (.tmp 3) (.tmp 7) rfl D DL.out (by rfl) _ _ (by rfl) (by rfl) ?_); rw [← HR.out, ← HW4.out])
  have g := range_of_row GR.out
  obtain ⟨a0, a1, a2, a3, k0, k1, k2, k3⟩ := four_of g DL.out
  clear g
  go_wp2_with fail
  go_ret
  obtain ⟨n, hn, hv⟩ := or4 a0 a1 a2 a3
  exact ⟨n, hn, by first | exact congrArg (fun z => Ending.returned (.int .i64 z)) hv | simpa using congrArg (fun z => Ending.returned (.int .i64 z)) hv, B4.out⟩
end Go.Proofs.YtkioddmhjbaleaaDoor
/- Walk: log.New of nil. -/
namespace Go.Proofs.YtkioddmhjbaleaaDoor
open Go.RowKit
set_option linter.unusedVariables false
set_option linter.unusedSimpArgs false
theorem wpl_makeMap {ops : Array Oper} {rest : List Oper} {op : Oper} {a : Act} {w : World} {Q : Exit → Act → World → Prop} (hgd : op.guard = none) (t : TypeId) (ho : op.op = .makeMap t none)
    (h : wpList Tryd.prog ops Q rest (a.put op.dst (.map (some w.heap.size))) (w.alloc (.map #[] 0))) : wpList Tryd.prog ops Q (op :: rest) a w := by
  refine wpList_plain hgd fun K hK => ?_
  unfold Oper.wp execOp
  have hr : (Instr.makeMap t none).run Tryd.prog w = .ok (.map (some w.heap.size)) (w.alloc (.map #[] 0)) := rfl
  simp only [ho, Option.map_none, Sem.run_bind, hr, Result.andThen_ok, Sem.run_pure]
  exact hK _ _ h
/-- a log's block -/
def LogAt (w : World) (L M N : Nat) (kv lv : Value) : Prop := w.heap[L]? = some (.cells #[kv, lv, .map (some M), .map (some N)] 152 (0, 0))
set_option maxRecDepth 20000 in
set_option maxHeartbeats 1000000 in
theorem LNew_calls (w : World) : Calls Tryd.prog 62 #[.slice none 0 0] w fun e w' => ∃ (L M N : Nat) (ca : Option Addr) (cc : Nat), e = .returned (.pointer (some ⟨L, 0, none⟩)) ∧ LogAt w' L M N (.slice ca 0 cc) (.slice none 0 0) ∧ w'.heap[M]? = some (.map #[] 0) ∧ w'.heap[N]? = some (.map #[] 0) ∧ w.heap.size ≤ M ∧ M < N ∧ N < L ∧ Below w.heap.size w w' := by
  go_enter Tryd.func62, Tryd.ntmps62
  go_wp2_with fail
  refine (Clone_calls [] none 0 0 w (.inl rfl) (by simp)).mono ?_
  rintro e w1 ⟨ca, cc, rfl, hown, hb⟩
  have HO := Lib.hid hown
  have HB := Lib.hid hb
  clear hown hb
  go_wp2_with (refine wpl_makeMap rfl _ rfl ?_; simp only [Act.put, List.setIfInBounds_toArray, List.set_cons_zero, List.set_cons_succ])
  go_ret
  have hs : w.heap.size ≤ w1.heap.size := HB.out.size
  obtain ⟨M, hM⟩ : ∃ z, z = w1.heap.size := ⟨_, rfl⟩
  obtain ⟨w2, hw2⟩ : ∃ z, z = w1.alloc (.map #[] 0) := ⟨_, rfl⟩
  obtain ⟨w3, hw3⟩ : ∃ z, z = w2.alloc (.map #[] 0) := ⟨_, rfl⟩
  have s2 : w2.heap.size = M + 1 := by rw [hw2, hM]; exact World.size_alloc _ _
  have s3 : w3.heap.size = M + 2 := by rw [hw3, World.size_alloc, s2]
  have b2 : Below w1.heap.size w1 w2 := by rw [hw2]; exact (Below.refl _ _).alloc (Nat.le_refl _) _
  have b3 : Below w2.heap.size w2 w3 := by rw [hw3]; exact (Below.refl _ _).alloc (Nat.le_refl _) _
  have g2 : w2.heap[M]? = some (.map #[] 0) := by rw [hw2, hM]; exact heap_alloc_new _ _
  have g3 : w3.heap[M + 1]? = some (.map #[] 0) := by rw [hw3, ← s2]; exact heap_alloc_new _ _
  have g2' : w3.heap[M]? = some (.map #[] 0) := (b3.block M (by omega)).trans g2
  have hb3 : Below w.heap.size w w3 := HB.out.trans ((b2.trans (b3.mono (by omega))).mono hs)
  rw [← hw2, ← hw3, ← hM]
  refine ⟨M + 2, M, M + 1, ca, cc, by rfl, ?_, ?_, ?_, by omega, by omega, by omega, hb3.alloc (by omega) _⟩
  · unfold LogAt; rw [← s3]; exact heap_alloc_new _ _
  · exact (((Below.refl _ w3).alloc (Nat.le_refl _) _).block M (by omega)).trans g2'
  · exact (((Below.refl _ w3).alloc (Nat.le_refl _) _).block (M + 1) (by omega)).trans g3
end Go.Proofs.YtkioddmhjbaleaaDoor
/- Maps: lookups and updates of one entry. -/
namespace Go.Proofs.YtkioddmhjbaleaaDoor
open Go.RowKit
set_option linter.unusedVariables false
set_option linter.unusedSimpArgs false
set_option maxRecDepth 20000 in
open Go.MapKept in
theorem run_lookup_empty (w : World) (s : ByteArray) (M : Nat) (h : w.heap[M]? = some (.map #[] 0)) (z : Value) (hz : (zeroValue 155).run Tryd.prog w = .ok z w) : (Instr.lookup 149 (.map (some M)) (.string s) true).run Tryd.prog w = .ok (.tuple #[z, .bool false]) w := by
  have hd : Tryd.prog.underlying 9 = some .string := Tryd.underlying9
  have hc : (Instr.checkKey true 10000 9 (.string s)).run Tryd.prog w = .ok () w := Go.MapKept.run_checkKey hd (by simp [Go.MapKept.IsKey]) true 9999
  have hf : (Instr.findKey 9 (.string s) []).run Tryd.prog w = .ok none w := Go.MapKept.run_findKey hd (by simp [Instr.findNow])
  have hg := Go.MapKept.run_getObj_map (P := Tryd.prog) h
  unfold Instr.lookup
  simp [hg, run_underlying Tryd.underlying149, go_sem, h, hz, hc, hf]
def w1map (w : World) (M : Nat) (k v : Value) : World := { w with heap := w.heap.setIfInBounds M (.map #[{ key := k, val := v, born := 0 }] 1) }
theorem run_update_empty (w : World) (s : ByteArray) (M : Nat) (h : w.heap[M]? = some (.map #[] 0)) (v : Value) : (Instr.mapUpdate 149 (.map (some M)) (.string s) v).run Tryd.prog w = .ok () (w1map w M (.string s) v) := by
  have hd : Tryd.prog.underlying 9 = some .string := Tryd.underlying9
  have hc : (Instr.checkKey false 10000 9 (.string s)).run Tryd.prog w = .ok () w := Go.MapKept.run_checkKey hd (by simp [Go.MapKept.IsKey]) false 9999
  have hf : (Instr.findKey 9 (.string s) []).run Tryd.prog w = .ok none w := Go.MapKept.run_findKey hd (by simp [Instr.findNow])
  have hg := Go.MapKept.run_getObj_map (P := Tryd.prog) h
  have hs := Go.MapKept.run_setObj_map (P := Tryd.prog) (.map #[{ key := .string s, val := v, born := 0 }] 1) h
  unfold Instr.mapUpdate
  simp [hg, hs, run_underlying Tryd.underlying149, go_sem, hc, hf, w1map]
theorem run_lookup_emptyI (w : World) (k : Int) (M : Nat) (h : w.heap[M]? = some (.map #[] 0)) (z : Value) (hz : (zeroValue 9).run Tryd.prog w = .ok z w) : (Instr.lookup 150 (.map (some M)) (.int .i64 k) true).run Tryd.prog w = .ok (.tuple #[z, .bool false]) w := by
  have hd : Tryd.prog.underlying 3 = some (.int .i64) := Tryd.underlying3
  have hc : (Instr.checkKey true 10000 3 (.int .i64 k)).run Tryd.prog w = .ok () w := Go.MapKept.run_checkKey hd (by simp [Go.MapKept.IsKey]) true 9999
  have hf : (Instr.findKey 3 (.int .i64 k) []).run Tryd.prog w = .ok none w := Go.MapKept.run_findKey hd (by simp [Instr.findNow])
  have hg := Go.MapKept.run_getObj_map (P := Tryd.prog) h
  unfold Instr.lookup
  simp [hg, run_underlying Tryd.underlying150, go_sem, h, hz, hc, hf]
theorem run_update_emptyI (w : World) (k : Int) (M : Nat) (h : w.heap[M]? = some (.map #[] 0)) (v : Value) : (Instr.mapUpdate 150 (.map (some M)) (.int .i64 k) v).run Tryd.prog w = .ok () (w1map w M (.int .i64 k) v) := by
  have hd : Tryd.prog.underlying 3 = some (.int .i64) := Tryd.underlying3
  have hc : (Instr.checkKey false 10000 3 (.int .i64 k)).run Tryd.prog w = .ok () w := Go.MapKept.run_checkKey hd (by simp [Go.MapKept.IsKey]) false 9999
  have hf : (Instr.findKey 3 (.int .i64 k) []).run Tryd.prog w = .ok none w := Go.MapKept.run_findKey hd (by simp [Instr.findNow])
  have hg := Go.MapKept.run_getObj_map (P := Tryd.prog) h
  have hs := Go.MapKept.run_setObj_map (P := Tryd.prog) (.map #[{ key := .int .i64 k, val := v, born := 0 }] 1) h
  unfold Instr.mapUpdate
  simp [hg, hs, run_underlying Tryd.underlying150, go_sem, hc, hf, w1map]
theorem bytes_self (s : ByteArray) : (s == s) = true := (Go.MapKept.bytes_beq s s).2 rfl
theorem run_lookup_one (w : World) (s : ByteArray) (M : Nat) (v : Value) (h : w.heap[M]? = some (.map #[{ key := .string s, val := v, born := 0 }] 1)) (ok : Bool) : (Instr.lookup 149 (.map (some M)) (.string s) ok).run Tryd.prog w = .ok (if ok then .tuple #[v, .bool true] else v) w := by
  have hd : Tryd.prog.underlying 9 = some .string := Tryd.underlying9
  have hc : (Instr.checkKey false 10000 9 (.string s)).run Tryd.prog w = .ok () w := Go.MapKept.run_checkKey hd (by simp [Go.MapKept.IsKey]) false 9999
  have hf : (Instr.findKey 9 (.string s) [{ key := .string s, val := v, born := 0 }]).run Tryd.prog w = .ok (some (0, v)) w := Go.MapKept.run_findKey hd (by simp [Instr.findNow, Instr.sameNow, bytes_self])
  have hg := Go.MapKept.run_getObj_map (P := Tryd.prog) h
  unfold Instr.lookup
  simp [hg, run_underlying Tryd.underlying149, go_sem, h, hc, hf]
theorem run_len_map (w : World) (M : Nat) (es : Array MapEntry) (c : Nat) (h : w.heap[M]? = some (.map es c)) (ty : TypeId) : (Builtin.len_ #[149] ty #[.map (some M)]).run Tryd.prog w = .ok (.int .i64 es.size) w := by
  have hg := Go.MapKept.run_getObj_map (P := Tryd.prog) h
  unfold Builtin.len_
  simp [hg, run_underlying Tryd.underlying149, go_sem]
end Go.Proofs.YtkioddmhjbaleaaDoor
/- A log's last note: 67 cells. -/
namespace Go.Proofs.YtkioddmhjbaleaaDoor
open Go.RowKit
set_option linter.unusedVariables false
set_option linter.unusedSimpArgs false
def laL (s : ByteArray) (key : List UInt8) (t i : Int) (leaf : List UInt8) : List Value := nL s key t ++ (.int .i64 i :: leaf.map vB)
def laV (s : ByteArray) (key : List UInt8) (t i : Int) (leaf : List UInt8) : Array Value := (laL s key t i leaf).toArray
theorem laL_length (s : ByteArray) (key : List UInt8) (t i : Int) (leaf : List UInt8) (hk : key.length = 32) (hl : leaf.length = 32) : (laL s key t i leaf).length = 67 := by
  unfold laL; rw [List.length_append, nL_length s key t hk]; simp [hl]
theorem info_last : (Tryd.prog.info? 155).map (·.size) = some 67 := by kernel_rfl
theorem zero_last (w : World) : (zeroValue 155).run Tryd.prog w = .ok (.agg (laV ⟨#[]⟩ nz 0 0 nz)) w := by kernel_rfl
theorem zero_str (w : World) : (zeroValue 9).run Tryd.prog w = .ok (.string ⟨#[]⟩) w := by kernel_rfl
theorem laV_size (s : ByteArray) (key : List UInt8) (t i : Int) (leaf : List UInt8) (hk : key.length = 32) (hl : leaf.length = 32) : (laV s key t i leaf).size = 67 := by
  unfold laV; rw [List.size_toArray]; exact laL_length s key t i leaf hk hl
theorem nL_one (s : ByteArray) (key : List UInt8) (t : Int) : ∀ u ∈ nL s key t, u.oneCell' = true := by
  intro u hu
  unfold nL at hu
  simp only [List.mem_cons, List.mem_append, List.mem_map, List.not_mem_nil, or_false] at hu
  rcases hu with rfl | hu
  · rfl
  · rcases hu with ⟨b, _, rfl⟩ | rfl
    · rfl
    · rfl
theorem laV_one (s : ByteArray) (key : List UInt8) (t i : Int) (leaf : List UInt8) : (laV s key t i leaf).all (·.oneCell') = true := by
  unfold laV laL
  refine all_oneCell_toArray fun u hu => ?_
  rcases List.mem_append.1 hu with hu | hu
  · exact nL_one _ _ _ u hu
  · rcases List.mem_cons.1 hu with rfl | hu
    · rfl
    · exact one_bytes _ u hu
section
variable {ops : Array Oper} {rest : List Oper} {op : Oper} {a : Act} {w : World} {Q : Exit → Act → World → Prop}
/-- a row is stored into a block that was made last -/
theorem st_anyNew (hgd : op.guard = none) (ty : TypeId) (x y : Operand) (ho : op.op = .store ty x y) (n : Nat) (hi : (Tryd.prog.info? ty).map (·.size) = some n) (cs : Array Value) (hcs : cs.size = n) (h1 : cs.all (·.oneCell') = true) (hy : a.eval y = .agg cs) (Z : Array Value) (t : TypeId) (hZ : Z.size = n) (hx : a.eval x = .pointer (some ⟨w.heap.size, 0, none⟩))
    (h : wpList Tryd.prog ops Q rest (a.put op.dst undef) (w.alloc (.cells cs t))) : wpList Tryd.prog ops Q (op :: rest) a (w.alloc (.cells Z t)) :=
  wpList_store_row hgd _ x y ho w.heap.size cs hx hy t Z (heap_alloc_new w _) (by rw [hcs]; exact hi) (by rw [hcs, hZ]) h1 (by rw [World.setRow_alloc_new]; exact h)
end
end Go.Proofs.YtkioddmhjbaleaaDoor
/- The blocks of a log's maps; notes built and loaded. -/
namespace Go.Proofs.YtkioddmhjbaleaaDoor
open Go.RowKit
set_option linter.unusedVariables false
set_option linter.unusedSimpArgs false
def MapAt (w : World) (M : Nat) (o : Obj) : Prop := w.heap[M]? = some o
theorem nV_size34 (s : ByteArray) (key : List UInt8) (t : Int) (hk : key.length = 32) : (nV s key t).size = 34 := by
  unfold nV; rw [List.size_toArray]; exact nL_length s key t hk
set_option maxRecDepth 20000 in
theorem run_build_note32 (s : ByteArray) (k0 k1 k2 k3 k4 k5 k6 k7 k8 k9 k10 k11 k12 k13 k14 k15 k16 k17 k18 k19 k20 k21 k22 k23 k24 k25 k26 k27 k28 k29 k30 k31 : UInt8) (w : World) : (Instr.build 111 #[(0, .string s), (1, .agg (dV [k0, k1, k2, k3, k4, k5, k6, k7, k8, k9, k10, k11, k12, k13, k14, k15, k16, k17, k18, k19, k20, k21, k22, k23, k24, k25, k26, k27, k28, k29, k30, k31]))]).run Tryd.prog w = .ok (.agg (nV s [k0, k1, k2, k3, k4, k5, k6, k7, k8, k9, k10, k11, k12, k13, k14, k15, k16, k17, k18, k19, k20, k21, k22, k23, k24, k25, k26, k27, k28, k29, k30, k31] 0)) w := by kernel_rfl
theorem run_build_note (s : ByteArray) : ∀ (d : List UInt8), d.length = 32 → ∀ w : World, (Instr.build 111 #[(0, .string s), (1, .agg (dV d))]).run Tryd.prog w = .ok (.agg (nV s d 0)) w := by
  intro key hk
  match key, hk with
  | [k0, k1, k2, k3, k4, k5, k6, k7, k8, k9, k10, k11, k12, k13, k14, k15, k16, k17, k18, k19, k20, k21, k22, k23, k24, k25, k26, k27, k28, k29, k30, k31], _ => exact run_build_note32 s k0 k1 k2 k3 k4 k5 k6 k7 k8 k9 k10 k11 k12 k13 k14 k15 k16 k17 k18 k19 k20 k21 k22 k23 k24 k25 k26 k27 k28 k29 k30 k31
theorem bld_noteL {ops : Array Oper} {rest : List Oper} {op : Oper} {a : Act} {w : World} {Q : Exit → Act → World → Prop} (hgd : op.guard = none) (x y : Operand) (ho : op.op = .build 111 #[(0, x), (1, y)]) (s : ByteArray) (d : List UInt8) (hd : d.length = 32) (hx : a.eval x = .string s) (hy : a.eval y = .agg (dV d))
    (hw : wpList Tryd.prog ops Q rest (a.put op.dst (.agg (nV s d 0))) w) : wpList Tryd.prog ops Q (op :: rest) a w := by
  refine wpList_plain hgd fun K hK => ?_
  unfold Oper.wp execOp
  simp only [ho, List.map_toArray, List.map_cons, List.map_nil, hx, hy, Sem.run_bind, run_build_note s d hd w, Result.andThen_ok, Sem.run_pure]
  exact hK _ _ hw
set_option maxRecDepth 20000 in
theorem run_build_last64 (s : ByteArray) (k0 k1 k2 k3 k4 k5 k6 k7 k8 k9 k10 k11 k12 k13 k14 k15 k16 k17 k18 k19 k20 k21 k22 k23 k24 k25 k26 k27 k28 k29 k30 k31 j0 j1 j2 j3 j4 j5 j6 j7 j8 j9 j10 j11 j12 j13 j14 j15 j16 j17 j18 j19 j20 j21 j22 j23 j24 j25 j26 j27 j28 j29 j30 j31 : UInt8) (w : World) : (Instr.build 155 #[(0, .agg (nV s [k0, k1, k2, k3, k4, k5, k6, k7, k8, k9, k10, k11, k12, k13, k14, k15, k16, k17, k18, k19, k20, k21, k22, k23, k24, k25, k26, k27, k28, k29, k30, k31] 0)), (1, .int .i64 0), (2, .agg (dV [j0, j1, j2, j3, j4, j5, j6, j7, j8, j9, j10, j11, j12, j13, j14, j15, j16, j17, j18, j19, j20, j21, j22, j23, j24, j25, j26, j27, j28, j29, j30, j31]))]).run Tryd.prog w = .ok (.agg (laV s [k0, k1, k2, k3, k4, k5, k6, k7, k8, k9, k10, k11, k12, k13, k14, k15, k16, k17, k18, k19, k20, k21, k22, k23, k24, k25, k26, k27, k28, k29, k30, k31] 0 0 [j0, j1, j2, j3, j4, j5, j6, j7, j8, j9, j10, j11, j12, j13, j14, j15, j16, j17, j18, j19, j20, j21, j22, j23, j24, j25, j26, j27, j28, j29, j30, j31])) w := by kernel_rfl
theorem run_build_last (s : ByteArray) : ∀ (d : List UInt8), d.length = 32 → ∀ (f : List UInt8), f.length = 32 → ∀ w : World, (Instr.build 155 #[(0, .agg (nV s d 0)), (1, .int .i64 0), (2, .agg (dV f))]).run Tryd.prog w = .ok (.agg (laV s d 0 0 f)) w := by
  intro key hk
  match key, hk with
  | [k0, k1, k2, k3, k4, k5, k6, k7, k8, k9, k10, k11, k12, k13, k14, k15, k16, k17, k18, k19, k20, k21, k22, k23, k24, k25, k26, k27, k28, k29, k30, k31], _ =>
    intro f hf
    match f, hf with
    | [j0, j1, j2, j3, j4, j5, j6, j7, j8, j9, j10, j11, j12, j13, j14, j15, j16, j17, j18, j19, j20, j21, j22, j23, j24, j25, j26, j27, j28, j29, j30, j31], _ => exact run_build_last64 s k0 k1 k2 k3 k4 k5 k6 k7 k8 k9 k10 k11 k12 k13 k14 k15 k16 k17 k18 k19 k20 k21 k22 k23 k24 k25 k26 k27 k28 k29 k30 k31 j0 j1 j2 j3 j4 j5 j6 j7 j8 j9 j10 j11 j12 j13 j14 j15 j16 j17 j18 j19 j20 j21 j22 j23 j24 j25 j26 j27 j28 j29 j30 j31
theorem yieldsIf_buildLast {ops : Array Oper} {S : World → Prop} {op : Oper} {a : Act} (hw : Region.wanted op (yielded ops a.tmps) = true) (x y z : Operand) (ho : op.op = .build 155 #[(0, x), (1, y), (2, z)]) (s : ByteArray) (d f : List UInt8) (hd : d.length = 32) (hf : f.length = 32) (hx : a.eval x = .agg (nV s d 0)) (hy : a.eval y = .int .i64 0) (hz : a.eval z = .agg (dV f)) : YieldsIf Tryd.prog ops S op (.agg (laV s d 0 0 f)) a :=
  .inl ⟨hw, fun w _ => by
    unfold execOp
    simp only [ho, List.map_toArray, List.map_cons, List.map_nil, hx, hy, hz, Sem.run_bind, run_build_last s d hd f hf w, Result.andThen_ok, Sem.run_pure]⟩
theorem nV_whole {w : World} {g : Nat} {s : ByteArray} {key : List UInt8} {t : Int} {ty : TypeId} {fr : Nat × Nat} (hg : w.heap[g]? = some (.cells (nV s key t) ty fr)) : w.rangeAt g 0 (nL s key t) := fun j v hj => by
  rw [Nat.zero_add, cell_of_row w g j _ ty fr hg]
  unfold nV
  rw [List.getElem?_toArray]
  exact hj
theorem yieldsIf_noteL {ops : Array Oper} {S : World → Prop} {op : Oper} {a : Act} (hw : Region.wanted op (yielded ops a.tmps) = true) (x : Operand) (ho : op.op = .load 111 x) (g : Nat) (hx : a.eval x = .pointer (some ⟨g, 0, none⟩)) (s : ByteArray) (key : List UInt8) (t : Int) (hk : key.length = 32) (ty : TypeId) (fr : Nat × Nat) (hS : ∀ w, S w → w.heap[g]? = some (.cells (nV s key t) ty fr)) : YieldsIf Tryd.prog ops S op (.agg (nV s key t)) a :=
  yieldsIf_load_mid (P := Tryd.prog) (S := S) hw 111 x ho g 0 hx (nL s key t) _ (fun w h => nV_whole (hS w h)) Tryd.underlying111 rfl (by rw [nL_length s key t hk]; exact info_noteL)
theorem yieldsIf_digL {ops : Array Oper} {S : World → Prop} {op : Oper} {a : Act} (hw : Region.wanted op (yielded ops a.tmps) = true) (x : Operand) (ho : op.op = .load 23 x) (b o : Nat) (hx : a.eval x = .pointer (some ⟨b, o, none⟩)) (d : List UInt8) (hd : d.length = 32) (hS : ∀ w, S w → w.rangeAt b o (d.map vB)) : YieldsIf Tryd.prog ops S op (.agg (dV d)) a :=
  yieldsIf_load_mid (P := Tryd.prog) (S := S) hw 23 x ho b o hx (d.map vB) _ hS Tryd.underlying23 rfl (by rw [List.length_map, hd]; exact dig_size)
theorem MapAt.below {w w' : World} {M : Nat} {o : Obj} (h : MapAt w M o) (hb : Below w.heap.size w w') : MapAt w' M o := (hb.block M (lt_of_heap h)).trans h
theorem LogAt.below {w w' : World} {L M N : Nat} {kv lv : Value} (h : LogAt w L M N kv lv) (hb : Below w.heap.size w w') : LogAt w' L M N kv lv := (hb.block L (lt_of_heap h)).trans h
theorem LogAt.c1 {w : World} {L M N : Nat} {kv lv : Value} (h : LogAt w L M N kv lv) : w.cell? ⟨L, 1, none⟩ = some lv := by rw [cell_of_row w L 1 _ _ _ h]; rfl
theorem LogAt.c2 {w : World} {L M N : Nat} {kv lv : Value} (h : LogAt w L M N kv lv) : w.cell? ⟨L, 2, none⟩ = some (.map (some M)) := by rw [cell_of_row w L 2 _ _ _ h]; rfl
theorem LogAt.c3 {w : World} {L M N : Nat} {kv lv : Value} (h : LogAt w L M N kv lv) : w.cell? ⟨L, 3, none⟩ = some (.map (some N)) := by rw [cell_of_row w L 3 _ _ _ h]; rfl
theorem LogAt.ne {w : World} {L M N : Nat} {kv lv : Value} (h : LogAt w L M N kv lv) {X : Nat} {es : Array MapEntry} {c : Nat} (h2 : MapAt w X (.map es c)) : L ≠ X := fun e => by
  subst e; unfold LogAt at h; unfold MapAt at h2; rw [h] at h2; cases h2
theorem row_ne_map {w : World} {X M : Nat} {cs : Array Value} {t : TypeId} {fr : Nat × Nat} (h : w.heap[X]? = some (.cells cs t fr)) {es : Array MapEntry} {c : Nat} (h2 : MapAt w M (.map es c)) : X ≠ M := fun e => by
  subst e; unfold MapAt at h2; rw [h] at h2; cases h2
theorem w1map_size (w : World) (M : Nat) (k v : Value) : (w1map w M k v).heap.size = w.heap.size := by unfold w1map; simp
theorem w1map_get {w : World} {M : Nat} {o : Obj} (h : MapAt w M o) (k v : Value) : MapAt (w1map w M k v) M (.map #[{ key := k, val := v, born := 0 }] 1) := by
  have hlt := lt_of_heap h
  unfold MapAt w1map
  simp [hlt]
theorem w1map_other {w : World} {M b : Nat} (hb : b ≠ M) (k v : Value) : (w1map w M k v).heap[b]? = w.heap[b]? := by
  unfold w1map
  simp only [Array.getElem?_setIfInBounds]
  rw [if_neg (fun e => hb e.symm)]
theorem w1map_below {B : Nat} {w0 w : World} (h : Below B w0 w) {M : Nat} (hM : B ≤ M) (k v : Value) : Below B w0 (w1map w M k v) :=
  h.trans ⟨rfl, rfl, rfl, by rw [w1map_size]; exact Nat.le_refl _, fun b hb => w1map_other (by omega) k v⟩
theorem setCell_rowL {w : World} {b i : Nat} {cs : Array Value} {t : TypeId} {fr : Nat × Nat} (h : w.heap[b]? = some (.cells cs t fr)) (v : Value) : (w.setCell ⟨b, i, none⟩ v).heap[b]? = some (.cells (cs.setIfInBounds i v) t fr) := by
  simp [World.setCell, Array.getElem?_modify, h]
theorem LogAt.set1 {w : World} {L M N : Nat} {kv lv : Value} (h : LogAt w L M N kv lv) (v : Value) : LogAt (w.setCell ⟨L, 1, none⟩ v) L M N kv v := by
  unfold LogAt; rw [setCell_rowL h]; rfl
theorem Rd.setOther {w : World} {g e : Nat} {xs : List Value} (h : Rd w (some ⟨g, 0, none⟩) e xs) {p : Addr} (hp : g ≠ p.block) (u : Value) : Rd (w.setCell p u) (some ⟨g, 0, none⟩) e xs := by
  rcases h with h | ⟨b, o, cur, fr, hs, hb, hi⟩
  · exact .inl h
  · obtain ⟨rfl, rfl⟩ : g = b ∧ 0 = o := by simpa using hs
    exact .inr ⟨_, _, cur, fr, rfl, (Below.heap_setCell _ _ _ _ hp).trans hb, hi⟩
theorem rd_cellsL {w : World} {g : Nat} {cs : List Value} {t : TypeId} {fr : Nat × Nat} (h : w.heap[g]? = some (.cells cs.toArray t fr)) : Rd w (some ⟨g, 0, none⟩) t cs :=
  .inr ⟨g, 0, _, fr, rfl, h, fun i hi => by simp [hi]⟩
def F10 : Nat → Bool := fun j => j == 10
theorem F10_in : ∀ j, F10 j = true → j ∈ [10] := fun j h => by unfold F10 at h; simpa using h
section
variable {P : Program} {w : World} {ops : Array Oper} {o : Oper} {a : Act} {K : Act → World → Prop} {Q : Exit → Act → World → Prop} {E : Prop}
/-- cells appended onto an owned slice, as a step of a region that draws its order -/
theorem stepAppL (T e : TypeId) (z : Value) (size bytes : Nat) (ht : P.underlying T = some (.slice e)) (hinfo : (P.info? e).map (fun i => (i.zero, i.size, i.bytes)) = some (some z, size, bytes)) (hzs : z.cells.size = size) (hsz : 0 < size)
    (hgd : o.guard = none) (s x : Operand) (ho : o.op = .call { callee := .builtin .append, args := #[s, x], argTypes := #[T, T] })
    (base : Nat) (v : Value) (n : Nat) (xs : List Value) (hs : a.eval s = v) (hown : w.ownsRow base e size v n xs) (ad : Addr) (m c : Nat) (news : List Value) (hx : a.eval x = .slice (some ad) m c) (es : TypeId)
    (hu : Rd w (some ad) es news) (hl : news.length = m * size) (h1 : ∀ u ∈ news, u.oneCell' = true) (hm : 0 < m) (hn : n + m ≤ 140737488355328) (hnb : (n + m) * bytes ≤ 140737488355328) (hbase : base ≤ w.heap.size) (H : Nat) (hH : w.heap.size = H)
    (h : ∀ g cap w', w'.ownsRow base e size (.slice (some ⟨g, 0, none⟩) (n + m) cap) (n + m) (xs ++ news) → w.grownBy w' v.ownBlock → (v.ownBlock = some g ∨ g = H) → g < w'.heap.size → K (a.put o.dst (.slice (some ⟨g, 0, none⟩) (n + m) cap)) w') :
    if Region.wanted o (yielded ops a.tmps) = true then Oper.wp P o a w K Q else E := by
  obtain ⟨i, hi, hz, hsz', hb⟩ := info_parts hinfo
  exact step_append_lies w hgd s x T ho base e i z size bytes ht hi hz hsz' hb hzs hsz v n xs hs hown ad m c news hx hl hu.news h1 hm (by simp only [maxLen]; omega) (by omega) hbase H hH h
end
theorem Named_t (s : ByteArray) (hs : s.size ≤ 9223372036854775807) (hn : named s = true) (w : World) : Calls Tryd.prog 100 #[.string s] w fun e w' => e = .returned (.bool true) ∧ Below w.heap.size w w' := by
  rw [← hn]; exact Named_calls s hs w
end Go.Proofs.YtkioddmhjbaleaaDoor
/- Walk: a log's entries, of one name: a map of one entry is ranged over. -/
namespace Go.Proofs.YtkioddmhjbaleaaDoor
open Go.RowKit
set_option linter.unusedVariables false
set_option linter.unusedSimpArgs false
open Go.ChangeMaps (setBlock)
theorem run_range_one (w : World) (N : Nat) (es : Array MapEntry) (c : Nat) (h : MapAt w N (.map es c)) : (Instr.range 150 (.map (some N))).run Tryd.prog w = .ok (.pointer (some ⟨w.heap.size, 0, none⟩)) (w.alloc (.mapIter (some N) c #[] c)) :=
  run_range_map w _ _ _ N es c Tryd.underlying150 h
theorem setBlock_get {w : World} {r : Nat} {o o' : Obj} (h : w.heap[r]? = some o) : (setBlock w r o').heap[r]? = some o' := by
  have hlt := lt_of_heap h
  unfold setBlock
  simp [hlt]
theorem setBlock_other {w : World} {r b : Nat} {o' : Obj} (hb : b ≠ r) : (setBlock w r o').heap[b]? = w.heap[b]? := by
  unfold setBlock
  simp only [Array.getElem?_setIfInBounds]
  rw [if_neg (fun e => hb e.symm)]
theorem setBlock_below {B : Nat} {w0 w : World} (h : Below B w0 w) {r : Nat} (hM : B ≤ r) (o' : Obj) : Below B w0 (setBlock w r o') :=
  h.trans ⟨rfl, rfl, rfl, by unfold setBlock; simp, fun b hb => setBlock_other (by omega)⟩
/-- the first step hands the one entry out -/
theorem next_first (w : World) (r N : Nat) (k v : Value) (hr : w.heap[r]? = some (.mapIter (some N) 1 #[] 1)) (hb : MapAt w N (.map #[{ key := k, val := v, born := 0 }] 1)) :
    ∃ w1 : World, (w1 = w ∨ w1 = w.drew) ∧ ∀ ty, (Instr.next (.pointer (some ⟨r, 0, none⟩)) false ty).run Tryd.prog w = .ok (.tuple #[.bool true, k, v]) (setBlock w1 r (.mapIter (some N) 1 #[0] 1)) := by
  refine ⟨w, .inl rfl, fun ty => ?_⟩
  have hold : ∀ x ∈ (#[{ key := k, val := v, born := 0 }] : Array MapEntry).toList, x.born < 1 := fun x hx => by
    simp only [List.mem_singleton] at hx; subst hx; exact Nat.one_pos
  simp only [Instr.next, getObj, Sem.run_bind, Sem.run, hr, show w.heap[N]? = some (.map #[{ key := k, val := v, born := 0 }] 1) from hb, Result.andThen, next_test_false #[] #[{ key := k, val := v, born := 0 }] 1 1 hold (Nat.le_refl _), Bool.false_eq_true, if_false]
  simp [choose, Question.forced, Sem.run, run_setObj_at hr]
  try rfl
/-- the second step ends it -/
theorem next_last (w : World) (r N : Nat) (k v : Value) (hr : w.heap[r]? = some (.mapIter (some N) 1 #[0] 1)) (hb : MapAt w N (.map #[{ key := k, val := v, born := 0 }] 1)) (ty : TypeId) :
    (Instr.next (.pointer (some ⟨r, 0, none⟩)) false ty).run Tryd.prog w = .ok (.tuple #[.bool false]) w := by
  have hold : ∀ x ∈ (#[{ key := k, val := v, born := 0 }] : Array MapEntry).toList, x.born < 1 := fun x hx => by
    simp only [List.mem_singleton] at hx; subst hx; exact Nat.one_pos
  rcases run_next_at (P := Tryd.prog) w ty r N 1 1 #[0] _ 1 hr hb hold (Nat.le_refl _) with ⟨_, h⟩ | ⟨e, he, _⟩
  · exact h
  · exfalso; simp [leftOf] at he
theorem entry_one (w : World) (r N : Nat) (k v : Value) (hr : w.heap[r]? = some (.mapIter (some N) 1 #[0] 1)) (hb : MapAt w N (.map #[{ key := k, val := v, born := 0 }] 1)) :
    (Instr.entry (.pointer (some ⟨r, 0, none⟩))).run Tryd.prog w = .ok (.tuple #[k, v]) w := by
  exact run_entry_at (P := Tryd.prog) w r N 1 #[] _ 1 { key := k, val := v, born := 0 } hr hb (by simp) (by simp)
theorem run_lookup_oneV (w : World) (s : ByteArray) (M : Nat) (v : Value) (h : MapAt w M (.map #[{ key := .string s, val := v, born := 0 }] 1)) : (Instr.lookup 149 (.map (some M)) (.string s) false).run Tryd.prog w = .ok v w := run_lookup_one w s M v h false
theorem run_lookup_oneO (w : World) (s : ByteArray) (M : Nat) (v : Value) (h : MapAt w M (.map #[{ key := .string s, val := v, born := 0 }] 1)) : (Instr.lookup 149 (.map (some M)) (.string s) true).run Tryd.prog w = .ok (.tuple #[v, .bool true]) w := run_lookup_one w s M v h true
set_option maxRecDepth 20000 in
theorem run_field_last64 (s : ByteArray) (k0 k1 k2 k3 k4 k5 k6 k7 k8 k9 k10 k11 k12 k13 k14 k15 k16 k17 k18 k19 k20 k21 k22 k23 k24 k25 k26 k27 k28 k29 k30 k31 j0 j1 j2 j3 j4 j5 j6 j7 j8 j9 j10 j11 j12 j13 j14 j15 j16 j17 j18 j19 j20 j21 j22 j23 j24 j25 j26 j27 j28 j29 j30 j31 : UInt8) (w : World) : (Instr.field 155 (.agg (laV s [k0, k1, k2, k3, k4, k5, k6, k7, k8, k9, k10, k11, k12, k13, k14, k15, k16, k17, k18, k19, k20, k21, k22, k23, k24, k25, k26, k27, k28, k29, k30, k31] 0 0 [j0, j1, j2, j3, j4, j5, j6, j7, j8, j9, j10, j11, j12, j13, j14, j15, j16, j17, j18, j19, j20, j21, j22, j23, j24, j25, j26, j27, j28, j29, j30, j31])) 2).run Tryd.prog w = .ok (.agg (dV [j0, j1, j2, j3, j4, j5, j6, j7, j8, j9, j10, j11, j12, j13, j14, j15, j16, j17, j18, j19, j20, j21, j22, j23, j24, j25, j26, j27, j28, j29, j30, j31])) w := by kernel_rfl
theorem run_field_last (s : ByteArray) : ∀ (d : List UInt8), d.length = 32 → ∀ (f : List UInt8), f.length = 32 → ∀ w : World, (Instr.field 155 (.agg (laV s d 0 0 f)) 2).run Tryd.prog w = .ok (.agg (dV f)) w := by
  intro key hk
  match key, hk with
  | [k0, k1, k2, k3, k4, k5, k6, k7, k8, k9, k10, k11, k12, k13, k14, k15, k16, k17, k18, k19, k20, k21, k22, k23, k24, k25, k26, k27, k28, k29, k30, k31], _ =>
    intro f hf
    match f, hf with
    | [j0, j1, j2, j3, j4, j5, j6, j7, j8, j9, j10, j11, j12, j13, j14, j15, j16, j17, j18, j19, j20, j21, j22, j23, j24, j25, j26, j27, j28, j29, j30, j31], _ => exact run_field_last64 s k0 k1 k2 k3 k4 k5 k6 k7 k8 k9 k10 k11 k12 k13 k14 k15 k16 k17 k18 k19 k20 k21 k22 k23 k24 k25 k26 k27 k28 k29 k30 k31 j0 j1 j2 j3 j4 j5 j6 j7 j8 j9 j10 j11 j12 j13 j14 j15 j16 j17 j18 j19 j20 j21 j22 j23 j24 j25 j26 j27 j28 j29 j30 j31
set_option maxRecDepth 20000 in
theorem run_build_ent32L (k : Int) (k0 k1 k2 k3 k4 k5 k6 k7 k8 k9 k10 k11 k12 k13 k14 k15 k16 k17 k18 k19 k20 k21 k22 k23 k24 k25 k26 k27 k28 k29 k30 k31 : UInt8) (w : World) : (Instr.build 200 #[(0, .int .i64 k), (1, .agg (dV [k0, k1, k2, k3, k4, k5, k6, k7, k8, k9, k10, k11, k12, k13, k14, k15, k16, k17, k18, k19, k20, k21, k22, k23, k24, k25, k26, k27, k28, k29, k30, k31]))]).run Tryd.prog w = .ok (.agg (eV k [k0, k1, k2, k3, k4, k5, k6, k7, k8, k9, k10, k11, k12, k13, k14, k15, k16, k17, k18, k19, k20, k21, k22, k23, k24, k25, k26, k27, k28, k29, k30, k31])) w := by kernel_rfl
theorem run_build_entL (k : Int) : ∀ (v : List UInt8), v.length = 32 → ∀ w : World, (Instr.build 200 #[(0, .int .i64 k), (1, .agg (dV v))]).run Tryd.prog w = .ok (.agg (eV k v)) w := by
  intro v hv
  match v, hv with
  | [k0, k1, k2, k3, k4, k5, k6, k7, k8, k9, k10, k11, k12, k13, k14, k15, k16, k17, k18, k19, k20, k21, k22, k23, k24, k25, k26, k27, k28, k29, k30, k31], _ => exact run_build_ent32L k k0 k1 k2 k3 k4 k5 k6 k7 k8 k9 k10 k11 k12 k13 k14 k15 k16 k17 k18 k19 k20 k21 k22 k23 k24 k25 k26 k27 k28 k29 k30 k31
theorem bld_entL {ops : Array Oper} {rest : List Oper} {op : Oper} {a : Act} {w : World} {Q : Exit → Act → World → Prop} (hgd : op.guard = none) (x y : Operand) (ho : op.op = .build 200 #[(0, x), (1, y)]) (k : Int) (d : List UInt8) (hd : d.length = 32) (hx : a.eval x = .int .i64 k) (hy : a.eval y = .agg (dV d))
    (hw : wpList Tryd.prog ops Q rest (a.put op.dst (.agg (eV k d))) w) : wpList Tryd.prog ops Q (op :: rest) a w := by
  refine wpList_plain hgd fun K hK => ?_
  unfold Oper.wp execOp
  simp only [ho, List.map_toArray, List.map_cons, List.map_nil, hx, hy, Sem.run_bind, run_build_entL k d hd w, Result.andThen_ok, Sem.run_pure]
  exact hK _ _ hw
set_option maxRecDepth 20000 in
set_option maxHeartbeats 1000000 in
theorem entries_calls (s : ByteArray) (key lf : List UInt8) (HK : key.length = 32) (hlf : lf.length = 32) (ki : Int) (L M N : Nat) (kv lv : Value) (w : World) (hL : LogAt w L M N kv lv) (hM : MapAt w M (.map #[{ key := .string s, val := .agg (laV s key 0 0 lf), born := 0 }] 1)) (hN : MapAt w N (.map #[{ key := .int .i64 ki, val := .string s, born := 0 }] 1)) :
    Calls Tryd.prog 104 #[.pointer (some ⟨L, 0, none⟩)] w fun e w' => ∃ a c, e = .returned (.slice a 1 c) ∧ 1 ≤ c ∧ c ≤ 9223372036854775807 ∧ Rd w' a 200 (cellsE [⟨ki, lf⟩]) ∧ Below w.heap.size w w' := by
  have LFL := Lib.hid hlf
  have NL := Lib.hid hN
  have ML := Lib.hid hM
  have LG := Lib.hid hL
  clear hlf hM hL
  have c3 := LG.out.c3
  have hrg := run_range_one w N _ _ hN
  clear hN
  go_enter Tryd.func104, Tryd.ntmps104
  go_wp2_with fail
  clear hrg c3
  obtain ⟨r, hr⟩ : ∃ z, z = w.heap.size := ⟨_, rfl⟩
  obtain ⟨w1, hw1⟩ : ∃ z, z = w.alloc (.mapIter (some N) 1 #[] 1) := ⟨_, rfl⟩
  rw [← hr, ← hw1]
  have B1 := Lib.hid (show Below w.heap.size w w1 by rw [hw1]; exact (Below.refl _ _).alloc (Nat.le_refl _) _)
  have I1 := Lib.hid (show w1.heap[r]? = some (.mapIter (some N) 1 #[] 1) by rw [hw1, hr]; exact heap_alloc_new _ _)
  have HR := Lib.hid hr
  clear hr hw1
  have N1 := Lib.hid (NL.out.below B1.out)
  have M1 := Lib.hid (ML.out.below B1.out)
  have L1 := Lib.hid (LG.out.below B1.out)
  obtain ⟨w1', hw1', hnx⟩ := next_first w1 r N _ _ I1.out N1.out
  obtain ⟨w2, hw2⟩ : ∃ z, z = setBlock w1' r (.mapIter (some N) 1 #[0] 1) := ⟨_, rfl⟩
  rw [← hw2] at hnx
  have bw : Below w1.heap.size w1 w1' := by rcases hw1' with rfl | rfl; exact Below.refl _ _; exact (Below.refl _ _).drew
  have I1' : w1'.heap[r]? = some (.mapIter (some N) 1 #[] 1) := (bw.block r (lt_of_heap I1.out)).trans I1.out
  have B2 := Lib.hid (show Below w.heap.size w w2 by rw [hw2]; exact setBlock_below (B1.out.trans (bw.mono B1.out.size)) (by rw [HR.out]; exact Nat.le_refl _) _)
  have I2 := Lib.hid (show w2.heap[r]? = some (.mapIter (some N) 1 #[0] 1) by rw [hw2]; exact setBlock_get I1')
  clear hw1' hw2 bw I1'
  have N2 := Lib.hid (NL.out.below B2.out)
  have M2 := Lib.hid (ML.out.below B2.out)
  have L2 := Lib.hid (LG.out.below B2.out)
  have hen := entry_one w2 r N _ _ I2.out N2.out
  have hlk := run_lookup_oneV w2 s M _ M2.out
  have hfd := run_field_last s key HK lf LFL.out w2
  have c2 := L2.out.c2
  have HKH := Lib.hid HK
  clear HK
  obtain ⟨X, hX⟩ : ∃ z, z = w2.heap.size := ⟨_, rfl⟩
  obtain ⟨w3, hw3⟩ : ∃ z, z = w2.alloc (.cells (eV ki lf) 200) := ⟨_, rfl⟩
  have B3 := Lib.hid (show Below w.heap.size w w3 by rw [hw3]; exact B2.out.alloc B2.out.size _)
  have B23 := Lib.hid (show Below w2.heap.size w2 w3 by rw [hw3]; exact (Below.refl _ _).alloc (Nat.le_refl _) _)
  have GX := Lib.hid (show w3.heap[X]? = some (.cells (eV ki lf) 200 (0, 0)) by rw [hw3, hX]; exact heap_alloc_new _ _)
  have HX := Lib.hid hX
  have HW3 := Lib.hid hw3
  clear hX hw3
  have hs3 : w2.heap.size ≤ w3.heap.size := B23.out.size
  refine wp_loop_rounds 2 ?_
  rw [rounds_succ]
  go_wp2_with (first
    | (refine bld_entL rfl (.tmp 17) (.tmp 24) rfl ki lf LFL.out (by rfl) (by rfl) ?_)
    | (refine wpl_build1t 161 200 _ 33 40 Tryd.underlying161 info_entz (by omega) (by omega) rfl (.tmp 25) rfl (eV ki lf) (by rfl) (eV_size _ _ LFL.out) ?_; rw [← HX.out, ← HW3.out]; simp only [Act.put, List.setIfInBounds_toArray, List.set_cons_zero, List.set_cons_succ])
    | (at_builtin; refine appAllw 161 200 (.agg (eV 0 nz)) 33 40 Tryd.underlying161 info_entz (eV_size 0 nz nz_length) (by omega) rfl (.tmp 16) (.tmp 26) (by rfl) w2.heap.size (.slice none 0 0) 0 [] (by rfl) (World.ownsRow_nil _ _ _ _) (some ⟨X, 0, none⟩) 1 1 (eL ⟨ki, lf⟩) (by rfl) _ (rd_cellsL (cs := eL ⟨ki, lf⟩) GX.out) (by rw [eL_length LFL.out]) (eL_one _) (by omega) (by omega) hs3 ?_; intro av3 cp3 w9 hown9 hb9; have O9 := Lib.hid hown9; have B9 := Lib.hid hb9; clear hown9 hb9; simp only [Act.put, List.setIfInBounds_toArray, List.set_cons_zero, List.set_cons_succ]))
  clear hnx hen hlk hfd c2
  have B29 := Lib.hid (B23.out.trans B9.out)
  have hnl := next_last w9 r N _ _ ((B29.out.block r (lt_of_heap I2.out)).trans I2.out) (N2.out.below B29.out)
  rw [rounds_succ]
  go_wp2_with fail
  go_ret
  have hcp := own_cappW O9.out
  simp only [Nat.zero_add, List.nil_append] at hcp
  exact ⟨av3, cp3, by rfl, hcp.1, hcp.2, by rw [cellsE_one]; exact Rd.of_own O9.out, B2.out.trans (B29.out.mono B2.out.size)⟩
end Go.Proofs.YtkioddmhjbaleaaDoor
/- What is found, in memory: 37 cells. -/
namespace Go.Proofs.YtkioddmhjbaleaaDoor
open Go.RowKit
set_option linter.unusedVariables false
set_option linter.unusedSimpArgs false
def fdL (s : ByteArray) (key : List UInt8) (t i : Int) (pv mv : Value) : List Value := nL s key t ++ [.int .i64 i, pv, mv]
def fdV (s : ByteArray) (key : List UInt8) (t i : Int) (pv mv : Value) : Array Value := (fdL s key t i pv mv).toArray
theorem zfd : (#[.string ⟨#[]⟩, .int .u8 0, .int .u8 0, .int .u8 0, .int .u8 0, .int .u8 0, .int .u8 0, .int .u8 0, .int .u8 0, .int .u8 0, .int .u8 0, .int .u8 0, .int .u8 0, .int .u8 0, .int .u8 0, .int .u8 0, .int .u8 0, .int .u8 0, .int .u8 0, .int .u8 0, .int .u8 0, .int .u8 0, .int .u8 0, .int .u8 0, .int .u8 0, .int .u8 0, .int .u8 0, .int .u8 0, .int .u8 0, .int .u8 0, .int .u8 0, .int .u8 0, .int .u8 0, .int .i64 0, .int .i64 0, .slice none 0 0, .slice none 0 0] : Array Value) = fdV ⟨#[]⟩ nz 0 0 (.slice none 0 0) (.slice none 0 0) := by kernel_rfl
theorem info_found : (Tryd.prog.info? 113).map (·.size) = some 37 := by kernel_rfl
section
variable {s s' : ByteArray} {key key' : List UInt8} {t t' i : Int} {pv mv : Value} {w : World} {X : Nat} {ty : TypeId} {fr : Nat × Nat}
theorem fdL_length (hk : key.length = 32) : (fdL s key t i pv mv).length = 37 := by unfold fdL; rw [List.length_append, nL_length s key t hk]; rfl
theorem fdV_size (hk : key.length = 32) : (fdV s key t i pv mv).size = 37 := by unfold fdV; rw [List.size_toArray]; exact fdL_length hk
theorem fdV_one (h1 : pv.oneCell' = true) (h2 : mv.oneCell' = true) : (fdV s key t i pv mv).all (·.oneCell') = true := by
  unfold fdV fdL
  refine all_oneCell_toArray fun u hu => ?_
  rcases List.mem_append.1 hu with hu | hu
  · exact nL_one _ _ _ u hu
  · simp only [List.mem_cons, List.not_mem_nil, or_false] at hu
    rcases hu with rfl | rfl | rfl
    · rfl
    · exact h1
    · exact h2
theorem fdV_put (hk : key.length = 32) (hk' : key'.length = 32) : (setRange (fdV s key t i pv mv).toList 0 (nL s' key' t')).toArray = fdV s' key' t' i pv mv := by
  apply Array.ext'
  show setRange (fdL s key t i pv mv) 0 (nL s' key' t') = fdL s' key' t' i pv mv
  apply List.ext_getElem?
  intro j
  rw [setRange_get _ _ _ _ (by rw [fdL_length hk, nL_length s' key' t' hk']; omega), nL_length s' key' t' hk']
  unfold fdL
  split
  · rename_i h
    rw [List.getElem?_append_left (by rw [nL_length s' key' t' hk']; omega), Nat.sub_zero]
  · rename_i h
    rw [List.getElem?_append_right (by rw [nL_length s key t hk]; omega), List.getElem?_append_right (by rw [nL_length s' key' t' hk']; omega), nL_length s key t hk, nL_length s' key' t' hk']
theorem fdV_note (hk : key.length = 32) (hk' : key'.length = 32) (hg : w.heap[X]? = some (.cells (fdV s key t i pv mv) ty fr)) : (w.setCells X 0 (nL s' key' t')).heap[X]? = some (.cells (fdV s' key' t' i pv mv) ty fr) := by
  rw [hsetCells _ w 0 _ ty fr hg, fdV_put hk hk']
theorem fdV_34 (hk : key.length = 32) (i' : Int) : (fdV s key t i pv mv).setIfInBounds 34 (.int .i64 i') = fdV s key t i' pv mv := by
  unfold fdV fdL; apply Array.toList_inj.1; rw [Array.toList_setIfInBounds]
  show (nL s key t ++ [_, _, _]).set 34 _ = nL s key t ++ [_, _, _]
  rw [List.set_append_right _ _ (by rw [nL_length s key t hk]; omega), nL_length s key t hk]; rfl
theorem fdV_35 (hk : key.length = 32) (pv' : Value) : (fdV s key t i pv mv).setIfInBounds 35 pv' = fdV s key t i pv' mv := by
  unfold fdV fdL; apply Array.toList_inj.1; rw [Array.toList_setIfInBounds]
  show (nL s key t ++ [_, _, _]).set 35 _ = nL s key t ++ [_, _, _]
  rw [List.set_append_right _ _ (by rw [nL_length s key t hk]; omega), nL_length s key t hk]; rfl
theorem fdV_36 (hk : key.length = 32) (mv' : Value) : (fdV s key t i pv mv).setIfInBounds 36 mv' = fdV s key t i pv mv' := by
  unfold fdV fdL; apply Array.toList_inj.1; rw [Array.toList_setIfInBounds]
  show (nL s key t ++ [_, _, _]).set 36 _ = nL s key t ++ [_, _, _]
  rw [List.set_append_right _ _ (by rw [nL_length s key t hk]; omega), nL_length s key t hk]; rfl
theorem fdV_c (hk : key.length = 32) (hg : w.heap[X]? = some (.cells (fdV s key t i pv mv) ty fr)) : w.cell? ⟨X, 34, none⟩ = some (.int .i64 i) ∧ w.cell? ⟨X, 35, none⟩ = some pv ∧ w.cell? ⟨X, 36, none⟩ = some mv := by
  have h : ∀ j, 34 ≤ j → w.cell? ⟨X, j, none⟩ = [Value.int .i64 i, pv, mv][j - 34]? := fun j hj => by
    rw [cell_of_row w X j _ ty fr hg]
    unfold fdV fdL
    rw [List.getElem?_toArray, List.getElem?_append_right (by rw [nL_length s key t hk]; omega), nL_length s key t hk]
  exact ⟨h 34 (by omega), h 35 (by omega), h 36 (by omega)⟩
theorem fdV_there (hk : key.length = 32) (hg : w.heap[X]? = some (.cells (fdV s key t i pv mv) ty (0, 0))) : w.there X 0 34 := by
  intro j hj
  refine ⟨?_, frozen_of_row _ _ _ _ _ hg⟩
  rw [cell_of_row w X (0 + j) _ ty _ hg, Array.getElem?_eq_getElem (by rw [fdV_size hk]; omega)]
  rfl
theorem fdV_whole (hg : w.heap[X]? = some (.cells (fdV s key t i pv mv) ty fr)) : w.rangeAt X 0 (fdL s key t i pv mv) := by
  intro j v hj
  rw [Nat.zero_add, cell_of_row w X j _ ty fr hg]
  unfold fdV
  rw [List.getElem?_toArray]; exact hj
theorem fdV_key (hk : key.length = 32) (hg : w.heap[X]? = some (.cells (fdV s key t i pv mv) ty fr)) : w.rangeAt X 1 (key.map vB) := by
  intro j v hj
  have hlt : j < 32 := by have := (List.getElem?_eq_some_iff.1 hj).1; simpa [hk] using this
  rw [cell_of_row w X (1 + j) _ ty fr hg]
  unfold fdV fdL nL
  rw [List.getElem?_toArray, List.cons_append, show 1 + j = j + 1 by omega, List.getElem?_cons_succ, List.append_assoc, List.getElem?_append_left (by rw [List.length_map]; omega)]
  exact hj
theorem laV_note (hg : w.heap[X]? = some (.cells (laV s key t i key') ty fr)) (hk : key.length = 32) : w.rangeAt X 0 (nL s key t) := by
  intro j v hj
  have hlt : j < 34 := by have := (List.getElem?_eq_some_iff.1 hj).1; rwa [nL_length s key t hk] at this
  rw [Nat.zero_add, cell_of_row w X j _ ty fr hg]
  unfold laV laL
  rw [List.getElem?_toArray, List.getElem?_append_left (by rw [nL_length s key t hk]; omega)]
  exact hj
theorem laV_at (hg : w.heap[X]? = some (.cells (laV s key t i key') ty fr)) (hk : key.length = 32) : w.cell? ⟨X, 34, none⟩ = some (.int .i64 i) := by
  rw [cell_of_row w X 34 _ ty fr hg]
  unfold laV laL
  rw [List.getElem?_toArray, List.getElem?_append_right (by rw [nL_length s key t hk]; omega), nL_length s key t hk]; rfl
end
section
variable {ops : Array Oper} {rest : List Oper} {op : Oper} {a : Act} {w : World} {Q : Exit → Act → World → Prop}
theorem ld_found (hgd : op.guard = none) (x : Operand) (ho : op.op = .load 113 x) (g : Nat) (hx : a.eval x = .pointer (some ⟨g, 0, none⟩)) (s : ByteArray) (key : List UInt8) (t i : Int) (pv mv : Value) (hk : key.length = 32) (ty : TypeId) (fr : Nat × Nat) (hg : w.heap[g]? = some (.cells (fdV s key t i pv mv) ty fr))
    (h : wpList Tryd.prog ops Q rest (a.put op.dst (.agg (fdV s key t i pv mv))) w) : wpList Tryd.prog ops Q (op :: rest) a w :=
  wpList_load_mid hgd _ x ho g 0 hx (fdL s key t i pv mv) _ (fdV_whole hg) Tryd.underlying113 rfl (by rw [fdL_length hk]; exact info_found) h
/-- a whole row is stored over another -/
theorem st_anyRow (hgd : op.guard = none) (ty : TypeId) (x y : Operand) (ho : op.op = .store ty x y) (n : Nat) (hi : (Tryd.prog.info? ty).map (·.size) = some n) (g : Nat) (cs : Array Value) (hcs : cs.size = n) (h1 : cs.all (·.oneCell') = true) (hx : a.eval x = .pointer (some ⟨g, 0, none⟩)) (hy : a.eval y = .agg cs) (old : Array Value) (hold : old.size = n) (t : TypeId) (hg : w.heap[g]? = some (.cells old t (0, 0)))
    (h : wpList Tryd.prog ops Q rest (a.put op.dst undef) (w.setRow g cs)) : wpList Tryd.prog ops Q (op :: rest) a w :=
  wpList_store_row hgd _ x y ho g cs hx hy t old hg (by rw [hcs]; exact hi) (by rw [hcs, hold]) h1 h
theorem found_load {s : ByteArray} {key : List UInt8} {t i : Int} {pv mv : Value} {g : Nat} {ty : TypeId} {fr : Nat × Nat} (hk : key.length = 32) (hg : w.heap[g]? = some (.cells (fdV s key t i pv mv) ty fr)) : (loadVar 113 ⟨g, 0, none⟩).run Tryd.prog w = .ok (.agg (fdV s key t i pv mv)) w :=
  run_loadVar_mid w g 0 113 (fdL s key t i pv mv) _ (fdV_whole hg) Tryd.underlying113 rfl (by rw [fdL_length hk]; exact info_found)
end
end Go.Proofs.YtkioddmhjbaleaaDoor
/- Walk: log.Add onto a new log. -/
namespace Go.Proofs.YtkioddmhjbaleaaDoor
open Go.RowKit
set_option linter.unusedVariables false
set_option linter.unusedSimpArgs false
/-- what Add of a name to a new log leaves -/
def AddRet (B : Nat) (w : World) (s : ByteArray) (key : List UInt8) (L M N : Nat) (kv : Value) (e : Ending) (w' : World) : Prop :=
  ∃ (ki : Nat) (lf : List UInt8) (a : Option Addr) (cp : Nat), ki < 4294967296 ∧ lf.length = 32 ∧ e = .returned (.tuple #[.int .i64 0, .nilIface]) ∧ LogAt w' L M N kv (.slice a 1 cp) ∧ Rd w' a 23 (lf.map vB) ∧ 1 ≤ cp ∧ cp ≤ 9223372036854775807 ∧ MapAt w' M (.map #[{ key := .string s, val := .agg (laV s key 0 0 lf), born := 0 }] 1) ∧ MapAt w' N (.map #[{ key := .int .i64 (ki : Int), val := .string s, born := 0 }] 1) ∧ Below B w w'
set_option maxRecDepth 20000 in
set_option maxHeartbeats 4000000 in
theorem LAdd_calls (s : ByteArray) (hnm : named s = true) (key : List UInt8) (hk : key.length = 32) (L M N : Nat) (kv : Value) (B : Nat) (w : World) (hL : LogAt w L M N kv (.slice none 0 0)) (hM : MapAt w M (.map #[] 0)) (hN : MapAt w N (.map #[] 0)) (hmn : M ≠ N) (hB : B ≤ L ∧ B ≤ M ∧ B ≤ N ∧ B ≤ w.heap.size) (hro : RoundsAt w) :
    Calls Tryd.prog 63 #[.pointer (some ⟨L, 0, none⟩), .string s, .agg (dV key)] w fun e w' => AddRet B w s key L M N kv e w' := by
  have KL := Lib.hid hk
  have RO := Lib.hid hro
  have HNM := Lib.hid hnm
  have HNS := Lib.hid (named_size hnm)
  have LS := Lib.hid (laV_size ⟨#[]⟩ nz 0 0 nz nz_length nz_length)
  have NVS := Lib.hid (nV_size34 s key 0 hk)
  have HMN := Lib.hid hmn
  have HBB := Lib.hid hB
  clear hk hro hnm hmn hB
  obtain ⟨K, hK⟩ : ∃ z, z = w.heap.size := ⟨_, rfl⟩
  obtain ⟨w1, hw1⟩ : ∃ z, z = w.alloc (.cells (dV key) 23) := ⟨_, rfl⟩
  have st1 : Below w.heap.size w w1 := by rw [hw1]; exact (Below.refl _ _).alloc (Nat.le_refl _) _
  have B1 := Lib.hid (show Below w.heap.size w w1 from Below.trans (Below.refl w.heap.size w) (Below.mono st1 (Below.size (Below.refl w.heap.size w))))
  have GK_1 := Lib.hid (show w1.heap[K]? = some (.cells (dV key) 23 (0, 0)) by rw [hw1, hK]; exact heap_alloc_new _ _)
  have LK_1 := Lib.hid (lt_of_heap GK_1.out)
  have HK := Lib.hid hK
  have Hw1 := Lib.hid hw1
  clear hK hw1 st1
  have SZK := Lib.hid (show K = w.heap.size from HK.out)
  have LG_1 := Lib.hid ((hL).below (show Below w.heap.size w w1 from B1.out))
  have MM_1 := Lib.hid ((hM).below (show Below w.heap.size w w1 from B1.out))
  have MN_1 := Lib.hid ((hN).below (show Below w.heap.size w w1 from B1.out))
  clear hL hM hN
  go_enter Tryd.func63, Tryd.ntmps63
  go_upto_region 1 with fail
  rw [← SZK.out, ← Hw1.out]
  go_wp2_with fail
  refine (Named_t s (by have := HNS.out; omega) HNM.out w1).mono ?_
  rintro e w2 ⟨rfl, hb2⟩
  have B2 := Lib.hid (show Below w.heap.size w w2 from Below.trans B1.out (Below.mono hb2 (Below.size B1.out)))
  have GK_2 := Lib.hid ((Below.block hb2 K LK_1.out).trans GK_1.out)
  have LK_2 := Lib.hid (Nat.lt_of_lt_of_le LK_1.out (Below.size hb2))
  have LG_2 := Lib.hid (LG_1.out.below hb2)
  have MM_2 := Lib.hid (MM_1.out.below hb2)
  have MN_2 := Lib.hid (MN_1.out.below hb2)
  clear hb2
  have c1 := LG_2.out.c1
  have c2 := LG_2.out.c2
  have c3 := LG_2.out.c3
  have hlk := run_lookup_empty w2 s M MM_2.out _ (zero_last w2)
  have hln := fun k => run_lookup_emptyI w2 k N MN_2.out _ (zero_str w2)
  have hlen := run_len_map w2 M #[] 0 MM_2.out 3
  obtain ⟨V, hV⟩ : ∃ z, z = w2.heap.size := ⟨_, rfl⟩
  obtain ⟨w3, hw3⟩ : ∃ z, z = w2.alloc (.cells (laV ⟨#[]⟩ nz 0 0 nz) 155) := ⟨_, rfl⟩
  have st3 : Below w2.heap.size w2 w3 := by rw [hw3]; exact (Below.refl _ _).alloc (Nat.le_refl _) _
  have B3 := Lib.hid (show Below w.heap.size w w3 from Below.trans B2.out (Below.mono st3 (Below.size B2.out)))
  have GK_3 := Lib.hid ((Below.block st3 K LK_2.out).trans GK_2.out)
  have LK_3 := Lib.hid (Nat.lt_of_lt_of_le LK_2.out (Below.size st3))
  have LG_3 := Lib.hid (LG_2.out.below st3)
  have MM_3 := Lib.hid (MM_2.out.below st3)
  have MN_3 := Lib.hid (MN_2.out.below st3)
  have GV_3 := Lib.hid (show w3.heap[V]? = some (.cells (laV ⟨#[]⟩ nz 0 0 nz) 155 (0, 0)) by rw [hw3, hV]; exact heap_alloc_new _ _)
  have LV_3 := Lib.hid (lt_of_heap GV_3.out)
  have HV := Lib.hid hV
  have Hw3 := Lib.hid hw3
  clear hV hw3 st3
  go_upto_region 4 with (first
    | (refine st_anyNew rfl 155 (.tmp 8) (.tmp 27) rfl 67 info_last (laV ⟨#[]⟩ nz 0 0 nz) LS.out (laV_one _ _ _ _ _) (by rfl) _ _ (by rfl) (by rfl) ?_))
  rw [← HV.out, ← Hw3.out]
  clear c1 c2 c3 hlk hln hlen
  have c1 := LG_3.out.c1
  have c2 := LG_3.out.c2
  have c3 := LG_3.out.c3
  have hlk := run_lookup_empty w3 s M MM_3.out _ (zero_last w3)
  have hln := fun k => run_lookup_emptyI w3 k N MN_3.out _ (zero_str w3)
  have hlen := run_len_map w3 M #[] 0 MM_3.out 3
  go_wp2_with fail
  refine (NIndex_calls s (by have := HNS.out; omega) w3 (RO.out.at_ B3.out)).mono ?_
  rintro e w4 ⟨ki, hki, rfl, hb4⟩
  have B4 := Lib.hid (show Below w.heap.size w w4 from Below.trans B3.out (Below.mono hb4 (Below.size B3.out)))
  have GK_4 := Lib.hid ((Below.block hb4 K LK_3.out).trans GK_3.out)
  have LK_4 := Lib.hid (Nat.lt_of_lt_of_le LK_3.out (Below.size hb4))
  have GV_4 := Lib.hid ((Below.block hb4 V LV_3.out).trans GV_3.out)
  have LV_4 := Lib.hid (Nat.lt_of_lt_of_le LV_3.out (Below.size hb4))
  have LG_4 := Lib.hid (LG_3.out.below hb4)
  have MM_4 := Lib.hid (MM_3.out.below hb4)
  have MN_4 := Lib.hid (MN_3.out.below hb4)
  have HKI := Lib.hid hki
  clear hki
  clear hb4
  clear c1 c2 c3 hlk hln hlen
  have c1 := LG_4.out.c1
  have c2 := LG_4.out.c2
  have c3 := LG_4.out.c3
  have hlk := run_lookup_empty w4 s M MM_4.out _ (zero_last w4)
  have hln := fun k => run_lookup_emptyI w4 k N MN_4.out _ (zero_str w4)
  have hlen := run_len_map w4 M #[] 0 MM_4.out 3
  obtain ⟨P, hP⟩ : ∃ z, z = w4.heap.size := ⟨_, rfl⟩
  obtain ⟨w5, hw5⟩ : ∃ z, z = w4.alloc (.cells (nV s key 0) 111) := ⟨_, rfl⟩
  have st5 : Below w4.heap.size w4 w5 := by rw [hw5]; exact (Below.refl _ _).alloc (Nat.le_refl _) _
  have B5 := Lib.hid (show Below w.heap.size w w5 from Below.trans B4.out (Below.mono st5 (Below.size B4.out)))
  have GK_5 := Lib.hid ((Below.block st5 K LK_4.out).trans GK_4.out)
  have LK_5 := Lib.hid (Nat.lt_of_lt_of_le LK_4.out (Below.size st5))
  have GV_5 := Lib.hid ((Below.block st5 V LV_4.out).trans GV_4.out)
  have LV_5 := Lib.hid (Nat.lt_of_lt_of_le LV_4.out (Below.size st5))
  have LG_5 := Lib.hid (LG_4.out.below st5)
  have MM_5 := Lib.hid (MM_4.out.below st5)
  have MN_5 := Lib.hid (MN_4.out.below st5)
  have GP_5 := Lib.hid (show w5.heap[P]? = some (.cells (nV s key 0) 111 (0, 0)) by rw [hw5, hP]; exact heap_alloc_new _ _)
  have LP_5 := Lib.hid (lt_of_heap GP_5.out)
  have HP := Lib.hid hP
  have Hw5 := Lib.hid hw5
  clear hP hw5 st5
  go_upto_region 11 with (first
    | ((refine ld_digG rfl (.tmp 5) rfl (K) 0 (by rfl) key KL.out (range_of_row GK_4.out) ?_); simp only [Act.put, List.setIfInBounds_toArray, List.set_cons_zero, List.set_cons_succ])
    | (refine bld_noteL rfl (.tmp 66) (.tmp 67) rfl s key KL.out (by rfl) (by rfl) ?_)
    | (refine st_anyNew rfl 111 (.tmp 13) (.tmp 68) rfl 34 info_noteL (nV s key 0) NVS.out (nV_one _ _ _) (by rfl) _ _ (by rfl) (by rfl) ?_))
  rw [← HP.out, ← Hw5.out]
  clear c1 c2 c3 hlk hln hlen
  have c1 := LG_5.out.c1
  have c2 := LG_5.out.c2
  have c3 := LG_5.out.c3
  have hlk := run_lookup_empty w5 s M MM_5.out _ (zero_last w5)
  have hln := fun k => run_lookup_emptyI w5 k N MN_5.out _ (zero_str w5)
  have hlen := run_len_map w5 M #[] 0 MM_5.out 3
  go_wp2_with (first
    | ((refine ld_noteL rfl (.tmp 13) rfl P (by rfl) s key 0 KL.out _ _ GP_5.out ?_); simp only [Act.put, List.setIfInBounds_toArray, List.set_cons_zero, List.set_cons_succ]))
  refine (leaf_calls s HNM.out key KL.out w5 (RO.out.at_ B5.out)).mono ?_
  rintro e w6 ⟨rfl, hb6⟩
  have B6 := Lib.hid (show Below w.heap.size w w6 from Below.trans B5.out (Below.mono hb6 (Below.size B5.out)))
  have GK_6 := Lib.hid ((Below.block hb6 K LK_5.out).trans GK_5.out)
  have LK_6 := Lib.hid (Nat.lt_of_lt_of_le LK_5.out (Below.size hb6))
  have GV_6 := Lib.hid ((Below.block hb6 V LV_5.out).trans GV_5.out)
  have LV_6 := Lib.hid (Nat.lt_of_lt_of_le LV_5.out (Below.size hb6))
  have GP_6 := Lib.hid ((Below.block hb6 P LP_5.out).trans GP_5.out)
  have LP_6 := Lib.hid (Nat.lt_of_lt_of_le LP_5.out (Below.size hb6))
  have LG_6 := Lib.hid (LG_5.out.below hb6)
  have MM_6 := Lib.hid (MM_5.out.below hb6)
  have MN_6 := Lib.hid (MN_5.out.below hb6)
  clear hb6
  obtain ⟨lf, hlf⟩ : ∃ z, z = tleaf (noteB s key 0) := ⟨_, rfl⟩
  rw [← hlf]
  have LFL := Lib.hid (show lf.length = 32 by rw [hlf]; exact tleaf_length _)
  clear hlf
  clear c1 c2 c3 hlk hln hlen
  have c1 := LG_6.out.c1
  have c2 := LG_6.out.c2
  have c3 := LG_6.out.c3
  have hlk := run_lookup_empty w6 s M MM_6.out _ (zero_last w6)
  have hln := fun k => run_lookup_emptyI w6 k N MN_6.out _ (zero_str w6)
  have hlen := run_len_map w6 M #[] 0 MM_6.out 3
  obtain ⟨Q, hQ⟩ : ∃ z, z = w6.heap.size := ⟨_, rfl⟩
  obtain ⟨w7, hw7⟩ : ∃ z, z = w6.alloc (.cells (dV lf) 23) := ⟨_, rfl⟩
  have st7 : Below w6.heap.size w6 w7 := by rw [hw7]; exact (Below.refl _ _).alloc (Nat.le_refl _) _
  have B7 := Lib.hid (show Below w.heap.size w w7 from Below.trans B6.out (Below.mono st7 (Below.size B6.out)))
  have GK_7 := Lib.hid ((Below.block st7 K LK_6.out).trans GK_6.out)
  have LK_7 := Lib.hid (Nat.lt_of_lt_of_le LK_6.out (Below.size st7))
  have GV_7 := Lib.hid ((Below.block st7 V LV_6.out).trans GV_6.out)
  have LV_7 := Lib.hid (Nat.lt_of_lt_of_le LV_6.out (Below.size st7))
  have GP_7 := Lib.hid ((Below.block st7 P LP_6.out).trans GP_6.out)
  have LP_7 := Lib.hid (Nat.lt_of_lt_of_le LP_6.out (Below.size st7))
  have LG_7 := Lib.hid (LG_6.out.below st7)
  have MM_7 := Lib.hid (MM_6.out.below st7)
  have MN_7 := Lib.hid (MN_6.out.below st7)
  have GQ_7 := Lib.hid (show w7.heap[Q]? = some (.cells (dV lf) 23 (0, 0)) by rw [hw7, hQ]; exact heap_alloc_new _ _)
  have LQ_7 := Lib.hid (lt_of_heap GQ_7.out)
  have HQ := Lib.hid hQ
  have Hw7 := Lib.hid hw7
  clear hQ hw7 st7
  go_upto_region 16 with (first
    | ((refine st_new rfl (.tmp 14) (.tmp 78) rfl lf LFL.out (by rfl) _ _ (by rfl) (by rfl) ?_); rw [← HQ.out, ← Hw7.out]))
  clear c1 c2 c3 hlk hln hlen
  have nLM := LG_7.out.ne MM_7.out
  have nLN := LG_7.out.ne MN_7.out
  have nPM := row_ne_map GP_7.out MM_7.out
  have nQM := row_ne_map GQ_7.out MM_7.out
  have nQN := row_ne_map GQ_7.out MN_7.out
  have ltM := lt_of_heap MM_7.out
  have ltN := lt_of_heap MN_7.out
  have ltL := lt_of_heap LG_7.out
  obtain ⟨wd, hwd⟩ : ∃ z, z = w7.drew := ⟨_, rfl⟩
  have BD := Lib.hid (show Below w.heap.size w wd by rw [hwd]; exact B7.out.drew)
  have MMd := Lib.hid (show MapAt wd M (.map #[] 0) by rw [hwd]; exact MM_7.out)
  have hup := run_update_empty wd s M MMd.out (.agg (laV s key 0 0 lf))
  refine wp_region_held_drew (S := fun w' => ∀ b, b ≠ M → w'.heap[b]? = w7.heap[b]?) (by kernel_rfl) (fun b _ => rfl) (fun hHeld => ?_)
  rw [← hwd] at hHeld ⊢
  clear hwd
  have HUP := Lib.hid hup
  clear hup
  refine wpAnyH_take (i := 0) (oi := _) (v := .pointer (some ⟨L, 0, none⟩)) rfl (by kernel_rfl) (by kernel_rfl) (by kernel_rfl) (fun _ _ _ h => h) (Or.inl ⟨by rfl, fun w hw => by go_simp⟩) hHeld ?_
  simp only [Act.put, List.getElem_toArray, List.getElem_cons_zero, List.getElem_cons_succ, List.setIfInBounds_toArray, List.set_cons_zero, List.set_cons_succ]
  refine wpAnyH_take (i := 1) (oi := _) (v := .pointer (some ⟨L, 0, none⟩)) rfl (by kernel_rfl) (by kernel_rfl) (by kernel_rfl) (fun _ _ _ h => h) (Or.inl ⟨by rfl, fun w hw => by go_simp⟩) hHeld ?_
  simp only [Act.put, List.getElem_toArray, List.getElem_cons_zero, List.getElem_cons_succ, List.setIfInBounds_toArray, List.set_cons_zero, List.set_cons_succ]
  refine wpAnyH_take (i := 2) (oi := _) (v := .pointer (some ⟨L, 2, none⟩)) rfl (by kernel_rfl) (by kernel_rfl) (by kernel_rfl) (fun _ _ _ h => h) (Or.inl ⟨by rfl, fun w hw => by go_simp⟩) hHeld ?_
  simp only [Act.put, List.getElem_toArray, List.getElem_cons_zero, List.getElem_cons_succ, List.setIfInBounds_toArray, List.set_cons_zero, List.set_cons_succ]
  refine wpAnyH_take (i := 3) (oi := _) (v := .map (some M)) rfl (by kernel_rfl) (by kernel_rfl) (by kernel_rfl) (fun _ _ _ h => h) (Or.inl ⟨by rfl, fun w hw => by have hcc := LogAt.c2 (show LogAt w L M N kv (.slice none 0 0) from (hw L nLM).trans LG_7.out); go_simp⟩) hHeld ?_
  simp only [Act.put, List.getElem_toArray, List.getElem_cons_zero, List.getElem_cons_succ, List.setIfInBounds_toArray, List.set_cons_zero, List.set_cons_succ]
  refine wpAnyH_take (i := 4) (oi := _) (v := .string s) rfl (by kernel_rfl) (by kernel_rfl) (by kernel_rfl) (fun _ _ _ h => h) (Or.inl ⟨by rfl, fun w hw => by go_simp⟩) hHeld ?_
  simp only [Act.put, List.getElem_toArray, List.getElem_cons_zero, List.getElem_cons_succ, List.setIfInBounds_toArray, List.set_cons_zero, List.set_cons_succ]
  refine wpAnyH_take (i := 5) (oi := _) (v := .agg (nV s key 0)) rfl (by kernel_rfl) (by kernel_rfl) (by kernel_rfl) (fun _ _ _ h => h) (yieldsIf_noteL (by rfl) _ rfl P rfl s key 0 KL.out _ _ (fun w hw => (hw P nPM).trans GP_7.out)) hHeld ?_
  simp only [Act.put, List.getElem_toArray, List.getElem_cons_zero, List.getElem_cons_succ, List.setIfInBounds_toArray, List.set_cons_zero, List.set_cons_succ]
  refine wpAnyH_take (i := 6) (oi := _) (v := .pointer (some ⟨L, 0, none⟩)) rfl (by kernel_rfl) (by kernel_rfl) (by kernel_rfl) (fun _ _ _ h => h) (Or.inl ⟨by rfl, fun w hw => by go_simp⟩) hHeld ?_
  simp only [Act.put, List.getElem_toArray, List.getElem_cons_zero, List.getElem_cons_succ, List.setIfInBounds_toArray, List.set_cons_zero, List.set_cons_succ]
  refine wpAnyH_take (i := 7) (oi := _) (v := .pointer (some ⟨L, 0, none⟩)) rfl (by kernel_rfl) (by kernel_rfl) (by kernel_rfl) (fun _ _ _ h => h) (Or.inl ⟨by rfl, fun w hw => by go_simp⟩) hHeld ?_
  simp only [Act.put, List.getElem_toArray, List.getElem_cons_zero, List.getElem_cons_succ, List.setIfInBounds_toArray, List.set_cons_zero, List.set_cons_succ]
  refine wpAnyH_take (i := 8) (oi := _) (v := .pointer (some ⟨L, 1, none⟩)) rfl (by kernel_rfl) (by kernel_rfl) (by kernel_rfl) (fun _ _ _ h => h) (Or.inl ⟨by rfl, fun w hw => by go_simp⟩) hHeld ?_
  simp only [Act.put, List.getElem_toArray, List.getElem_cons_zero, List.getElem_cons_succ, List.setIfInBounds_toArray, List.set_cons_zero, List.set_cons_succ]
  refine wpAnyH_take (i := 9) (oi := _) (v := .slice none 0 0) rfl (by kernel_rfl) (by kernel_rfl) (by kernel_rfl) (fun _ _ _ h => h) (Or.inl ⟨by rfl, fun w hw => by have hcc := LogAt.c1 (show LogAt w L M N kv (.slice none 0 0) from (hw L nLM).trans LG_7.out); go_simp⟩) hHeld ?_
  simp only [Act.put, List.getElem_toArray, List.getElem_cons_zero, List.getElem_cons_succ, List.setIfInBounds_toArray, List.set_cons_zero, List.set_cons_succ]
  refine wpAnyH_take (i := 10) (oi := _) (v := .int .i64 0) rfl (by kernel_rfl) (by kernel_rfl) (by kernel_rfl) (fun _ _ _ h => h) (Or.inl ⟨by rfl, fun w hw => by go_simp⟩) hHeld ?_
  simp only [Act.put, List.getElem_toArray, List.getElem_cons_zero, List.getElem_cons_succ, List.setIfInBounds_toArray, List.set_cons_zero, List.set_cons_succ]
  refine wpAnyH_take (i := 11) (oi := _) (v := .agg (dV lf)) rfl (by kernel_rfl) (by kernel_rfl) (by kernel_rfl) (fun _ _ _ h => h) (yieldsIf_digL (by rfl) _ rfl Q 0 rfl lf LFL.out (fun w hw => range_of_row ((hw Q nQM).trans GQ_7.out))) hHeld ?_
  simp only [Act.put, List.getElem_toArray, List.getElem_cons_zero, List.getElem_cons_succ, List.setIfInBounds_toArray, List.set_cons_zero, List.set_cons_succ]
  refine wpAnyH_take (i := 12) (oi := _) (v := .agg (laV s key 0 0 lf)) rfl (by kernel_rfl) (by kernel_rfl) (by kernel_rfl) (fun _ _ _ h => h) (yieldsIf_buildLast (by rfl) _ _ _ rfl s key lf KL.out LFL.out rfl rfl rfl) hHeld ?_
  simp only [Act.put, List.getElem_toArray, List.getElem_cons_zero, List.getElem_cons_succ, List.setIfInBounds_toArray, List.set_cons_zero, List.set_cons_succ]
  refine wpAnyH_ready (rs := [13]) (by kernel_rfl) (by simp) ?_
  refine AllReadyH.cons (o := _) rfl (fun K hK => ?_) AllReadyH.nil
  have HK := Lib.hid hK
  clear hK
  have hup := HUP.out
  go_simp
  refine HK.out _ _ (fun b hb => (w1map_other hb _ _).trans (hHeld b hb)) ?_
  clear HK K
  try simp only [Act.put, List.getElem_toArray, List.getElem_cons_zero, List.getElem_cons_succ, List.setIfInBounds_toArray, List.set_cons_zero, List.set_cons_succ]
  intro _
  refine wpAnyH_done (by kernel_rfl) ?_ _
  clear hup
  obtain ⟨w8, hw8⟩ : ∃ z, z = w1map wd M (.string s) (.agg (laV s key 0 0 lf)) := ⟨_, rfl⟩
  rw [← hw8]
  have sz8 : w8.heap.size = wd.heap.size := by rw [hw8]; exact w1map_size _ _ _ _
  have ot8 : ∀ b, b ≠ M → w8.heap[b]? = w7.heap[b]? := fun b hb => by rw [hw8]; exact (w1map_other hb _ _).trans (hHeld b hb)
  have M8 : MapAt w8 M (.map #[{ key := .string s, val := .agg (laV s key 0 0 lf), born := 0 }] 1) := by rw [hw8]; exact w1map_get MMd.out _ _
  have L8 : LogAt w8 L M N kv (.slice none 0 0) := (ot8 L nLM).trans LG_7.out
  have N8 : MapAt w8 N (.map #[] 0) := (ot8 N HMN.out.symm).trans MN_7.out
  have B8 := Lib.hid (show Below B w w8 by rw [hw8]; exact w1map_below (BD.out.mono (by have := HBB.out; omega)) HBB.out.2.1 _ _)
  have Q8 := Lib.hid ((ot8 Q nQM).trans GQ_7.out)
  have c3 := L8.c3
  have hup := run_update_emptyI w8 (ki : Int) N N8 (.string s)
  have OT8 := Lib.hid ot8
  have M8H := Lib.hid M8
  have L8H := Lib.hid L8
  have N8H := Lib.hid N8
  have SZ8 := Lib.hid sz8
  have HLN := Lib.hid nLN
  have HQN := Lib.hid nQN
  have HLM := Lib.hid nLM
  clear ot8 M8 L8 N8 sz8 hw8 hHeld HUP nLM nLN nPM nQM nQN
  go_upto_region 18 with fail
  obtain ⟨w9, hw9⟩ : ∃ z, z = w1map w8 N (.int .i64 (ki : Int)) (.string s) := ⟨_, rfl⟩
  rw [← hw9]
  clear hup c3
  have M9 := Lib.hid (show MapAt w9 M (.map #[{ key := .string s, val := .agg (laV s key 0 0 lf), born := 0 }] 1) by rw [hw9]; exact (w1map_other HMN.out _ _).trans M8H.out)
  have N9 := Lib.hid (show MapAt w9 N (.map #[{ key := .int .i64 (ki : Int), val := .string s, born := 0 }] 1) by rw [hw9]; exact w1map_get N8H.out _ _)
  have L9 := Lib.hid (show LogAt w9 L M N kv (.slice none 0 0) by rw [hw9]; exact (w1map_other HLN.out _ _).trans L8H.out)
  have Q9 := Lib.hid (show w9.heap[Q]? = some (.cells (dV lf) 23 (0, 0)) by rw [hw9]; exact (w1map_other HQN.out _ _).trans Q8.out)
  have B9 := Lib.hid (show Below B w w9 by rw [hw9]; exact w1map_below B8.out HBB.out.2.2.1 _ _)
  clear hw9
  have hFs := F10_in
  refine wp_region_final_drew F10 (fun w' => LogAt w' L M N kv (.slice none 0 0) ∧ w'.heap[Q]? = some (.cells (dV lf) 23 (0, 0))) (by kernel_rfl) ⟨L9.out, Q9.out⟩ (fun hHeld => ?_)
  obtain ⟨we, hwe⟩ : ∃ z, z = w9.drew := ⟨_, rfl⟩
  have BE := Lib.hid (show Below w9.heap.size w9 we by rw [hwe]; exact (Below.refl _ _).drew)
  rw [← hwe] at hHeld ⊢
  clear hwe
  refine wpAnyF_take (fs := [10]) (i := 0) (oi := _) (v := .pointer (some ⟨L, 0, none⟩)) rfl (by kernel_rfl) (by kernel_rfl) (by kernel_rfl) hFs rfl (by kernel_rfl) (fun _ _ _ h => h) (Or.inl ⟨by rfl, fun w hw => by go_simp⟩) hHeld ?_
  simp only [Act.put, List.getElem_toArray, List.getElem_cons_zero, List.getElem_cons_succ, List.setIfInBounds_toArray, List.set_cons_zero, List.set_cons_succ]
  refine wpAnyF_take (fs := [10]) (i := 1) (oi := _) (v := .pointer (some ⟨L, 0, none⟩)) rfl (by kernel_rfl) (by kernel_rfl) (by kernel_rfl) hFs rfl (by kernel_rfl) (fun _ _ _ h => h) (Or.inl ⟨by rfl, fun w hw => by go_simp⟩) hHeld ?_
  simp only [Act.put, List.getElem_toArray, List.getElem_cons_zero, List.getElem_cons_succ, List.setIfInBounds_toArray, List.set_cons_zero, List.set_cons_succ]
  refine wpAnyF_take (fs := [10]) (i := 2) (oi := _) (v := .pointer (some ⟨L, 0, none⟩)) rfl (by kernel_rfl) (by kernel_rfl) (by kernel_rfl) hFs rfl (by kernel_rfl) (fun _ _ _ h => h) (Or.inl ⟨by rfl, fun w hw => by go_simp⟩) hHeld ?_
  simp only [Act.put, List.getElem_toArray, List.getElem_cons_zero, List.getElem_cons_succ, List.setIfInBounds_toArray, List.set_cons_zero, List.set_cons_succ]
  refine wpAnyF_take (fs := [10]) (i := 3) (oi := _) (v := .pointer (some ⟨L, 1, none⟩)) rfl (by kernel_rfl) (by kernel_rfl) (by kernel_rfl) hFs rfl (by kernel_rfl) (fun _ _ _ h => h) (Or.inl ⟨by rfl, fun w hw => by go_simp⟩) hHeld ?_
  simp only [Act.put, List.getElem_toArray, List.getElem_cons_zero, List.getElem_cons_succ, List.setIfInBounds_toArray, List.set_cons_zero, List.set_cons_succ]
  refine wpAnyF_take (fs := [10]) (i := 4) (oi := _) (v := .slice none 0 0) rfl (by kernel_rfl) (by kernel_rfl) (by kernel_rfl) hFs rfl (by kernel_rfl) (fun _ _ _ h => h) (Or.inl ⟨by rfl, fun w hw => by have hcc := hw.1.c1; go_simp⟩) hHeld ?_
  simp only [Act.put, List.getElem_toArray, List.getElem_cons_zero, List.getElem_cons_succ, List.setIfInBounds_toArray, List.set_cons_zero, List.set_cons_succ]
  refine wpAnyF_take (fs := [10]) (i := 5) (oi := _) (v := .agg (dV lf)) rfl (by kernel_rfl) (by kernel_rfl) (by kernel_rfl) hFs rfl (by kernel_rfl) (fun _ _ _ h => h) (yieldsIf_digL (by rfl) _ rfl Q 0 rfl lf LFL.out (fun w hw => range_of_row hw.2)) hHeld ?_
  simp only [Act.put, List.getElem_toArray, List.getElem_cons_zero, List.getElem_cons_succ, List.setIfInBounds_toArray, List.set_cons_zero, List.set_cons_succ]
  obtain ⟨X, hX⟩ : ∃ z, z = we.heap.size := ⟨_, rfl⟩
  obtain ⟨wf, hwf⟩ : ∃ z, z = we.alloc (.cells (dV lf) 23) := ⟨_, rfl⟩
  have BF := Lib.hid (show Below w9.heap.size w9 wf by rw [hwf]; exact BE.out.alloc BE.out.size _)
  have GX := Lib.hid (show wf.heap[X]? = some (.cells (dV lf) 23 (0, 0)) by rw [hwf, hX]; exact heap_alloc_new _ _)
  have HX := Lib.hid hX
  have HWF := Lib.hid hwf
  clear hX hwf
  have LF := Lib.hid (show LogAt wf L M N kv (.slice none 0 0) from L9.out.below BF.out)
  have QF := Lib.hid (show wf.heap[Q]? = some (.cells (dV lf) 23 (0, 0)) from (BF.out.block Q (lt_of_heap Q9.out)).trans Q9.out)
  refine wpAnyF_ready (rs := [6]) (by kernel_rfl) (by simp) ?_
  refine AllReadyF.cons (o := _) rfl (fun K hK => ?_) AllReadyF.nil
  have HK := Lib.hid hK
  clear hK
  refine stepBuild1 31 23 _ 32 32 Tryd.underlying31 info_digz2 (by omega) (by omega) rfl _ rfl (dV lf) (by rfl) (dV_size LFL.out) ?_
  rw [← HX.out, ← HWF.out]
  refine HK.out _ _ (fun _ => (show _ ∧ _ from ⟨LF.out, QF.out⟩)) ?_
  clear HK K hHeld
  try simp only [Act.put, List.getElem_toArray, List.getElem_cons_zero, List.getElem_cons_succ, List.setIfInBounds_toArray, List.set_cons_zero, List.set_cons_succ]
  have hHeld := (show _ ∧ _ from ⟨LF.out, QF.out⟩)
  have hsb : w9.heap.size ≤ wf.heap.size := BF.out.size
  refine wpAnyF_ready (rs := [7]) (by kernel_rfl) (by simp) ?_
  refine AllReadyF.cons (o := _) rfl (fun K hK => ?_) AllReadyF.nil
  have HK := Lib.hid hK
  clear hK
  refine stepAppL 31 23 (.agg (dV nz)) 32 32 Tryd.underlying31 info_digz2 (dV_size rfl) (by omega) rfl _ _ rfl w9.heap.size (.slice none 0 0) 0 [] (by rfl) (World.ownsRow_nil _ _ _ _) ⟨X, 0, none⟩ 1 1 (lf.map vB) (by rfl) _ (rd_cellsL (cs := lf.map vB) GX.out) (by rw [List.length_map, LFL.out]) (one_bytes lf) (by omega) (by omega) (by omega) hsb _ rfl ?_
  intro g cp wg hown9 hgrow9 _ _
  simp only [Nat.zero_add, List.nil_append] at hown9 ⊢
  have hg9 : w9.heap.size ≤ g := (hown9.lt g rfl).1
  have bg : Below w9.heap.size w9 wg := below_grow BF.out (World.ownsRow_nil wf w9.heap.size 23 32) hgrow9 hsb
  have LGG := Lib.hid (show LogAt wg L M N kv (.slice none 0 0) from L9.out.below bg)
  have QG := Lib.hid (show wg.heap[Q]? = some (.cells (dV lf) 23 (0, 0)) from (bg.block Q (lt_of_heap Q9.out)).trans Q9.out)
  have BG := Lib.hid bg
  have RDG := Lib.hid (Rd.of_own hown9)
  have CPG := Lib.hid (own_cappW hown9)
  have HGG := Lib.hid hg9
  clear hown9 hgrow9 bg hg9
  refine HK.out _ _ (fun _ => (show _ ∧ _ from ⟨LGG.out, QG.out⟩)) ?_
  clear HK K hHeld
  try simp only [Act.put, List.getElem_toArray, List.getElem_cons_zero, List.getElem_cons_succ, List.setIfInBounds_toArray, List.set_cons_zero, List.set_cons_succ]
  have hHeld := (show _ ∧ _ from ⟨LGG.out, QG.out⟩)
  refine wpAnyF_take (fs := [10]) (i := 8) (oi := _) (v := .pointer (some ⟨L, 0, none⟩)) rfl (by kernel_rfl) (by kernel_rfl) (by kernel_rfl) hFs rfl (by kernel_rfl) (fun _ _ _ h => h) (Or.inl ⟨by rfl, fun w hw => by go_simp⟩) hHeld ?_
  simp only [Act.put, List.getElem_toArray, List.getElem_cons_zero, List.getElem_cons_succ, List.setIfInBounds_toArray, List.set_cons_zero, List.set_cons_succ]
  refine wpAnyF_take (fs := [10]) (i := 9) (oi := _) (v := .pointer (some ⟨L, 1, none⟩)) rfl (by kernel_rfl) (by kernel_rfl) (by kernel_rfl) hFs rfl (by kernel_rfl) (fun _ _ _ h => h) (Or.inl ⟨by rfl, fun w hw => by go_simp⟩) hHeld ?_
  simp only [Act.put, List.getElem_toArray, List.getElem_cons_zero, List.getElem_cons_succ, List.setIfInBounds_toArray, List.set_cons_zero, List.set_cons_succ]
  have c1 := LGG.out.c1
  have f1 := frozen_of_row wg L 1 _ _ (show wg.heap[L]? = some (.cells #[kv, .slice none 0 0, .map (some M), .map (some N)] 152 (0, 0)) from LGG.out)
  refine wpAnyF_ready (rs := [10]) (by kernel_rfl) (by simp) ?_
  refine AllReadyF.cons (o := _) rfl (fun K hK => ?_) AllReadyF.nil
  have HK := Lib.hid hK
  clear hK
  go_simp
  refine HK.out _ _ (fun hcl => by have := hcl 10 rfl; exact absurd this (by decide)) ?_
  clear HK K hHeld
  try simp only [Act.put, List.getElem_toArray, List.getElem_cons_zero, List.getElem_cons_succ, List.setIfInBounds_toArray, List.set_cons_zero, List.set_cons_succ]
  refine wpAnyF_done (by kernel_rfl) ?_ _
  obtain ⟨wh, hwh⟩ : ∃ z, z = wg.setCell ⟨L, 1, none⟩ (.slice (some ⟨g, 0, none⟩) 1 cp) := ⟨_, rfl⟩
  rw [← hwh]
  clear c1 f1
  have LH : LogAt wh L M N kv (.slice (some ⟨g, 0, none⟩) 1 cp) := by rw [hwh]; exact LGG.out.set1 _
  have c1 := LH.c1
  have HWH := Lib.hid hwh
  have LHH := Lib.hid LH
  clear hwh LH
  go_wp2_with fail
  go_ret2
  have lt9 : L < w9.heap.size := lt_of_heap L9.out
  have ltm9 : M < w9.heap.size := lt_of_heap M9.out
  have ltn9 : N < w9.heap.size := lt_of_heap N9.out
  refine ⟨ki, lf, some ⟨g, 0, none⟩, cp, HKI.out, LFL.out, rfl, LHH.out, ?_, CPG.out.1, CPG.out.2, ?_, ?_, ?_⟩
  · rw [HWH.out]; exact RDG.out.setOther (by show g ≠ L; have := HGG.out; omega) _
  · unfold MapAt; rw [HWH.out, Below.heap_setCell _ _ _ _ (by show M ≠ L; exact fun e => HLM.out e.symm)]; exact (BG.out.block M ltm9).trans M9.out
  · unfold MapAt; rw [HWH.out, Below.heap_setCell _ _ _ _ (by show N ≠ L; exact fun e => HLN.out e.symm)]; exact (BG.out.block N ltn9).trans N9.out
  · rw [HWH.out]; exact (B9.out.trans (BG.out.mono (Nat.le_trans HBB.out.2.2.2 B9.out.size))).setCell (p := ⟨L, 1, none⟩) HBB.out.1 _
end Go.Proofs.YtkioddmhjbaleaaDoor
/- Walk: log.Find of the name that a log has. -/
namespace Go.Proofs.YtkioddmhjbaleaaDoor
open Go.RowKit
set_option linter.unusedVariables false
set_option linter.unusedSimpArgs false
theorem mapF_ki (ki : Nat) (hki : ki < 4294967296) (lf : List UInt8) : mapF [⟨(ki : Int), lf⟩] = 0 := by
  have hk : KeyOk (ki : Int) := ⟨by omega, by omega⟩
  unfold mapF
  rw [if_neg (by simp), scanG_cons, if_pos hk, if_neg (by simp)]
  rfl
theorem Path_one (ki : Nat) (hki : ki < 4294967296) (lf : List UInt8) (hlf : lf.length = 32) (k : Nat) (hk : k < 4294967296) (a : Option Addr) (cap ea : Nat) (hc1 : 1 ≤ cap) (hc2 : cap ≤ 9223372036854775807) (w : World) (hr : Rd w a ea (cellsE [⟨(ki : Int), lf⟩])) (hro : RoundsAt w) :
    Calls Tryd.prog 103 #[.slice a 1 cap, .int .i64 (k : Int)] w fun e w' => ∃ a' c', e = .returned (.tuple #[.slice a' 32 c', .nilIface]) ∧ Below w.heap.size w w' := by
  have h := Path_ok [⟨(ki : Int), lf⟩] (fun e he => by rw [List.mem_singleton] at he; subst he; exact ⟨hlf, by show -9223372036854775808 ≤ (ki : Int); omega, by show (ki : Int) ≤ 9223372036854775807; omega⟩) a cap ea (by simpa using hc1) hc2 k hk w hr (mapF_ki ki hki lf) hro
  refine Calls.mono h ?_
  rintro e w' ⟨a', c', h1, _, h2⟩
  exact ⟨a', c', h1, h2⟩
theorem TPath_one (lf : List UInt8) (hlf : lf.length = 32) (a : Option Addr) (cap e : Nat) (hc1 : 1 ≤ cap) (hc2 : cap ≤ 9223372036854775807) (w : World) (hr : Rd w a e (lf.map vB)) (hro : RoundsAt w) :
    Calls Tryd.prog 42 #[.slice a 1 cap, .int .i64 0] w fun e w' => ∃ a' n c', e = .returned (.tuple #[.slice a' n c', .nilIface]) ∧ Below w.heap.size w w' := by
  have h := TPath_calls [lf] 0 (by simp) (by simp) (fun d hd => by rw [List.mem_singleton] at hd; subst hd; exact hlf) a cap e (by simpa using hc1) hc2 w (by simpa using hr) hro
  refine Calls.mono h ?_
  rintro e w' ⟨a', c', h1, _, h2⟩
  exact ⟨a', _, c', h1, h2⟩
set_option maxRecDepth 20000 in
set_option maxHeartbeats 4000000 in
theorem Find_calls (s : ByteArray) (hnm : named s = true) (key : List UInt8) (hk : key.length = 32) (ki : Nat) (hki : ki < 4294967296) (lf : List UInt8) (hlf : lf.length = 32) (L M N : Nat) (kv : Value) (a : Option Addr) (cp : Nat) (hc1 : 1 ≤ cp) (hc2 : cp ≤ 9223372036854775807) (w : World) (hL : LogAt w L M N kv (.slice a 1 cp)) (hM : MapAt w M (.map #[{ key := .string s, val := .agg (laV s key 0 0 lf), born := 0 }] 1)) (hN : MapAt w N (.map #[{ key := .int .i64 (ki : Int), val := .string s, born := 0 }] 1)) (hrd : Rd w a 23 (lf.map vB)) (hro : RoundsAt w) :
    Calls Tryd.prog 64 #[.pointer (some ⟨L, 0, none⟩), .string s] w fun e w' => ∃ pa pn pc ma mc, e = .returned (.tuple #[.agg (fdV s key 0 0 (.slice pa pn pc) (.slice ma 32 mc)), .nilIface]) ∧ Below w.heap.size w w' := by
  have KL := Lib.hid hk
  have LFL := Lib.hid hlf
  have HKI := Lib.hid hki
  have RO := Lib.hid hro
  have HNM := Lib.hid hnm
  have HNS := Lib.hid (named_size hnm)
  have LG := Lib.hid hL
  have MM := Lib.hid hM
  have MN := Lib.hid hN
  have RDL := Lib.hid hrd
  have HC := Lib.hid (And.intro hc1 hc2)
  have ZNL := Lib.hid nz_length
  clear hk hlf hki hro hnm hL hM hN hrd hc1 hc2
  obtain ⟨R, hR⟩ : ∃ z, z = w.heap.size := ⟨_, rfl⟩
  obtain ⟨w1, hw1⟩ : ∃ z, z = w.alloc (.cells (fdV ⟨#[]⟩ nz 0 0 (.slice none 0 0) (.slice none 0 0)) 113) := ⟨_, rfl⟩
  have st1 : Below w.heap.size w w1 := by rw [hw1]; exact (Below.refl _ _).alloc (Nat.le_refl _) _
  have B1 := Lib.hid (show Below w.heap.size w w1 from Below.trans (Below.refl w.heap.size w) (Below.mono st1 (Below.size (Below.refl w.heap.size w))))
  have GR_1 := Lib.hid (show w1.heap[R]? = some (.cells (fdV ⟨#[]⟩ nz 0 0 (.slice none 0 0) (.slice none 0 0)) 113 (0, 0)) by rw [hw1, hR]; exact heap_alloc_new _ _)
  have LR_1 := Lib.hid (lt_of_heap GR_1.out)
  have HR := Lib.hid hR
  have Hw1 := Lib.hid hw1
  clear hR hw1 st1
  have SZR := Lib.hid (show R = w.heap.size from HR.out)
  go_enter Tryd.func64, Tryd.ntmps64
  go_upto_region 1 with fail
  rw [zfd]
  rw [← SZR.out, ← Hw1.out]
  go_wp2_with fail
  refine (Named_t s (by have := HNS.out; omega) HNM.out w1).mono ?_
  rintro e w2 ⟨rfl, hb2⟩
  have B2 := Lib.hid (show Below w.heap.size w w2 from Below.trans B1.out (Below.mono hb2 (Below.size B1.out)))
  have GR_2 := Lib.hid ((Below.block hb2 R LR_1.out).trans GR_1.out)
  have LR_2 := Lib.hid (Nat.lt_of_lt_of_le LR_1.out (Below.size hb2))
  clear hb2
  obtain ⟨F, hF⟩ : ∃ z, z = w2.heap.size := ⟨_, rfl⟩
  obtain ⟨w3, hw3⟩ : ∃ z, z = w2.alloc (.cells (fdV ⟨#[]⟩ nz 0 0 (.slice none 0 0) (.slice none 0 0)) 113) := ⟨_, rfl⟩
  have st3 : Below w2.heap.size w2 w3 := by rw [hw3]; exact (Below.refl _ _).alloc (Nat.le_refl _) _
  have B3 := Lib.hid (show Below w.heap.size w w3 from Below.trans B2.out (Below.mono st3 (Below.size B2.out)))
  have GR_3 := Lib.hid ((Below.block st3 R LR_2.out).trans GR_2.out)
  have LR_3 := Lib.hid (Nat.lt_of_lt_of_le LR_2.out (Below.size st3))
  have GF_3 := Lib.hid (show w3.heap[F]? = some (.cells (fdV ⟨#[]⟩ nz 0 0 (.slice none 0 0) (.slice none 0 0)) 113 (0, 0)) by rw [hw3, hF]; exact heap_alloc_new _ _)
  have LF_3 := Lib.hid (lt_of_heap GF_3.out)
  have HF := Lib.hid hF
  have Hw3 := Lib.hid hw3
  clear hF hw3 st3
  go_upto_region 4 with fail
  rw [zfd, ← HF.out, ← Hw3.out]
  go_wp2_with fail
  refine (entries_calls s key lf KL.out LFL.out (ki : Int) L M N kv (.slice a 1 cp) w3 (LG.out.below B3.out) (MM.out.below B3.out) (MN.out.below B3.out)).mono ?_
  rintro e w4 ⟨ea, ec, rfl, hec1, hec2, her, hb4⟩
  have B4 := Lib.hid (show Below w.heap.size w w4 from Below.trans B3.out (Below.mono hb4 (Below.size B3.out)))
  have GR_4 := Lib.hid ((Below.block hb4 R LR_3.out).trans GR_3.out)
  have LR_4 := Lib.hid (Nat.lt_of_lt_of_le LR_3.out (Below.size hb4))
  have GF_4 := Lib.hid ((Below.block hb4 F LF_3.out).trans GF_3.out)
  have LF_4 := Lib.hid (Nat.lt_of_lt_of_le LF_3.out (Below.size hb4))
  have RE_4 := Lib.hid her
  have HEC := Lib.hid (And.intro hec1 hec2)
  clear her hec1 hec2
  clear hb4
  go_wp2_with fail
  refine (NIndex_calls s (by have := HNS.out; omega) w4 (RO.out.at_ B4.out)).mono ?_
  rintro e w5 ⟨k2, hk2, rfl, hb5⟩
  have B5 := Lib.hid (show Below w.heap.size w w5 from Below.trans B4.out (Below.mono hb5 (Below.size B4.out)))
  have GR_5 := Lib.hid ((Below.block hb5 R LR_4.out).trans GR_4.out)
  have LR_5 := Lib.hid (Nat.lt_of_lt_of_le LR_4.out (Below.size hb5))
  have GF_5 := Lib.hid ((Below.block hb5 F LF_4.out).trans GF_4.out)
  have LF_5 := Lib.hid (Nat.lt_of_lt_of_le LF_4.out (Below.size hb5))
  have RE_5 := Lib.hid (RE_4.out.below hb5)
  have HK2 := Lib.hid hk2
  clear hk2
  clear hb5
  go_wp2_with fail
  refine (Path_one ki HKI.out lf LFL.out k2 HK2.out ea ec _ HEC.out.1 HEC.out.2 w5 RE_5.out (RO.out.at_ B5.out)).mono ?_
  rintro e w6 ⟨ma, mc, rfl, hb6⟩
  have B6 := Lib.hid (show Below w.heap.size w w6 from Below.trans B5.out (Below.mono hb6 (Below.size B5.out)))
  have GR_6 := Lib.hid ((Below.block hb6 R LR_5.out).trans GR_5.out)
  have LR_6 := Lib.hid (Nat.lt_of_lt_of_le LR_5.out (Below.size hb6))
  have GF_6 := Lib.hid ((Below.block hb6 F LF_5.out).trans GF_5.out)
  have LF_6 := Lib.hid (Nat.lt_of_lt_of_le LF_5.out (Below.size hb6))
  have RE_6 := Lib.hid (RE_5.out.below hb6)
  clear hb6
  have c36 := (fdV_c ZNL.out GF_6.out).2.2
  have f36 := frozen_of_row w6 F 36 _ _ GF_6.out
  obtain ⟨ws, hws⟩ : ∃ z, z = w6.setCell ⟨F, 36, none⟩ (.slice ma 32 mc) := ⟨_, rfl⟩
  have HF0 := Lib.hid (show w.heap.size ≤ F by rw [HF.out]; exact Below.size B2.out)
  have HRF := Lib.hid (show R ≠ F by rw [HF.out]; exact Nat.ne_of_lt LR_2.out)
  have BS := Lib.hid (show Below w.heap.size w ws by rw [hws]; exact Below.setCell B6.out (p := ⟨F, 36, none⟩) HF0.out _)
  have GFs := Lib.hid (show ws.heap[F]? = some (.cells (fdV ⟨#[]⟩ nz 0 0 (.slice none 0 0) (.slice ma 32 mc)) 113 (0, 0)) by rw [hws, setCell_rowL GF_6.out, fdV_36 ZNL.out])
  have GRs := Lib.hid (show ws.heap[R]? = some (.cells (fdV ⟨#[]⟩ nz 0 0 (.slice none 0 0) (.slice none 0 0)) 113 (0, 0)) by rw [hws, Below.heap_setCell _ _ _ _ HRF.out]; exact GR_6.out)
  have HWS := Lib.hid hws
  clear hws
  go_upto_region 5 with fail
  rw [← HWS.out]
  clear c36 f36
  have c2 := (LG.out.below BS.out).c2
  have hlk := run_lookup_oneO ws s M _ (MM.out.below BS.out)
  obtain ⟨W, hW⟩ : ∃ z, z = ws.heap.size := ⟨_, rfl⟩
  obtain ⟨wt, hwt⟩ : ∃ z, z = ws.alloc (.cells (laV s key 0 0 lf) 155) := ⟨_, rfl⟩
  have stt : Below ws.heap.size ws wt := by rw [hwt]; exact (Below.refl _ _).alloc (Nat.le_refl _) _
  have BT := Lib.hid (show Below w.heap.size w wt from BS.out.trans (stt.mono BS.out.size))
  have GFt := Lib.hid ((stt.block F (lt_of_heap GFs.out)).trans GFs.out)
  have GRt := Lib.hid ((stt.block R (lt_of_heap GRs.out)).trans GRs.out)
  have GWt := Lib.hid (show wt.heap[W]? = some (.cells (laV s key 0 0 lf) 155 (0, 0)) by rw [hwt, hW]; exact heap_alloc_new _ _)
  have HWF := Lib.hid (show W ≠ F by rw [hW]; exact (Nat.ne_of_lt (lt_of_heap GFs.out)).symm)
  have HW := Lib.hid hW
  have HWT := Lib.hid hwt
  have LS := Lib.hid (laV_size s key 0 0 lf KL.out LFL.out)
  have NVS := Lib.hid (nV_size34 s key 0 KL.out)
  clear hW hwt stt
  go_upto_region 7 with (refine st_anyNew rfl 155 (.tmp 7) (.tmp 30) rfl 67 info_last (laV s key 0 0 lf) LS.out (laV_one _ _ _ _ _) (by rfl) _ _ (by rfl) (by rfl) ?_; rw [← HW.out, ← HWT.out]; simp only [Act.put, List.setIfInBounds_toArray, List.set_cons_zero, List.set_cons_succ])
  clear c2 hlk
  obtain ⟨wd, hwd⟩ : ∃ z, z = wt.drew := ⟨_, rfl⟩
  have BD := Lib.hid (show Below w.heap.size w wd by rw [hwd]; exact BT.out.drew)
  have GFd := Lib.hid (show wd.heap[F]? = some (.cells (fdV ⟨#[]⟩ nz 0 0 (.slice none 0 0) (.slice ma 32 mc)) 113 (0, 0)) by rw [hwd]; exact GFt.out)
  have GRd := Lib.hid (show wd.heap[R]? = some (.cells (fdV ⟨#[]⟩ nz 0 0 (.slice none 0 0) (.slice none 0 0)) 113 (0, 0)) by rw [hwd]; exact GRt.out)
  have GWd := Lib.hid (show wd.heap[W]? = some (.cells (laV s key 0 0 lf) 155 (0, 0)) by rw [hwd]; exact GWt.out)
  refine wp_region_held_drew (S := fun w' => w'.heap[W]? = some (.cells (laV s key 0 0 lf) 155 (0, 0))) (by kernel_rfl) GWt.out (fun hHeld => ?_)
  rw [← hwd] at hHeld ⊢
  clear hwd
  refine wpAnyH_take (i := 0) (oi := _) (v := .pointer (some ⟨W, 0, none⟩)) rfl (by kernel_rfl) (by kernel_rfl) (by kernel_rfl) (fun _ _ _ h => h) (Or.inl ⟨by rfl, fun w hw => by go_simp⟩) hHeld ?_
  simp only [Act.put, List.getElem_toArray, List.getElem_cons_zero, List.getElem_cons_succ, List.setIfInBounds_toArray, List.set_cons_zero, List.set_cons_succ]
  refine wpAnyH_take (i := 1) (oi := _) (v := .agg (nV s key 0)) rfl (by kernel_rfl) (by kernel_rfl) (by kernel_rfl) (fun _ _ _ h => h) (yieldsIf_load_mid (P := Tryd.prog) (by rfl) 111 _ rfl W 0 rfl (nL s key 0) _ (fun w hw => laV_note hw KL.out) Tryd.underlying111 rfl (by rw [nL_length s key 0 KL.out]; exact info_noteL)) hHeld ?_
  simp only [Act.put, List.getElem_toArray, List.getElem_cons_zero, List.getElem_cons_succ, List.setIfInBounds_toArray, List.set_cons_zero, List.set_cons_succ]
  refine wpAnyH_take (i := 2) (oi := _) (v := .pointer (some ⟨W, 34, none⟩)) rfl (by kernel_rfl) (by kernel_rfl) (by kernel_rfl) (fun _ _ _ h => h) (Or.inl ⟨by rfl, fun w hw => by go_simp⟩) hHeld ?_
  simp only [Act.put, List.getElem_toArray, List.getElem_cons_zero, List.getElem_cons_succ, List.setIfInBounds_toArray, List.set_cons_zero, List.set_cons_succ]
  refine wpAnyH_take (i := 3) (oi := _) (v := .int .i64 0) rfl (by kernel_rfl) (by kernel_rfl) (by kernel_rfl) (fun _ _ _ h => h) (Or.inl ⟨by rfl, fun w hw => by have hcc := laV_at hw KL.out; go_simp⟩) hHeld ?_
  simp only [Act.put, List.getElem_toArray, List.getElem_cons_zero, List.getElem_cons_succ, List.setIfInBounds_toArray, List.set_cons_zero, List.set_cons_succ]
  refine wpAnyH_take (i := 4) (oi := _) (v := .pointer (some ⟨F, 0, none⟩)) rfl (by kernel_rfl) (by kernel_rfl) (by kernel_rfl) (fun _ _ _ h => h) (Or.inl ⟨by rfl, fun w hw => by go_simp⟩) hHeld ?_
  simp only [Act.put, List.getElem_toArray, List.getElem_cons_zero, List.getElem_cons_succ, List.setIfInBounds_toArray, List.set_cons_zero, List.set_cons_succ]
  refine wpAnyH_ready (rs := [5]) (by kernel_rfl) (by simp) ?_
  refine AllReadyH.cons (o := _) rfl (fun K hK => ?_) AllReadyH.nil
  have HK := Lib.hid hK
  clear hK
  rw [if_pos (by rfl)]
  refine wp_store_mid 111 _ _ rfl F 0 (nV s key 0) (by rfl) (by rfl) (by rw [NVS.out]; exact fdV_there ZNL.out GFd.out) (by rw [NVS.out]; exact info_noteL) (nV_one _ _ _) ?_
  obtain ⟨wa, hwa⟩ : ∃ z, z = wd.setCells F 0 (nV s key 0).toList := ⟨_, rfl⟩
  rw [← hwa]
  have GFa := Lib.hid (show wa.heap[F]? = some (.cells (fdV s key 0 0 (.slice none 0 0) (.slice ma 32 mc)) 113 (0, 0)) by rw [hwa]; exact fdV_note ZNL.out KL.out GFd.out)
  have GWa := Lib.hid (show wa.heap[W]? = some (.cells (laV s key 0 0 lf) 155 (0, 0)) by rw [hwa]; exact (setCells_other HWF.out _ _ _).1.trans GWd.out)
  have GRa := Lib.hid (show wa.heap[R]? = some (.cells (fdV ⟨#[]⟩ nz 0 0 (.slice none 0 0) (.slice none 0 0)) 113 (0, 0)) by rw [hwa]; exact (setCells_other HRF.out _ _ _).1.trans GRd.out)
  have BA := Lib.hid (show Below w.heap.size w wa by rw [hwa]; exact below_setCells _ _ BD.out HF0.out)
  clear hwa
  refine HK.out _ _ GWa.out ?_
  clear HK K hHeld
  try simp only [Act.put, List.getElem_toArray, List.getElem_cons_zero, List.getElem_cons_succ, List.setIfInBounds_toArray, List.set_cons_zero, List.set_cons_succ]
  intro hHeld
  refine wpAnyH_take (i := 6) (oi := _) (v := .pointer (some ⟨F, 34, none⟩)) rfl (by kernel_rfl) (by kernel_rfl) (by kernel_rfl) (fun _ _ _ h => h) (Or.inl ⟨by rfl, fun w hw => by go_simp⟩) hHeld ?_
  simp only [Act.put, List.getElem_toArray, List.getElem_cons_zero, List.getElem_cons_succ, List.setIfInBounds_toArray, List.set_cons_zero, List.set_cons_succ]
  have c34 := (fdV_c KL.out GFa.out).1
  have f34 := frozen_of_row wa F 34 _ _ GFa.out
  refine wpAnyH_ready (rs := [7]) (by kernel_rfl) (by simp) ?_
  refine AllReadyH.cons (o := _) rfl (fun K hK => ?_) AllReadyH.nil
  have HK := Lib.hid hK
  clear hK
  go_simp
  obtain ⟨wb, hwb⟩ : ∃ z, z = wa.setCell ⟨F, 34, none⟩ (.int .i64 0) := ⟨_, rfl⟩
  rw [← hwb]
  have GFb := Lib.hid (show wb.heap[F]? = some (.cells (fdV s key 0 0 (.slice none 0 0) (.slice ma 32 mc)) 113 (0, 0)) by rw [hwb, setCell_rowL GFa.out, fdV_34 KL.out])
  have GWb := Lib.hid (show wb.heap[W]? = some (.cells (laV s key 0 0 lf) 155 (0, 0)) by rw [hwb, Below.heap_setCell _ _ _ _ HWF.out]; exact GWa.out)
  have GRb := Lib.hid (show wb.heap[R]? = some (.cells (fdV ⟨#[]⟩ nz 0 0 (.slice none 0 0) (.slice none 0 0)) 113 (0, 0)) by rw [hwb, Below.heap_setCell _ _ _ _ HRF.out]; exact GRa.out)
  have BB := Lib.hid (show Below w.heap.size w wb by rw [hwb]; exact Below.setCell BA.out (p := ⟨F, 34, none⟩) HF0.out _)
  clear hwb
  refine HK.out _ _ GWb.out ?_
  clear HK K
  try simp only [Act.put, List.getElem_toArray, List.getElem_cons_zero, List.getElem_cons_succ, List.setIfInBounds_toArray, List.set_cons_zero, List.set_cons_succ]
  intro _
  refine wpAnyH_done (by kernel_rfl) ?_ _
  clear hHeld c34 f34
  go_upto_region 8 with fail
  obtain ⟨we, hwe⟩ : ∃ z, z = wb.drew := ⟨_, rfl⟩
  have BE := Lib.hid (show Below w.heap.size w we by rw [hwe]; exact BB.out.drew)
  have GFe := Lib.hid (show we.heap[F]? = some (.cells (fdV s key 0 0 (.slice none 0 0) (.slice ma 32 mc)) 113 (0, 0)) by rw [hwe]; exact GFb.out)
  have GRe := Lib.hid (show we.heap[R]? = some (.cells (fdV ⟨#[]⟩ nz 0 0 (.slice none 0 0) (.slice none 0 0)) 113 (0, 0)) by rw [hwe]; exact GRb.out)
  have GWe := Lib.hid (show we.heap[W]? = some (.cells (laV s key 0 0 lf) 155 (0, 0)) by rw [hwe]; exact GWb.out)
  refine wp_region_held_drew (S := fun w' => LogAt w' L M N kv (.slice a 1 cp) ∧ w'.heap[W]? = some (.cells (laV s key 0 0 lf) 155 (0, 0))) (by kernel_rfl) ⟨LG.out.below BB.out.drew, GWb.out⟩ (fun hHeld => ?_)
  rw [← hwe] at hHeld ⊢
  clear hwe
  refine wpAnyH_take (i := 0) (oi := _) (v := .pointer (some ⟨L, 0, none⟩)) rfl (by kernel_rfl) (by kernel_rfl) (by kernel_rfl) (fun _ _ _ h => h) (Or.inl ⟨by rfl, fun w hw => by go_simp⟩) hHeld ?_
  simp only [Act.put, List.getElem_toArray, List.getElem_cons_zero, List.getElem_cons_succ, List.setIfInBounds_toArray, List.set_cons_zero, List.set_cons_succ]
  refine wpAnyH_take (i := 1) (oi := _) (v := .pointer (some ⟨L, 0, none⟩)) rfl (by kernel_rfl) (by kernel_rfl) (by kernel_rfl) (fun _ _ _ h => h) (Or.inl ⟨by rfl, fun w hw => by go_simp⟩) hHeld ?_
  simp only [Act.put, List.getElem_toArray, List.getElem_cons_zero, List.getElem_cons_succ, List.setIfInBounds_toArray, List.set_cons_zero, List.set_cons_succ]
  refine wpAnyH_take (i := 2) (oi := _) (v := .pointer (some ⟨L, 1, none⟩)) rfl (by kernel_rfl) (by kernel_rfl) (by kernel_rfl) (fun _ _ _ h => h) (Or.inl ⟨by rfl, fun w hw => by go_simp⟩) hHeld ?_
  simp only [Act.put, List.getElem_toArray, List.getElem_cons_zero, List.getElem_cons_succ, List.setIfInBounds_toArray, List.set_cons_zero, List.set_cons_succ]
  refine wpAnyH_take (i := 3) (oi := _) (v := .slice a 1 cp) rfl (by kernel_rfl) (by kernel_rfl) (by kernel_rfl) (fun _ _ _ h => h) (Or.inl ⟨by rfl, fun w hw => by have hcc := hw.1.c1; go_simp⟩) hHeld ?_
  simp only [Act.put, List.getElem_toArray, List.getElem_cons_zero, List.getElem_cons_succ, List.setIfInBounds_toArray, List.set_cons_zero, List.set_cons_succ]
  refine wpAnyH_take (i := 4) (oi := _) (v := .pointer (some ⟨W, 34, none⟩)) rfl (by kernel_rfl) (by kernel_rfl) (by kernel_rfl) (fun _ _ _ h => h) (Or.inl ⟨by rfl, fun w hw => by go_simp⟩) hHeld ?_
  simp only [Act.put, List.getElem_toArray, List.getElem_cons_zero, List.getElem_cons_succ, List.setIfInBounds_toArray, List.set_cons_zero, List.set_cons_succ]
  refine wpAnyH_take (i := 5) (oi := _) (v := .int .i64 0) rfl (by kernel_rfl) (by kernel_rfl) (by kernel_rfl) (fun _ _ _ h => h) (Or.inl ⟨by rfl, fun w hw => by have hcc := laV_at hw.2 KL.out; go_simp⟩) hHeld ?_
  simp only [Act.put, List.getElem_toArray, List.getElem_cons_zero, List.getElem_cons_succ, List.setIfInBounds_toArray, List.set_cons_zero, List.set_cons_succ]
  refine wpAnyH_ready (rs := [6]) (by kernel_rfl) (by simp) ?_
  refine AllReadyH.cons (o := _) rfl (fun K hK => ?_) AllReadyH.nil
  have HK := Lib.hid hK
  clear hK
  go_simp
  go_at_call 42
  refine (TPath_one lf LFL.out a cp _ HC.out.1 HC.out.2 we (RDL.out.below BE.out) (RO.out.at_ BE.out)).mono ?_
  rintro e wf ⟨pa, pn, pc, rfl, hbf⟩
  have BF := Lib.hid (show Below w.heap.size w wf from BE.out.trans (hbf.mono BE.out.size))
  have GFf := Lib.hid ((hbf.block F (lt_of_heap GFe.out)).trans GFe.out)
  have GRf := Lib.hid ((hbf.block R (lt_of_heap GRe.out)).trans GRe.out)
  have GWf := Lib.hid ((hbf.block W (lt_of_heap GWe.out)).trans GWe.out)
  clear hbf
  dsimp only
  refine HK.out _ _ (show _ ∧ _ from ⟨LG.out.below BF.out, GWf.out⟩) ?_
  clear HK K hHeld
  try simp only [Act.put, List.getElem_toArray, List.getElem_cons_zero, List.getElem_cons_succ, List.setIfInBounds_toArray, List.set_cons_zero, List.set_cons_succ]
  intro hHeld
  refine wpAnyH_take (i := 7) (oi := _) (v := .tuple #[.slice pa pn pc, .nilIface]) rfl (by kernel_rfl) (by kernel_rfl) (by kernel_rfl) (fun _ _ _ h => h) (Or.inl ⟨by rfl, fun w hw => by go_simp⟩) hHeld ?_
  simp only [Act.put, List.getElem_toArray, List.getElem_cons_zero, List.getElem_cons_succ, List.setIfInBounds_toArray, List.set_cons_zero, List.set_cons_succ]
  refine wpAnyH_take (i := 8) (oi := _) (v := .slice pa pn pc) rfl (by kernel_rfl) (by kernel_rfl) (by kernel_rfl) (fun _ _ _ h => h) (Or.inl ⟨by rfl, fun w hw => by go_simp⟩) hHeld ?_
  simp only [Act.put, List.getElem_toArray, List.getElem_cons_zero, List.getElem_cons_succ, List.setIfInBounds_toArray, List.set_cons_zero, List.set_cons_succ]
  refine wpAnyH_take (i := 9) (oi := _) (v := .nilIface) rfl (by kernel_rfl) (by kernel_rfl) (by kernel_rfl) (fun _ _ _ h => h) (Or.inl ⟨by rfl, fun w hw => by go_simp⟩) hHeld ?_
  simp only [Act.put, List.getElem_toArray, List.getElem_cons_zero, List.getElem_cons_succ, List.setIfInBounds_toArray, List.set_cons_zero, List.set_cons_succ]
  refine wpAnyH_take (i := 10) (oi := _) (v := .pointer (some ⟨F, 35, none⟩)) rfl (by kernel_rfl) (by kernel_rfl) (by kernel_rfl) (fun _ _ _ h => h) (Or.inl ⟨by rfl, fun w hw => by go_simp⟩) hHeld ?_
  simp only [Act.put, List.getElem_toArray, List.getElem_cons_zero, List.getElem_cons_succ, List.setIfInBounds_toArray, List.set_cons_zero, List.set_cons_succ]
  have c35 := (fdV_c KL.out GFf.out).2.1
  have f35 := frozen_of_row wf F 35 _ _ GFf.out
  refine wpAnyH_ready (rs := [11]) (by kernel_rfl) (by simp) ?_
  refine AllReadyH.cons (o := _) rfl (fun K hK => ?_) AllReadyH.nil
  have HK := Lib.hid hK
  clear hK
  go_simp
  obtain ⟨wg, hwg⟩ : ∃ z, z = wf.setCell ⟨F, 35, none⟩ (.slice pa pn pc) := ⟨_, rfl⟩
  rw [← hwg]
  have GFg := Lib.hid (show wg.heap[F]? = some (.cells (fdV s key 0 0 (.slice pa pn pc) (.slice ma 32 mc)) 113 (0, 0)) by rw [hwg, setCell_rowL GFf.out, fdV_35 KL.out])
  have GWg := Lib.hid (show wg.heap[W]? = some (.cells (laV s key 0 0 lf) 155 (0, 0)) by rw [hwg, Below.heap_setCell _ _ _ _ HWF.out]; exact GWf.out)
  have GRg := Lib.hid (show wg.heap[R]? = some (.cells (fdV ⟨#[]⟩ nz 0 0 (.slice none 0 0) (.slice none 0 0)) 113 (0, 0)) by rw [hwg, Below.heap_setCell _ _ _ _ HRF.out]; exact GRf.out)
  have BG := Lib.hid (show Below w.heap.size w wg by rw [hwg]; exact Below.setCell BF.out (p := ⟨F, 35, none⟩) HF0.out _)
  clear hwg
  refine HK.out _ _ (show _ ∧ _ from ⟨LG.out.below BG.out, GWg.out⟩) ?_
  clear HK K
  try simp only [Act.put, List.getElem_toArray, List.getElem_cons_zero, List.getElem_cons_succ, List.setIfInBounds_toArray, List.set_cons_zero, List.set_cons_succ]
  intro _
  refine wpAnyH_done (by kernel_rfl) ?_ _
  clear hHeld c35 f35
  obtain ⟨wh, hwh⟩ : ∃ z, z = wg.setRow R (fdV s key 0 0 (.slice pa pn pc) (.slice ma 32 mc)) := ⟨_, rfl⟩
  have GRh := Lib.hid (show wh.heap[R]? = some (.cells (fdV s key 0 0 (.slice pa pn pc) (.slice ma 32 mc)) 113 (0, 0)) by rw [hwh]; exact setRow_heap _ _ _ _ _ _ GRg.out)
  have BH := Lib.hid (show Below w.heap.size w wh by rw [hwh]; exact below_setRowW BG.out (by rw [SZR.out]; exact Nat.le_refl _) _)
  have HWH := Lib.hid hwh
  clear hwh
  have FS := Lib.hid (fdV_size (s := s) (t := 0) (i := 0) (pv := .slice pa pn pc) (mv := (.slice ma 32 mc)) KL.out)
  have FS0 := Lib.hid (fdV_size (s := ⟨#[]⟩) (t := 0) (i := 0) (pv := (.slice none 0 0)) (mv := (.slice none 0 0)) ZNL.out)
  go_wp2_with (first
    | (refine ld_found rfl (.tmp 6) rfl F (by rfl) s key 0 0 (.slice pa pn pc) (.slice ma 32 mc) KL.out _ _ GFg.out ?_; simp only [Act.put, List.setIfInBounds_toArray, List.set_cons_zero, List.set_cons_succ])
    | (refine st_anyRow rfl 113 (.tmp 4) (.tmp 50) rfl 37 info_found R (fdV s key 0 0 (.slice pa pn pc) (.slice ma 32 mc)) FS.out (fdV_one rfl rfl) (by rfl) (by rfl) _ FS0.out _ GRg.out ?_; rw [← HWH.out]; simp only [Act.put, List.setIfInBounds_toArray, List.set_cons_zero, List.set_cons_succ]))
  try simp only [Exit.inBlock, Exit.then]
  refine bodyPost_ret (results_cell_tmp rfl _ _ _ ⟨R, 0, none⟩ (.agg (fdV s key 0 0 (.slice pa pn pc) (.slice ma 32 mc))) rfl ?_) rfl ⟨pa, pn, pc, ma, mc, rfl, BH.out⟩
  exact found_load KL.out GRh.out
end Go.Proofs.YtkioddmhjbaleaaDoor
/- Walk: added answers true. -/
namespace Go.Proofs.YtkioddmhjbaleaaDoor
open Go.RowKit
set_option linter.unusedVariables false
set_option linter.unusedSimpArgs false
theorem five_ex : ∃ D : List UInt8, D.length = 32 ∧ ∀ w : World, (Instr.build 23 #[(0, .int .u8 5)]).run Tryd.prog w = .ok (.agg (dV D)) w := by
  refine ⟨5 :: List.replicate 31 0, by decide, fun w => ?_⟩
  kernel_rfl
theorem bld_five {ops : Array Oper} {rest : List Oper} {op : Oper} {a : Act} {w : World} {Q : Exit → Act → World → Prop} {x1 : Operand} (ho : op.op = .build 23 #[(0, x1)]) (hx : a.eval x1 = .int .u8 5) (D : List UInt8) (hD : ∀ w : World, (Instr.build 23 #[(0, .int .u8 5)]).run Tryd.prog w = .ok (.agg (dV D)) w)
    (hw : wpList Tryd.prog ops Q rest (a.put op.dst (.agg (dV D))) w) (hgd : Region.wanted op (yielded ops a.tmps) = true := by rfl) : wpList Tryd.prog ops Q (op :: rest) a w := by
  unfold wpList
  rw [if_pos hgd]
  refine .inl ?_
  unfold Oper.wp execOp
  simp only [ho, List.map_toArray, List.map_cons, List.map_nil, hx, Sem.run_bind, hD w, Result.andThen_ok, Sem.run_pure]
  exact hw
theorem named_a : named ⟨#[97]⟩ = true := by decide +kernel
set_option maxRecDepth 20000 in
set_option maxHeartbeats 2000000 in
theorem Added_calls  (w : World) (hro : RoundsAt w) :
    Calls Tryd.prog 33 #[] w fun e w' => e = .returned (.bool true) ∧ Below w.heap.size w w' := by
  have RO := Lib.hid hro
  obtain ⟨D5, hl5, hb5⟩ := five_ex
  have D5L := Lib.hid hl5
  have HB5 := Lib.hid hb5
  clear hro hl5 hb5
  go_enter Tryd.func33, Tryd.ntmps33
  go_wp2_with fail
  refine (LNew_calls w).mono ?_
  rintro e w1 ⟨L, M, N, ca, cc, rfl, hL, hM, hN, h1, h2, h3, hb1⟩
  have B1 := Lib.hid hb1
  have LG := Lib.hid hL
  have MM := Lib.hid (show MapAt w1 M (.map #[] 0) from hM)
  have MN := Lib.hid (show MapAt w1 N (.map #[] 0) from hN)
  have HMN := Lib.hid (show M ≠ N by omega)
  have HBB := Lib.hid (show w.heap.size ≤ L ∧ w.heap.size ≤ M ∧ w.heap.size ≤ N ∧ w.heap.size ≤ w1.heap.size from ⟨by omega, h1, by omega, hb1.size⟩)
  clear hL hM hN h1 h2 h3 hb1
  go_wp2_with (refine bld_five rfl (by rfl) D5 HB5.out ?_; simp only [Act.put, List.setIfInBounds_toArray, List.set_cons_zero, List.set_cons_succ])
  refine (LAdd_calls ⟨#[97]⟩ named_a D5 D5L.out L M N _ w.heap.size w1 LG.out MM.out MN.out HMN.out HBB.out (RO.out.at_ B1.out)).mono ?_
  rintro e w2 ⟨ki, lf, a, cp, hki, hlf, rfl, hL2, hrd, hc1, hc2, hM2, hN2, hb2⟩
  have B2 := Lib.hid (B1.out.trans hb2)
  have L2 := Lib.hid hL2
  have M2 := Lib.hid hM2
  have N2 := Lib.hid hN2
  have RD2 := Lib.hid hrd
  have HC := Lib.hid (And.intro hc1 hc2)
  have HKI := Lib.hid hki
  have LFL := Lib.hid hlf
  clear hki hlf hL2 hrd hc1 hc2 hM2 hN2 hb2
  go_wp2_with fail
  refine (Find_calls ⟨#[97]⟩ named_a D5 D5L.out ki HKI.out lf LFL.out L M N _ a cp HC.out.1 HC.out.2 w2 L2.out M2.out N2.out RD2.out (RO.out.at_ B2.out)).mono ?_
  rintro e w3 ⟨pa, pn, pc, ma, mc, rfl, hb3⟩
  have B3 := Lib.hid (B2.out.trans (hb3.mono B2.out.size))
  clear hb3
  obtain ⟨X, hX⟩ : ∃ z, z = w3.heap.size := ⟨_, rfl⟩
  obtain ⟨w4, hw4⟩ : ∃ z, z = w3.alloc (.cells (fdV ⟨#[97]⟩ D5 0 0 (.slice pa pn pc) (.slice ma 32 mc)) 113) := ⟨_, rfl⟩
  have B4 := Lib.hid (show Below w.heap.size w w4 by rw [hw4]; exact B3.out.alloc B3.out.size _)
  have GX := Lib.hid (show w4.heap[X]? = some (.cells (fdV ⟨#[97]⟩ D5 0 0 (.slice pa pn pc) (.slice ma 32 mc)) 113 (0, 0)) by rw [hw4, hX]; exact heap_alloc_new _ _)
  have FS := Lib.hid (fdV_size (s := ⟨#[97]⟩) (t := 0) (i := 0) (pv := .slice pa pn pc) (mv := .slice ma 32 mc) D5L.out)
  have HX := Lib.hid hX
  have HW4 := Lib.hid hw4
  clear hX hw4
  go_upto_region 6 with (refine st_anyNew rfl 113 (.tmp 4) (.tmp 18) rfl 37 info_found (fdV ⟨#[97]⟩ D5 0 0 (.slice pa pn pc) (.slice ma 32 mc)) FS.out (fdV_one rfl rfl) (by rfl) _ _ (by rfl) (by rfl) ?_; rw [← HX.out, ← HW4.out]; simp only [Act.put, List.setIfInBounds_toArray, List.set_cons_zero, List.set_cons_succ])
  go_wp2_with (first
    | (refine bld_five rfl (by rfl) D5 HB5.out ?_; simp only [Act.put, List.setIfInBounds_toArray, List.set_cons_zero, List.set_cons_succ])
    | ((refine ld_digG rfl (.tmp 32) rfl X 1 (by rfl) D5 D5L.out (fdV_key D5L.out GX.out) ?_); simp only [Act.put, List.setIfInBounds_toArray, List.set_cons_zero, List.set_cons_succ])
    | ((refine eq_digG rfl (.tmp 33) (.tmp 34) _ rfl D5 D5 (by rfl) (by rfl) D5L.out D5L.out ?_); rw [beq_self_eq_true]; simp only [Act.put, List.setIfInBounds_toArray, List.set_cons_zero, List.set_cons_succ]))
  go_ret
  exact ⟨rfl, B4.out⟩
end Go.Proofs.YtkioddmhjbaleaaDoor
