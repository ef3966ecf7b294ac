/- Walks: the document's short keys and stamps. -/
import Derived.Test.YtkioddmhjbaleaaGreatDoorWots
import Derived.Test.YtkioddmhjbaleaaGreatDoorRMac
import Derived.Test.YtkioddmhjbaleaaGreatDoorNib
import Derived.Deep.RegionHeld3
namespace Go.Proofs.YtkioddmhjbaleaaGreatDoor
open Go.RowKit
set_option linter.unusedVariables false
set_option linter.unusedSimpArgs false

section
variable {P : Program} {w : World} {ops : Array Oper} {o : Oper} {a : Act} {K : Act → World → Prop} {Q : Exit → Act → World → Prop} {E : Prop}
/-- cells appended onto an owned slice, as a step of a region that draws its order -/
theorem stepAppRdR (T e : TypeId) (z : Value) (size bytes : Nat) (ht : P.underlying T = some (.slice e)) (hinfo : (P.info? e).map (fun i => (i.zero, i.size, i.bytes)) = some (some z, size, bytes)) (hzs : z.cells.size = size) (hsz : 0 < size)
    (hgd : o.guard = none) (s x : Operand) (ho : o.op = .call { callee := .builtin .append, args := #[s, x], argTypes := #[T, T] })
    (base : Nat) (v : Value) (n : Nat) (xs : List Value) (hs : a.eval s = v) (hown : w.ownsRow base e size v n xs) (ad : Addr) (m c : Nat) (news : List Value) (hx : a.eval x = .slice (some ad) m c) (es : TypeId)
    (hu : Rd w (some ad) es news) (hl : news.length = m * size) (h1 : ∀ u ∈ news, u.oneCell' = true) (hm : 0 < m) (hn : n + m ≤ 140737488355328) (hnb : (n + m) * bytes ≤ 140737488355328) (hbase : base ≤ w.heap.size) (H : Nat) (hH : w.heap.size = H)
    (h : ∀ g cap w', w'.ownsRow base e size (.slice (some ⟨g, 0, none⟩) (n + m) cap) (n + m) (xs ++ news) → w.grownBy w' v.ownBlock → (v.ownBlock = some g ∨ g = H) → g < w'.heap.size → K (a.put o.dst (.slice (some ⟨g, 0, none⟩) (n + m) cap)) w') :
    if Region.wanted o (yielded ops a.tmps) = true then Oper.wp P o a w K Q else E := by
  obtain ⟨i, hi, hz, hsz', hb⟩ := info_parts hinfo
  exact step_append_lies w hgd s x T ho base e i z size bytes ht hi hz hsz' hb hzs hsz v n xs hs hown ad m c news hx hl hu.news h1 hm (by simp only [maxLen]; omega) (by omega) hbase H hH h
end
/-- a row of digests that is made one by one -/
structure RowI (w : World) (L : Nat → List UInt8) (k : Nat) (v : Value) (wr : World) : Prop where
  own : wr.ownsRow w.heap.size 23 32 v k (((List.range k).map L).flatten.map vB)
  bel : Below w.heap.size w wr
theorem RowI.snoc (L : Nat → List UInt8) (k : Nat) : ((List.range (k + 1)).map L).flatten.map vB = ((List.range k).map L).flatten.map vB ++ (L k).map vB := by
  rw [List.range_succ, List.map_append, List.map_singleton]; exact flat_snoc _ _
theorem RSecretK (seed : List UInt8) (hs : seed.length = 32) (k : Nat) (hk : k < 256) (w : World) : Calls Tryz.prog 41 #[.agg (dV seed), .int .i64 (k : Int)] w fun e w' => e = .returned (.agg (dV (secD seed k))) ∧ Below w.heap.size w w' := by
  have := RSecret_calls seed hs (UInt8.ofNat k) w
  rw [ofNat_k k hk] at this
  exact this
set_option maxRecDepth 20000 in
set_option maxHeartbeats 1000000 in
theorem RStampKey_calls (seed : List UInt8) (hs : seed.length = 32) (i : UInt8) (w : World) :
    Calls Tryz.prog 18 #[.agg (dV seed), .int .i64 (i.toNat : Int)] w fun e w' => e = .returned (.agg (dV (macOf seed [11, i]))) ∧ Below w.heap.size w w' := by
  have hz : nz.length = 32 := rfl
  have ZL := Lib.hid hz
  clear hz
  have SL := Lib.hid hs
  clear hs
  have q1 : IntKind.u8.wrap (i.toNat : Int) = (i.toNat : Int) := by have := i.toNat_lt; rw [IntKind.wrap_u8]; omega
  obtain ⟨S, hS⟩ : ∃ z, z = w.heap.size := ⟨_, rfl⟩
  obtain ⟨w1, hw1⟩ : ∃ z, z = w.alloc (.cells (dV seed) 23) := ⟨_, rfl⟩
  have st1 : Below w.heap.size w w1 := by rw [hw1]; exact (Below.refl _ _).alloc (Nat.le_refl _) _
  have B1 := Lib.hid (show Below w.heap.size w w1 from Below.trans (Below.refl w.heap.size w) (Below.mono st1 (Below.size (Below.refl w.heap.size w))))
  have GS_1 := Lib.hid (show w1.heap[S]? = some (.cells (dV seed) 23 (0, 0)) by rw [hw1, hS]; exact heap_alloc_new _ _)
  have LS_1 := Lib.hid (lt_of_heap GS_1.out)
  have HS := Lib.hid hS
  have Hw1 := Lib.hid hw1
  clear hS hw1 st1
  have SZS := Lib.hid (show S = w.heap.size from HS.out)
  obtain ⟨R, hR⟩ : ∃ z, z = w1.heap.size := ⟨_, rfl⟩
  obtain ⟨w2, hw2⟩ : ∃ z, z = w1.alloc (.cells (dV nz) 23) := ⟨_, rfl⟩
  have st2 : Below w1.heap.size w1 w2 := by rw [hw2]; exact (Below.refl _ _).alloc (Nat.le_refl _) _
  have B2 := Lib.hid (show Below w.heap.size w w2 from Below.trans B1.out (Below.mono st2 (Below.size B1.out)))
  have GS_2 := Lib.hid ((Below.block st2 S LS_1.out).trans GS_1.out)
  have LS_2 := Lib.hid (Nat.lt_of_lt_of_le LS_1.out (Below.size st2))
  have GR_2 := Lib.hid (show w2.heap[R]? = some (.cells (dV nz) 23 (0, 0)) by rw [hw2, hR]; exact heap_alloc_new _ _)
  have LR_2 := Lib.hid (lt_of_heap GR_2.out)
  have HR := Lib.hid hR
  have Hw2 := Lib.hid hw2
  clear hR hw2 st2
  have SZR := Lib.hid (show R = w.heap.size + 1 by rw [HR.out, Hw1.out, World.size_alloc, ← HS.out, SZS.out])
  go_enter Tryz.func18, Tryz.ntmps18
  go_upto_region 1 with fail
  rw [zdig]
  rw [← SZR.out, ← SZS.out, ← Hw1.out, ← Hw2.out]
  obtain ⟨T, hT⟩ : ∃ z, z = w2.heap.size := ⟨_, rfl⟩
  obtain ⟨w3, hw3⟩ : ∃ z, z = w2.alloc (.cells #[.int .u8 11, .int .u8 (i.toNat : Int)] 5) := ⟨_, rfl⟩
  have st3 : Below w2.heap.size w2 w3 := by rw [hw3]; exact (Below.refl _ _).alloc (Nat.le_refl _) _
  have B3 := Lib.hid (show Below w.heap.size w w3 from Below.trans B2.out (Below.mono st3 (Below.size B2.out)))
  have GS_3 := Lib.hid ((Below.block st3 S LS_2.out).trans GS_2.out)
  have LS_3 := Lib.hid (Nat.lt_of_lt_of_le LS_2.out (Below.size st3))
  have GR_3 := Lib.hid ((Below.block st3 R LR_2.out).trans GR_2.out)
  have LR_3 := Lib.hid (Nat.lt_of_lt_of_le LR_2.out (Below.size st3))
  have GT_3 := Lib.hid (show w3.heap[T]? = some (.cells #[.int .u8 11, .int .u8 (i.toNat : Int)] 5 (0, 0)) by rw [hw3, hT]; exact heap_alloc_new _ _)
  have LT_3 := Lib.hid (lt_of_heap GT_3.out)
  have HT := Lib.hid hT
  have Hw3 := Lib.hid hw3
  clear hT hw3 st3
  have HM := Lib.hid (RMac_short seed (by rw [SL.out]; decide) (some ⟨S, 0, none⟩) 32 _ [11, i] (by simp) (by simp) (some ⟨T, 0, none⟩) 2 _ w3 (rd_of_row GS_3.out) (rd_of_row (d := [11, i]) GT_3.out))
  rw [SL.out] at HM
  go_wp2_with fail
  rw [← HT.out, ← Hw3.out]
  refine (HM.out).mono ?_
  rintro e w4 ⟨rfl, hb4⟩
  have B4 := Lib.hid (show Below w.heap.size w w4 from Below.trans B3.out (Below.mono hb4 (Below.size B3.out)))
  have GS_4 := Lib.hid ((Below.block hb4 S LS_3.out).trans GS_3.out)
  have LS_4 := Lib.hid (Nat.lt_of_lt_of_le LS_3.out (Below.size hb4))
  have GR_4 := Lib.hid ((Below.block hb4 R LR_3.out).trans GR_3.out)
  have LR_4 := Lib.hid (Nat.lt_of_lt_of_le LR_3.out (Below.size hb4))
  have GT_4 := Lib.hid ((Below.block hb4 T LT_3.out).trans GT_3.out)
  have LT_4 := Lib.hid (Nat.lt_of_lt_of_le LT_3.out (Below.size hb4))
  clear HM
  clear hb4
  obtain ⟨w5, hw5⟩ : ∃ z, z = w4.setRow R (dV (macOf seed [11, i])) := ⟨_, rfl⟩
  have B5 := Lib.hid (show Below w.heap.size w w5 by rw [hw5]; exact below_setRowW B4.out (by rw [HR.out]; exact Below.size B1.out) _)
  have sz5 : w5.heap.size = w4.heap.size := by rw [hw5]; exact setRow_size _ _ _
  have GS_5 := Lib.hid (show w5.heap[S]? = some (.cells (dV seed) 23 (0, 0)) by rw [hw5]; exact (_root_.Go.setRow_other _ _ _ _ (by rw [HR.out]; exact Nat.ne_of_lt LS_1.out)).trans GS_4.out)
  have LS_5 := Lib.hid (show S < w5.heap.size by rw [sz5]; exact LS_4.out)
  have GR_5 := Lib.hid (show w5.heap[R]? = some (.cells (dV (macOf seed [11, i])) 23 (0, 0)) by rw [hw5]; exact setRow_heap _ _ _ _ _ _ GR_4.out)
  have LR_5 := Lib.hid (show R < w5.heap.size by rw [sz5]; exact LR_4.out)
  have GT_5 := Lib.hid (show w5.heap[T]? = some (.cells #[.int .u8 11, .int .u8 (i.toNat : Int)] 5 (0, 0)) by rw [hw5]; exact (_root_.Go.setRow_other _ _ _ _ (by rw [HT.out]; exact (Nat.ne_of_lt LR_2.out).symm)).trans GT_4.out)
  have LT_5 := Lib.hid (show T < w5.heap.size by rw [sz5]; exact LT_4.out)
  have Hw5 := Lib.hid hw5
  clear hw5 sz5
  go_wp2_with (first
    | (refine at_st 23 (.tmp 4) (.tmp 9) rfl ?_; (refine st_row rfl (.tmp 4) (.tmp 9) rfl R (macOf seed [11, i]) (macOf_length _ _) (by rfl) (by rfl) (dV nz) (dV_size ZL.out) _ GR_4.out ?_); rw [← Hw5.out]))
  try simp only [Exit.inBlock, Exit.then]
  refine bodyPost_ret (v := .agg (dV (macOf seed [11, i]))) (results_cellW rfl _ _ _ ⟨R, 0, none⟩ _ rfl ?_) rfl ?_
  · exact dig_load (macOf_length _ _) (range_of_row GR_5.out)
  · exact ⟨rfl, B5.out⟩
theorem RStampK (seed : List UInt8) (hs : seed.length = 32) (k : Nat) (hk : k < 256) (w : World) : Calls Tryz.prog 18 #[.agg (dV seed), .int .i64 (k : Int)] w fun e w' => e = .returned (.agg (dV (skey seed k))) ∧ Below w.heap.size w w' := by
  have := RStampKey_calls seed hs (UInt8.ofNat k) w
  rw [ofNat_k k hk] at this
  exact this
set_option maxRecDepth 20000 in
set_option maxHeartbeats 2000000 in
theorem RWPublic_calls (seed : List UInt8) (hs : seed.length = 32) (w : World) :
    Calls Tryz.prog 17 #[.agg (dV seed)] w fun e w' => e = .returned (.agg (dV (wpub seed))) ∧ Below w.heap.size w w' := by
  have hz : nz.length = 32 := rfl
  have ZL := Lib.hid hz
  clear hz
  have SL := Lib.hid hs
  clear hs
  obtain ⟨S, hS⟩ : ∃ z, z = w.heap.size := ⟨_, rfl⟩
  obtain ⟨w1, hw1⟩ : ∃ z, z = w.alloc (.cells (dV seed) 23) := ⟨_, rfl⟩
  have st1 : Below w.heap.size w w1 := by rw [hw1]; exact (Below.refl _ _).alloc (Nat.le_refl _) _
  have B1 := Lib.hid (show Below w.heap.size w w1 from Below.trans (Below.refl w.heap.size w) (Below.mono st1 (Below.size (Below.refl w.heap.size w))))
  have GS_1 := Lib.hid (show w1.heap[S]? = some (.cells (dV seed) 23 (0, 0)) by rw [hw1, hS]; exact heap_alloc_new _ _)
  have LS_1 := Lib.hid (lt_of_heap GS_1.out)
  have HS := Lib.hid hS
  have Hw1 := Lib.hid hw1
  clear hS hw1 st1
  have SZS := Lib.hid (show S = w.heap.size from HS.out)
  obtain ⟨R, hR⟩ : ∃ z, z = w1.heap.size := ⟨_, rfl⟩
  obtain ⟨w2, hw2⟩ : ∃ z, z = w1.alloc (.cells (dV nz) 23) := ⟨_, rfl⟩
  have st2 : Below w1.heap.size w1 w2 := by rw [hw2]; exact (Below.refl _ _).alloc (Nat.le_refl _) _
  have B2 := Lib.hid (show Below w.heap.size w w2 from Below.trans B1.out (Below.mono st2 (Below.size B1.out)))
  have GS_2 := Lib.hid ((Below.block st2 S LS_1.out).trans GS_1.out)
  have LS_2 := Lib.hid (Nat.lt_of_lt_of_le LS_1.out (Below.size st2))
  have GR_2 := Lib.hid (show w2.heap[R]? = some (.cells (dV nz) 23 (0, 0)) by rw [hw2, hR]; exact heap_alloc_new _ _)
  have LR_2 := Lib.hid (lt_of_heap GR_2.out)
  have HR := Lib.hid hR
  have Hw2 := Lib.hid hw2
  clear hR hw2 st2
  have SZR := Lib.hid (show R = w.heap.size + 1 by rw [HR.out, Hw1.out, World.size_alloc, ← HS.out, SZS.out])
  go_enter Tryz.func17, Tryz.ntmps17
  go_upto_region 1 with fail
  rw [zdig]
  rw [← SZR.out, ← SZS.out, ← Hw1.out, ← Hw2.out]
  go_wp2_with fail
  go_loopw [3, 4] (fun v i wr => ∃ k : Nat, k ≤ 67 ∧ i = .int .i64 k ∧ Hid (RowI w2 (fun i => walkD (secD seed i) 15) k v wr)) (fun _ i _ => 67 - (intOf i).toNat)
  case atStart => exact ⟨0, Nat.zero_le _, rfl, Lib.hid ⟨World.ownsRow_nil _ _ _ _, Below.refl _ _⟩⟩
  case round =>
    obtain ⟨k, hk, rfl, HI⟩ := hrel
    by_cases hlt : k < 67
    · have O_50 := Lib.hid HI.out.own
      have HBL := Lib.hid HI.out.bel
      have GS_50 := Lib.hid ((HBL.out.block S LS_2.out).trans GS_2.out)
      have LS_50 := Lib.hid (lt_of_heap GS_50.out)
      clear HI
      go_wp2_with (first
        | (refine at_ld 23 (.tmp 1) rfl ?_; (refine ld_digG rfl (.tmp 1) rfl (S) 0 (by rfl) seed SL.out (range_of_row GS_50.out) ?_); simp only [Act.put, List.setIfInBounds_toArray, List.set_cons_zero, List.set_cons_succ]))
      refine (RSecretK seed SL.out k (by omega) wr).mono ?_
      rintro e w51 ⟨rfl, hb51⟩
      have B51 := Lib.hid (show Below wr.heap.size wr w51 from Below.trans (Below.refl wr.heap.size wr) (Below.mono hb51 (Below.size (Below.refl wr.heap.size wr))))
      have GS_51 := Lib.hid ((Below.block hb51 S LS_50.out).trans GS_50.out)
      have LS_51 := Lib.hid (Nat.lt_of_lt_of_le LS_50.out (Below.size hb51))
      have O_51 := Lib.hid (own_below O_50.out hb51)
      clear hb51
      go_wp2_with fail
      refine (RWalked_calls (secD seed k) (secD_length seed k) 15 (by omega) w51).mono ?_
      rintro e w52 ⟨rfl, hb52⟩
      have B52 := Lib.hid (show Below wr.heap.size wr w52 from Below.trans B51.out (Below.mono hb52 (Below.size B51.out)))
      have GS_52 := Lib.hid ((Below.block hb52 S LS_51.out).trans GS_51.out)
      have LS_52 := Lib.hid (Nat.lt_of_lt_of_le LS_51.out (Below.size hb52))
      have O_52 := Lib.hid (own_below O_51.out hb52)
      clear hb52
      obtain ⟨X, hX⟩ : ∃ X, X = walkD (secD seed k) 15 := ⟨_, rfl⟩
      have XL := Lib.hid (show X.length = 32 by rw [hX]; exact walkD_length (secD_length _ _) 15)
      rw [← hX]
      have HFL := Lib.hid (show ((List.range (k + 1)).map (fun i => walkD (secD seed i) 15)).flatten.map vB = ((List.range k).map (fun i => walkD (secD seed i) 15)).flatten.map vB ++ X.map vB by rw [hX]; exact RowI.snoc _ k)
      clear hX
      obtain ⟨T, hT⟩ : ∃ z, z = w52.heap.size := ⟨_, rfl⟩
      obtain ⟨w53, hw53⟩ : ∃ z, z = w52.alloc (.cells (dV X) 23) := ⟨_, rfl⟩
      have st53 : Below w52.heap.size w52 w53 := by rw [hw53]; exact (Below.refl _ _).alloc (Nat.le_refl _) _
      have B53 := Lib.hid (show Below wr.heap.size wr w53 from Below.trans B52.out (Below.mono st53 (Below.size B52.out)))
      have GS_53 := Lib.hid ((Below.block st53 S LS_52.out).trans GS_52.out)
      have LS_53 := Lib.hid (Nat.lt_of_lt_of_le LS_52.out (Below.size st53))
      have O_53 := Lib.hid (own_below O_52.out st53)
      have GT_53 := Lib.hid (show w53.heap[T]? = some (.cells (dV X) 23 (0, 0)) by rw [hw53, hT]; exact heap_alloc_new _ _)
      have LT_53 := Lib.hid (lt_of_heap GT_53.out)
      have HT := Lib.hid hT
      have Hw53 := Lib.hid hw53
      clear hT hw53 st53
      have hsn : w2.heap.size ≤ w53.heap.size := Nat.le_trans HBL.out.size B53.out.size
      go_wp2_with (first
        | ((refine wpl_build1t 24 23 _ 32 32 Tryz.underlying24 info_digz2 (by omega) (by omega) rfl (.tmp 13) rfl (dV X) (by rfl) (dV_size XL.out) ?_); rw [← HT.out, ← Hw53.out]; simp only [Act.put, List.setIfInBounds_toArray, List.set_cons_zero, List.set_cons_succ])
        | (at_builtin; refine appAllw 24 23 (.agg (dV nz)) 32 32 Tryz.underlying24 info_digz2 (dV_size rfl) (by omega) rfl (.tmp 9) (.tmp 14) (by rfl) w2.heap.size _ k _ (by rfl) O_53.out (some ⟨T, 0, none⟩) 1 1 (X.map vB) (by rfl) _ (rd_of_row GT_53.out) (by rw [List.length_map, XL.out]) (one_bytes X) (by omega) (by omega) hsn ?_; intro av3 cp3 w9 hown9 hb9; rw [← HFL.out] at hown9; have E9 := Lib.hid (show RowI w2 (fun i => walkD (secD seed i) 15) (k + 1) (.slice av3 (k + 1) cp3) w9 from ⟨hown9, (HBL.out.trans (Below.mono B53.out HBL.out.size)).trans hb9⟩); clear hown9 hb9))
      go_roundw
      case rel => exact ⟨k + 1, by omega, by go_num, E9⟩
      case measure => simp [intOf] <;> omega
    · obtain rfl : k = 67 := by omega
      obtain ⟨av, cp, rfl⟩ := own_slice HI.out.own
      have HO := Lib.hid (ROf_calls 7 ((List.range 67).map (fun i => walkD (secD seed i) 15)) (ends_dig _ (fun k _ => secD_length seed k) (fun _ => 15)) (by simp) av cp _ wr (Rd.of_own HI.out.own))
      rw [show ((List.range 67).map (fun i => walkD (secD seed i) 15)).length = 67 by simp] at HO
      have HW := Lib.hid (show shaOf (7 :: ((List.range 67).map (fun i => walkD (secD seed i) 15)).flatten) = wpub seed from rfl)
      rw [HW.out] at HO
      have GR := Lib.hid ((HI.out.bel.block R LR_2.out).trans GR_2.out)
      have BR := Lib.hid (B2.out.trans (HI.out.bel.mono B2.out.size))
      go_wp2_with fail
      refine HO.out.mono ?_
      rintro e w7 ⟨rfl, hb7⟩
      have G7 := Lib.hid ((hb7.block R (lt_of_heap GR.out)).trans GR.out)
      have B7 := Lib.hid (BR.out.trans (hb7.mono BR.out.size))
      clear hb7 HO
      go_wp2_with (refine st_row rfl (.tmp 2) (.tmp 17) rfl R (wpub seed) (wpub_length _) (by rfl) (by rfl) (dV nz) (dV_size ZL.out) _ G7.out ?_)
      try simp only [Exit.inBlock, Exit.then]
      refine bodyPost_ret (v := .agg (dV (wpub seed))) (results_cellW rfl _ _ _ ⟨R, 0, none⟩ _ rfl ?_) rfl ?_
      · exact dig_load (wpub_length _) (range_of_row (setRow_heap _ _ _ _ _ _ G7.out))
      · exact ⟨rfl, below_setRowW B7.out (by rw [SZR.out]; omega) _⟩
set_option maxRecDepth 20000 in
set_option maxHeartbeats 2000000 in
theorem RLeavesK_calls (seed : List UInt8) (hs : seed.length = 32) (h : Nat) (hh : h ≤ 4) (w : World) :
    Calls Tryz.prog 4 #[.agg (dV seed), .int .i64 (h : Int)] w fun e w' => ∃ a cap, e = .returned (.slice a (2 ^ h) cap) ∧ w'.ownsRow w.heap.size 23 32 (.slice a (2 ^ h) cap) (2 ^ h) ((leavesK seed (2 ^ h)).flatten.map vB) ∧ Below w.heap.size w w' := by
  have SL := Lib.hid hs
  clear hs
  obtain ⟨S, hS⟩ : ∃ z, z = w.heap.size := ⟨_, rfl⟩
  obtain ⟨w1, hw1⟩ : ∃ z, z = w.alloc (.cells (dV seed) 23) := ⟨_, rfl⟩
  have st1 : Below w.heap.size w w1 := by rw [hw1]; exact (Below.refl _ _).alloc (Nat.le_refl _) _
  have B1 := Lib.hid (show Below w.heap.size w w1 from Below.trans (Below.refl w.heap.size w) (Below.mono st1 (Below.size (Below.refl w.heap.size w))))
  have GS_1 := Lib.hid (show w1.heap[S]? = some (.cells (dV seed) 23 (0, 0)) by rw [hw1, hS]; exact heap_alloc_new _ _)
  have LS_1 := Lib.hid (lt_of_heap GS_1.out)
  have HS := Lib.hid hS
  have Hw1 := Lib.hid hw1
  clear hS hw1 st1
  have SZS := Lib.hid (show S = w.heap.size from HS.out)
  go_enter Tryz.func4, Tryz.ntmps4
  go_upto_region 1 with fail
  rw [← SZS.out, ← Hw1.out]
  go_wp2_with fail
  go_loop [5, 6] (fun n i => ∃ k : Nat, k ≤ h ∧ i = .int .i64 k ∧ n = .int .i64 ((2 ^ k : Nat) : Int)) (fun _ i => h - (intOf i).toNat)
  case atStart => exact ⟨0, Nat.zero_le _, rfl, rfl⟩
  case round =>
    obtain ⟨k, hk, rfl, rfl⟩ := hrel
    obtain ⟨n, hn⟩ : ∃ n, n = 2 ^ k := ⟨_, rfl⟩
    have hn16 : n ≤ 16 := by rw [hn]; exact Nat.le_trans (Nat.pow_le_pow_right (by omega) (show k ≤ 4 by omega)) (by decide)
    have HN := Lib.hid (show 2 ^ (k + 1) = 2 * n by rw [hn, Nat.pow_succ]; omega)
    have HNK := Lib.hid hn
    rw [← hn]
    clear hn
    by_cases hlt : k < h
    · go_wp2_with fail
      go_round
      case rel => exact ⟨k + 1, by omega, by go_num, by rw [HN.out]; go_num⟩
      case measure => simp [intOf]; omega
    · obtain rfl : k = h := by omega
      go_wp2_with fail
      go_loopw [7, 8] (fun v i wr => ∃ k : Nat, k ≤ n ∧ i = .int .i64 k ∧ Hid (RowI w1 (fun i => wpub (skey seed i)) k v wr)) (fun _ i _ => n - (intOf i).toNat)
      case atStart => exact ⟨0, Nat.zero_le _, rfl, Lib.hid ⟨World.ownsRow_nil _ _ _ _, Below.refl _ _⟩⟩
      case round =>
        obtain ⟨k, hk2, rfl, HI⟩ := hrel
        by_cases hlt2 : k < n
        · have O_50 := Lib.hid HI.out.own
          have HBL := Lib.hid HI.out.bel
          have GS_50 := Lib.hid ((HBL.out.block S LS_1.out).trans GS_1.out)
          have LS_50 := Lib.hid (lt_of_heap GS_50.out)
          clear HI
          go_wp2_with (first
            | (refine at_ld 23 (.tmp 2) rfl ?_; (refine ld_digG rfl (.tmp 2) rfl (S) 0 (by rfl) seed SL.out (range_of_row GS_50.out) ?_); simp only [Act.put, List.setIfInBounds_toArray, List.set_cons_zero, List.set_cons_succ]))
          refine (RStampK seed SL.out k (by omega) wr).mono ?_
          rintro e w51 ⟨rfl, hb51⟩
          have B51 := Lib.hid (show Below wr.heap.size wr w51 from Below.trans (Below.refl wr.heap.size wr) (Below.mono hb51 (Below.size (Below.refl wr.heap.size wr))))
          have GS_51 := Lib.hid ((Below.block hb51 S LS_50.out).trans GS_50.out)
          have LS_51 := Lib.hid (Nat.lt_of_lt_of_le LS_50.out (Below.size hb51))
          have O_51 := Lib.hid (own_below O_50.out hb51)
          clear hb51
          go_wp2_with fail
          refine (RWPublic_calls (skey seed k) (skey_length seed k) w51).mono ?_
          rintro e w52 ⟨rfl, hb52⟩
          have B52 := Lib.hid (show Below wr.heap.size wr w52 from Below.trans B51.out (Below.mono hb52 (Below.size B51.out)))
          have GS_52 := Lib.hid ((Below.block hb52 S LS_51.out).trans GS_51.out)
          have LS_52 := Lib.hid (Nat.lt_of_lt_of_le LS_51.out (Below.size hb52))
          have O_52 := Lib.hid (own_below O_51.out hb52)
          clear hb52
          obtain ⟨X, hX⟩ : ∃ X, X = wpub (skey seed k) := ⟨_, rfl⟩
          have XL := Lib.hid (show X.length = 32 by rw [hX]; exact wpub_length _)
          rw [← hX]
          have HFL := Lib.hid (show ((List.range (k + 1)).map (fun i => wpub (skey seed i))).flatten.map vB = ((List.range k).map (fun i => wpub (skey seed i))).flatten.map vB ++ X.map vB by rw [hX]; exact RowI.snoc _ k)
          clear hX
          obtain ⟨T, hT⟩ : ∃ z, z = w52.heap.size := ⟨_, rfl⟩
          obtain ⟨w53, hw53⟩ : ∃ z, z = w52.alloc (.cells (dV X) 23) := ⟨_, rfl⟩
          have st53 : Below w52.heap.size w52 w53 := by rw [hw53]; exact (Below.refl _ _).alloc (Nat.le_refl _) _
          have B53 := Lib.hid (show Below wr.heap.size wr w53 from Below.trans B52.out (Below.mono st53 (Below.size B52.out)))
          have GS_53 := Lib.hid ((Below.block st53 S LS_52.out).trans GS_52.out)
          have LS_53 := Lib.hid (Nat.lt_of_lt_of_le LS_52.out (Below.size st53))
          have O_53 := Lib.hid (own_below O_52.out st53)
          have GT_53 := Lib.hid (show w53.heap[T]? = some (.cells (dV X) 23 (0, 0)) by rw [hw53, hT]; exact heap_alloc_new _ _)
          have LT_53 := Lib.hid (lt_of_heap GT_53.out)
          have HT := Lib.hid hT
          have Hw53 := Lib.hid hw53
          clear hT hw53 st53
          have hsn : w1.heap.size ≤ w53.heap.size := Nat.le_trans HBL.out.size B53.out.size
          go_wp2_with (first
            | ((refine wpl_build1t 24 23 _ 32 32 Tryz.underlying24 info_digz2 (by omega) (by omega) rfl (.tmp 25) rfl (dV X) (by rfl) (dV_size XL.out) ?_); rw [← HT.out, ← Hw53.out]; simp only [Act.put, List.setIfInBounds_toArray, List.set_cons_zero, List.set_cons_succ])
            | (at_builtin; refine appAllw 24 23 (.agg (dV nz)) 32 32 Tryz.underlying24 info_digz2 (dV_size rfl) (by omega) rfl (.tmp 21) (.tmp 26) (by rfl) w1.heap.size _ k _ (by rfl) O_53.out (some ⟨T, 0, none⟩) 1 1 (X.map vB) (by rfl) _ (rd_of_row GT_53.out) (by rw [List.length_map, XL.out]) (one_bytes X) (by omega) (by omega) hsn ?_; intro av3 cp3 w9 hown9 hb9; rw [← HFL.out] at hown9; have E9 := Lib.hid (show RowI w1 (fun i => wpub (skey seed i)) (k + 1) (.slice av3 (k + 1) cp3) w9 from ⟨hown9, (HBL.out.trans (Below.mono B53.out HBL.out.size)).trans hb9⟩); clear hown9 hb9))
          go_roundw
          case rel => exact ⟨k + 1, by omega, by go_num, E9⟩
          case measure => simp [intOf] <;> omega
        · obtain rfl : k = n := by omega
          obtain ⟨av, cp, rfl⟩ := own_slice HI.out.own
          go_wp2_with fail
          go_ret
          exact ⟨av, cp, by rw [← HNK.out]; rfl, by rw [← HNK.out]; exact own_base HI.out.own B1.out.size, B1.out.trans (HI.out.bel.mono B1.out.size)⟩
end Go.Proofs.YtkioddmhjbaleaaGreatDoor
