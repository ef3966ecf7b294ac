/- Walk: are two signatures the same? -/
import Derived.Test.YtkioddmhjbaleaaGreatDoorSameDigs
import Derived.Test.YtkioddmhjbaleaaGreatDoorStamp3
namespace Go.Proofs.YtkioddmhjbaleaaGreatDoor
open Go.RowKit
set_option linter.unusedVariables false
set_option linter.unusedSimpArgs false
theorem DigestsB (xs ys : List (List UInt8)) (hx : ∀ c ∈ xs, c.length = 32) (hy : ∀ c ∈ ys, c.length = 32) (a b : Option Addr) (ca cb ea eb : Nat) (w : World) (ha : Rd w a ea (xs.flatten.map vB)) (hb : Rd w b eb (ys.flatten.map vB)) (hl : xs.length ≤ 9223372036854775807) (r : Bool) (hr : r = decide (xs = ys)) :
    Calls Tryz.prog 35 #[.slice a xs.length ca, .slice b ys.length cb] w fun e w' => e = .returned (.bool r) ∧ Below w.heap.size w w' := by
  rw [hr]
  refine (Digests_calls xs ys hx hy a b ca cb ea eb w ha hb hl).mono ?_
  rintro e w' ⟨he, n, rfl⟩
  exact ⟨he, below_drewN (Below.refl _ _) n⟩
set_option maxRecDepth 20000 in
set_option maxHeartbeats 4000000 in
theorem Signature_calls (i j : Int) (gs hs ps qs : List (List UInt8)) (hgs : ∀ c ∈ gs, c.length = 32) (hhs : ∀ c ∈ hs, c.length = 32) (hps : ∀ c ∈ ps, c.length = 32) (hqs : ∀ c ∈ qs, c.length = 32) (ga ha pa qa : Option Addr) (gc hc pc qc e1 e2 e3 e4 : Nat) (w : World)
    (rg : Rd w ga e1 (gs.flatten.map vB)) (rh : Rd w ha e2 (hs.flatten.map vB)) (rp : Rd w pa e3 (ps.flatten.map vB)) (rq : Rd w qa e4 (qs.flatten.map vB)) (hl1 : gs.length ≤ 9223372036854775807) (hl2 : ps.length ≤ 9223372036854775807) (r : Bool) (hr : r = (decide (gs = hs) && decide (ps = qs) && decide (i = j))) :
    Calls Tryz.prog 13 #[.agg #[.int .i64 i, .slice ga gs.length gc, .slice pa ps.length pc], .agg #[.int .i64 j, .slice ha hs.length hc, .slice qa qs.length qc]] w fun e w' => e = .returned (.bool r) ∧ Below w.heap.size w w' := by
  obtain ⟨b1, hb1⟩ : ∃ b, b = decide (gs = hs) := ⟨_, rfl⟩
  obtain ⟨b2, hb2⟩ : ∃ b, b = decide (ps = qs) := ⟨_, rfl⟩
  have C1 := Lib.hid (show ∀ w', Below w.heap.size w w' → _ from fun w' hb => DigestsB gs hs hgs hhs ga ha gc hc e1 e2 w' (rg.below hb) (rh.below hb) hl1 b1 hb1)
  have C2 := Lib.hid (show ∀ w', Below w.heap.size w w' → _ from fun w' hb => DigestsB ps qs hps hqs pa qa pc qc e3 e4 w' (rp.below hb) (rq.below hb) hl2 b2 hb2)
  rw [← hb1, ← hb2] at hr
  obtain ⟨L1, hL1⟩ : ∃ z, z = gs.length := ⟨_, rfl⟩
  obtain ⟨L2, hL2⟩ : ∃ z, z = hs.length := ⟨_, rfl⟩
  obtain ⟨L3, hL3⟩ : ∃ z, z = ps.length := ⟨_, rfl⟩
  obtain ⟨L4, hL4⟩ : ∃ z, z = qs.length := ⟨_, rfl⟩
  rw [← hL1, ← hL2] at C1
  rw [← hL3, ← hL4] at C2
  rw [← hL1, ← hL2, ← hL3, ← hL4]
  clear hb1 hb2 hL1 hL2 hL3 hL4 rg rh rp rq hl1 hl2 hgs hhs hps hqs
  cases b1 with
  | false =>
    obtain rfl : r = false := by rw [hr]; simp
    clear hr
    cases b2 with
    | false =>
      obtain ⟨X, hX⟩ : ∃ z, z = w.heap.size := ⟨_, rfl⟩
      obtain ⟨w1, hw1⟩ : ∃ z, z = w.alloc (.cells #[.int .i64 i, .slice ga L1 gc, .slice pa L3 pc] 26) := ⟨_, rfl⟩
      have st1 : Below w.heap.size w w1 := by rw [hw1]; exact (Below.refl _ _).alloc (Nat.le_refl _) _
      have B1 := Lib.hid (show Below w.heap.size w w1 from Below.trans (Below.refl w.heap.size w) (Below.mono st1 (Below.size (Below.refl w.heap.size w))))
      have GX_1 := Lib.hid (show w1.heap[X]? = some (.cells #[.int .i64 i, .slice ga L1 gc, .slice pa L3 pc] 26 (0, 0)) by rw [hw1, hX]; exact heap_alloc_new _ _)
      have LX_1 := Lib.hid (lt_of_heap GX_1.out)
      have HX := Lib.hid hX
      have Hw1 := Lib.hid hw1
      clear hX hw1 st1
      have SZX := Lib.hid (show X = w.heap.size from HX.out)
      obtain ⟨Y, hY⟩ : ∃ z, z = w1.heap.size := ⟨_, rfl⟩
      obtain ⟨w2, hw2⟩ : ∃ z, z = w1.alloc (.cells #[.int .i64 j, .slice ha L2 hc, .slice qa L4 qc] 26) := ⟨_, rfl⟩
      have st2 : Below w1.heap.size w1 w2 := by rw [hw2]; exact (Below.refl _ _).alloc (Nat.le_refl _) _
      have B2 := Lib.hid (show Below w.heap.size w w2 from Below.trans B1.out (Below.mono st2 (Below.size B1.out)))
      have GX_2 := Lib.hid ((Below.block st2 X LX_1.out).trans GX_1.out)
      have LX_2 := Lib.hid (Nat.lt_of_lt_of_le LX_1.out (Below.size st2))
      have GY_2 := Lib.hid (show w2.heap[Y]? = some (.cells #[.int .i64 j, .slice ha L2 hc, .slice qa L4 qc] 26 (0, 0)) by rw [hw2, hY]; exact heap_alloc_new _ _)
      have LY_2 := Lib.hid (lt_of_heap GY_2.out)
      have HY := Lib.hid hY
      have Hw2 := Lib.hid hw2
      clear hY hw2 st2
      have SZY := Lib.hid (show Y = w.heap.size + 1 by rw [HY.out, Hw1.out, World.size_alloc, ← HX.out, SZX.out])
      go_enter Tryz.func13, Tryz.ntmps13
      go_upto_region 1 with fail
      rw [← SZY.out, ← SZX.out, ← Hw1.out, ← Hw2.out]
      have u0 := (cellQ GX_2.out).1
      have u1 := (cellQ GX_2.out).2.1
      have u2 := (cellQ GX_2.out).2.2
      have v0 := (cellQ GY_2.out).1
      have v1 := (cellQ GY_2.out).2.1
      have v2 := (cellQ GY_2.out).2.2
      go_wp2_with fail
      refine (C1.out w2 B2.out).mono ?_
      rintro e w3 ⟨rfl, hb3⟩
      have B3 := Lib.hid (show Below w.heap.size w w3 from Below.trans B2.out (Below.mono hb3 (Below.size B2.out)))
      have GX_3 := Lib.hid ((Below.block hb3 X LX_2.out).trans GX_2.out)
      have LX_3 := Lib.hid (Nat.lt_of_lt_of_le LX_2.out (Below.size hb3))
      have GY_3 := Lib.hid ((Below.block hb3 Y LY_2.out).trans GY_2.out)
      have LY_3 := Lib.hid (Nat.lt_of_lt_of_le LY_2.out (Below.size hb3))
      clear u0 u1 u2 v0 v1 v2
      clear hb3
      have u0 := (cellQ GX_3.out).1
      have u1 := (cellQ GX_3.out).2.1
      have u2 := (cellQ GX_3.out).2.2
      have v0 := (cellQ GY_3.out).1
      have v1 := (cellQ GY_3.out).2.1
      have v2 := (cellQ GY_3.out).2.2
      go_wp2_with fail
      refine (C2.out w3 B3.out).mono ?_
      rintro e w4 ⟨rfl, hb4⟩
      have B4 := Lib.hid (show Below w.heap.size w w4 from Below.trans B3.out (Below.mono hb4 (Below.size B3.out)))
      have GX_4 := Lib.hid ((Below.block hb4 X LX_3.out).trans GX_3.out)
      have LX_4 := Lib.hid (Nat.lt_of_lt_of_le LX_3.out (Below.size hb4))
      have GY_4 := Lib.hid ((Below.block hb4 Y LY_3.out).trans GY_3.out)
      have LY_4 := Lib.hid (Nat.lt_of_lt_of_le LY_3.out (Below.size hb4))
      clear u0 u1 u2 v0 v1 v2
      clear hb4
      have u0 := (cellQ GX_4.out).1
      have u1 := (cellQ GX_4.out).2.1
      have u2 := (cellQ GX_4.out).2.2
      have v0 := (cellQ GY_4.out).1
      have v1 := (cellQ GY_4.out).2.1
      have v2 := (cellQ GY_4.out).2.2
      go_wp2_with fail
      go_ret
      exact ⟨rfl, B4.out⟩
    | true =>
      obtain ⟨X, hX⟩ : ∃ z, z = w.heap.size := ⟨_, rfl⟩
      obtain ⟨w1, hw1⟩ : ∃ z, z = w.alloc (.cells #[.int .i64 i, .slice ga L1 gc, .slice pa L3 pc] 26) := ⟨_, rfl⟩
      have st1 : Below w.heap.size w w1 := by rw [hw1]; exact (Below.refl _ _).alloc (Nat.le_refl _) _
      have B1 := Lib.hid (show Below w.heap.size w w1 from Below.trans (Below.refl w.heap.size w) (Below.mono st1 (Below.size (Below.refl w.heap.size w))))
      have GX_1 := Lib.hid (show w1.heap[X]? = some (.cells #[.int .i64 i, .slice ga L1 gc, .slice pa L3 pc] 26 (0, 0)) by rw [hw1, hX]; exact heap_alloc_new _ _)
      have LX_1 := Lib.hid (lt_of_heap GX_1.out)
      have HX := Lib.hid hX
      have Hw1 := Lib.hid hw1
      clear hX hw1 st1
      have SZX := Lib.hid (show X = w.heap.size from HX.out)
      obtain ⟨Y, hY⟩ : ∃ z, z = w1.heap.size := ⟨_, rfl⟩
      obtain ⟨w2, hw2⟩ : ∃ z, z = w1.alloc (.cells #[.int .i64 j, .slice ha L2 hc, .slice qa L4 qc] 26) := ⟨_, rfl⟩
      have st2 : Below w1.heap.size w1 w2 := by rw [hw2]; exact (Below.refl _ _).alloc (Nat.le_refl _) _
      have B2 := Lib.hid (show Below w.heap.size w w2 from Below.trans B1.out (Below.mono st2 (Below.size B1.out)))
      have GX_2 := Lib.hid ((Below.block st2 X LX_1.out).trans GX_1.out)
      have LX_2 := Lib.hid (Nat.lt_of_lt_of_le LX_1.out (Below.size st2))
      have GY_2 := Lib.hid (show w2.heap[Y]? = some (.cells #[.int .i64 j, .slice ha L2 hc, .slice qa L4 qc] 26 (0, 0)) by rw [hw2, hY]; exact heap_alloc_new _ _)
      have LY_2 := Lib.hid (lt_of_heap GY_2.out)
      have HY := Lib.hid hY
      have Hw2 := Lib.hid hw2
      clear hY hw2 st2
      have SZY := Lib.hid (show Y = w.heap.size + 1 by rw [HY.out, Hw1.out, World.size_alloc, ← HX.out, SZX.out])
      go_enter Tryz.func13, Tryz.ntmps13
      go_upto_region 1 with fail
      rw [← SZY.out, ← SZX.out, ← Hw1.out, ← Hw2.out]
      have u0 := (cellQ GX_2.out).1
      have u1 := (cellQ GX_2.out).2.1
      have u2 := (cellQ GX_2.out).2.2
      have v0 := (cellQ GY_2.out).1
      have v1 := (cellQ GY_2.out).2.1
      have v2 := (cellQ GY_2.out).2.2
      go_wp2_with fail
      refine (C1.out w2 B2.out).mono ?_
      rintro e w3 ⟨rfl, hb3⟩
      have B3 := Lib.hid (show Below w.heap.size w w3 from Below.trans B2.out (Below.mono hb3 (Below.size B2.out)))
      have GX_3 := Lib.hid ((Below.block hb3 X LX_2.out).trans GX_2.out)
      have LX_3 := Lib.hid (Nat.lt_of_lt_of_le LX_2.out (Below.size hb3))
      have GY_3 := Lib.hid ((Below.block hb3 Y LY_2.out).trans GY_2.out)
      have LY_3 := Lib.hid (Nat.lt_of_lt_of_le LY_2.out (Below.size hb3))
      clear u0 u1 u2 v0 v1 v2
      clear hb3
      have u0 := (cellQ GX_3.out).1
      have u1 := (cellQ GX_3.out).2.1
      have u2 := (cellQ GX_3.out).2.2
      have v0 := (cellQ GY_3.out).1
      have v1 := (cellQ GY_3.out).2.1
      have v2 := (cellQ GY_3.out).2.2
      go_wp2_with fail
      refine (C2.out w3 B3.out).mono ?_
      rintro e w4 ⟨rfl, hb4⟩
      have B4 := Lib.hid (show Below w.heap.size w w4 from Below.trans B3.out (Below.mono hb4 (Below.size B3.out)))
      have GX_4 := Lib.hid ((Below.block hb4 X LX_3.out).trans GX_3.out)
      have LX_4 := Lib.hid (Nat.lt_of_lt_of_le LX_3.out (Below.size hb4))
      have GY_4 := Lib.hid ((Below.block hb4 Y LY_3.out).trans GY_3.out)
      have LY_4 := Lib.hid (Nat.lt_of_lt_of_le LY_3.out (Below.size hb4))
      clear u0 u1 u2 v0 v1 v2
      clear hb4
      have u0 := (cellQ GX_4.out).1
      have u1 := (cellQ GX_4.out).2.1
      have u2 := (cellQ GX_4.out).2.2
      have v0 := (cellQ GY_4.out).1
      have v1 := (cellQ GY_4.out).2.1
      have v2 := (cellQ GY_4.out).2.2
      go_wp2_with fail
      go_ret
      exact ⟨rfl, B4.out⟩
  | true =>
    cases b2 with
    | false =>
      obtain rfl : r = false := by rw [hr]; simp
      clear hr
      obtain ⟨X, hX⟩ : ∃ z, z = w.heap.size := ⟨_, rfl⟩
      obtain ⟨w1, hw1⟩ : ∃ z, z = w.alloc (.cells #[.int .i64 i, .slice ga L1 gc, .slice pa L3 pc] 26) := ⟨_, rfl⟩
      have st1 : Below w.heap.size w w1 := by rw [hw1]; exact (Below.refl _ _).alloc (Nat.le_refl _) _
      have B1 := Lib.hid (show Below w.heap.size w w1 from Below.trans (Below.refl w.heap.size w) (Below.mono st1 (Below.size (Below.refl w.heap.size w))))
      have GX_1 := Lib.hid (show w1.heap[X]? = some (.cells #[.int .i64 i, .slice ga L1 gc, .slice pa L3 pc] 26 (0, 0)) by rw [hw1, hX]; exact heap_alloc_new _ _)
      have LX_1 := Lib.hid (lt_of_heap GX_1.out)
      have HX := Lib.hid hX
      have Hw1 := Lib.hid hw1
      clear hX hw1 st1
      have SZX := Lib.hid (show X = w.heap.size from HX.out)
      obtain ⟨Y, hY⟩ : ∃ z, z = w1.heap.size := ⟨_, rfl⟩
      obtain ⟨w2, hw2⟩ : ∃ z, z = w1.alloc (.cells #[.int .i64 j, .slice ha L2 hc, .slice qa L4 qc] 26) := ⟨_, rfl⟩
      have st2 : Below w1.heap.size w1 w2 := by rw [hw2]; exact (Below.refl _ _).alloc (Nat.le_refl _) _
      have B2 := Lib.hid (show Below w.heap.size w w2 from Below.trans B1.out (Below.mono st2 (Below.size B1.out)))
      have GX_2 := Lib.hid ((Below.block st2 X LX_1.out).trans GX_1.out)
      have LX_2 := Lib.hid (Nat.lt_of_lt_of_le LX_1.out (Below.size st2))
      have GY_2 := Lib.hid (show w2.heap[Y]? = some (.cells #[.int .i64 j, .slice ha L2 hc, .slice qa L4 qc] 26 (0, 0)) by rw [hw2, hY]; exact heap_alloc_new _ _)
      have LY_2 := Lib.hid (lt_of_heap GY_2.out)
      have HY := Lib.hid hY
      have Hw2 := Lib.hid hw2
      clear hY hw2 st2
      have SZY := Lib.hid (show Y = w.heap.size + 1 by rw [HY.out, Hw1.out, World.size_alloc, ← HX.out, SZX.out])
      go_enter Tryz.func13, Tryz.ntmps13
      go_upto_region 1 with fail
      rw [← SZY.out, ← SZX.out, ← Hw1.out, ← Hw2.out]
      have u0 := (cellQ GX_2.out).1
      have u1 := (cellQ GX_2.out).2.1
      have u2 := (cellQ GX_2.out).2.2
      have v0 := (cellQ GY_2.out).1
      have v1 := (cellQ GY_2.out).2.1
      have v2 := (cellQ GY_2.out).2.2
      go_wp2_with fail
      refine (C1.out w2 B2.out).mono ?_
      rintro e w3 ⟨rfl, hb3⟩
      have B3 := Lib.hid (show Below w.heap.size w w3 from Below.trans B2.out (Below.mono hb3 (Below.size B2.out)))
      have GX_3 := Lib.hid ((Below.block hb3 X LX_2.out).trans GX_2.out)
      have LX_3 := Lib.hid (Nat.lt_of_lt_of_le LX_2.out (Below.size hb3))
      have GY_3 := Lib.hid ((Below.block hb3 Y LY_2.out).trans GY_2.out)
      have LY_3 := Lib.hid (Nat.lt_of_lt_of_le LY_2.out (Below.size hb3))
      clear u0 u1 u2 v0 v1 v2
      clear hb3
      have u0 := (cellQ GX_3.out).1
      have u1 := (cellQ GX_3.out).2.1
      have u2 := (cellQ GX_3.out).2.2
      have v0 := (cellQ GY_3.out).1
      have v1 := (cellQ GY_3.out).2.1
      have v2 := (cellQ GY_3.out).2.2
      go_wp2_with fail
      refine (C2.out w3 B3.out).mono ?_
      rintro e w4 ⟨rfl, hb4⟩
      have B4 := Lib.hid (show Below w.heap.size w w4 from Below.trans B3.out (Below.mono hb4 (Below.size B3.out)))
      have GX_4 := Lib.hid ((Below.block hb4 X LX_3.out).trans GX_3.out)
      have LX_4 := Lib.hid (Nat.lt_of_lt_of_le LX_3.out (Below.size hb4))
      have GY_4 := Lib.hid ((Below.block hb4 Y LY_3.out).trans GY_3.out)
      have LY_4 := Lib.hid (Nat.lt_of_lt_of_le LY_3.out (Below.size hb4))
      clear u0 u1 u2 v0 v1 v2
      clear hb4
      have u0 := (cellQ GX_4.out).1
      have u1 := (cellQ GX_4.out).2.1
      have u2 := (cellQ GX_4.out).2.2
      have v0 := (cellQ GY_4.out).1
      have v1 := (cellQ GY_4.out).2.1
      have v2 := (cellQ GY_4.out).2.2
      go_wp2_with fail
      go_ret
      exact ⟨rfl, B4.out⟩
    | true =>
      by_cases hij : i = j
      · obtain rfl : r = true := by rw [hr]; simp [hij]
        clear hr
        have q1 : (i == j) = true := by rw [hij]; simp
        have q2 : decide (i = j) = true := decide_eq_true hij
        clear hij
        obtain ⟨X, hX⟩ : ∃ z, z = w.heap.size := ⟨_, rfl⟩
        obtain ⟨w1, hw1⟩ : ∃ z, z = w.alloc (.cells #[.int .i64 i, .slice ga L1 gc, .slice pa L3 pc] 26) := ⟨_, rfl⟩
        have st1 : Below w.heap.size w w1 := by rw [hw1]; exact (Below.refl _ _).alloc (Nat.le_refl _) _
        have B1 := Lib.hid (show Below w.heap.size w w1 from Below.trans (Below.refl w.heap.size w) (Below.mono st1 (Below.size (Below.refl w.heap.size w))))
        have GX_1 := Lib.hid (show w1.heap[X]? = some (.cells #[.int .i64 i, .slice ga L1 gc, .slice pa L3 pc] 26 (0, 0)) by rw [hw1, hX]; exact heap_alloc_new _ _)
        have LX_1 := Lib.hid (lt_of_heap GX_1.out)
        have HX := Lib.hid hX
        have Hw1 := Lib.hid hw1
        clear hX hw1 st1
        have SZX := Lib.hid (show X = w.heap.size from HX.out)
        obtain ⟨Y, hY⟩ : ∃ z, z = w1.heap.size := ⟨_, rfl⟩
        obtain ⟨w2, hw2⟩ : ∃ z, z = w1.alloc (.cells #[.int .i64 j, .slice ha L2 hc, .slice qa L4 qc] 26) := ⟨_, rfl⟩
        have st2 : Below w1.heap.size w1 w2 := by rw [hw2]; exact (Below.refl _ _).alloc (Nat.le_refl _) _
        have B2 := Lib.hid (show Below w.heap.size w w2 from Below.trans B1.out (Below.mono st2 (Below.size B1.out)))
        have GX_2 := Lib.hid ((Below.block st2 X LX_1.out).trans GX_1.out)
        have LX_2 := Lib.hid (Nat.lt_of_lt_of_le LX_1.out (Below.size st2))
        have GY_2 := Lib.hid (show w2.heap[Y]? = some (.cells #[.int .i64 j, .slice ha L2 hc, .slice qa L4 qc] 26 (0, 0)) by rw [hw2, hY]; exact heap_alloc_new _ _)
        have LY_2 := Lib.hid (lt_of_heap GY_2.out)
        have HY := Lib.hid hY
        have Hw2 := Lib.hid hw2
        clear hY hw2 st2
        have SZY := Lib.hid (show Y = w.heap.size + 1 by rw [HY.out, Hw1.out, World.size_alloc, ← HX.out, SZX.out])
        go_enter Tryz.func13, Tryz.ntmps13
        go_upto_region 1 with fail
        rw [← SZY.out, ← SZX.out, ← Hw1.out, ← Hw2.out]
        have u0 := (cellQ GX_2.out).1
        have u1 := (cellQ GX_2.out).2.1
        have u2 := (cellQ GX_2.out).2.2
        have v0 := (cellQ GY_2.out).1
        have v1 := (cellQ GY_2.out).2.1
        have v2 := (cellQ GY_2.out).2.2
        go_wp2_with fail
        refine (C1.out w2 B2.out).mono ?_
        rintro e w3 ⟨rfl, hb3⟩
        have B3 := Lib.hid (show Below w.heap.size w w3 from Below.trans B2.out (Below.mono hb3 (Below.size B2.out)))
        have GX_3 := Lib.hid ((Below.block hb3 X LX_2.out).trans GX_2.out)
        have LX_3 := Lib.hid (Nat.lt_of_lt_of_le LX_2.out (Below.size hb3))
        have GY_3 := Lib.hid ((Below.block hb3 Y LY_2.out).trans GY_2.out)
        have LY_3 := Lib.hid (Nat.lt_of_lt_of_le LY_2.out (Below.size hb3))
        clear u0 u1 u2 v0 v1 v2
        clear hb3
        have u0 := (cellQ GX_3.out).1
        have u1 := (cellQ GX_3.out).2.1
        have u2 := (cellQ GX_3.out).2.2
        have v0 := (cellQ GY_3.out).1
        have v1 := (cellQ GY_3.out).2.1
        have v2 := (cellQ GY_3.out).2.2
        go_wp2_with fail
        refine (C2.out w3 B3.out).mono ?_
        rintro e w4 ⟨rfl, hb4⟩
        have B4 := Lib.hid (show Below w.heap.size w w4 from Below.trans B3.out (Below.mono hb4 (Below.size B3.out)))
        have GX_4 := Lib.hid ((Below.block hb4 X LX_3.out).trans GX_3.out)
        have LX_4 := Lib.hid (Nat.lt_of_lt_of_le LX_3.out (Below.size hb4))
        have GY_4 := Lib.hid ((Below.block hb4 Y LY_3.out).trans GY_3.out)
        have LY_4 := Lib.hid (Nat.lt_of_lt_of_le LY_3.out (Below.size hb4))
        clear u0 u1 u2 v0 v1 v2
        clear hb4
        have u0 := (cellQ GX_4.out).1
        have u1 := (cellQ GX_4.out).2.1
        have u2 := (cellQ GX_4.out).2.2
        have v0 := (cellQ GY_4.out).1
        have v1 := (cellQ GY_4.out).2.1
        have v2 := (cellQ GY_4.out).2.2
        go_wp2_with fail
        go_ret
        exact ⟨rfl, B4.out⟩
      · obtain rfl : r = false := by rw [hr]; simp [hij]
        clear hr
        have q1 : (i == j) = false := by simp [hij]
        have q2 : decide (i = j) = false := decide_eq_false hij
        clear hij
        obtain ⟨X, hX⟩ : ∃ z, z = w.heap.size := ⟨_, rfl⟩
        obtain ⟨w1, hw1⟩ : ∃ z, z = w.alloc (.cells #[.int .i64 i, .slice ga L1 gc, .slice pa L3 pc] 26) := ⟨_, rfl⟩
        have st1 : Below w.heap.size w w1 := by rw [hw1]; exact (Below.refl _ _).alloc (Nat.le_refl _) _
        have B1 := Lib.hid (show Below w.heap.size w w1 from Below.trans (Below.refl w.heap.size w) (Below.mono st1 (Below.size (Below.refl w.heap.size w))))
        have GX_1 := Lib.hid (show w1.heap[X]? = some (.cells #[.int .i64 i, .slice ga L1 gc, .slice pa L3 pc] 26 (0, 0)) by rw [hw1, hX]; exact heap_alloc_new _ _)
        have LX_1 := Lib.hid (lt_of_heap GX_1.out)
        have HX := Lib.hid hX
        have Hw1 := Lib.hid hw1
        clear hX hw1 st1
        have SZX := Lib.hid (show X = w.heap.size from HX.out)
        obtain ⟨Y, hY⟩ : ∃ z, z = w1.heap.size := ⟨_, rfl⟩
        obtain ⟨w2, hw2⟩ : ∃ z, z = w1.alloc (.cells #[.int .i64 j, .slice ha L2 hc, .slice qa L4 qc] 26) := ⟨_, rfl⟩
        have st2 : Below w1.heap.size w1 w2 := by rw [hw2]; exact (Below.refl _ _).alloc (Nat.le_refl _) _
        have B2 := Lib.hid (show Below w.heap.size w w2 from Below.trans B1.out (Below.mono st2 (Below.size B1.out)))
        have GX_2 := Lib.hid ((Below.block st2 X LX_1.out).trans GX_1.out)
        have LX_2 := Lib.hid (Nat.lt_of_lt_of_le LX_1.out (Below.size st2))
        have GY_2 := Lib.hid (show w2.heap[Y]? = some (.cells #[.int .i64 j, .slice ha L2 hc, .slice qa L4 qc] 26 (0, 0)) by rw [hw2, hY]; exact heap_alloc_new _ _)
        have LY_2 := Lib.hid (lt_of_heap GY_2.out)
        have HY := Lib.hid hY
        have Hw2 := Lib.hid hw2
        clear hY hw2 st2
        have SZY := Lib.hid (show Y = w.heap.size + 1 by rw [HY.out, Hw1.out, World.size_alloc, ← HX.out, SZX.out])
        go_enter Tryz.func13, Tryz.ntmps13
        go_upto_region 1 with fail
        rw [← SZY.out, ← SZX.out, ← Hw1.out, ← Hw2.out]
        have u0 := (cellQ GX_2.out).1
        have u1 := (cellQ GX_2.out).2.1
        have u2 := (cellQ GX_2.out).2.2
        have v0 := (cellQ GY_2.out).1
        have v1 := (cellQ GY_2.out).2.1
        have v2 := (cellQ GY_2.out).2.2
        go_wp2_with fail
        refine (C1.out w2 B2.out).mono ?_
        rintro e w3 ⟨rfl, hb3⟩
        have B3 := Lib.hid (show Below w.heap.size w w3 from Below.trans B2.out (Below.mono hb3 (Below.size B2.out)))
        have GX_3 := Lib.hid ((Below.block hb3 X LX_2.out).trans GX_2.out)
        have LX_3 := Lib.hid (Nat.lt_of_lt_of_le LX_2.out (Below.size hb3))
        have GY_3 := Lib.hid ((Below.block hb3 Y LY_2.out).trans GY_2.out)
        have LY_3 := Lib.hid (Nat.lt_of_lt_of_le LY_2.out (Below.size hb3))
        clear u0 u1 u2 v0 v1 v2
        clear hb3
        have u0 := (cellQ GX_3.out).1
        have u1 := (cellQ GX_3.out).2.1
        have u2 := (cellQ GX_3.out).2.2
        have v0 := (cellQ GY_3.out).1
        have v1 := (cellQ GY_3.out).2.1
        have v2 := (cellQ GY_3.out).2.2
        go_wp2_with fail
        refine (C2.out w3 B3.out).mono ?_
        rintro e w4 ⟨rfl, hb4⟩
        have B4 := Lib.hid (show Below w.heap.size w w4 from Below.trans B3.out (Below.mono hb4 (Below.size B3.out)))
        have GX_4 := Lib.hid ((Below.block hb4 X LX_3.out).trans GX_3.out)
        have LX_4 := Lib.hid (Nat.lt_of_lt_of_le LX_3.out (Below.size hb4))
        have GY_4 := Lib.hid ((Below.block hb4 Y LY_3.out).trans GY_3.out)
        have LY_4 := Lib.hid (Nat.lt_of_lt_of_le LY_3.out (Below.size hb4))
        clear u0 u1 u2 v0 v1 v2
        clear hb4
        have u0 := (cellQ GX_4.out).1
        have u1 := (cellQ GX_4.out).2.1
        have u2 := (cellQ GX_4.out).2.2
        have v0 := (cellQ GY_4.out).1
        have v1 := (cellQ GY_4.out).2.1
        have v2 := (cellQ GY_4.out).2.2
        go_wp2_with fail
        go_ret
        exact ⟨rfl, B4.out⟩
end Go.Proofs.YtkioddmhjbaleaaGreatDoor
