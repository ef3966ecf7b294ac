/- Walks: the program's sides and Fold. -/
import Derived.Test.YtkioddmhjbaleaaGreatDoorTreePath
namespace Go.Proofs.YtkioddmhjbaleaaGreatDoor
open Go.RowKit
set_option linter.unusedVariables false
set_option linter.unusedSimpArgs false

theorem info_boolz : (Tryz.prog.info? 4).map (fun i => (i.zero, i.size, i.bytes)) = some (some (.bool false), 1, 1) := by kernel_rfl
theorem Rd.bools {w : World} {a : Option Addr} {e : TypeId} {xs : List Bool} (h : Rd w a e (xs.map vBo)) {k : Nat} (hk : k < xs.length) : ∃ b o, a = some ⟨b, o, none⟩ ∧ b < w.heap.size ∧ w.cell? ⟨b, o + k, none⟩ = some (.bool xs[k]) := by
  obtain ⟨b, o, h1, h2, h3⟩ := h.cell (k := k) (by simpa using hk)
  refine ⟨b, o, h1, h2, ?_⟩
  have := h3 k (by simpa using hk)
  rw [this]; simp [vBo]
theorem own_bool1 (w : World) (x : Bool) : Rd (w.alloc (.cells #[.bool x] 4)) (some ⟨w.heap.size, 0, none⟩) 4 ([x].map vBo) := Rd.new w _ _
set_option maxRecDepth 20000 in
set_option maxHeartbeats 2000000 in
theorem Sides_calls (i n : Nat) (h1 : 1 ≤ n) (h256 : n ≤ 256) (hi : i < n) (w : World) :
    Calls Tryz.prog 76 #[.int .i64 (i : Int), .int .i64 (n : Int)] w fun e w' => ∃ a' c', e = .returned (.slice a' (tlong i n) c') ∧ w'.ownsRow w.heap.size 4 1 (.slice a' (tlong i n) c') (tlong i n) ((tsides i n).map vBo) ∧ Below w.heap.size w w' := by
  obtain ⟨W, hW⟩ : ∃ W, W = w.heap.size := ⟨_, rfl⟩
  have HW := Lib.hid hW
  rw [← hW]
  clear hW
  go_enter Tryz.func76, Tryz.ntmps76
  go_wp2_with fail
  go_loopw [0, 1, 4] (fun kv nv out wr => ∃ (j m : Nat) (acc : List Bool) (av : Option Addr) (cp : Nat), kv = .int .i64 (j : Int) ∧ nv = .int .i64 (m : Int) ∧ out = .slice av acc.length cp ∧ 1 ≤ m ∧ m ≤ 256 ∧ j < m ∧ acc.length ≤ 256 - m ∧ Hid (acc ++ tsides j m = tsides i n) ∧ Hid (wr.ownsRow W 4 1 (.slice av acc.length cp) acc.length (acc.map vBo)) ∧ Hid (Below W w wr)) (fun _ m _ _ => (intOf m).toNat)
  case atStart => exact ⟨i, n, [], none, 0, rfl, rfl, rfl, h1, h256, hi, by simp, Lib.hid (by simp), Lib.hid (World.ownsRow_nil _ _ _ _), Lib.hid (Below.refl _ _)⟩
  case round =>
    obtain ⟨j, m, acc, av, cp, rfl, rfl, rfl, hm1, hm256, hj, hal, HACC, HO, HBL⟩ := hrel
    obtain ⟨wA, rfl⟩ : ∃ z, z = wr := ⟨_, rfl⟩
    have hsr : W ≤ wA.heap.size := by rw [HW.out]; have := HBL.out; rw [HW.out] at this; exact this.size
    by_cases h2 : 2 ≤ m
    · obtain ⟨h, hh⟩ : ∃ h, h = hf m := ⟨_, rfl⟩
      have hlt : h < m := by rw [hh]; exact hf_lt h2
      have hpos : 0 < h := by rw [hh]; exact hf_pos _
      have HC := Half_calls m (by omega) (by omega) wA
      rw [← hh] at HC
      have HHC := Lib.hid HC
      have z5 : (1 : Int) < (m : Int) := by omega
      have z6 : decide ((1 : Int) < (m : Int)) = true := decide_eq_true z5
      have z7 : decide (1 < m) = true := decide_eq_true (by omega)
      by_cases hjh : j < h
      · have ht := tsides_left h2 (by rw [← hh]; exact hjh)
        rw [← hh] at ht
        have hacc := HACC.out
        rw [ht] at hacc
        have AC2 := Lib.hid (show (acc ++ [true]) ++ tsides j h = tsides i n by rw [← hacc, List.append_assoc]; rfl)
        have FS := Lib.hid (show (acc ++ [true]).map vBo = acc.map vBo ++ [true].map vBo by rw [List.map_append])
        have FL := Lib.hid (show (acc ++ [true]).length = acc.length + 1 by simp)
        have z8 : decide ((j : Int) < (h : Int)) = true := decide_eq_true (by omega)
        have z9 : decide (j < h) = true := decide_eq_true hjh
        have hq1 : 1 ≤ h := by omega
        have hq2 : h ≤ 256 := by omega
        have hq3 : j < h := by omega
        have hq4 : acc.length + 1 ≤ 256 - h := by omega
        have hq5 : h < m := by omega
        clear ht hacc HACC HC hh
        go_wp2_with fail
        refine HHC.out.mono ?_
        rintro e w1 ⟨rfl, rfl⟩
        go_wp2_with (at_builtin; refine appAllw 115 4 (.bool false) 1 1 Tryz.underlying115 info_boolz rfl (by omega) rfl (.tmp 10) (.tmp 14) (by rfl) W _ acc.length _ (by rfl) (HO.out.alloc _) (some ⟨wA.heap.size, 0, none⟩) 1 1 ([true].map vBo) (by rfl) _ (own_bool1 wA true) (by rfl) (by intro u hu; simp [vBo] at hu; subst hu; rfl) (by omega) (by omega) (by rw [World.size_alloc]; omega) ?_; intro av3 cp3 w9 hown9 hb9; rw [← FS.out] at hown9; have O9 := Lib.hid hown9; have B9 := Lib.hid (HBL.out.trans (Below.trans ((Below.refl _ wA).alloc hsr _) hb9)); clear hown9 hb9)
        go_roundw
        case rel => exact ⟨j, h, acc ++ [true], av3, cp3, rfl, rfl, by rw [FL.out], hq1, hq2, hq3, by rw [FL.out]; exact hq4, AC2, by rw [FL.out]; exact O9, B9⟩
        case measure => simp [intOf]; omega
      · obtain ⟨q, hq⟩ : ∃ q, q = j - h := ⟨_, rfl⟩
        obtain ⟨r, hr⟩ : ∃ r, r = m - h := ⟨_, rfl⟩
        have e6 : IntKind.i64.wrap ((j : Int) - (h : Int)) = (q : Int) := by rw [IntWalk.i64_in _ (by omega)]; omega
        have e7 : IntKind.i64.wrap ((m : Int) - (h : Int)) = (r : Int) := by rw [IntWalk.i64_in _ (by omega)]; omega
        have ht := tsides_right h2 (by rw [← hh]; exact hjh)
        rw [← hh, ← hq, ← hr] at ht
        have hacc := HACC.out
        rw [ht] at hacc
        have AC2 := Lib.hid (show (acc ++ [false]) ++ tsides q r = tsides i n by rw [← hacc, List.append_assoc]; rfl)
        have FS := Lib.hid (show (acc ++ [false]).map vBo = acc.map vBo ++ [false].map vBo by rw [List.map_append])
        have FL := Lib.hid (show (acc ++ [false]).length = acc.length + 1 by simp)
        have z8 : decide ((j : Int) < (h : Int)) = false := decide_eq_false (by omega)
        have z9 : decide (j < h) = false := decide_eq_false hjh
        have hq1 : 1 ≤ r := by omega
        have hq2 : r ≤ 256 := by omega
        have hq3 : q < r := by omega
        have hq4 : acc.length + 1 ≤ 256 - r := by omega
        have hq5 : r < m := by omega
        clear ht hacc HACC HC hh hq hr
        go_wp2_with fail
        refine HHC.out.mono ?_
        rintro e w1 ⟨rfl, rfl⟩
        go_wp2_with (at_builtin; refine appAllw 115 4 (.bool false) 1 1 Tryz.underlying115 info_boolz rfl (by omega) rfl (.tmp 10) (.tmp 14) (by rfl) W _ acc.length _ (by rfl) (HO.out.alloc _) (some ⟨wA.heap.size, 0, none⟩) 1 1 ([false].map vBo) (by rfl) _ (own_bool1 wA false) (by rfl) (by intro u hu; simp [vBo] at hu; subst hu; rfl) (by omega) (by omega) (by rw [World.size_alloc]; omega) ?_; intro av3 cp3 w9 hown9 hb9; rw [← FS.out] at hown9; have O9 := Lib.hid hown9; have B9 := Lib.hid (HBL.out.trans (Below.trans ((Below.refl _ wA).alloc hsr _) hb9)); clear hown9 hb9)
        go_roundw
        case rel => exact ⟨q, r, acc ++ [false], av3, cp3, rfl, rfl, by rw [FL.out], hq1, hq2, hq3, by rw [FL.out]; exact hq4, AC2, by rw [FL.out]; exact O9, B9⟩
        case measure => simp [intOf]; omega
    · have hacc := HACC.out
      rw [tsides_one h2, List.append_nil] at hacc
      have hl : acc.length = tlong i n := by rw [hacc]; rfl
      have ho := HO.out
      rw [hacc] at ho
      have z5 : ¬ (1 : Int) < (m : Int) := by omega
      have z6 : decide ((1 : Int) < (m : Int)) = false := decide_eq_false z5
      have z7 : decide (1 < m) = false := decide_eq_false (by omega)
      rw [show (tsides i n).length = tlong i n from rfl] at ho
      rw [hl]
      have HO2 := Lib.hid ho
      obtain ⟨M, hM⟩ : ∃ M, M = tlong i n := ⟨_, rfl⟩
      rw [← hM] at HO2 ⊢
      have HM := Lib.hid hM
      clear ho hacc hl hM
      go_wp2_with fail
      go_ret
      exact ⟨av, cp, by rw [← HM.out]; rfl, by rw [← HM.out]; exact HO2.out, HBL.out⟩
set_option maxRecDepth 20000 in
set_option maxHeartbeats 2000000 in
theorem TFold_range (l : List UInt8) (i n : Int) (h1 : -9223372036854775808 ≤ n ∧ n ≤ 9223372036854775807) (h2 : -9223372036854775808 ≤ i ∧ i ≤ 9223372036854775807) (hbad : ¬ (1 ≤ n ∧ n ≤ 256 ∧ 0 ≤ i ∧ i < n)) (a : Option Addr) (m cap : Nat) (w : World) :
    Calls Tryz.prog 56 #[.agg (dV l), .int .i64 i, .int .i64 n, .slice a m cap] w fun e w' => e = .returned (.tuple #[.agg (dV nz), .iface 29 (.int .i64 2)]) ∧ Below w.heap.size w w' := by
  obtain ⟨Z, hZ⟩ : ∃ Z, Z = nz := ⟨_, rfl⟩
  have zl : Z.length = 32 := by rw [hZ]; rfl
  have zlit : (#[.int .u8 0, .int .u8 0, .int .u8 0, .int .u8 0, .int .u8 0, .int .u8 0, .int .u8 0, .int .u8 0, .int .u8 0, .int .u8 0, .int .u8 0, .int .u8 0, .int .u8 0, .int .u8 0, .int .u8 0, .int .u8 0, .int .u8 0, .int .u8 0, .int .u8 0, .int .u8 0, .int .u8 0, .int .u8 0, .int .u8 0, .int .u8 0, .int .u8 0, .int .u8 0, .int .u8 0, .int .u8 0, .int .u8 0, .int .u8 0, .int .u8 0, .int .u8 0] : Array Value) = dV Z := by rw [hZ]; exact zdig
  have ZL := Lib.hid zl
  have ZT := Lib.hid zlit
  have HZ := Lib.hid hZ
  clear zl zlit hZ
  obtain ⟨H, hH⟩ : ∃ H, H = w.heap.size := ⟨_, rfl⟩
  obtain ⟨v0, hv0⟩ : ∃ z, z = w.alloc (.cells (dV l) 23) := ⟨_, rfl⟩
  obtain ⟨v1, hv1⟩ : ∃ z, z = v0.alloc (.cells (dV Z) 23) := ⟨_, rfl⟩
  have q0 : v0.heap.size = H + 1 := by rw [hv0, hH]; exact World.size_alloc _ _
  have q1 : v1.heap.size = H + 1 + 1 := by rw [hv1, World.size_alloc, q0]
  have s0 : Below (H) w v0 := by rw [hv0, hH]; exact (Below.refl _ _).alloc (Nat.le_refl _) _
  have s1 : Below (H + 1) v0 v1 := by rw [hv1, ← q0]; exact (Below.refl _ _).alloc (Nat.le_refl _) _
  have t1 : Below (H + 1 + 1) v1 v1 := Below.refl _ _
  have t0 : Below (H + 1) v0 v1 := s1.trans (t1.mono (by omega))
  have bL : Below H w v1 := s0.trans (t0.mono (by omega))
  have g0 : v1.heap[H]? = some (.cells (dV l) 23 (0, 0)) := by
    have g : v0.heap[H]? = some (.cells (dV l) 23 (0, 0)) := by rw [hv0, hH]; exact heap_alloc_new _ _
    exact (t0.block _ (by omega)).trans g
  have g1 : v1.heap[H + 1]? = some (.cells (dV Z) 23 (0, 0)) := by
    have g : v1.heap[H + 1]? = some (.cells (dV Z) 23 (0, 0)) := by rw [hv1, ← q0]; exact heap_alloc_new _ _
    exact (t1.block _ (by omega)).trans g
  have bW : Below w.heap.size w v1 := by rw [← hH]; exact bL
  have hsz : H + 1 < v1.heap.size := by omega
  have HH := Lib.hid hH
  have HW0 := Lib.hid hv0
  have HW1 := Lib.hid hv1
  have BL := Lib.hid bL
  have BW := Lib.hid bW
  have QL := Lib.hid q1
  have G0 := Lib.hid g0
  have G1 := Lib.hid g1
  clear hH hv0 hv1 q0 q1 s0 s1 t0 t1 g0 g1 bL bW
  rw [← HZ.out]
  by_cases c1 : n < 1
  · have z1 : decide (n < 1) = true := decide_eq_true c1
    clear hbad c1
    go_enter Tryz.func56, Tryz.ntmps56
    go_upto_region 1 with fail
    rw [ZT.out, ← HH.out, ← HW0.out, ← HW1.out]
    go_wp2_with (first
      | (refine wpl_zero rfl rfl Z HZ.out ?_)
      | (refine st_row rfl (.tmp 8) (.tmp 28) rfl (H + 1) Z ZL.out (by rfl) (by rfl) (dV Z) (dV_size ZL.out) _ G1.out ?_))
    try simp only [Exit.inBlock, Exit.then]
    refine bodyPost_ret (results_cell_tmp rfl _ _ _ ⟨H + 1, 0, none⟩ (.agg (dV Z)) rfl ?_) rfl ⟨rfl, by rw [← HH.out]; exact below_setRowW BL.out (by omega) _⟩
    exact dig_load ZL.out (range_of_row (setRow_heap _ _ _ _ _ _ G1.out))
  · have z1 : decide (n < 1) = false := decide_eq_false c1
    by_cases c2 : 256 < n
    · have z2 : decide (256 < n) = true := decide_eq_true c2
      clear hbad c1 c2
      go_enter Tryz.func56, Tryz.ntmps56
      go_upto_region 1 with fail
      rw [ZT.out, ← HH.out, ← HW0.out, ← HW1.out]
      go_wp2_with (first
        | (refine wpl_zero rfl rfl Z HZ.out ?_)
        | (refine st_row rfl (.tmp 8) (.tmp 28) rfl (H + 1) Z ZL.out (by rfl) (by rfl) (dV Z) (dV_size ZL.out) _ G1.out ?_))
      try simp only [Exit.inBlock, Exit.then]
      refine bodyPost_ret (results_cell_tmp rfl _ _ _ ⟨H + 1, 0, none⟩ (.agg (dV Z)) rfl ?_) rfl ⟨rfl, by rw [← HH.out]; exact below_setRowW BL.out (by omega) _⟩
      exact dig_load ZL.out (range_of_row (setRow_heap _ _ _ _ _ _ G1.out))
    · have z2 : decide (256 < n) = false := decide_eq_false c2
      by_cases c3 : i < 0
      · have z3 : decide (i < 0) = true := decide_eq_true c3
        clear hbad c1 c2 c3
        go_enter Tryz.func56, Tryz.ntmps56
        go_upto_region 1 with fail
        rw [ZT.out, ← HH.out, ← HW0.out, ← HW1.out]
        go_wp2_with (first
          | (refine wpl_zero rfl rfl Z HZ.out ?_)
          | (refine st_row rfl (.tmp 8) (.tmp 28) rfl (H + 1) Z ZL.out (by rfl) (by rfl) (dV Z) (dV_size ZL.out) _ G1.out ?_))
        try simp only [Exit.inBlock, Exit.then]
        refine bodyPost_ret (results_cell_tmp rfl _ _ _ ⟨H + 1, 0, none⟩ (.agg (dV Z)) rfl ?_) rfl ⟨rfl, by rw [← HH.out]; exact below_setRowW BL.out (by omega) _⟩
        exact dig_load ZL.out (range_of_row (setRow_heap _ _ _ _ _ _ G1.out))
      · have z3 : decide (i < 0) = false := decide_eq_false c3
        have z4 : decide (n ≤ i) = true := decide_eq_true (by omega)
        clear hbad c1 c2 c3
        go_enter Tryz.func56, Tryz.ntmps56
        go_upto_region 1 with fail
        rw [ZT.out, ← HH.out, ← HW0.out, ← HW1.out]
        go_wp2_with (first
          | (refine wpl_zero rfl rfl Z HZ.out ?_)
          | (refine st_row rfl (.tmp 8) (.tmp 28) rfl (H + 1) Z ZL.out (by rfl) (by rfl) (dV Z) (dV_size ZL.out) _ G1.out ?_))
        try simp only [Exit.inBlock, Exit.then]
        refine bodyPost_ret (results_cell_tmp rfl _ _ _ ⟨H + 1, 0, none⟩ (.agg (dV Z)) rfl ?_) rfl ⟨rfl, by rw [← HH.out]; exact below_setRowW BL.out (by omega) _⟩
        exact dig_load ZL.out (range_of_row (setRow_heap _ _ _ _ _ _ G1.out))
set_option maxRecDepth 20000 in
set_option maxHeartbeats 2000000 in
theorem TFold_len (l : List UInt8) (i n : Nat) (h1 : 1 ≤ n) (h256 : n ≤ 256) (hi : i < n) (a : Option Addr) (m cap : Nat) (hm : m ≠ tlong i n) (w : World) :
    Calls Tryz.prog 56 #[.agg (dV l), .int .i64 (i : Int), .int .i64 (n : Int), .slice a m cap] w fun e w' => e = .returned (.tuple #[.agg (dV nz), .iface 29 (.int .i64 3)]) ∧ Below w.heap.size w w' := by
  obtain ⟨Z, hZ⟩ : ∃ Z, Z = nz := ⟨_, rfl⟩
  have zl : Z.length = 32 := by rw [hZ]; rfl
  have zlit : (#[.int .u8 0, .int .u8 0, .int .u8 0, .int .u8 0, .int .u8 0, .int .u8 0, .int .u8 0, .int .u8 0, .int .u8 0, .int .u8 0, .int .u8 0, .int .u8 0, .int .u8 0, .int .u8 0, .int .u8 0, .int .u8 0, .int .u8 0, .int .u8 0, .int .u8 0, .int .u8 0, .int .u8 0, .int .u8 0, .int .u8 0, .int .u8 0, .int .u8 0, .int .u8 0, .int .u8 0, .int .u8 0, .int .u8 0, .int .u8 0, .int .u8 0, .int .u8 0] : Array Value) = dV Z := by rw [hZ]; exact zdig
  have ZL := Lib.hid zl
  have ZT := Lib.hid zlit
  have HZ := Lib.hid hZ
  clear zl zlit hZ
  obtain ⟨H, hH⟩ : ∃ H, H = w.heap.size := ⟨_, rfl⟩
  obtain ⟨v0, hv0⟩ : ∃ z, z = w.alloc (.cells (dV l) 23) := ⟨_, rfl⟩
  obtain ⟨v1, hv1⟩ : ∃ z, z = v0.alloc (.cells (dV Z) 23) := ⟨_, rfl⟩
  have q0 : v0.heap.size = H + 1 := by rw [hv0, hH]; exact World.size_alloc _ _
  have q1 : v1.heap.size = H + 1 + 1 := by rw [hv1, World.size_alloc, q0]
  have s0 : Below (H) w v0 := by rw [hv0, hH]; exact (Below.refl _ _).alloc (Nat.le_refl _) _
  have s1 : Below (H + 1) v0 v1 := by rw [hv1, ← q0]; exact (Below.refl _ _).alloc (Nat.le_refl _) _
  have t1 : Below (H + 1 + 1) v1 v1 := Below.refl _ _
  have t0 : Below (H + 1) v0 v1 := s1.trans (t1.mono (by omega))
  have bL : Below H w v1 := s0.trans (t0.mono (by omega))
  have g0 : v1.heap[H]? = some (.cells (dV l) 23 (0, 0)) := by
    have g : v0.heap[H]? = some (.cells (dV l) 23 (0, 0)) := by rw [hv0, hH]; exact heap_alloc_new _ _
    exact (t0.block _ (by omega)).trans g
  have g1 : v1.heap[H + 1]? = some (.cells (dV Z) 23 (0, 0)) := by
    have g : v1.heap[H + 1]? = some (.cells (dV Z) 23 (0, 0)) := by rw [hv1, ← q0]; exact heap_alloc_new _ _
    exact (t1.block _ (by omega)).trans g
  have bW : Below w.heap.size w v1 := by rw [← hH]; exact bL
  have hsz : H + 1 < v1.heap.size := by omega
  have HH := Lib.hid hH
  have HW0 := Lib.hid hv0
  have HW1 := Lib.hid hv1
  have BL := Lib.hid bL
  have BW := Lib.hid bW
  have QL := Lib.hid q1
  have G0 := Lib.hid g0
  have G1 := Lib.hid g1
  clear hH hv0 hv1 q0 q1 s0 s1 t0 t1 g0 g1 bL bW
  rw [← HZ.out]
  have z1 : decide ((n : Int) < 1) = false := decide_eq_false (by omega)
  have z2 : decide ((256 : Int) < (n : Int)) = false := decide_eq_false (by omega)
  have z3 : decide ((i : Int) < 0) = false := decide_eq_false (by omega)
  have z4 : decide ((n : Int) ≤ (i : Int)) = false := decide_eq_false (by omega)
  have z5 : decide (256 < n) = false := decide_eq_false (by omega)
  have z6 : decide (n ≤ i) = false := decide_eq_false (by omega)
  have z7 : decide (n < 1) = false := decide_eq_false (by omega)
  have HSC := Lib.hid (Sides_calls i n h1 h256 hi v1)
  obtain ⟨M, hM⟩ : ∃ M, M = tlong i n := ⟨_, rfl⟩
  rw [← hM] at HSC hm
  have z9 : ((m : Int) != (M : Int)) = true := by rw [bne_iff_ne]; omega
  clear hM hm
  go_enter Tryz.func56, Tryz.ntmps56
  go_upto_region 1 with fail
  rw [ZT.out, ← HH.out, ← HW0.out, ← HW1.out]
  go_wp2_with fail
  refine HSC.out.mono ?_
  rintro e v2 ⟨sa, sc, rfl, hown2, hb2⟩
  have G2 := Lib.hid ((hb2.block (H + 1) hsz).trans G1.out)
  have B2 := Lib.hid (BL.out.trans (hb2.mono (by omega)))
  clear hown2 hb2
  go_wp2_with (first
    | (refine wpl_zero rfl rfl Z HZ.out ?_)
    | (refine st_row rfl (.tmp 8) (.tmp 38) rfl (H + 1) Z ZL.out (by rfl) (by rfl) (dV Z) (dV_size ZL.out) _ G2.out ?_))
  try simp only [Exit.inBlock, Exit.then]
  refine bodyPost_ret (results_cell_tmp rfl _ _ _ ⟨H + 1, 0, none⟩ (.agg (dV Z)) rfl ?_) rfl ⟨rfl, by rw [← HH.out]; exact below_setRowW B2.out (by omega) _⟩
  exact dig_load ZL.out (range_of_row (setRow_heap _ _ _ _ _ _ G2.out))
set_option maxRecDepth 20000 in
set_option maxHeartbeats 4000000 in
theorem TFold_calls (l : List UInt8) (hl : l.length = 32) (i n : Nat) (h1 : 1 ≤ n) (h256 : n ≤ 256) (hi : i < n) (ps : List (List UInt8)) (hpd : ∀ p ∈ ps, p.length = 32) (hpl : ps.length = tlong i n) (a : Option Addr) (cap e : Nat) (w : World) (hr : Rd w a e (ps.flatten.map vB)) (hro : RoundsAt w) :
    Calls Tryz.prog 56 #[.agg (dV l), .int .i64 (i : Int), .int .i64 (n : Int), .slice a ps.length cap] w fun e w' => e = .returned (.tuple #[.agg (dV (tfold l i n ps)), .nilIface]) ∧ Below w.heap.size w w' := by
  obtain ⟨Z, hZ⟩ : ∃ Z, Z = nz := ⟨_, rfl⟩
  have zl : Z.length = 32 := by rw [hZ]; rfl
  have zlit : (#[.int .u8 0, .int .u8 0, .int .u8 0, .int .u8 0, .int .u8 0, .int .u8 0, .int .u8 0, .int .u8 0, .int .u8 0, .int .u8 0, .int .u8 0, .int .u8 0, .int .u8 0, .int .u8 0, .int .u8 0, .int .u8 0, .int .u8 0, .int .u8 0, .int .u8 0, .int .u8 0, .int .u8 0, .int .u8 0, .int .u8 0, .int .u8 0, .int .u8 0, .int .u8 0, .int .u8 0, .int .u8 0, .int .u8 0, .int .u8 0, .int .u8 0, .int .u8 0] : Array Value) = dV Z := by rw [hZ]; exact zdig
  have ZL := Lib.hid zl
  have ZT := Lib.hid zlit
  have HZ := Lib.hid hZ
  clear zl zlit hZ
  obtain ⟨H, hH⟩ : ∃ H, H = w.heap.size := ⟨_, rfl⟩
  obtain ⟨v0, hv0⟩ : ∃ z, z = w.alloc (.cells (dV l) 23) := ⟨_, rfl⟩
  obtain ⟨v1, hv1⟩ : ∃ z, z = v0.alloc (.cells (dV Z) 23) := ⟨_, rfl⟩
  have q0 : v0.heap.size = H + 1 := by rw [hv0, hH]; exact World.size_alloc _ _
  have q1 : v1.heap.size = H + 1 + 1 := by rw [hv1, World.size_alloc, q0]
  have s0 : Below (H) w v0 := by rw [hv0, hH]; exact (Below.refl _ _).alloc (Nat.le_refl _) _
  have s1 : Below (H + 1) v0 v1 := by rw [hv1, ← q0]; exact (Below.refl _ _).alloc (Nat.le_refl _) _
  have t1 : Below (H + 1 + 1) v1 v1 := Below.refl _ _
  have t0 : Below (H + 1) v0 v1 := s1.trans (t1.mono (by omega))
  have bL : Below H w v1 := s0.trans (t0.mono (by omega))
  have g0 : v1.heap[H]? = some (.cells (dV l) 23 (0, 0)) := by
    have g : v0.heap[H]? = some (.cells (dV l) 23 (0, 0)) := by rw [hv0, hH]; exact heap_alloc_new _ _
    exact (t0.block _ (by omega)).trans g
  have g1 : v1.heap[H + 1]? = some (.cells (dV Z) 23 (0, 0)) := by
    have g : v1.heap[H + 1]? = some (.cells (dV Z) 23 (0, 0)) := by rw [hv1, ← q0]; exact heap_alloc_new _ _
    exact (t1.block _ (by omega)).trans g
  have bW : Below w.heap.size w v1 := by rw [← hH]; exact bL
  have hsz : H + 1 < v1.heap.size := by omega
  have HH := Lib.hid hH
  have HW0 := Lib.hid hv0
  have HW1 := Lib.hid hv1
  have BL := Lib.hid bL
  have BW := Lib.hid bW
  have QL := Lib.hid q1
  have G0 := Lib.hid g0
  have G1 := Lib.hid g1
  clear hH hv0 hv1 q0 q1 s0 s1 t0 t1 g0 g1 bL bW
  have z1 : decide ((n : Int) < 1) = false := decide_eq_false (by omega)
  have z2 : decide ((256 : Int) < (n : Int)) = false := decide_eq_false (by omega)
  have z3 : decide ((i : Int) < 0) = false := decide_eq_false (by omega)
  have z4 : decide ((n : Int) ≤ (i : Int)) = false := decide_eq_false (by omega)
  have z5 : decide (256 < n) = false := decide_eq_false (by omega)
  have z6 : decide (n ≤ i) = false := decide_eq_false (by omega)
  have z7 : decide (n < 1) = false := decide_eq_false (by omega)
  have HL := Lib.hid hl
  have HPD := Lib.hid hpd
  have HR := Lib.hid hr
  have RO := Lib.hid hro
  have HSC := Lib.hid (Sides_calls i n h1 h256 hi v1)
  obtain ⟨M, hM⟩ : ∃ M, M = tlong i n := ⟨_, rfl⟩
  obtain ⟨bs, hbs⟩ : ∃ bs, bs = tsides i n := ⟨_, rfl⟩
  have hbl : bs.length = M := by rw [hbs, hM]; rfl
  rw [← hM] at HSC hpl
  rw [← hbs] at HSC
  have hM8 : M ≤ 256 := by rw [hM]; have := tlong_le 255 i n (by omega); omega
  have HFD := Lib.hid (show tfold l i n ps = foldS l bs.reverse ps by rw [hbs]; rfl)
  have HRV := Lib.hid (RevB_calls bs)
  have HBL2 := Lib.hid hbl
  have HPL := Lib.hid hpl
  rw [HFD.out, hpl]
  have z9 : ((M : Int) != (M : Int)) = false := by simp
  clear hM hbs hbl hpl hl hpd hr hro
  go_enter Tryz.func56, Tryz.ntmps56
  go_upto_region 1 with fail
  rw [ZT.out, ← HH.out, ← HW0.out, ← HW1.out]
  go_wp2_with fail
  refine HSC.out.mono ?_
  rintro e v2 ⟨sa, sc, rfl, hown2, hb2⟩
  have G02 := Lib.hid ((hb2.block H (by omega)).trans G0.out)
  have G12 := Lib.hid ((hb2.block (H + 1) hsz).trans G1.out)
  have B2 := Lib.hid (BL.out.trans (hb2.mono (by omega)))
  have BV2 := Lib.hid hb2
  have RC := HRV.out v1.heap.size sa sc (by rw [HBL2.out]; omega) v2 (by rw [HBL2.out]; exact hown2)
  rw [HBL2.out] at RC
  have HRC := Lib.hid RC
  have hne : ∀ x, sa = some x → bs ≠ [] → H < x.block := fun x hx hb => by
    obtain ⟨g, hg, hgb⟩ := own_some hown2 (by rw [← HBL2.out]; exact List.length_pos_iff.2 hb)
    rw [hg] at hx
    obtain rfl := Option.some.inj hx
    exact Nat.lt_of_lt_of_le (show H < v1.heap.size by omega) hgb
  have HNE := Lib.hid hne
  clear hown2 hb2 RC HRV hne
  go_wp2_with fail
  refine HRC.out.mono ?_
  rintro e v3 ⟨rfl, ⟨eb, hrb⟩, hb3⟩
  have G03 := Lib.hid ((hb3.block H (by omega)).trans G02.out)
  have G13 := Lib.hid ((hb3.block (H + 1) hsz).trans G12.out)
  have B3 := Lib.hid (B2.out.trans (hb3.mono (by omega)))
  have RB3 := Lib.hid hrb
  obtain ⟨cs, hcs⟩ : ∃ cs, cs = bs.reverse := ⟨_, rfl⟩
  rw [← hcs] at RB3
  have HCB := Lib.hid hcs
  have HCS := Lib.hid (show cs.length = M by rw [hcs, List.length_reverse]; exact HBL2.out)
  have HNC := Lib.hid (show ∀ x, sa = some x → cs ≠ [] → H < x.block from fun x hx hc => HNE.out x hx (fun hb => hc (by rw [hcs, hb]; rfl)))
  clear hrb hb3 HRC hcs
  go_wp2_with fail
  go_loopw [44] (fun iv wr => ∃ k : Nat, k ≤ M ∧ iv = .int .i64 (k : Int) ∧ Hid (wr.heap[H]? = some (.cells (dV (foldS l (cs.take k) (ps.take k))) 23 (0, 0))) ∧ Hid (wr.heap[H + 1]? = some (.cells (dV Z) 23 (0, 0))) ∧ Hid (Rd wr sa eb (cs.map vBo)) ∧ Hid (Below H w wr)) (fun i _ => M - (intOf i).toNat)
  case atStart => exact ⟨0, Nat.zero_le _, rfl, Lib.hid (by rw [List.take_zero, List.take_zero]; exact G03.out), G13, RB3, B3⟩
  case round =>
    obtain ⟨k, hk, rfl, GH, GR, RB, BB⟩ := hrel
    obtain ⟨wA, rfl⟩ : ∃ z, z = wr := ⟨_, rfl⟩
    have hsH := lt_of_heap GR.out
    have hbw : Below w.heap.size w wA := by rw [← HH.out]; exact BB.out
    by_cases hlt : k < M
    · obtain ⟨b, o, hab, hbb, hrg⟩ := (HR.out.below hbw).range HPD.out (k := k) (by rw [HPL.out]; exact hlt)
      subst hab
      obtain ⟨b2, o2, hsb, hb2, cb⟩ := RB.out.bools (k := k) (by rw [HCS.out]; exact hlt)
      have hHb : H < b2 := HNC.out _ hsb (fun h => by have := HCS.out; rw [h] at this; simp at this; omega)
      subst hsb
      obtain ⟨p, hp⟩ : ∃ p, p = ps[k]'(by rw [HPL.out]; exact hlt) := ⟨_, rfl⟩
      obtain ⟨s, hs⟩ : ∃ s, s = cs[k]'(by rw [HCS.out]; exact hlt) := ⟨_, rfl⟩
      have hpL : p.length = 32 := by rw [hp]; exact HPD.out _ (List.getElem_mem _)
      rw [← hp] at hrg
      rw [← hs] at cb
      have hst : foldS l (cs.take (k + 1)) (ps.take (k + 1)) = if s then tnode (foldS l (cs.take k) (ps.take k)) p else tnode p (foldS l (cs.take k) (ps.take k)) := by
        rw [List.take_succ_eq_append_getElem (by rw [HCS.out]; exact hlt), List.take_succ_eq_append_getElem (by rw [HPL.out]; exact hlt), ← hp, ← hs]
        exact foldS_snoc _ _ _ _ _ (by rw [List.length_take, List.length_take, HCS.out, HPL.out])
      obtain ⟨D, hD⟩ : ∃ D, D = foldS l (cs.take k) (ps.take k) := ⟨_, rfl⟩
      have hDL : D.length = 32 := by rw [hD]; exact foldS_length _ _ _ HL.out
      obtain ⟨D2, hD2⟩ : ∃ D2, D2 = foldS l (cs.take (k + 1)) (ps.take (k + 1)) := ⟨_, rfl⟩
      have hD2L : D2.length = 32 := by rw [hD2]; exact foldS_length _ _ _ HL.out
      rw [← hD] at GH hst
      rw [← hD2] at hst
      have k0 : (0 : Int) ≤ (k : Int) := by omega
      have k1 : (k : Int) < (M : Int) := by omega
      have e4 : IntKind.i64.wrap ((k : Int) + 1) = (k : Int) + 1 := IntWalk.i64_in _ (by omega)
      obtain ⟨Y, hY⟩ : ∃ Y, Y = wA.heap.size := ⟨_, rfl⟩
      obtain ⟨wB, hwB⟩ : ∃ z, z = wA.alloc (.cells (dV p) 23) := ⟨_, rfl⟩
      have bAB : Below wA.heap.size wA wB := by rw [hwB]; exact (Below.refl _ _).alloc (Nat.le_refl _) _
      have GY := Lib.hid (show wB.heap[Y]? = some (.cells (dV p) 23 (0, 0)) by rw [hwB, hY]; exact heap_alloc_new _ _)
      have GHB := Lib.hid ((bAB.block H (by omega)).trans GH.out)
      have GRB := Lib.hid ((bAB.block (H + 1) hsH).trans GR.out)
      have RBB := Lib.hid (RB.out.below bAB)
      have BBB := Lib.hid (BB.out.trans (bAB.mono (by omega)))
      have cb2 : wB.cell? ⟨b2, o2 + k, none⟩ = some (.bool s) := (bAB.cell (p := ⟨b2, o2 + k, none⟩) hb2).trans cb
      have HY := Lib.hid hY
      have HWB := Lib.hid hwB
      have PL := Lib.hid hpL
      have DL := Lib.hid hDL
      have D2L := Lib.hid hD2L
      have HRG := Lib.hid hrg
      have HD2 := Lib.hid hD2
      have RO2 := Lib.hid (RO.out.at_ (hbw.trans (bAB.mono hbw.size)))
      cases s with
      | true =>
        have NC := TNode_calls D p hDL hpL wB RO2.out
        rw [if_pos rfl] at hst
        rw [← hst] at NC
        have HNC2 := Lib.hid NC
        clear NC hst hp hs hD hD2 hpL hDL hD2L hrg hY hwB bAB GH GR RB BB cb
        go_wp2_with (first
          | ((refine ld_digG rfl (.tmp 47) rfl b (o + k * 32) (by rfl) p PL.out HRG.out ?_); simp only [Act.put, List.setIfInBounds_toArray, List.set_cons_zero, List.set_cons_succ])
          | ((refine st_new rfl (.tmp 12) (.tmp 48) rfl p PL.out (by rfl) _ _ (by rfl) (by rfl) ?_); rw [← HY.out, ← HWB.out])
          | ((refine ld_digG rfl (.tmp 4) rfl (H) 0 (by rfl) D DL.out (range_of_row GHB.out) ?_); simp only [Act.put, List.setIfInBounds_toArray, List.set_cons_zero, List.set_cons_succ])
          | ((refine ld_digG rfl (.tmp 12) rfl (Y) 0 (by rfl) p PL.out (range_of_row GY.out) ?_); simp only [Act.put, List.setIfInBounds_toArray, List.set_cons_zero, List.set_cons_succ]))
        refine HNC2.out.mono ?_
        rintro e wC ⟨rfl, hbC⟩
        have hHB := lt_of_heap GHB.out
        have GHC := Lib.hid ((hbC.block H hHB).trans GHB.out)
        have GRC := Lib.hid ((hbC.block (H + 1) (lt_of_heap GRB.out)).trans GRB.out)
        have RBC := Lib.hid (RBB.out.below hbC)
        have BBC := Lib.hid (BBB.out.trans (hbC.mono (Nat.le_of_lt hHB)))
        clear hbC
        obtain ⟨wE, hwE⟩ : ∃ z, z = wC.setRow H (dV D2) := ⟨_, rfl⟩
        have GHE := Lib.hid (show wE.heap[H]? = some (.cells (dV D2) 23 (0, 0)) by rw [hwE]; exact setRow_heap _ _ _ _ _ _ GHC.out)
        have GRE := Lib.hid (show wE.heap[H + 1]? = some (.cells (dV Z) 23 (0, 0)) by rw [hwE]; exact (_root_.Go.setRow_other _ _ _ _ (by omega)).trans GRC.out)
        have RBE := Lib.hid (show Rd wE (some ⟨b2, o2, none⟩) eb (cs.map vBo) by rw [hwE]; exact RBC.out.of_block (fun x hx _ => _root_.Go.setRow_other _ _ _ _ (by obtain rfl := Option.some.inj hx; show b2 ≠ H; omega)))
        have BBE := Lib.hid (show Below H w wE by rw [hwE]; exact below_setRowW BBC.out (Nat.le_refl _) _)
        have HWE := Lib.hid hwE
        clear hwE
        go_wp2_with ((refine st_row rfl (.tmp 4) (.tmp 55) rfl H D2 D2L.out (by rfl) (by rfl) (dV D) (dV_size DL.out) _ GHC.out ?_); rw [← HWE.out])
        go_roundw
        case rel => exact ⟨k + 1, by omega, by go_num, Lib.hid (by rw [← HD2.out]; exact GHE.out), GRE, RBE, BBE⟩
        case measure => simp [intOf]; omega
      | false =>
        have NC := TNode_calls p D hpL hDL wB RO2.out
        rw [if_neg (by simp)] at hst
        rw [← hst] at NC
        have HNC2 := Lib.hid NC
        clear NC hst hp hs hD hD2 hpL hDL hD2L hrg hY hwB bAB GH GR RB BB cb
        go_wp2_with (first
          | ((refine ld_digG rfl (.tmp 47) rfl b (o + k * 32) (by rfl) p PL.out HRG.out ?_); simp only [Act.put, List.setIfInBounds_toArray, List.set_cons_zero, List.set_cons_succ])
          | ((refine st_new rfl (.tmp 12) (.tmp 48) rfl p PL.out (by rfl) _ _ (by rfl) (by rfl) ?_); rw [← HY.out, ← HWB.out])
          | ((refine ld_digG rfl (.tmp 4) rfl (H) 0 (by rfl) D DL.out (range_of_row GHB.out) ?_); simp only [Act.put, List.setIfInBounds_toArray, List.set_cons_zero, List.set_cons_succ])
          | ((refine ld_digG rfl (.tmp 12) rfl (Y) 0 (by rfl) p PL.out (range_of_row GY.out) ?_); simp only [Act.put, List.setIfInBounds_toArray, List.set_cons_zero, List.set_cons_succ]))
        refine HNC2.out.mono ?_
        rintro e wC ⟨rfl, hbC⟩
        have hHB := lt_of_heap GHB.out
        have GHC := Lib.hid ((hbC.block H hHB).trans GHB.out)
        have GRC := Lib.hid ((hbC.block (H + 1) (lt_of_heap GRB.out)).trans GRB.out)
        have RBC := Lib.hid (RBB.out.below hbC)
        have BBC := Lib.hid (BBB.out.trans (hbC.mono (Nat.le_of_lt hHB)))
        clear hbC
        obtain ⟨wE, hwE⟩ : ∃ z, z = wC.setRow H (dV D2) := ⟨_, rfl⟩
        have GHE := Lib.hid (show wE.heap[H]? = some (.cells (dV D2) 23 (0, 0)) by rw [hwE]; exact setRow_heap _ _ _ _ _ _ GHC.out)
        have GRE := Lib.hid (show wE.heap[H + 1]? = some (.cells (dV Z) 23 (0, 0)) by rw [hwE]; exact (_root_.Go.setRow_other _ _ _ _ (by omega)).trans GRC.out)
        have RBE := Lib.hid (show Rd wE (some ⟨b2, o2, none⟩) eb (cs.map vBo) by rw [hwE]; exact RBC.out.of_block (fun x hx _ => _root_.Go.setRow_other _ _ _ _ (by obtain rfl := Option.some.inj hx; show b2 ≠ H; omega)))
        have BBE := Lib.hid (show Below H w wE by rw [hwE]; exact below_setRowW BBC.out (Nat.le_refl _) _)
        have HWE := Lib.hid hwE
        clear hwE
        go_wp2_with ((refine st_row rfl (.tmp 4) (.tmp 58) rfl H D2 D2L.out (by rfl) (by rfl) (dV D) (dV_size DL.out) _ GHC.out ?_); rw [← HWE.out])
        go_roundw
        case rel => exact ⟨k + 1, by omega, by go_num, Lib.hid (by rw [← HD2.out]; exact GHE.out), GRE, RBE, BBE⟩
        case measure => simp [intOf]; omega
    · obtain rfl : k = M := by omega
      obtain ⟨R, hR⟩ : ∃ R, R = foldS l cs ps := ⟨_, rfl⟩
      have gh := GH.out
      rw [List.take_of_length_le (by rw [HCS.out]; exact Nat.le_refl _), List.take_of_length_le (by rw [HPL.out]; exact Nat.le_refl _), ← hR] at gh
      have RL := Lib.hid (show R.length = 32 by rw [hR]; exact foldS_length _ _ _ HL.out)
      have GHR := Lib.hid gh
      have HRR := Lib.hid (show foldS l bs.reverse ps = R by rw [← HCB.out, hR])
      clear gh hR GH
      go_wp2_with (first
        | ((refine ld_digG rfl (.tmp 4) rfl (H) 0 (by rfl) R RL.out (range_of_row GHR.out) ?_); simp only [Act.put, List.setIfInBounds_toArray, List.set_cons_zero, List.set_cons_succ])
        | (refine st_row rfl (.tmp 8) (.tmp 60) rfl (H + 1) R RL.out (by rfl) (by rfl) (dV Z) (dV_size ZL.out) _ GR.out ?_))
      try simp only [Exit.inBlock, Exit.then]
      refine bodyPost_ret (results_cell_tmp rfl _ _ _ ⟨H + 1, 0, none⟩ (.agg (dV R)) rfl ?_) rfl ⟨by first | (rw [HRR.out]; done) | (rw [HRR.out]; rfl), by rw [← HH.out]; exact below_setRowW BB.out (by omega) _⟩
      exact dig_load RL.out (range_of_row (setRow_heap _ _ _ _ _ _ GR.out))
end Go.Proofs.YtkioddmhjbaleaaGreatDoor
