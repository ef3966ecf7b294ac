/- Walks: sieve.Join. -/
import Derived.Test.YteikbbdkpeecaaaDoorSieveJoin
namespace Go.Proofs.YteikbbdkpeecaaaDoor
open Go.RowKit Go.Shelf
set_option linter.unusedVariables false
set_option linter.unusedSimpArgs false
/-- two sieves, where they lie -/
structure TwoAt (w : World) (a : Option Addr) (e : Nat) (x : List UInt8) (b : Option Addr) (f : Nat) (y : List UInt8) : Prop where
  ra : Rd w a e (x.map vB)
  rb : Rd w b f (y.map vB)
theorem TwoAt.below {w w' : World} {a : Option Addr} {e : Nat} {x : List UInt8} {b : Option Addr} {f : Nat} {y : List UInt8} (h : TwoAt w a e x b f y) (hb : Below w.heap.size w w') : TwoAt w' a e x b f y := ⟨h.ra.below hb, h.rb.below hb⟩
/-- the first k bytes joined -/
def joinTo (x y : List UInt8) (k : Nat) : List UInt8 := (joinB x y).take k ++ x.drop k
theorem joinTo_zero (x y : List UInt8) : joinTo x y 0 = x := by simp [joinTo]
theorem joinTo_all (x y : List UInt8) : joinTo x y x.length = joinB x y := by
  unfold joinTo; rw [List.take_of_length_le (by rw [joinB_length]; exact Nat.le_refl _), List.drop_of_length_le (Nat.le_refl _), List.append_nil]
theorem joinTo_length (x y : List UInt8) (k : Nat) (hk : k ≤ x.length) : (joinTo x y k).length = x.length := by
  unfold joinTo; rw [List.length_append, List.length_take, List.length_drop, joinB_length]; omega
theorem joinTo_at (x y : List UInt8) (k i : Nat) (hk : k ≤ x.length) : (joinTo x y k)[i]? = if i < k then (joinB x y)[i]? else x[i]? := by
  unfold joinTo
  rw [List.getElem?_append, List.length_take, joinB_length, Nat.min_eq_left hk]
  split
  · rename_i h; rw [List.getElem?_take, if_pos h]
  · rw [List.getElem?_drop]; congr 1; omega
theorem joinTo_get (x y : List UInt8) (k : Nat) (hk : k < x.length) (h : k < (joinTo x y k).length) : (joinTo x y k)[k] = x.getD k 0 := by
  have h1 := joinTo_at x y k k (Nat.le_of_lt hk)
  rw [if_neg (Nat.lt_irrefl k), List.getElem?_eq_getElem h, List.getElem?_eq_getElem hk] at h1
  rw [List.getD_eq_getElem?_getD, List.getElem?_eq_getElem hk]
  exact Option.some.inj h1
theorem joinB_at (x y : List UInt8) (k : Nat) (hk : k < x.length) : (joinB x y)[k]? = some (orX (x.getD k 0) (y.getD k 0)) := by
  unfold joinB; rw [List.getElem?_map, List.getElem?_range hk]; rfl
theorem joinTo_succ (x y : List UInt8) (k : Nat) (hk : k < x.length) : joinTo x y (k + 1) = (joinTo x y k).set k (orX (x.getD k 0) (y.getD k 0)) := by
  apply List.ext_getElem?
  intro i
  rw [joinTo_at _ _ _ _ (by omega), List.getElem?_set, joinTo_length _ _ _ (by omega), joinTo_at _ _ _ _ (by omega)]
  by_cases e : k = i
  · subst e
    rw [if_pos rfl, if_pos (by omega), if_pos hk, joinB_at x y k hk]
  · rw [if_neg e]
    by_cases hi : i < k
    · rw [if_pos (by omega), if_pos hi]
    · rw [if_neg (by omega), if_neg hi]
theorem or_bytes (x y : UInt8) : Go.bits .or .u8 (x.toNat : Int) (y.toNat : Int) = ((orX x y).toNat : Int) := by
  rw [orX_toNat]; exact u8_or_nat _ _ x.toNat_lt y.toNat_lt
set_option maxRecDepth 100000 in
set_option maxHeartbeats 8000000 in
theorem Join_ok (x y : List UInt8) (hL0 : 0 < x.length) (hL : x.length ≤ 1024) (hy : y.length = x.length) (K : Nat) (hK1 : 1 ≤ K) (hK : K ≤ 8) (a : Option Addr) (c e : Nat) (b : Option Addr) (d f : Nat) (w : World) (h : TwoAt w a e x b f y) :
    Calls Tryd.prog 18 #[.agg #[.slice a x.length c, .int .i64 (K : Int)], .agg #[.slice b x.length d, .int .i64 (K : Int)]] w fun e w' => ∃ a' c' e', e = .returned (.tuple #[.agg #[.slice a' x.length c', .int .i64 (K : Int)], .nilIface]) ∧ Rd w' a' e' ((joinB x y).map vB) ∧ Below w.heap.size w w' := by
  obtain ⟨H, hH⟩ : ∃ H, H = w.heap.size := ⟨_, rfl⟩
  obtain ⟨w0, hw0⟩ : ∃ z, z = w.alloc (.cells #[.slice a x.length c, .int .i64 (K : Int)] 24) := ⟨_, rfl⟩
  obtain ⟨w1, hw1⟩ : ∃ z, z = w0.alloc (.cells #[.slice b x.length d, .int .i64 (K : Int)] 24) := ⟨_, rfl⟩
  obtain ⟨w2, hw2⟩ : ∃ z, z = w1.alloc (.cells #[.slice none 0 0, .int .i64 0] 24) := ⟨_, rfl⟩
  have q0 : w0.heap.size = H + 1 := by rw [hw0, hH]; exact World.size_alloc _ _
  have q1 : w1.heap.size = H + 1 + 1 := by rw [hw1, World.size_alloc, q0]
  have q2 : w2.heap.size = H + 1 + 1 + 1 := by rw [hw2, World.size_alloc, q1]
  have b0 : Below H w w0 := by rw [hw0, hH]; exact (Below.refl _ _).alloc (Nat.le_refl _) _
  have b01 : Below (H + 1) w0 w1 := by rw [hw1, ← q0]; exact (Below.refl _ _).alloc (Nat.le_refl _) _
  have b12 : Below (H + 1 + 1) w1 w2 := by rw [hw2, ← q1]; exact (Below.refl _ _).alloc (Nat.le_refl _) _
  have b2 : Below H w w2 := b0.trans ((b01.trans (b12.mono (by omega))).mono (by omega))
  have g0 : w2.heap[H]? = some (.cells #[.slice a x.length c, .int .i64 (K : Int)] 24 (0, 0)) := by
    have g : w0.heap[H]? = some (.cells #[.slice a x.length c, .int .i64 (K : Int)] 24 (0, 0)) := by rw [hw0, hH]; exact heap_alloc_new _ _
    exact (b12.block _ (by omega)).trans ((b01.block _ (by omega)).trans g)
  have g1 : w2.heap[H + 1]? = some (.cells #[.slice b x.length d, .int .i64 (K : Int)] 24 (0, 0)) := by
    have g : w1.heap[H + 1]? = some (.cells #[.slice b x.length d, .int .i64 (K : Int)] 24 (0, 0)) := by rw [hw1, ← q0]; exact heap_alloc_new _ _
    exact (b12.block _ (by omega)).trans g
  have g2 : w2.heap[H + 1 + 1]? = some (.cells #[.slice none 0 0, .int .i64 0] 24 (0, 0)) := by rw [hw2, ← q1]; exact heap_alloc_new _ _
  have hat := h.below (show Below w.heap.size w w2 by rw [← hH]; exact b2)
  have CKa := fun W => Check_ok a x.length c (K : Int) ⟨⟨by omega, by omega⟩, by omega, by omega⟩ W
  have CKb := fun W => Check_ok b x.length d (K : Int) ⟨⟨by omega, by omega⟩, by omega, by omega⟩ W
  have HY := Lib.hid hy
  have HW0 := Lib.hid hw0
  have HW1 := Lib.hid hw1
  have HW2 := Lib.hid hw2
  have HH := Lib.hid hH
  have B2 := Lib.hid b2
  have G0 := Lib.hid g0
  have G1 := Lib.hid g1
  have G2 := Lib.hid g2
  have HAT := Lib.hid hat
  have HCA := Lib.hid CKa
  have HCB := Lib.hid CKb
  have Q2 := Lib.hid q2
  have c0 : w2.cell? ⟨H, 0, none⟩ = some (.slice a x.length c) := by rw [cell_of_row _ _ _ _ _ _ g0]; rfl
  have c1 : w2.cell? ⟨H, 1, none⟩ = some (.int .i64 (K : Int)) := by rw [cell_of_row _ _ _ _ _ _ g0]; rfl
  clear q0 q1 q2 b0 b01 b12 b2 g0 g1 g2 hat CKa CKb hw0 hw1 hw2 hH h hy
  go_enter Tryd.func18, Tryd.ntmps18
  go_wp2_with fail
  rw [← HH.out, ← HW0.out, ← HW1.out, ← HW2.out]
  refine (HCA.out _).mono ?_
  rintro e3 w3 ⟨rfl, hb3⟩
  have g1 : w3.heap[H + 1]? = some (.cells #[.slice b x.length d, .int .i64 (K : Int)] 24 (0, 0)) := (hb3.block (H + 1) (by rw [Q2.out]; omega)).trans G1.out
  have d0 : w3.cell? ⟨H + 1, 0, none⟩ = some (.slice b x.length d) := by rw [cell_of_row _ _ _ _ _ _ g1]; rfl
  have d1 : w3.cell? ⟨H + 1, 1, none⟩ = some (.int .i64 (K : Int)) := by rw [cell_of_row _ _ _ _ _ _ g1]; rfl
  have B3 := Lib.hid hb3
  clear hb3 g1 c0 c1
  go_wp2_with fail
  refine (HCB.out _).mono ?_
  rintro e4 w4 ⟨rfl, hb4⟩
  have hb24 : Below w2.heap.size w2 w4 := B3.out.trans (hb4.mono B3.out.size)
  have g0 : w4.heap[H]? = some (.cells #[.slice a x.length c, .int .i64 (K : Int)] 24 (0, 0)) := (hb24.block H (by rw [Q2.out]; omega)).trans G0.out
  have g1 : w4.heap[H + 1]? = some (.cells #[.slice b x.length d, .int .i64 (K : Int)] 24 (0, 0)) := (hb24.block (H + 1) (by rw [Q2.out]; omega)).trans G1.out
  have c0 : w4.cell? ⟨H, 0, none⟩ = some (.slice a x.length c) := by rw [cell_of_row _ _ _ _ _ _ g0]; rfl
  have c1 : w4.cell? ⟨H, 1, none⟩ = some (.int .i64 (K : Int)) := by rw [cell_of_row _ _ _ _ _ _ g0]; rfl
  have d0 : w4.cell? ⟨H + 1, 0, none⟩ = some (.slice b x.length d) := by rw [cell_of_row _ _ _ _ _ _ g1]; rfl
  have d1 : w4.cell? ⟨H + 1, 1, none⟩ = some (.int .i64 (K : Int)) := by rw [cell_of_row _ _ _ _ _ _ g1]; rfl
  have HAT4 := Lib.hid (HAT.out.below hb24)
  have B4 := Lib.hid hb24
  have hHl : H + 1 + 1 < w4.heap.size := by have := B4.out.size; rw [Q2.out] at this; omega
  clear hb4 hb24 g0 g1 B3 HAT HCA HCB
  have z1 : ((x.length : Int) != (x.length : Int)) = false := bne_self_eq_false _
  have z2 : ((K : Int) != (K : Int)) = false := bne_self_eq_false _
  go_wp2_with fail
  have rd1 : Rd w4.drew a e (x.map vB) := HAT4.out.ra.below ((Below.refl _ _).drew)
  have rd2 : Rd (w4.alloc (.cells #[.slice none 0 0, .int .i64 0] 24)).drew a e (x.map vB) := HAT4.out.ra.below (((Below.refl _ _).alloc (Nat.le_refl _) _).drew)
  have HRD := Lib.hid (And.intro rd1 rd2)
  clear rd1 rd2
  have hHl0 : H < w4.heap.size := by omega
  refine Code.wp_mono (Q := Exit.then (fun a9 wx => ∃ Y Z c4, a9 = { tmps := #[.agg #[.slice a x.length c, .int .i64 (K : Int)], .agg #[.slice b x.length d, .int .i64 (K : Int)], .pointer (some ⟨H, 0, none⟩), .pointer (some ⟨H + 1, 0, none⟩), .pointer (some ⟨H + 1 + 1, 0, none⟩), .nilIface, .nilIface, .nilIface, .pointer (some ⟨Y, 0, none⟩), undef, undef, .agg #[.slice a x.length c, .int .i64 (K : Int)], .nilIface, .nilIface, .bool false, undef, undef, .agg #[.slice b x.length d, .int .i64 (K : Int)], .nilIface, .nilIface, .bool false, undef, undef, .pointer (some ⟨H, 0, none⟩), .slice a x.length c, .int .i64 (x.length : Int), .pointer (some ⟨H + 1, 0, none⟩), .slice b x.length d, .int .i64 (x.length : Int), .bool false, .bool false, .pointer (some ⟨H, 1, none⟩), .int .i64 (K : Int), .pointer (some ⟨H + 1, 1, none⟩), .int .i64 (K : Int), .bool false, .bool false, undef, undef, .pointer (some ⟨H, 0, none⟩), .slice a x.length c, .slice (some ⟨Z, 0, none⟩) x.length c4, .pointer (some ⟨H, 1, none⟩), .int .i64 (K : Int), .agg #[.slice (some ⟨Z, 0, none⟩) x.length c4, .int .i64 (K : Int)], undef, undef, undef, undef, undef, undef, undef, undef, undef, undef, undef, undef, undef, undef, undef, undef, undef, undef], defers := [] }
      ∧ Y ≠ Z ∧ w4.heap.size ≤ Y ∧ wx.heap[Y]? = some (.cells #[.slice (some ⟨Z, 0, none⟩) x.length c4, .int .i64 (K : Int)] 24 (0, 0)) ∧ wx.ownsRow w4.heap.size 5 1 (.slice (some ⟨Z, 0, none⟩) x.length c4) x.length (x.map vB) ∧ Below w4.heap.size w4 wx) (fun _ _ _ => False)) ?rest ?first
  case first =>
    have HCA : Calls Tryd.prog 30 #[.slice a x.length c] w4.drew fun e w' => ∃ Z c4, e = .returned (.slice (some ⟨Z, 0, none⟩) x.length c4) ∧ w'.cell? ⟨H, 1, none⟩ = some (.int .i64 (K : Int)) ∧ (w'.alloc (.cells #[.slice none 0 0, .int .i64 0] 24)).cell? ⟨H, 1, none⟩ = some (.int .i64 (K : Int)) ∧ Hid (w'.ownsRow w4.heap.size 5 1 (.slice (some ⟨Z, 0, none⟩) x.length c4) x.length (x.map vB) ∧ Below w4.heap.size w4 w') := by
      refine (Clone_calls x a c e _ HRD.out.1 (by omega)).mono ?_
      rintro e4 wq ⟨a4, c4, rfl, hownq, hbq⟩
      obtain ⟨Z, rfl, hZ⟩ := own_some hownq hL0
      have k1 := (hbq.cell (p := ⟨H, 1, none⟩) hHl0).trans c1
      exact ⟨Z, c4, rfl, k1, (((Below.refl wq.heap.size wq).alloc (Nat.le_refl _) (.cells #[.slice none 0 0, .int .i64 0] 24)).cell (p := ⟨H, 1, none⟩) (Nat.lt_of_lt_of_le hHl0 hbq.size)).trans k1, Lib.hid ⟨hownq, (Below.refl _ _).drew.trans hbq⟩⟩
    have HCB : Calls Tryd.prog 30 #[.slice a x.length c] (w4.alloc (.cells #[.slice none 0 0, .int .i64 0] 24)).drew fun e w' => ∃ Z c4, e = .returned (.slice (some ⟨Z, 0, none⟩) x.length c4) ∧ w'.cell? ⟨H, 1, none⟩ = some (.int .i64 (K : Int)) ∧ w'.cell? ⟨w4.heap.size, 0, none⟩ = some (.slice none 0 0) ∧ w'.cell? ⟨w4.heap.size, 1, none⟩ = some (.int .i64 0) ∧ w'.frozen? ⟨w4.heap.size, 0, none⟩ = false ∧ w'.frozen? ⟨w4.heap.size, 1, none⟩ = false ∧ Hid (w'.heap[w4.heap.size]? = some (.cells #[.slice none 0 0, .int .i64 0] 24) ∧ w4.heap.size + 1 ≤ Z ∧ w'.ownsRow w4.heap.size 5 1 (.slice (some ⟨Z, 0, none⟩) x.length c4) x.length (x.map vB) ∧ Below w4.heap.size w4 w') := by
      refine (Clone_calls x a c e _ HRD.out.2 (by omega)).mono ?_
      rintro e4 wq ⟨a4, c4, rfl, hownq, hbq⟩
      obtain ⟨Z, rfl, hZ⟩ := own_some hownq hL0
      have hs : (w4.alloc (.cells #[.slice none 0 0, .int .i64 0] 24)).drew.heap.size = w4.heap.size + 1 := World.size_alloc _ _
      rw [hs] at hZ hownq hbq
      have k1 := ((hbq.cell (p := ⟨H, 1, none⟩) (by show H < _; omega)).trans (((Below.refl w4.heap.size w4).alloc (Nat.le_refl _) (.cells #[.slice none 0 0, .int .i64 0] 24)).cell (p := ⟨H, 1, none⟩) hHl0)).trans c1
      have g : wq.heap[w4.heap.size]? = some (.cells #[.slice none 0 0, .int .i64 0] 24 (0, 0)) := (hbq.block w4.heap.size (by omega)).trans (heap_alloc_new _ _)
      exact ⟨Z, c4, rfl, k1, by rw [cell_of_row _ _ _ _ _ _ g]; rfl, by rw [cell_of_row _ _ _ _ _ _ g]; rfl, frozen_of_row _ _ _ _ _ g, frozen_of_row _ _ _ _ _ g, Lib.hid ⟨g, hZ, own_low hownq (by omega), ((Below.refl w4.heap.size w4).alloc (Nat.le_refl _) (.cells #[.slice none 0 0, .int .i64 0] 24)).drew.trans (hbq.mono (by omega))⟩⟩
    have HA := Lib.hid HCA
    have HB := Lib.hid HCB
    clear HCA HCB
    have c0b : (w4.alloc (.cells #[.slice none 0 0, .int .i64 0] 24)).cell? ⟨H, 0, none⟩ = some (.slice a x.length c) := (((Below.refl w4.heap.size w4).alloc (Nat.le_refl _) _).cell (p := ⟨H, 0, none⟩) hHl0).trans c0
    have c1b : (w4.alloc (.cells #[.slice none 0 0, .int .i64 0] 24)).cell? ⟨H, 1, none⟩ = some (.int .i64 (K : Int)) := (((Below.refl w4.heap.size w4).alloc (Nat.le_refl _) _).cell (p := ⟨H, 1, none⟩) hHl0).trans c1
    go_region_with (go_at_call 30; first | (with_reducible refine HA.out.mono ?_; rintro e4 wq ⟨Z, c4, rfl, k1, k2, HOB⟩) | (with_reducible refine HB.out.mono ?_; rintro e4 wq ⟨Z, c4, rfl, k1, m0, m1, m2, m3, HOB⟩))
    all_goals first
      | (obtain ⟨hownq, hbq⟩ := HOB.out
         exact ⟨_, Z, c4, rfl, fun h => by have := (hownq.lt Z rfl).2; omega, hbq.size, heap_alloc_new _ _, hownq.alloc _, hbq.alloc hbq.size _⟩)
      | (obtain ⟨hg, hZ, hownq, hbq⟩ := HOB.out
         exact ⟨_, Z, c4, rfl, (by omega), Nat.le_refl _, heap_set_one (i := 1) (heap_set_one (i := 0) hg _) _, own_far (own_far hownq _ _ (by show Z ≠ w4.heap.size; omega)) _ _ (by show Z ≠ w4.heap.size; omega), (hbq.setCell (p := ⟨w4.heap.size, 0, none⟩) (Nat.le_refl _) _).setCell (p := ⟨w4.heap.size, 1, none⟩) (Nat.le_refl _) _⟩)
  case rest =>
    rintro e9 a9 wx hQ
    cases e9 with
    | normal =>
      obtain ⟨Y, Z, c4, rfl, hYZ, hY, hwY, hown, hbx⟩ := hQ
      have d0 := (hbx.cell (p := ⟨H + 1, 0, none⟩) (by show H + 1 < _; omega)).trans d0
      obtain ⟨B, hB⟩ : ∃ B, B = w4.heap.size := ⟨_, rfl⟩
      rw [← hB] at hY hown hbx hHl
      have BB := Lib.hid hB
      have HO := Lib.hid hown
      have HBX := Lib.hid hbx
      have HWY := Lib.hid hwY
      clear hB hown hbx hwY c0 c1 d1
      go_wp2_with fail
      go_loopw [48] (fun i wr => ∃ k : Nat, k ≤ x.length ∧ i = .int .i64 k ∧ wr.ownsRow B 5 1 (.slice (some ⟨Z, 0, none⟩) x.length c4) x.length ((joinTo x y k).map vB) ∧ wr.heap[Y]? = some (.cells #[.slice (some ⟨Z, 0, none⟩) x.length c4, .int .i64 (K : Int)] 24 (0, 0)) ∧ Below B w4 wr) (fun i _ => x.length - (intOf i).toNat)
      case atStart => exact ⟨0, Nat.zero_le _, rfl, by rw [joinTo_zero]; exact HO.out, HWY.out, HBX.out⟩
      case round =>
        obtain ⟨k, hk, rfl, hown, hwY, hbl⟩ := hrel
        obtain ⟨wA, rfl⟩ : ∃ z, z = wr := ⟨_, rfl⟩
        have k0 : wA.cell? ⟨Y, 0, none⟩ = some (.slice (some ⟨Z, 0, none⟩) x.length c4) := by rw [cell_of_row _ _ _ _ _ _ hwY]; rfl
        have k1 : wA.cell? ⟨Y, 1, none⟩ = some (.int .i64 (K : Int)) := by rw [cell_of_row _ _ _ _ _ _ hwY]; rfl
        by_cases hlt : k < x.length
        · have hz : (k : Int) < (x.length : Int) := by omega
          have hz0 : (0 : Int) ≤ (k : Int) := by omega
          have hky : k < y.length := by rw [HY.out]; exact hlt
          obtain ⟨bb, bo, hbb, _, hcb⟩ := (HAT4.out.rb.below (show Below w4.heap.size w4 wA by rw [← BB.out]; exact hbl)).bytes hky
          subst hbb
          have cb := hcb k hky
          have hjl := joinTo_length x y k (by omega)
          obtain ⟨cz, fz⟩ := own_bget hown (k := k) (by rw [hjl]; exact hlt)
          rw [joinTo_get x y k hlt] at cz
          rw [show y[k] = y.getD k 0 by rw [List.getD_eq_getElem?_getD, List.getElem?_eq_getElem hky]; rfl] at cb
          obtain ⟨X, hX⟩ : ∃ X, X = x.getD k 0 := ⟨_, rfl⟩
          obtain ⟨U, hU⟩ : ∃ U, U = y.getD k 0 := ⟨_, rfl⟩
          rw [← hX] at cz
          rw [← hU] at cb
          have hor := or_bytes X U
          have e4 : IntKind.i64.wrap ((k : Int) + 1) = (k : Int) + 1 := IntWalk.i64_in _ (by omega)
          have HOW := Lib.hid hown
          have HWA := Lib.hid hwY
          have HBL := Lib.hid hbl
          have HXU := Lib.hid (And.intro hX hU)
          clear hown hwY hbl hX hU hcb hjl
          go_wp2_with fail
          have hs : (wA.setCell ⟨Z, k, none⟩ (.int .u8 ((orX X U).toNat : Int))).ownsRow B 5 1 (.slice (some ⟨Z, 0, none⟩) x.length c4) x.length ((joinTo x y (k + 1)).map vB) := by
            rw [joinTo_succ x y k hlt, ← HXU.out.1, ← HXU.out.2]; exact own_bset HOW.out k (orX X U)
          have hZB : B ≤ Z := (HOW.out.lt Z rfl).1
          go_roundw
          case rel => exact ⟨k + 1, by omega, by go_num, hs, (Below.heap_setCell _ _ _ _ (by show Y ≠ Z; exact hYZ)).trans HWA.out, HBL.out.setCell (p := ⟨Z, k, none⟩) hZB _⟩
          case measure => simp [intOf]; omega
        · obtain rfl : k = x.length := by omega
          rw [joinTo_all] at hown
          have kR : wA.heap[H + 1 + 1]? = some (.cells #[.slice none 0 0, .int .i64 0] 24 (0, 0)) := (hbl.block (H + 1 + 1) hHl).trans ((B4.out.block (H + 1 + 1) (by rw [Q2.out]; omega)).trans G2.out)
          have r0 : wA.cell? ⟨H + 1 + 1, 0, none⟩ = some (.slice none 0 0) := by rw [cell_of_row _ _ _ _ _ _ kR]; rfl
          have r1 : wA.cell? ⟨H + 1 + 1, 1, none⟩ = some (.int .i64 0) := by rw [cell_of_row _ _ _ _ _ _ kR]; rfl
          have t0 : wA.frozen? ⟨H + 1 + 1, 0, none⟩ = false := frozen_of_row _ _ _ _ _ kR
          have t1 : wA.frozen? ⟨H + 1 + 1, 1, none⟩ = false := frozen_of_row _ _ _ _ _ kR
          have hZB : B ≤ Z := (hown.lt Z rfl).1
          have HOW := Lib.hid hown
          have HKR := Lib.hid kR
          have HBW : Hid (Below H w wA) := Lib.hid (B2.out.trans ((B4.out.mono (by rw [Q2.out]; omega)).trans (hbl.mono (by omega))))
          clear hown hwY hbl kR
          go_wp2_with fail
          have g1 : ((wA.setCell ⟨H + 1 + 1, 0, none⟩ (.slice (some ⟨Z, 0, none⟩) x.length c4)).setCell ⟨H + 1 + 1, 1, none⟩ (.int .i64 (K : Int))).heap[H + 1 + 1]? = some (.cells #[.slice (some ⟨Z, 0, none⟩) x.length c4, .int .i64 (K : Int)] 24 (0, 0)) := heap_set_one (i := 1) (heap_set_one (i := 0) HKR.out _) _
          have m1 : ((wA.setCell ⟨H + 1 + 1, 0, none⟩ (.slice (some ⟨Z, 0, none⟩) x.length c4)).setCell ⟨H + 1 + 1, 1, none⟩ (.int .i64 (K : Int))).cell? ⟨H + 1 + 1, 0, none⟩ = some (.slice (some ⟨Z, 0, none⟩) x.length c4) := by rw [cell_of_row _ _ _ _ _ _ g1]; rfl
          have m2 : ((wA.setCell ⟨H + 1 + 1, 0, none⟩ (.slice (some ⟨Z, 0, none⟩) x.length c4)).setCell ⟨H + 1 + 1, 1, none⟩ (.int .i64 (K : Int))).cell? ⟨H + 1 + 1, 1, none⟩ = some (.int .i64 (K : Int)) := by rw [cell_of_row _ _ _ _ _ _ g1]; rfl
          have HM := Lib.hid (And.intro (Rd.of_own (own_far (own_far HOW.out ⟨H + 1 + 1, 0, none⟩ (.slice (some ⟨Z, 0, none⟩) x.length c4) (by show Z ≠ H + 1 + 1; omega)) ⟨H + 1 + 1, 1, none⟩ (.int .i64 (K : Int)) (by show Z ≠ H + 1 + 1; omega))) ((HBW.out.setCell (p := ⟨H + 1 + 1, 0, none⟩) (by show H ≤ H + 1 + 1; omega) (.slice (some ⟨Z, 0, none⟩) x.length c4)).setCell (p := ⟨H + 1 + 1, 1, none⟩) (by show H ≤ H + 1 + 1; omega) (.int .i64 (K : Int))))
          clear HOW HBW HKR g1
          refine bodyPost_ret (v := .tuple #[.agg #[.slice (some ⟨Z, 0, none⟩) x.length c4, .int .i64 (K : Int)], .nilIface]) (by simp [results, Tryd.f18, go_sem, m1, m2]) rfl ?_
          exact ⟨some ⟨Z, 0, none⟩, c4, 5, rfl, HM.out.1, by rw [← HH.out]; exact HM.out.2⟩
    | _ => exact hQ.elim
end Go.Proofs.YteikbbdkpeecaaaDoor
