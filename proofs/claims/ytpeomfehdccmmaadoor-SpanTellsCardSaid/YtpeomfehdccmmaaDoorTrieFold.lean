/- Walks: trie.key, trie.Fold; the reference's Nothing, Of, MapNode, MapFolded, IsKey. -/
import Derived.Test.YtpeomfehdccmmaaDoorTrieNode
namespace Go.Proofs.YtpeomfehdccmmaaDoor
open Go.RowKit
set_option linter.unusedVariables false
set_option linter.unusedSimpArgs false

def KeyOk (k : Int) : Prop := 0 ≤ k ∧ k < 4294967296
instance (k : Int) : Decidable (KeyOk k) := by unfold KeyOk; infer_instance
theorem Key_calls (k : Int) (w : World) : Calls Tryd.prog 47 #[.int .i64 k] w fun e w' => e = .returned (.bool (decide (KeyOk k))) ∧ w = w' := by
  by_cases h1 : 0 ≤ k
  · by_cases h2 : k < 4294967296
    · rw [decide_eq_true (show KeyOk k from ⟨h1, h2⟩)]
      have z1 : decide (0 ≤ k) = true := decide_eq_true h1
      have z2 : decide (k < 4294967296) = true := decide_eq_true h2
      go_enter Tryd.func47, Tryd.ntmps47
      go_wp2_with fail
      go_ret
      exact ⟨rfl, rfl⟩
    · rw [decide_eq_false (show ¬ KeyOk k from fun h => h2 h.2)]
      have z1 : decide (0 ≤ k) = true := decide_eq_true h1
      have z2 : decide (k < 4294967296) = false := decide_eq_false h2
      go_enter Tryd.func47, Tryd.ntmps47
      go_wp2_with fail
      go_ret
      exact ⟨rfl, rfl⟩
  · rw [decide_eq_false (show ¬ KeyOk k from fun h => h1 h.1)]
    have z1 : decide (0 ≤ k) = false := decide_eq_false h1
    go_enter Tryd.func47, Tryd.ntmps47
    go_wp2_with fail
    go_ret
    exact ⟨rfl, rfl⟩
theorem IsKey_calls (k : Int) (w : World) : Calls Tryd.prog 14 #[.int .i64 k] w fun e w' => e = .returned (.bool (decide (KeyOk k))) ∧ w = w' := by
  by_cases h1 : 0 ≤ k
  · by_cases h2 : k < 4294967296
    · rw [decide_eq_true (show KeyOk k from ⟨h1, h2⟩)]
      have z1 : decide (0 ≤ k) = true := decide_eq_true h1
      have z2 : decide (k ≤ 4294967295) = true := decide_eq_true (by omega)
      go_enter Tryd.func14, Tryd.ntmps14
      go_wp2_with fail
      go_ret
      exact ⟨rfl, rfl⟩
    · rw [decide_eq_false (show ¬ KeyOk k from fun h => h2 h.2)]
      have z1 : decide (0 ≤ k) = true := decide_eq_true h1
      have z2 : decide (k ≤ 4294967295) = false := decide_eq_false (by omega)
      go_enter Tryd.func14, Tryd.ntmps14
      go_wp2_with fail
      go_ret
      exact ⟨rfl, rfl⟩
  · rw [decide_eq_false (show ¬ KeyOk k from fun h => h1 h.1)]
    have z1 : decide (0 ≤ k) = false := decide_eq_false h1
    go_enter Tryd.func14, Tryd.ntmps14
    go_wp2_with fail
    go_ret
    exact ⟨rfl, rfl⟩
set_option maxRecDepth 20000 in
theorem Nothing_calls (w : World) : Calls Tryd.prog 19 #[] w fun e w' => e = .returned (.agg (dV nz)) ∧ Below w.heap.size w w' := by
  obtain ⟨Z, hZ⟩ : ∃ Z, Z = nz := ⟨_, rfl⟩
  have zl : Z.length = 32 := by rw [hZ]; rfl
  have zlit : (#[.int .u8 0, .int .u8 0, .int .u8 0, .int .u8 0, .int .u8 0, .int .u8 0, .int .u8 0, .int .u8 0, .int .u8 0, .int .u8 0, .int .u8 0, .int .u8 0, .int .u8 0, .int .u8 0, .int .u8 0, .int .u8 0, .int .u8 0, .int .u8 0, .int .u8 0, .int .u8 0, .int .u8 0, .int .u8 0, .int .u8 0, .int .u8 0, .int .u8 0, .int .u8 0, .int .u8 0, .int .u8 0, .int .u8 0, .int .u8 0, .int .u8 0, .int .u8 0] : Array Value) = dV Z := by rw [hZ]; exact zdig
  have ZL := Lib.hid zl
  have ZT := Lib.hid zlit
  have HZ := Lib.hid hZ
  clear zl zlit hZ
  rw [← HZ.out]
  have fin : Below w.heap.size w (w.alloc (.cells (dV Z) 23)) := (Below.refl _ w).alloc (Nat.le_refl _) _
  have HF := Lib.hid fin
  clear fin
  go_enter Tryd.func19, Tryd.ntmps19
  go_wp2_with (first | (refine wpl_zero rfl rfl Z HZ.out ?_) | (refine st_new rfl (.tmp 0) (.tmp 1) rfl Z ZL.out (by rfl) _ _ (by rfl) (by rfl) ?_))
  try simp only [Exit.inBlock, Exit.then]
  refine bodyPost_ret (v := .agg (dV Z)) (results_cellW rfl _ _ _ ⟨w.heap.size, 0, none⟩ _ rfl ?_) rfl ⟨rfl, HF.out⟩
  exact dig_load ZL.out (range_of_row (heap_alloc_new w _))
set_option maxRecDepth 20000 in
set_option maxHeartbeats 4000000 in
theorem ROf_calls (t : UInt8) (ds : List (List UInt8)) (hd : ∀ d ∈ ds, d.length = 32) (hn : ds.length ≤ 1000) (a : Option Addr) (cap e : Nat) (w : World) (hr : Rd w a e (ds.flatten.map vB)) :
    Calls Tryd.prog 55 #[.int .u8 t.toNat, .slice a ds.length cap] w fun e w' => e = .returned (.agg (dV (shaOf (t :: ds.flatten)))) ∧ Below w.heap.size w w' := by
  obtain ⟨H, hH⟩ : ∃ H, H = w.heap.size := ⟨_, rfl⟩
  obtain ⟨w0, hw0⟩ : ∃ z, z = w.alloc (.cells (dV nz) 23) := ⟨_, rfl⟩
  have q0 : w0.heap.size = H + 1 := by rw [hw0, hH]; exact World.size_alloc _ _
  have s0 : Below (H) w w0 := by rw [hw0, hH]; exact (Below.refl _ _).alloc (Nat.le_refl _) _
  have t0 : Below (H + 1) w0 w0 := Below.refl _ _
  have bL : Below H w w0 := s0.trans (t0.mono (by omega))
  have g0 : w0.heap[H]? = some (.cells (dV nz) 23 (0, 0)) := by
    have g : w0.heap[H]? = some (.cells (dV nz) 23 (0, 0)) := by rw [hw0, hH]; exact heap_alloc_new _ _
    exact (t0.block _ (by omega)).trans g
  have bW : Below w.heap.size w w0 := by rw [← hH]; exact bL
  have hsz : H < w0.heap.size := by omega
  have HH := Lib.hid hH
  have HW0 := Lib.hid hw0
  have BL := Lib.hid bL
  have BW := Lib.hid bW
  have QL := Lib.hid q0
  have G0 := Lib.hid g0
  clear hH hw0 q0 s0 t0 g0 bL bW
  have rd0 : Rd w0 a e (ds.flatten.map vB) := hr.below BW.out
  have o1 : (w0.alloc (.cells #[.int .u8 t.toNat] 5)).ownsRow (H + 1) 5 1 (.slice (some ⟨H + 1, 0, none⟩) 1 1) 1 ([t].map vB) := by rw [← QL.out]; exact own_byte1 w0 t _ (Nat.le_refl _)
  have b1 : Below (H + 1) w0 (w0.alloc (.cells #[.int .u8 t.toNat] 5)) := by rw [← QL.out]; exact (Below.refl _ _).alloc (Nat.le_refl _) _
  have hfl := (flat_get ds hd).1
  have RD0 := Lib.hid rd0
  have HD := Lib.hid hd
  have O1 := Lib.hid o1
  have B1 := Lib.hid b1
  have HFL := Lib.hid hfl
  clear rd0 hd o1 b1 hr hfl
  go_enter Tryd.func55, Tryd.ntmps55
  go_wp2_with fail
  rw [zdig, ← HH.out, ← HW0.out]
  go_loopw [5, 6] (fun v i wr => ∃ (k : Nat) (av : Option Addr) (cp : Nat), k ≤ ds.length ∧ i = .int .i64 k ∧ v = .slice av (1 + 32 * k) cp ∧ wr.ownsRow (H + 1) 5 1 (.slice av (1 + 32 * k) cp) (1 + 32 * k) ((t :: (ds.take k).flatten).map vB) ∧ Below (H + 1) w0 wr) (fun _ i _ => ds.length - (intOf i).toNat)
  case atStart => exact ⟨0, some ⟨H + 1, 0, none⟩, 1, Nat.zero_le _, rfl, rfl, O1.out, B1.out⟩
  case round =>
    clear O1 B1
    obtain ⟨k, av, cp, hk, rfl, rfl, hown, hbl⟩ := hrel
    have hsr : H + 1 ≤ wr.heap.size := by have := hbl.size; rw [← QL.out]; exact this
    by_cases hlt : k < ds.length
    · obtain ⟨b, o, rfl, hb, hrg⟩ := RD0.out.range HD.out hlt
      have hlen : ds[k].length = 32 := HD.out _ (List.getElem_mem _)
      have hrg2 : wr.rangeAt b (o + k * 32) (ds[k].map vB) := fun j v hj => (hbl.cell (p := ⟨b, o + k * 32 + j, none⟩) (by rw [← QL.out]; exact hb)).trans (hrg j v hj)
      have hst : (ds.take (k + 1)).flatten = (ds.take k).flatten ++ ds[k] := by
        rw [List.take_succ_eq_append_getElem hlt, List.flatten_append]; simp
      have k0 : (0 : Int) ≤ (k : Int) := by omega
      have k1 : (k : Int) < (ds.length : Int) := by omega
      have e4 : IntKind.i64.wrap ((k : Int) + 1) = (k : Int) + 1 := IntWalk.i64_in _ (by omega)
      have HRG := Lib.hid hrg2
      have HLEN := Lib.hid hlen
      have HST := Lib.hid hst
      have HO := Lib.hid hown
      have HBL := Lib.hid hbl
      clear hrg hrg2 hlen hst hown hbl
      obtain ⟨D, hD⟩ : ∃ D, D = ds[k] := ⟨_, rfl⟩
      rw [← hD] at HRG HLEN HST
      clear hD
      go_wp2_with (first
        | (refine ld_dig rfl (.tmp 18) rfl b (o + k * 32) (by rfl) D HLEN.out HRG.out ?_)
        | (refine st_new rfl (.tmp 7) (.tmp 19) rfl D HLEN.out (by rfl) _ _ (by rfl) (by rfl) ?_)
        | (at_builtin; refine appAllw 80 5 (.int .u8 0) 1 1 Tryd.underlying80 info_byte rfl (by omega) rfl (.tmp 20) (.tmp 21) (by rfl) (H + 1) _ (1 + 32 * k) _ (by rfl) (HO.out.alloc _) (some ⟨wr.heap.size, 0, none⟩) 32 32 (D.map vB) (by rfl) _ (Rd.box wr D _) (by rw [List.length_map]; exact HLEN.out) (one_bytes D) (by omega) (by omega) (by rw [World.size_alloc]; omega) ?_; intro av3 cp3 w3 hown3 hb3; rw [← List.map_append, List.cons_append, ← HST.out] at hown3; have O3 := Lib.hid hown3; have B3 := Lib.hid (HBL.out.trans (Below.trans ((Below.refl _ wr).alloc hsr _) hb3)); clear hown3 hb3))
      go_roundw
      case rel => exact ⟨k + 1, av3, cp3, hlt, by go_num, rfl, O3.out, B3.out⟩
      case measure => simp [intOf] <;> omega
    · obtain rfl : k = ds.length := by omega
      rw [List.take_of_length_le (Nat.le_refl _)] at hown
      have hlen : (t :: ds.flatten).length = 1 + 32 * ds.length := by rw [List.length_cons, HFL.out]; omega
      have SC := RSum_calls (t :: ds.flatten) av cp _ wr (Rd.of_own hown) (by rw [hlen]; omega)
      rw [hlen] at SC
      have gr := (hbl.block H (by omega)).trans G0.out
      have HSC := Lib.hid SC
      have GR := Lib.hid gr
      have HBL := Lib.hid hbl
      clear SC gr hbl hown hlen
      go_wp2_with fail
      refine HSC.out.mono ?_
      rintro e w5 ⟨rfl, hb5⟩
      have G5 := Lib.hid ((hb5.block _ (lt_of_heap GR.out)).trans GR.out)
      have B5 := Lib.hid (BL.out.trans ((HBL.out.trans (hb5.mono hsr)).mono (by omega)))
      clear hb5 HSC
      go_wp2_with (refine st_row rfl (.tmp 4) (.tmp 24) rfl H (shaOf (t :: ds.flatten)) (shaOf_length _) (by rfl) (by rfl) (dV nz) (by rfl) _ G5.out ?_)
      try simp only [Exit.inBlock, Exit.then]
      refine bodyPost_ret (v := .agg (dV (shaOf (t :: ds.flatten)))) (results_cellW rfl _ _ _ ⟨H, 0, none⟩ _ rfl ?_) rfl ?_
      · exact dig_load (shaOf_length _) (range_of_row (setRow_heap _ _ _ _ _ _ G5.out))
      · exact ⟨rfl, by rw [← HH.out]; exact below_setRowW B5.out (Nat.le_refl _) _⟩
set_option maxRecDepth 20000 in
set_option maxHeartbeats 4000000 in
theorem RMapNode_calls (l r : List UInt8) (hl : l.length = 32) (hr : r.length = 32) (w : World) :
    Calls Tryd.prog 26 #[.agg (dV l), .agg (dV r)] w fun e w' => e = .returned (.agg (dV (nodeD l r))) ∧ Below w.heap.size w w' := by
  obtain ⟨Z, hZ⟩ : ∃ Z, Z = nz := ⟨_, rfl⟩
  have zl : Z.length = 32 := by rw [hZ]; rfl
  have zlit : (#[.int .u8 0, .int .u8 0, .int .u8 0, .int .u8 0, .int .u8 0, .int .u8 0, .int .u8 0, .int .u8 0, .int .u8 0, .int .u8 0, .int .u8 0, .int .u8 0, .int .u8 0, .int .u8 0, .int .u8 0, .int .u8 0, .int .u8 0, .int .u8 0, .int .u8 0, .int .u8 0, .int .u8 0, .int .u8 0, .int .u8 0, .int .u8 0, .int .u8 0, .int .u8 0, .int .u8 0, .int .u8 0, .int .u8 0, .int .u8 0, .int .u8 0, .int .u8 0] : Array Value) = dV Z := by rw [hZ]; exact zdig
  have ZL := Lib.hid zl
  have ZT := Lib.hid zlit
  have HZ := Lib.hid hZ
  clear zl zlit hZ
  obtain ⟨H, hH⟩ : ∃ H, H = w.heap.size := ⟨_, rfl⟩
  obtain ⟨w0, hw0⟩ : ∃ z, z = w.alloc (.cells (dV l) 23) := ⟨_, rfl⟩
  obtain ⟨w1, hw1⟩ : ∃ z, z = w0.alloc (.cells (dV r) 23) := ⟨_, rfl⟩
  obtain ⟨w2, hw2⟩ : ∃ z, z = w1.alloc (.cells (dV Z) 23) := ⟨_, rfl⟩
  have q0 : w0.heap.size = H + 1 := by rw [hw0, hH]; exact World.size_alloc _ _
  have q1 : w1.heap.size = H + 1 + 1 := by rw [hw1, World.size_alloc, q0]
  have q2 : w2.heap.size = H + 1 + 1 + 1 := by rw [hw2, World.size_alloc, q1]
  have s0 : Below (H) w w0 := by rw [hw0, hH]; exact (Below.refl _ _).alloc (Nat.le_refl _) _
  have s1 : Below (H + 1) w0 w1 := by rw [hw1, ← q0]; exact (Below.refl _ _).alloc (Nat.le_refl _) _
  have s2 : Below (H + 1 + 1) w1 w2 := by rw [hw2, ← q1]; exact (Below.refl _ _).alloc (Nat.le_refl _) _
  have t2 : Below (H + 1 + 1 + 1) w2 w2 := Below.refl _ _
  have t1 : Below (H + 1 + 1) w1 w2 := s2.trans (t2.mono (by omega))
  have t0 : Below (H + 1) w0 w2 := s1.trans (t1.mono (by omega))
  have bL : Below H w w2 := s0.trans (t0.mono (by omega))
  have g0 : w2.heap[H]? = some (.cells (dV l) 23 (0, 0)) := by
    have g : w0.heap[H]? = some (.cells (dV l) 23 (0, 0)) := by rw [hw0, hH]; exact heap_alloc_new _ _
    exact (t0.block _ (by omega)).trans g
  have g1 : w2.heap[H + 1]? = some (.cells (dV r) 23 (0, 0)) := by
    have g : w1.heap[H + 1]? = some (.cells (dV r) 23 (0, 0)) := by rw [hw1, ← q0]; exact heap_alloc_new _ _
    exact (t1.block _ (by omega)).trans g
  have g2 : w2.heap[H + 1 + 1]? = some (.cells (dV Z) 23 (0, 0)) := by
    have g : w2.heap[H + 1 + 1]? = some (.cells (dV Z) 23 (0, 0)) := by rw [hw2, ← q1]; exact heap_alloc_new _ _
    exact (t2.block _ (by omega)).trans g
  have bW : Below w.heap.size w w2 := by rw [← hH]; exact bL
  have hsz : H + 1 + 1 < w2.heap.size := by omega
  have HH := Lib.hid hH
  have HW0 := Lib.hid hw0
  have HW1 := Lib.hid hw1
  have HW2 := Lib.hid hw2
  have BL := Lib.hid bL
  have BW := Lib.hid bW
  have QL := Lib.hid q2
  have G0 := Lib.hid g0
  have G1 := Lib.hid g1
  have G2 := Lib.hid g2
  clear hH hw0 hw1 hw2 q0 q1 q2 s0 s1 s2 t0 t1 t2 g0 g1 g2 bL bW
  have HL := Lib.hid hl
  have HR := Lib.hid hr
  have NC : ∀ w', InB w2.heap.size w2 w' → Calls Tryd.prog 19 #[] w' fun e w'' => e = .returned (.agg (dV Z)) ∧ InB w2.heap.size w2 w'' :=
    fun w' h => InB.call h (Nat.le_refl _) (by rw [HZ.out]; exact Nothing_calls w')
  have HNC := Lib.hid NC
  have hex := inB_ex w2.heap.size w2
  clear hl hr NC
  by_cases h12 : l = nz ∧ r = nz
  · have e1 : (l == Z) = true := by rw [HZ.out, h12.1]; rfl
    have e2 : (r == Z) = true := by rw [HZ.out, h12.2]; rfl
    have en : nodeD l r = nz := by unfold nodeD; rw [← HZ.out, e1, e2]; rfl
    have E1 := Lib.hid e1
    have E2 := Lib.hid e2
    have EN := Lib.hid en
    clear e1 e2 h12 en
    rw [EN.out, ← HZ.out]
    go_enter Tryd.func26, Tryd.ntmps26
    go_upto_region 1 with fail
    rw [ZT.out, ← HH.out, ← HW0.out, ← HW1.out, ← HW2.out]
    refine wp_region_inB w2.heap.size (by kernel_rfl) (by kernel_rfl) ?_
    refine quiet_dig rfl (.tmp 2) rfl H 0 (by rfl) l HL.out (fun w' hw' => hw'.range (by omega) (range_of_row G0.out)) ?_
    simp only [Act.put, List.setIfInBounds_toArray, List.set_cons_zero, List.set_cons_succ]
    go_big_quiet_step ((intro hw'; exact HNC.out _ hw'))
    refine quiet_dig_eq rfl (.tmp 5) (.tmp 6) _ rfl l Z (by rfl) (by rfl) HL.out ZL.out ?_
    rw [E1.out]
    simp only [Act.put, List.setIfInBounds_toArray, List.set_cons_zero, List.set_cons_succ]
    go_big_quiet_step ((intro _; rfl))
    refine quiet_dig rfl (.tmp 3) rfl (H + 1) 0 (by rfl) r HR.out (fun w' hw' => hw'.range (by omega) (range_of_row G1.out)) ?_
    simp only [Act.put, List.setIfInBounds_toArray, List.set_cons_zero, List.set_cons_succ]
    go_big_quiet_step ((intro hw'; exact HNC.out _ hw'))
    refine quiet_dig_eq rfl (.tmp 9) (.tmp 10) _ rfl r Z (by rfl) (by rfl) HR.out ZL.out ?_
    rw [E2.out]
    simp only [Act.put, List.setIfInBounds_toArray, List.set_cons_zero, List.set_cons_succ]
    go_big_quiet_step ((intro _; rfl))
    refine wpQuiet_nil ?_
    intro w3 hw3
    have G3 := Lib.hid ((Below.block hw3 _ hsz).trans G2.out)
    have B3 := Lib.hid (BL.out.trans (Below.mono hw3 (by omega)))
    have hs3 := Below.size hw3
    clear hw3 HNC
    go_wp2_with fail
    refine (Nothing_calls _).mono ?_
    rw [← HZ.out]
    rintro e w4 ⟨rfl, hb4⟩
    have G4 := Lib.hid ((hb4.block _ (by omega)).trans G3.out)
    have B4 := Lib.hid (B3.out.trans (hb4.mono (by omega)))
    clear hb4
    go_wp2_with (refine st_row rfl (.tmp 4) (.tmp 13) rfl (H + 1 + 1) Z ZL.out (by rfl) (by rfl) (dV Z) (dV_size ZL.out) _ G4.out ?_)
    try simp only [Exit.inBlock, Exit.then]
    refine bodyPost_ret (v := .agg (dV Z)) (results_cellW rfl _ _ _ ⟨H + 1 + 1, 0, none⟩ _ rfl ?_) rfl ?_
    · exact dig_load ZL.out (range_of_row (setRow_heap _ _ _ _ _ _ G4.out))
    · exact ⟨rfl, by rw [← HH.out]; exact below_setRowW B4.out (by omega) _⟩
  · have ed : nodeD l r = shaOf (10 :: [l, r].flatten) := by
      unfold nodeD nodeTxt
      rw [if_neg (by simpa using h12)]
      simp
    have nd : ∀ d ∈ [l, r], d.length = 32 := by
      intro d hd
      rcases List.mem_cons.1 hd with rfl | hd
      · exact HL.out
      · rw [List.mem_singleton.1 hd]; exact HR.out
    have OC : ∀ w', Calls Tryd.prog 55 #[.int .u8 (10 : UInt8).toNat, .slice (some ⟨w'.heap.size, 0, none⟩) 2 2] (w'.alloc (.cells (dV (l ++ r)) 23)) fun e w'' => e = .returned (.agg (dV (nodeD l r))) ∧ Below w'.heap.size w' w'' := fun w' => by
      have r4 : Rd (w'.alloc (.cells (dV (l ++ r)) 23)) (some ⟨w'.heap.size, 0, none⟩) 23 ([l, r].flatten.map vB) := by
        rw [show [l, r].flatten = l ++ r by simp]; exact Rd.box w' (l ++ r) _
      have := ROf_calls 10 [l, r] nd (by simp) _ 2 _ _ r4
      rw [← ed] at this
      refine this.mono ?_
      rintro e w'' ⟨rfl, hb⟩
      exact ⟨rfl, ((Below.refl _ w').alloc (Nat.le_refl _) _).trans (hb.mono (by rw [World.size_alloc]; omega))⟩
    have ED := Lib.hid (nodeD_length l r)
    have HOC := Lib.hid OC
    clear ed nd OC
    by_cases h1 : l = nz
    · have e1 : (l == Z) = true := by rw [HZ.out, h1]; rfl
      have e2 : (r == Z) = false := by rw [HZ.out, beq_eq_false_iff_ne]; exact fun h => h12 ⟨h1, h⟩
      have E1 := Lib.hid e1
      have E2 := Lib.hid e2
      clear e1 e2 h12 h1
      go_enter Tryd.func26, Tryd.ntmps26
      go_upto_region 1 with fail
      rw [ZT.out, ← HH.out, ← HW0.out, ← HW1.out, ← HW2.out]
      refine wp_region_inB w2.heap.size (by kernel_rfl) (by kernel_rfl) ?_
      refine quiet_dig rfl (.tmp 2) rfl H 0 (by rfl) l HL.out (fun w' hw' => hw'.range (by omega) (range_of_row G0.out)) ?_
      simp only [Act.put, List.setIfInBounds_toArray, List.set_cons_zero, List.set_cons_succ]
      go_big_quiet_step ((intro hw'; exact HNC.out _ hw'))
      refine quiet_dig_eq rfl (.tmp 5) (.tmp 6) _ rfl l Z (by rfl) (by rfl) HL.out ZL.out ?_
      rw [E1.out]
      simp only [Act.put, List.setIfInBounds_toArray, List.set_cons_zero, List.set_cons_succ]
      go_big_quiet_step ((intro _; rfl))
      refine quiet_dig rfl (.tmp 3) rfl (H + 1) 0 (by rfl) r HR.out (fun w' hw' => hw'.range (by omega) (range_of_row G1.out)) ?_
      simp only [Act.put, List.setIfInBounds_toArray, List.set_cons_zero, List.set_cons_succ]
      go_big_quiet_step ((intro hw'; exact HNC.out _ hw'))
      refine quiet_dig_eq rfl (.tmp 9) (.tmp 10) _ rfl r Z (by rfl) (by rfl) HR.out ZL.out ?_
      rw [E2.out]
      simp only [Act.put, List.setIfInBounds_toArray, List.set_cons_zero, List.set_cons_succ]
      go_big_quiet_step ((intro _; rfl))
      refine wpQuiet_nil ?_
      intro w3 hw3
      have G3 := Lib.hid ((Below.block hw3 _ hsz).trans G2.out)
      have B3 := Lib.hid (BL.out.trans (Below.mono hw3 (by omega)))
      have GL := Lib.hid ((Below.block hw3 _ (by omega)).trans G0.out)
      have GR := Lib.hid ((Below.block hw3 _ (by omega)).trans G1.out)
      have hs3 := Below.size hw3
      have OC := HOC.out w3
      have HO3 := Lib.hid OC
      clear hw3 HNC HOC OC
      go_wp2_with (first
        | ((refine ld_digG rfl (.tmp 2) rfl (H) 0 (by rfl) l HL.out (range_of_row GL.out) ?_); simp only [Act.put, List.setIfInBounds_toArray, List.set_cons_zero, List.set_cons_succ])
        | ((refine ld_digG rfl (.tmp 3) rfl (H + 1) 0 (by rfl) r HR.out (range_of_row GR.out) ?_); simp only [Act.put, List.setIfInBounds_toArray, List.set_cons_zero, List.set_cons_succ])
        | ((refine wpl_build2 24 23 _ 32 32 Tryd.underlying24 info_dig (by omega) (by omega) rfl (.tmp 14) (.tmp 15) rfl (dV l) (dV r) (by rfl) (by rfl) (dV_size HL.out) (dV_size HR.out) ?_); rw [dV_app]; simp only [Act.put, List.setIfInBounds_toArray, List.set_cons_zero, List.set_cons_succ]))
      refine HO3.out.mono ?_
      rintro e w4 ⟨rfl, hb4⟩
      have G4 := Lib.hid ((hb4.block _ (by omega)).trans G3.out)
      have B4 := Lib.hid (B3.out.trans (hb4.mono (by omega)))
      clear hb4
      go_wp2_with (refine st_row rfl (.tmp 4) (.tmp 17) rfl (H + 1 + 1) (nodeD l r) ED.out (by rfl) (by rfl) (dV Z) (dV_size ZL.out) _ G4.out ?_)
      try simp only [Exit.inBlock, Exit.then]
      refine bodyPost_ret (v := .agg (dV (nodeD l r))) (results_cellW rfl _ _ _ ⟨H + 1 + 1, 0, none⟩ _ rfl ?_) rfl ?_
      · exact dig_load ED.out (range_of_row (setRow_heap _ _ _ _ _ _ G4.out))
      · exact ⟨rfl, by rw [← HH.out]; exact below_setRowW B4.out (by omega) _⟩
    · have e1 : (l == Z) = false := by rw [HZ.out, beq_eq_false_iff_ne]; exact h1
      have E1 := Lib.hid e1
      clear e1 h12 h1
      go_enter Tryd.func26, Tryd.ntmps26
      go_upto_region 1 with fail
      rw [ZT.out, ← HH.out, ← HW0.out, ← HW1.out, ← HW2.out]
      refine wp_region_inB w2.heap.size (by kernel_rfl) (by kernel_rfl) ?_
      refine quiet_dig rfl (.tmp 2) rfl H 0 (by rfl) l HL.out (fun w' hw' => hw'.range (by omega) (range_of_row G0.out)) ?_
      simp only [Act.put, List.setIfInBounds_toArray, List.set_cons_zero, List.set_cons_succ]
      go_big_quiet_step ((intro hw'; exact HNC.out _ hw'))
      refine quiet_dig_eq rfl (.tmp 5) (.tmp 6) _ rfl l Z (by rfl) (by rfl) HL.out ZL.out ?_
      rw [E1.out]
      simp only [Act.put, List.setIfInBounds_toArray, List.set_cons_zero, List.set_cons_succ]
      go_big_quiet_step ((intro _; rfl))
      repeat go_big_quiet_step ((intro _; rfl))
      refine wpQuiet_nil ?_
      intro w3 hw3
      have G3 := Lib.hid ((Below.block hw3 _ hsz).trans G2.out)
      have B3 := Lib.hid (BL.out.trans (Below.mono hw3 (by omega)))
      have GL := Lib.hid ((Below.block hw3 _ (by omega)).trans G0.out)
      have GR := Lib.hid ((Below.block hw3 _ (by omega)).trans G1.out)
      have hs3 := Below.size hw3
      have OC := HOC.out w3
      have HO3 := Lib.hid OC
      clear hw3 HNC HOC OC
      go_wp2_with (first
        | ((refine ld_digG rfl (.tmp 2) rfl (H) 0 (by rfl) l HL.out (range_of_row GL.out) ?_); simp only [Act.put, List.setIfInBounds_toArray, List.set_cons_zero, List.set_cons_succ])
        | ((refine ld_digG rfl (.tmp 3) rfl (H + 1) 0 (by rfl) r HR.out (range_of_row GR.out) ?_); simp only [Act.put, List.setIfInBounds_toArray, List.set_cons_zero, List.set_cons_succ])
        | ((refine wpl_build2 24 23 _ 32 32 Tryd.underlying24 info_dig (by omega) (by omega) rfl (.tmp 14) (.tmp 15) rfl (dV l) (dV r) (by rfl) (by rfl) (dV_size HL.out) (dV_size HR.out) ?_); rw [dV_app]; simp only [Act.put, List.setIfInBounds_toArray, List.set_cons_zero, List.set_cons_succ]))
      refine HO3.out.mono ?_
      rintro e w4 ⟨rfl, hb4⟩
      have G4 := Lib.hid ((hb4.block _ (by omega)).trans G3.out)
      have B4 := Lib.hid (B3.out.trans (hb4.mono (by omega)))
      clear hb4
      go_wp2_with (refine st_row rfl (.tmp 4) (.tmp 17) rfl (H + 1 + 1) (nodeD l r) ED.out (by rfl) (by rfl) (dV Z) (dV_size ZL.out) _ G4.out ?_)
      try simp only [Exit.inBlock, Exit.then]
      refine bodyPost_ret (v := .agg (dV (nodeD l r))) (results_cellW rfl _ _ _ ⟨H + 1 + 1, 0, none⟩ _ rfl ?_) rfl ?_
      · exact dig_load ED.out (range_of_row (setRow_heap _ _ _ _ _ _ G4.out))
      · exact ⟨rfl, by rw [← HH.out]; exact below_setRowW B4.out (by omega) _⟩
end Go.Proofs.YtpeomfehdccmmaaDoor
