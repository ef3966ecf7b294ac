/- Walks: wots.secrets, the closures of wots, and wots.ends at them. -/
import Derived.Test.YtkioddmhjbaleaaGreatDoorDigits
namespace Go.Proofs.YtkioddmhjbaleaaGreatDoor
open Go.RowKit
set_option linter.unusedVariables false
set_option linter.unusedSimpArgs false

def SecretsPost (w : World) (seed : List UInt8) (e : Ending) (w' : World) : Prop :=
  ∃ S, e = .returned (.func (.func 87) #[] #[.pointer (some ⟨S, 0, none⟩)]) ∧ w.heap.size ≤ S ∧ w'.heap[S]? = some (.cells (dV seed) 23 (0, 0)) ∧ Below w.heap.size w w'
theorem Secrets_calls (seed : List UInt8) (w : World) : Calls Tryz.prog 68 #[.agg (dV seed)] w (SecretsPost w seed) := by
  have hmf : ∀ (fn : Fn) (first cap : Array Value) (w : World), (Instr.makeFunc fn first cap).run Tryz.prog w = .ok (.func fn first cap) w := fun _ _ _ _ => rfl
  have hg := heap_alloc_new w (.cells (dV seed) 23)
  have HG := Lib.hid hg
  clear hg
  go_enter Tryz.func68, Tryz.ntmps68
  go_wp2_with fail
  go_ret
  exact ⟨w.heap.size, rfl, Nat.le_refl _, HG.out, (Below.refl _ _).alloc (Nat.le_refl _) _⟩
theorem Fifteen_calls (k : Nat) (w : World) : Calls Tryz.prog 69 #[.int .i64 (k : Int)] w fun e w' => e = .returned (.int .i64 ((15 : Nat) : Int)) ∧ Below w.heap.size w w' := by
  go_enter Tryz.func69, Tryz.ntmps69
  go_wp2_with fail
  go_ret
  exact ⟨rfl, Below.refl _ _⟩
theorem SignC_calls (l : List Nat) (hl : l.length = 67) (k : Nat) (hk : k < 67) (O : Nat) (w : World) (hg : w.heap[O]? = some (.cells (iV l) 113 (0, 0))) : Calls Tryz.prog 73 #[.int .i64 (k : Int), .pointer (some ⟨O, 0, none⟩)] w fun e w' => e = .returned (.int .i64 ((l.getD k 0 : Nat) : Int)) ∧ Below w.heap.size w w' := by
  have c0 := cellI hg k (by omega)
  have e0 : l.getD k 0 = l[k]'(by omega) := by rw [List.getD_eq_getElem?_getD, List.getElem?_eq_getElem (by omega)]; rfl
  rw [e0]
  obtain ⟨y, hy⟩ : ∃ y, y = l[k]'(by omega) := ⟨_, rfl⟩
  rw [← hy] at c0 ⊢
  have k0 : (0 : Int) ≤ (k : Int) := by omega
  have k1 : (k : Int) < 67 := by omega
  clear hy e0 hg
  go_enter Tryz.func73, Tryz.ntmps73
  go_wp2_with fail
  go_ret
  exact ⟨rfl, Below.refl _ _⟩
theorem LackC_calls (l : List Nat) (hl : l.length = 67) (h15 : ∀ n ∈ l, n ≤ 15) (k : Nat) (hk : k < 67) (O : Nat) (w : World) (hg : w.heap[O]? = some (.cells (iV l) 113 (0, 0))) : Calls Tryz.prog 75 #[.int .i64 (k : Int), .pointer (some ⟨O, 0, none⟩)] w fun e w' => e = .returned (.int .i64 ((15 - l.getD k 0 : Nat) : Int)) ∧ Below w.heap.size w w' := by
  have c0 := cellI hg k (by omega)
  have e0 : l.getD k 0 = l[k]'(by omega) := by rw [List.getD_eq_getElem?_getD, List.getElem?_eq_getElem (by omega)]; rfl
  have h1 := h15 (l[k]'(by omega)) (List.getElem_mem _)
  rw [e0]
  obtain ⟨y, hy⟩ : ∃ y, y = l[k]'(by omega) := ⟨_, rfl⟩
  rw [← hy] at c0 h1 ⊢
  have k0 : (0 : Int) ≤ (k : Int) := by omega
  have k1 : (k : Int) < 67 := by omega
  obtain ⟨z, hz⟩ : ∃ z, z = 15 - y := ⟨_, rfl⟩
  rw [← hz]
  have s1 : (15 : Int) - (y : Int) = (z : Int) := by omega
  clear hy e0 hg hz
  go_enter Tryz.func75, Tryz.ntmps75
  go_wp2_with fail
  go_ret
  exact ⟨rfl, Below.refl _ _⟩
set_option maxRecDepth 20000 in
set_option maxHeartbeats 1000000 in
theorem SigC_calls (sig : List (List UInt8)) (hd : ∀ d ∈ sig, d.length = 32) (k : Nat) (hk : k < sig.length) (a : Option Addr) (cap e : Nat) (P : Nat) (w : World) (hr : Rd w a e (sig.flatten.map vB)) (hP : P < w.heap.size) (hc : w.cell? ⟨P, 0, none⟩ = some (.slice a sig.length cap)) :
    Calls Tryz.prog 74 #[.int .i64 (k : Int), .pointer (some ⟨P, 0, none⟩)] w fun e w' => e = .returned (.agg (dV (sig.getD k []))) ∧ Below w.heap.size w w' := by
  have hz : nz.length = 32 := rfl
  have ZL := Lib.hid hz
  clear hz
  have HSD := Lib.hid hd
  obtain ⟨Bs, os, hsa, hsb, hrg⟩ := hr.range hd hk
  have XL0 := hd _ (List.getElem_mem hk)
  have e0 : sig.getD k [] = sig[k] := by rw [List.getD_eq_getElem?_getD, List.getElem?_eq_getElem hk]; rfl
  rw [e0]
  obtain ⟨X, hX⟩ : ∃ X, X = sig[k] := ⟨_, rfl⟩
  rw [← hX] at hrg XL0 ⊢
  have XL := Lib.hid XL0
  have k0 : (0 : Int) ≤ (k : Int) := by omega
  have k1 : (k : Int) < (sig.length : Int) := by omega
  subst hsa
  clear hX e0 XL0 hd
  obtain ⟨R, hR⟩ : ∃ z, z = w.heap.size := ⟨_, rfl⟩
  obtain ⟨w1, hw1⟩ : ∃ z, z = w.alloc (.cells (dV nz) 23) := ⟨_, rfl⟩
  have st1 : Below w.heap.size w w1 := by rw [hw1]; exact (Below.refl _ _).alloc (Nat.le_refl _) _
  have B1 := Lib.hid (show Below w.heap.size w w1 from Below.trans (Below.refl w.heap.size w) (Below.mono st1 (Below.size (Below.refl w.heap.size w))))
  have GR_1 := Lib.hid (show w1.heap[R]? = some (.cells (dV nz) 23 (0, 0)) by rw [hw1, hR]; exact heap_alloc_new _ _)
  have LR_1 := Lib.hid (lt_of_heap GR_1.out)
  have HR := Lib.hid hR
  have Hw1 := Lib.hid hw1
  clear hR hw1 st1
  have SZR := Lib.hid (show R = w.heap.size from HR.out)
  have HRG := Lib.hid (show w1.rangeAt Bs (os + k * 32) (X.map vB) from fun j v hj => (Below.cell B1.out (p := ⟨Bs, os + k * 32 + j, none⟩) hsb).trans (hrg j v hj))
  have c0 : w1.cell? ⟨P, 0, none⟩ = some (.slice (some ⟨Bs, os, none⟩) sig.length cap) := (Below.cell B1.out (p := ⟨P, 0, none⟩) hP).trans hc
  clear hrg hr hc
  go_enter Tryz.func74, Tryz.ntmps74
  go_upto_region 1 with fail
  rw [zdig]
  rw [← SZR.out, ← Hw1.out]
  obtain ⟨w2, hw2⟩ : ∃ z, z = w1.setRow R (dV X) := ⟨_, rfl⟩
  have B2 := Lib.hid (show Below w.heap.size w w2 by rw [hw2]; exact below_setRowW B1.out (by rw [HR.out]; exact Nat.le_refl _) _)
  have sz2 : w2.heap.size = w1.heap.size := by rw [hw2]; exact setRow_size _ _ _
  have GR_2 := Lib.hid (show w2.heap[R]? = some (.cells (dV X) 23 (0, 0)) by rw [hw2]; exact setRow_heap _ _ _ _ _ _ GR_1.out)
  have LR_2 := Lib.hid (show R < w2.heap.size by rw [sz2]; exact LR_1.out)
  have Hw2 := Lib.hid hw2
  clear hw2 sz2
  go_wp2_with (first
    | (refine at_ld 23 (.tmp 6) rfl ?_; (refine ld_digG rfl (.tmp 6) rfl Bs (os + k * 32) (by rfl) X XL.out HRG.out ?_); simp only [Act.put, List.setIfInBounds_toArray, List.set_cons_zero, List.set_cons_succ])
    | (refine at_st 23 (.tmp 3) (.tmp 7) rfl ?_; (refine st_row rfl (.tmp 3) (.tmp 7) rfl R X XL.out (by rfl) (by rfl) (dV nz) (dV_size ZL.out) _ GR_1.out ?_); rw [← Hw2.out]))
  try simp only [Exit.inBlock, Exit.then]
  refine bodyPost_ret (v := .agg (dV X)) (results_cellW rfl _ _ _ ⟨R, 0, none⟩ _ rfl ?_) rfl ?_
  · exact dig_load XL.out (range_of_row GR_2.out)
  · exact ⟨rfl, B2.out⟩
/-- so many ends, owned -/
structure EndsI (w : World) (D : Nat → List UInt8) (N : Nat → Nat) (k : Nat) (v : Value) (wr : World) : Prop where
  own : wr.ownsRow w.heap.size 23 32 v k (((List.range k).map fun i => walkD (D i) (N i)).flatten.map vB)
  bel : Below w.heap.size w wr
def EndsPost (w : World) (D : Nat → List UInt8) (N : Nat → Nat) (e : Ending) (w' : World) : Prop :=
  ∃ a cap, e = .returned (.slice a 67 cap) ∧ w'.ownsRow w.heap.size 23 32 (.slice a 67 cap) 67 (((List.range 67).map fun i => walkD (D i) (N i)).flatten.map vB) ∧ Below w.heap.size w w'
set_option maxRecDepth 20000 in
set_option maxHeartbeats 2000000 in
theorem EndsP_calls (D : Nat → List UInt8) (hD : ∀ k, k < 67 → (D k).length = 32) (N : Nat → Nat) (hN : ∀ k, k < 67 → N k ≤ 1000) (cf : Value) (w : World) (hro : RoundsAt w)
    (hF : ∀ k : Nat, k < 67 → ∀ w', Below w.heap.size w w' → Calls Tryz.prog 87 #[.int .i64 (k : Int), cf] w' fun e w'' => e = .returned (.agg (dV (D k))) ∧ Below w'.heap.size w' w'')
    (hG : ∀ k : Nat, k < 67 → ∀ w', Below w.heap.size w w' → Calls Tryz.prog 69 #[.int .i64 (k : Int)] w' fun e w'' => e = .returned (.int .i64 ((N k : Nat) : Int)) ∧ Below w'.heap.size w' w'') :
    Calls Tryz.prog 67 #[.func (.func 87) #[] #[cf], .func (.func 69) #[] #[]] w (EndsPost w D N) := by
  have RO := Lib.hid hro
  have CF := Lib.hid hF
  have CG := Lib.hid hG
  clear hro hF hG
  go_enter Tryz.func67, Tryz.ntmps67
  go_wp2_with fail
  go_loopw [5, 6, 7, 8, 9] (fun v i d er q wr => ∃ k : Nat, k ≤ 67 ∧ q = .int .i64 k ∧ Hid (EndsI w D N k v wr)) (fun _ _ _ _ q _ => 67 - (intOf q).toNat)
  case atStart => exact ⟨0, Nat.zero_le _, rfl, Lib.hid ⟨World.ownsRow_nil _ _ _ _, Below.refl _ _⟩⟩
  case round =>
    obtain ⟨k, hk, rfl, HI⟩ := hrel
    by_cases hlt : k < 67
    · have O_0 := Lib.hid HI.out.own
      have HBL := Lib.hid HI.out.bel
      have ROr := Lib.hid (RO.out.at_ HI.out.bel)
      have DK := Lib.hid (hD k hlt)
      obtain ⟨X, hX⟩ : ∃ X, X = D k := ⟨_, rfl⟩
      obtain ⟨M, hM⟩ : ∃ M, M = N k := ⟨_, rfl⟩
      have hM1 : M ≤ 1000 := by rw [hM]; exact hN k hlt
      have C1 := CF.out k hlt
      have C2 := CG.out k hlt
      rw [← hX] at C1 DK
      rw [← hM] at C2
      have HC1 := Lib.hid C1
      have HC2 := Lib.hid C2
      have HX := Lib.hid hX
      have HM := Lib.hid hM
      clear C1 C2 hX hM HI
      go_wp2_with fail
      refine (HC1.out wr HBL.out).mono ?_
      rintro e w1 ⟨rfl, hb1⟩
      have B1 := Lib.hid (show Below wr.heap.size wr w1 from Below.trans (Below.refl wr.heap.size wr) (Below.mono hb1 (Below.size (Below.refl wr.heap.size wr))))
      have O_1 := Lib.hid (own_below O_0.out hb1)
      clear hb1
      go_wp2_with fail
      refine (HC2.out w1 (HBL.out.trans (Below.mono B1.out HBL.out.size))).mono ?_
      rintro e w2 ⟨rfl, hb2⟩
      have B2 := Lib.hid (show Below wr.heap.size wr w2 from Below.trans B1.out (Below.mono hb2 (Below.size B1.out)))
      have O_2 := Lib.hid (own_below O_1.out hb2)
      clear hb2
      go_wp2_with fail
      refine (Walk_calls X DK.out M hM1 w2 (ROr.out.at_ B2.out)).mono ?_
      rintro e w3 ⟨rfl, hb3⟩
      have B3 := Lib.hid (show Below wr.heap.size wr w3 from Below.trans B2.out (Below.mono hb3 (Below.size B2.out)))
      have O_3 := Lib.hid (own_below O_2.out hb3)
      clear hb3
      obtain ⟨R, hR⟩ : ∃ R, R = walkD X M := ⟨_, rfl⟩
      have RL := Lib.hid (show R.length = 32 by rw [hR]; exact walkD_length DK.out M)
      have HR := Lib.hid (show walkD (D k) (N k) = R by rw [← HX.out, ← HM.out, hR])
      rw [← hR]
      clear hR
      obtain ⟨Y, hY⟩ : ∃ z, z = w3.heap.size := ⟨_, rfl⟩
      obtain ⟨w4, hw4⟩ : ∃ z, z = w3.alloc (.cells (dV R) 23) := ⟨_, rfl⟩
      have st4 : Below w3.heap.size w3 w4 := by rw [hw4]; exact (Below.refl _ _).alloc (Nat.le_refl _) _
      have B4 := Lib.hid (show Below wr.heap.size wr w4 from Below.trans B3.out (Below.mono st4 (Below.size B3.out)))
      have O_4 := Lib.hid (own_below O_3.out st4)
      have GY_4 := Lib.hid (show w4.heap[Y]? = some (.cells (dV R) 23 (0, 0)) by rw [hw4, hY]; exact heap_alloc_new _ _)
      have LY_4 := Lib.hid (lt_of_heap GY_4.out)
      have HY := Lib.hid hY
      have Hw4 := Lib.hid hw4
      clear hY hw4 st4
      obtain ⟨T, hT⟩ : ∃ z, z = w4.heap.size := ⟨_, rfl⟩
      obtain ⟨w5, hw5⟩ : ∃ z, z = w4.alloc (.cells (dV R) 23) := ⟨_, rfl⟩
      have st5 : Below w4.heap.size w4 w5 := by rw [hw5]; exact (Below.refl _ _).alloc (Nat.le_refl _) _
      have B5 := Lib.hid (show Below wr.heap.size wr w5 from Below.trans B4.out (Below.mono st5 (Below.size B4.out)))
      have GY_5 := Lib.hid ((Below.block st5 Y LY_4.out).trans GY_4.out)
      have LY_5 := Lib.hid (Nat.lt_of_lt_of_le LY_4.out (Below.size st5))
      have O_5 := Lib.hid (own_below O_4.out st5)
      have GT_5 := Lib.hid (show w5.heap[T]? = some (.cells (dV R) 23 (0, 0)) by rw [hw5, hT]; exact heap_alloc_new _ _)
      have LT_5 := Lib.hid (lt_of_heap GT_5.out)
      have HT := Lib.hid hT
      have Hw5 := Lib.hid hw5
      clear hT hw5 st5
      have hfl : (((List.range (k + 1)).map fun i => walkD (D i) (N i)).flatten.map vB) = ((List.range k).map fun i => walkD (D i) (N i)).flatten.map vB ++ R.map vB := by rw [List.range_succ, List.map_append, List.map_singleton, HR.out]; exact flat_snoc _ _
      have HFL := Lib.hid hfl
      clear hfl
      have hsn : w.heap.size ≤ w5.heap.size := Nat.le_trans HBL.out.size B5.out.size
      go_wp2_with (first
        | (refine at_st 23 (.tmp 7) (.tmp 20) rfl ?_; (refine st_new rfl (.tmp 7) (.tmp 20) rfl R RL.out (by rfl) _ _ (by rfl) (by rfl) ?_); rw [← HY.out, ← Hw4.out])
        | (refine at_ld 23 (.tmp 7) rfl ?_; (refine ld_digG rfl (.tmp 7) rfl (Y) 0 (by rfl) R RL.out (range_of_row GY_4.out) ?_); simp only [Act.put, List.setIfInBounds_toArray, List.set_cons_zero, List.set_cons_succ])
        | ((refine wpl_build1t 24 23 _ 32 32 Tryz.underlying24 info_digz2 (by omega) (by omega) rfl (.tmp 23) rfl (dV R) (by rfl) (dV_size RL.out) ?_); rw [← HT.out, ← Hw5.out]; simp only [Act.put, List.setIfInBounds_toArray, List.set_cons_zero, List.set_cons_succ])
        | (at_builtin; refine appAllw 24 23 (.agg (dV nz)) 32 32 Tryz.underlying24 info_digz2 (dV_size rfl) (by omega) rfl (.tmp 22) (.tmp 24) (by rfl) w.heap.size _ k _ (by rfl) O_5.out (some ⟨T, 0, none⟩) 1 1 (R.map vB) (by rfl) _ (rd_of_row GT_5.out) (by rw [List.length_map, RL.out]) (one_bytes R) (by omega) (by omega) hsn ?_; intro av3 cp3 w9 hown9 hb9; rw [← HFL.out] at hown9; have E9 := Lib.hid (show EndsI w D N (k + 1) (.slice av3 (k + 1) cp3) w9 from ⟨hown9, (HBL.out.trans (Below.mono B5.out HBL.out.size)).trans hb9⟩); clear hown9 hb9))
      go_roundw
      case rel => exact ⟨k + 1, by omega, by go_num, E9⟩
      case measure => simp [intOf] <;> omega
    · obtain rfl : k = 67 := by omega
      obtain ⟨av, cp, rfl⟩ := own_slice HI.out.own
      go_wp2_with fail
      go_ret
      exact ⟨av, cp, rfl, HI.out.own, HI.out.bel⟩
set_option maxRecDepth 20000 in
set_option maxHeartbeats 2000000 in
theorem EndsS_calls (D : Nat → List UInt8) (hD : ∀ k, k < 67 → (D k).length = 32) (N : Nat → Nat) (hN : ∀ k, k < 67 → N k ≤ 1000) (cf cg : Value) (w : World) (hro : RoundsAt w)
    (hF : ∀ k : Nat, k < 67 → ∀ w', Below w.heap.size w w' → Calls Tryz.prog 87 #[.int .i64 (k : Int), cf] w' fun e w'' => e = .returned (.agg (dV (D k))) ∧ Below w'.heap.size w' w'')
    (hG : ∀ k : Nat, k < 67 → ∀ w', Below w.heap.size w w' → Calls Tryz.prog 73 #[.int .i64 (k : Int), cg] w' fun e w'' => e = .returned (.int .i64 ((N k : Nat) : Int)) ∧ Below w'.heap.size w' w'') :
    Calls Tryz.prog 67 #[.func (.func 87) #[] #[cf], .func (.func 73) #[] #[cg]] w (EndsPost w D N) := by
  have RO := Lib.hid hro
  have CF := Lib.hid hF
  have CG := Lib.hid hG
  clear hro hF hG
  go_enter Tryz.func67, Tryz.ntmps67
  go_wp2_with fail
  go_loopw [5, 6, 7, 8, 9] (fun v i d er q wr => ∃ k : Nat, k ≤ 67 ∧ q = .int .i64 k ∧ Hid (EndsI w D N k v wr)) (fun _ _ _ _ q _ => 67 - (intOf q).toNat)
  case atStart => exact ⟨0, Nat.zero_le _, rfl, Lib.hid ⟨World.ownsRow_nil _ _ _ _, Below.refl _ _⟩⟩
  case round =>
    obtain ⟨k, hk, rfl, HI⟩ := hrel
    by_cases hlt : k < 67
    · have O_0 := Lib.hid HI.out.own
      have HBL := Lib.hid HI.out.bel
      have ROr := Lib.hid (RO.out.at_ HI.out.bel)
      have DK := Lib.hid (hD k hlt)
      obtain ⟨X, hX⟩ : ∃ X, X = D k := ⟨_, rfl⟩
      obtain ⟨M, hM⟩ : ∃ M, M = N k := ⟨_, rfl⟩
      have hM1 : M ≤ 1000 := by rw [hM]; exact hN k hlt
      have C1 := CF.out k hlt
      have C2 := CG.out k hlt
      rw [← hX] at C1 DK
      rw [← hM] at C2
      have HC1 := Lib.hid C1
      have HC2 := Lib.hid C2
      have HX := Lib.hid hX
      have HM := Lib.hid hM
      clear C1 C2 hX hM HI
      go_wp2_with fail
      refine (HC1.out wr HBL.out).mono ?_
      rintro e w1 ⟨rfl, hb1⟩
      have B1 := Lib.hid (show Below wr.heap.size wr w1 from Below.trans (Below.refl wr.heap.size wr) (Below.mono hb1 (Below.size (Below.refl wr.heap.size wr))))
      have O_1 := Lib.hid (own_below O_0.out hb1)
      clear hb1
      go_wp2_with fail
      refine (HC2.out w1 (HBL.out.trans (Below.mono B1.out HBL.out.size))).mono ?_
      rintro e w2 ⟨rfl, hb2⟩
      have B2 := Lib.hid (show Below wr.heap.size wr w2 from Below.trans B1.out (Below.mono hb2 (Below.size B1.out)))
      have O_2 := Lib.hid (own_below O_1.out hb2)
      clear hb2
      go_wp2_with fail
      refine (Walk_calls X DK.out M hM1 w2 (ROr.out.at_ B2.out)).mono ?_
      rintro e w3 ⟨rfl, hb3⟩
      have B3 := Lib.hid (show Below wr.heap.size wr w3 from Below.trans B2.out (Below.mono hb3 (Below.size B2.out)))
      have O_3 := Lib.hid (own_below O_2.out hb3)
      clear hb3
      obtain ⟨R, hR⟩ : ∃ R, R = walkD X M := ⟨_, rfl⟩
      have RL := Lib.hid (show R.length = 32 by rw [hR]; exact walkD_length DK.out M)
      have HR := Lib.hid (show walkD (D k) (N k) = R by rw [← HX.out, ← HM.out, hR])
      rw [← hR]
      clear hR
      obtain ⟨Y, hY⟩ : ∃ z, z = w3.heap.size := ⟨_, rfl⟩
      obtain ⟨w4, hw4⟩ : ∃ z, z = w3.alloc (.cells (dV R) 23) := ⟨_, rfl⟩
      have st4 : Below w3.heap.size w3 w4 := by rw [hw4]; exact (Below.refl _ _).alloc (Nat.le_refl _) _
      have B4 := Lib.hid (show Below wr.heap.size wr w4 from Below.trans B3.out (Below.mono st4 (Below.size B3.out)))
      have O_4 := Lib.hid (own_below O_3.out st4)
      have GY_4 := Lib.hid (show w4.heap[Y]? = some (.cells (dV R) 23 (0, 0)) by rw [hw4, hY]; exact heap_alloc_new _ _)
      have LY_4 := Lib.hid (lt_of_heap GY_4.out)
      have HY := Lib.hid hY
      have Hw4 := Lib.hid hw4
      clear hY hw4 st4
      obtain ⟨T, hT⟩ : ∃ z, z = w4.heap.size := ⟨_, rfl⟩
      obtain ⟨w5, hw5⟩ : ∃ z, z = w4.alloc (.cells (dV R) 23) := ⟨_, rfl⟩
      have st5 : Below w4.heap.size w4 w5 := by rw [hw5]; exact (Below.refl _ _).alloc (Nat.le_refl _) _
      have B5 := Lib.hid (show Below wr.heap.size wr w5 from Below.trans B4.out (Below.mono st5 (Below.size B4.out)))
      have GY_5 := Lib.hid ((Below.block st5 Y LY_4.out).trans GY_4.out)
      have LY_5 := Lib.hid (Nat.lt_of_lt_of_le LY_4.out (Below.size st5))
      have O_5 := Lib.hid (own_below O_4.out st5)
      have GT_5 := Lib.hid (show w5.heap[T]? = some (.cells (dV R) 23 (0, 0)) by rw [hw5, hT]; exact heap_alloc_new _ _)
      have LT_5 := Lib.hid (lt_of_heap GT_5.out)
      have HT := Lib.hid hT
      have Hw5 := Lib.hid hw5
      clear hT hw5 st5
      have hfl : (((List.range (k + 1)).map fun i => walkD (D i) (N i)).flatten.map vB) = ((List.range k).map fun i => walkD (D i) (N i)).flatten.map vB ++ R.map vB := by rw [List.range_succ, List.map_append, List.map_singleton, HR.out]; exact flat_snoc _ _
      have HFL := Lib.hid hfl
      clear hfl
      have hsn : w.heap.size ≤ w5.heap.size := Nat.le_trans HBL.out.size B5.out.size
      go_wp2_with (first
        | (refine at_st 23 (.tmp 7) (.tmp 20) rfl ?_; (refine st_new rfl (.tmp 7) (.tmp 20) rfl R RL.out (by rfl) _ _ (by rfl) (by rfl) ?_); rw [← HY.out, ← Hw4.out])
        | (refine at_ld 23 (.tmp 7) rfl ?_; (refine ld_digG rfl (.tmp 7) rfl (Y) 0 (by rfl) R RL.out (range_of_row GY_4.out) ?_); simp only [Act.put, List.setIfInBounds_toArray, List.set_cons_zero, List.set_cons_succ])
        | ((refine wpl_build1t 24 23 _ 32 32 Tryz.underlying24 info_digz2 (by omega) (by omega) rfl (.tmp 23) rfl (dV R) (by rfl) (dV_size RL.out) ?_); rw [← HT.out, ← Hw5.out]; simp only [Act.put, List.setIfInBounds_toArray, List.set_cons_zero, List.set_cons_succ])
        | (at_builtin; refine appAllw 24 23 (.agg (dV nz)) 32 32 Tryz.underlying24 info_digz2 (dV_size rfl) (by omega) rfl (.tmp 22) (.tmp 24) (by rfl) w.heap.size _ k _ (by rfl) O_5.out (some ⟨T, 0, none⟩) 1 1 (R.map vB) (by rfl) _ (rd_of_row GT_5.out) (by rw [List.length_map, RL.out]) (one_bytes R) (by omega) (by omega) hsn ?_; intro av3 cp3 w9 hown9 hb9; rw [← HFL.out] at hown9; have E9 := Lib.hid (show EndsI w D N (k + 1) (.slice av3 (k + 1) cp3) w9 from ⟨hown9, (HBL.out.trans (Below.mono B5.out HBL.out.size)).trans hb9⟩); clear hown9 hb9))
      go_roundw
      case rel => exact ⟨k + 1, by omega, by go_num, E9⟩
      case measure => simp [intOf] <;> omega
    · obtain rfl : k = 67 := by omega
      obtain ⟨av, cp, rfl⟩ := own_slice HI.out.own
      go_wp2_with fail
      go_ret
      exact ⟨av, cp, rfl, HI.out.own, HI.out.bel⟩
set_option maxRecDepth 20000 in
set_option maxHeartbeats 2000000 in
theorem EndsR_calls (D : Nat → List UInt8) (hD : ∀ k, k < 67 → (D k).length = 32) (N : Nat → Nat) (hN : ∀ k, k < 67 → N k ≤ 1000) (cf cg : Value) (w : World) (hro : RoundsAt w)
    (hF : ∀ k : Nat, k < 67 → ∀ w', Below w.heap.size w w' → Calls Tryz.prog 74 #[.int .i64 (k : Int), cf] w' fun e w'' => e = .returned (.agg (dV (D k))) ∧ Below w'.heap.size w' w'')
    (hG : ∀ k : Nat, k < 67 → ∀ w', Below w.heap.size w w' → Calls Tryz.prog 75 #[.int .i64 (k : Int), cg] w' fun e w'' => e = .returned (.int .i64 ((N k : Nat) : Int)) ∧ Below w'.heap.size w' w'') :
    Calls Tryz.prog 67 #[.func (.func 74) #[] #[cf], .func (.func 75) #[] #[cg]] w (EndsPost w D N) := by
  have RO := Lib.hid hro
  have CF := Lib.hid hF
  have CG := Lib.hid hG
  clear hro hF hG
  go_enter Tryz.func67, Tryz.ntmps67
  go_wp2_with fail
  go_loopw [5, 6, 7, 8, 9] (fun v i d er q wr => ∃ k : Nat, k ≤ 67 ∧ q = .int .i64 k ∧ Hid (EndsI w D N k v wr)) (fun _ _ _ _ q _ => 67 - (intOf q).toNat)
  case atStart => exact ⟨0, Nat.zero_le _, rfl, Lib.hid ⟨World.ownsRow_nil _ _ _ _, Below.refl _ _⟩⟩
  case round =>
    obtain ⟨k, hk, rfl, HI⟩ := hrel
    by_cases hlt : k < 67
    · have O_0 := Lib.hid HI.out.own
      have HBL := Lib.hid HI.out.bel
      have ROr := Lib.hid (RO.out.at_ HI.out.bel)
      have DK := Lib.hid (hD k hlt)
      obtain ⟨X, hX⟩ : ∃ X, X = D k := ⟨_, rfl⟩
      obtain ⟨M, hM⟩ : ∃ M, M = N k := ⟨_, rfl⟩
      have hM1 : M ≤ 1000 := by rw [hM]; exact hN k hlt
      have C1 := CF.out k hlt
      have C2 := CG.out k hlt
      rw [← hX] at C1 DK
      rw [← hM] at C2
      have HC1 := Lib.hid C1
      have HC2 := Lib.hid C2
      have HX := Lib.hid hX
      have HM := Lib.hid hM
      clear C1 C2 hX hM HI
      go_wp2_with fail
      refine (HC1.out wr HBL.out).mono ?_
      rintro e w1 ⟨rfl, hb1⟩
      have B1 := Lib.hid (show Below wr.heap.size wr w1 from Below.trans (Below.refl wr.heap.size wr) (Below.mono hb1 (Below.size (Below.refl wr.heap.size wr))))
      have O_1 := Lib.hid (own_below O_0.out hb1)
      clear hb1
      go_wp2_with fail
      refine (HC2.out w1 (HBL.out.trans (Below.mono B1.out HBL.out.size))).mono ?_
      rintro e w2 ⟨rfl, hb2⟩
      have B2 := Lib.hid (show Below wr.heap.size wr w2 from Below.trans B1.out (Below.mono hb2 (Below.size B1.out)))
      have O_2 := Lib.hid (own_below O_1.out hb2)
      clear hb2
      go_wp2_with fail
      refine (Walk_calls X DK.out M hM1 w2 (ROr.out.at_ B2.out)).mono ?_
      rintro e w3 ⟨rfl, hb3⟩
      have B3 := Lib.hid (show Below wr.heap.size wr w3 from Below.trans B2.out (Below.mono hb3 (Below.size B2.out)))
      have O_3 := Lib.hid (own_below O_2.out hb3)
      clear hb3
      obtain ⟨R, hR⟩ : ∃ R, R = walkD X M := ⟨_, rfl⟩
      have RL := Lib.hid (show R.length = 32 by rw [hR]; exact walkD_length DK.out M)
      have HR := Lib.hid (show walkD (D k) (N k) = R by rw [← HX.out, ← HM.out, hR])
      rw [← hR]
      clear hR
      obtain ⟨Y, hY⟩ : ∃ z, z = w3.heap.size := ⟨_, rfl⟩
      obtain ⟨w4, hw4⟩ : ∃ z, z = w3.alloc (.cells (dV R) 23) := ⟨_, rfl⟩
      have st4 : Below w3.heap.size w3 w4 := by rw [hw4]; exact (Below.refl _ _).alloc (Nat.le_refl _) _
      have B4 := Lib.hid (show Below wr.heap.size wr w4 from Below.trans B3.out (Below.mono st4 (Below.size B3.out)))
      have O_4 := Lib.hid (own_below O_3.out st4)
      have GY_4 := Lib.hid (show w4.heap[Y]? = some (.cells (dV R) 23 (0, 0)) by rw [hw4, hY]; exact heap_alloc_new _ _)
      have LY_4 := Lib.hid (lt_of_heap GY_4.out)
      have HY := Lib.hid hY
      have Hw4 := Lib.hid hw4
      clear hY hw4 st4
      obtain ⟨T, hT⟩ : ∃ z, z = w4.heap.size := ⟨_, rfl⟩
      obtain ⟨w5, hw5⟩ : ∃ z, z = w4.alloc (.cells (dV R) 23) := ⟨_, rfl⟩
      have st5 : Below w4.heap.size w4 w5 := by rw [hw5]; exact (Below.refl _ _).alloc (Nat.le_refl _) _
      have B5 := Lib.hid (show Below wr.heap.size wr w5 from Below.trans B4.out (Below.mono st5 (Below.size B4.out)))
      have GY_5 := Lib.hid ((Below.block st5 Y LY_4.out).trans GY_4.out)
      have LY_5 := Lib.hid (Nat.lt_of_lt_of_le LY_4.out (Below.size st5))
      have O_5 := Lib.hid (own_below O_4.out st5)
      have GT_5 := Lib.hid (show w5.heap[T]? = some (.cells (dV R) 23 (0, 0)) by rw [hw5, hT]; exact heap_alloc_new _ _)
      have LT_5 := Lib.hid (lt_of_heap GT_5.out)
      have HT := Lib.hid hT
      have Hw5 := Lib.hid hw5
      clear hT hw5 st5
      have hfl : (((List.range (k + 1)).map fun i => walkD (D i) (N i)).flatten.map vB) = ((List.range k).map fun i => walkD (D i) (N i)).flatten.map vB ++ R.map vB := by rw [List.range_succ, List.map_append, List.map_singleton, HR.out]; exact flat_snoc _ _
      have HFL := Lib.hid hfl
      clear hfl
      have hsn : w.heap.size ≤ w5.heap.size := Nat.le_trans HBL.out.size B5.out.size
      go_wp2_with (first
        | (refine at_st 23 (.tmp 7) (.tmp 20) rfl ?_; (refine st_new rfl (.tmp 7) (.tmp 20) rfl R RL.out (by rfl) _ _ (by rfl) (by rfl) ?_); rw [← HY.out, ← Hw4.out])
        | (refine at_ld 23 (.tmp 7) rfl ?_; (refine ld_digG rfl (.tmp 7) rfl (Y) 0 (by rfl) R RL.out (range_of_row GY_4.out) ?_); simp only [Act.put, List.setIfInBounds_toArray, List.set_cons_zero, List.set_cons_succ])
        | ((refine wpl_build1t 24 23 _ 32 32 Tryz.underlying24 info_digz2 (by omega) (by omega) rfl (.tmp 23) rfl (dV R) (by rfl) (dV_size RL.out) ?_); rw [← HT.out, ← Hw5.out]; simp only [Act.put, List.setIfInBounds_toArray, List.set_cons_zero, List.set_cons_succ])
        | (at_builtin; refine appAllw 24 23 (.agg (dV nz)) 32 32 Tryz.underlying24 info_digz2 (dV_size rfl) (by omega) rfl (.tmp 22) (.tmp 24) (by rfl) w.heap.size _ k _ (by rfl) O_5.out (some ⟨T, 0, none⟩) 1 1 (R.map vB) (by rfl) _ (rd_of_row GT_5.out) (by rw [List.length_map, RL.out]) (one_bytes R) (by omega) (by omega) hsn ?_; intro av3 cp3 w9 hown9 hb9; rw [← HFL.out] at hown9; have E9 := Lib.hid (show EndsI w D N (k + 1) (.slice av3 (k + 1) cp3) w9 from ⟨hown9, (HBL.out.trans (Below.mono B5.out HBL.out.size)).trans hb9⟩); clear hown9 hb9))
      go_roundw
      case rel => exact ⟨k + 1, by omega, by go_num, E9⟩
      case measure => simp [intOf] <;> omega
    · obtain rfl : k = 67 := by omega
      obtain ⟨av, cp, rfl⟩ := own_slice HI.out.own
      go_wp2_with fail
      go_ret
      exact ⟨av, cp, rfl, HI.out.own, HI.out.bel⟩
end Go.Proofs.YtkioddmhjbaleaaGreatDoor
