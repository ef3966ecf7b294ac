/- What is drawn together is told as the document says: all digests as one, a number picked, and an order: for any digests and any numbers. -/
import Derived.Test.YtgngbmmmoecohaaDoorRows
import Derived.Test.YtgngbmmmoecohaaDoorROrder
import Derived.Test.YtgngbmmmoecohaaDoorInts
import Derived.Test.YtgngbmmmoecohaaDoorMix
import Derived.Test.YtgngbmmmoecohaaDoorLaidRH
import Derived.WalkKit
import Derived.ProofKit
import Derived.OpenShut
import Derived.ShutString
import Derived.ChangeOld
import Derived.Below
namespace Go.Proofs.YtgngbmmmoecohaaDoor
open Go.ChangeShapes Go.WideShapes Go.ChangeAt Go.RowKit
open Go.ChangeMaps (open_string shut_string)
set_option linter.unusedVariables false
namespace lotTells

-- HOLE: the walk
set_option maxRecDepth 20000 in
set_option maxHeartbeats 8000000 in
theorem walk (x0 : List (List UInt8)) (a0 : Option Addr) (c0 e0 : Nat) (x1 : List UInt8) (a2 : Int) (a3 : Int) (w : World) (l0 : x0.length * 32 ≤ 140737488351232) (n0 : ∀ d ∈ x0, d.length = 32) (r0 : Rd w a0 e0 (x0.flatten.map vB)) (n1 : x1.length = 32) (h2 : -9223372036854775808 ≤ a2 ∧ a2 ≤ 9223372036854775807) (h3 : -9223372036854775808 ≤ a3 ∧ a3 ≤ 9223372036854775807) (hro : RoundsAt w) (hg : ErrVar w) :
    Calls Tryd.prog 9 #[.slice a0 x0.length c0, .agg (dV x1), .int .i64 a2, .int .i64 a3] w fun e w' => e = .returned (.bool true) ∧ Below w.heap.size w w' := by
  obtain ⟨H, hH⟩ : ∃ H, H = w.heap.size := ⟨_, rfl⟩
  obtain ⟨w0, hw0⟩ : ∃ x, x = w.alloc (.cells (dV x1) 23) := ⟨_, rfl⟩
  obtain ⟨w1, hw1⟩ : ∃ x, x = w0.alloc (.cells (dV (List.replicate 32 0)) 23) := ⟨_, rfl⟩
  obtain ⟨X, hX⟩ : ∃ X, X = H + 1 := ⟨_, rfl⟩
  have q0 : w0.heap.size = X := by rw [hw0, hX, hH]; exact World.size_alloc _ _
  have q1 : w1.heap.size = X + 1 := by rw [hw1, World.size_alloc, q0]
  have b0 : Below H w w0 := by rw [hw0, hH]; exact (Below.refl _ _).alloc (Nat.le_refl _) _
  have b01 : Below X w0 w1 := by rw [hw1, ← q0]; exact (Below.refl _ _).alloc (Nat.le_refl _) _
  have g0 : w1.heap[H]? = some (.cells (dV x1) 23 (0, 0)) := by
    have g : w0.heap[H]? = some (.cells (dV x1) 23 (0, 0)) := by rw [hw0, hH]; exact heap_alloc_new _ _
    exact (b01.block _ (by omega)).trans g
  have gX : w1.heap[X]? = some (.cells (dV (List.replicate 32 0)) 23 (0, 0)) := by rw [hw1, ← q0]; exact heap_alloc_new _ _
  have b1 : Below H w w1 := b0.trans (b01.mono (by omega))
  have rr : Rd w1 a0 e0 (x0.flatten.map vB) := r0.below (by rw [← hH]; exact b1)
  have hrX : ∀ a, a0 = some a → x0 ≠ [] → a.block < X := fun a ha hne => by
    subst ha
    have := r0.block_lt (by
      intro h
      cases x0 with
      | nil => exact hne rfl
      | cons d ds =>
        have h5 := n0 d (List.mem_cons_self ..)
        have h6 := congrArg List.length h
        simp [h5] at h6)
    omega
  have RO1 := Lib.hid (hro.at_ (show Below w.heap.size w w1 by rw [← hH]; exact b1))
  have EG1 := Lib.hid (hg.at_ (show Below w.heap.size w w1 by rw [← hH]; exact b1))
  have hgr : 1 < X := by have := hro.lt; omega
  have hge : 0 < X := by have := hg.lt; omega
  have ZD := Lib.hid zdig
  have HW0 := Lib.hid hw0
  have HW1 := Lib.hid hw1
  have HH := Lib.hid hH
  have HX := Lib.hid hX
  have G0 := Lib.hid g0
  have GX := Lib.hid gX
  have B1 := Lib.hid b1
  have RR0 := Lib.hid rr
  have HRX := Lib.hid hrX
  have N0 := Lib.hid n0
  have N1 := Lib.hid n1
  have Q1 := Lib.hid q1
  have hHX : H < X := by omega
  clear q0 q1 b0 b01 b1 g0 gX rr hrX hw0 hw1 hH hX n0 n1 r0 hro hg
  go_enter Tryd.func9, Tryd.ntmps9
  go_wp2_with fail
  rw [ZD.out, ← HH.out, ← HX.out, ← HW0.out, ← HW1.out]
  go_loopw [10] (fun i wr => ∃ m : Nat, m ≤ x0.length ∧ i = .int .i64 m ∧ wr.heap[X]? = some (.cells (dV (mixOf (x0.take m))) 23 (0, 0)) ∧ Below X w1 wr) (fun i _ => x0.length - (intOf i).toNat)
  case atStart => exact ⟨0, Nat.zero_le _, rfl, by rw [List.take_zero, mixOf_nil]; exact GX.out, Below.refl _ _⟩
  case round =>
    obtain ⟨m, hm, rfl, hh, hbl⟩ := hrel
    by_cases hlt : m < x0.length
    · obtain ⟨b, o, hab, hb, hrg⟩ := RR0.out.range N0.out hlt
      have hbX : b < X := by have := HRX.out _ hab (by intro h; rw [h] at hlt; simp at hlt); exact this
      subst hab
      have hlen : x0[m].length = 32 := N0.out _ (List.getElem_mem _)
      have hstep : ∀ q, mixAt (x0.take (m + 1)) q = Gf.add (mixAt (x0.take m) q) (x0[m].getD q 0) := fun q => mixAt_take x0 m q hlt
      have m0 : (0 : Int) ≤ (m : Int) := by omega
      have m1 : (m : Int) < (x0.length : Int) := by omega
      obtain ⟨D, hD⟩ : ∃ D, D = x0[m] := ⟨_, rfl⟩
      rw [← hD] at hrg hstep hlen
      obtain ⟨wB, rfl⟩ : ∃ x, x = wr := ⟨_, rfl⟩
      have HRg := Lib.hid hrg
      have Hstep := Lib.hid hstep
      have Hh := Lib.hid hh
      have Hlen := Lib.hid hlen
      have HBL := Lib.hid hbl
      clear hrg hstep hh hlen hD hbl hb
      go_wp2_with fail
      go_loopw [11] (fun q wr => ∃ i : Nat, i ≤ 32 ∧ q = .int .i64 i ∧ wr.heap[X]? = some (.cells (dV (mixM x0 m i)) 23 (0, 0)) ∧ Below X w1 wr) (fun q _ => 32 - (intOf q).toNat)
      case atStart => exact ⟨0, Nat.zero_le _, rfl, by rw [mixM_zero]; exact Hh.out, HBL.out⟩
      case round =>
        clear Hh HBL
        obtain ⟨i, hi, rfl, hhi, hbi⟩ := hrel
        by_cases hlt2 : i < 32
        · have hml := mixM_length x0 m i
          have c0 : wr.cell? ⟨X, i, none⟩ = some (.int .u8 (mixAt (x0.take m) i).toNat) := by
            rw [cell_of_row _ X i _ _ _ hhi, dV_get (by omega), mixM_get, if_neg (by omega)]
          have f0 : wr.frozen? ⟨X, i, none⟩ = false := frozen_of_row _ X i _ _ hhi
          have c1 : wr.cell? ⟨b, o + m * 32 + i, none⟩ = some (.int .u8 (D[i]'(by rw [Hlen.out]; exact hlt2)).toNat) := by
            rw [hbi.cell (p := ⟨b, o + m * 32 + i, none⟩) hbX]
            refine HRg.out i _ ?_
            rw [List.getElem?_map, List.getElem?_eq_getElem (by rw [Hlen.out]; exact hlt2)]; rfl
          have hset := mixM_set x0 m i hlt2
          have hst := Hstep.out i
          have hDi : D.getD i 0 = D[i]'(by rw [Hlen.out]; exact hlt2) := by rw [List.getD_eq_getElem?_getD, List.getElem?_eq_getElem (by rw [Hlen.out]; exact hlt2)]; rfl
          rw [hst, hDi] at hset
          obtain ⟨y, hy⟩ : ∃ y, y = D[i]'(by rw [Hlen.out]; exact hlt2) := ⟨_, rfl⟩
          obtain ⟨z, hz⟩ : ∃ z, z = mixAt (x0.take m) i := ⟨_, rfl⟩
          rw [← hy] at c1 hset
          rw [← hz] at c0 hset
          have HSet := Lib.hid hset
          have i0 : (0 : Int) ≤ (i : Int) := by omega
          have i1 : (i : Int) < 32 := by omega
          have Hhi := Lib.hid hhi
          have HBI := Lib.hid hbi
          clear hml hset hst hDi hhi hbi hy hz
          go_wp2_with fail
          refine wp_region_still_tail 12 (by kernel_rfl) (by kernel_rfl) ?_
          simp only [List.take_succ_cons, List.take_zero, List.drop_succ_cons, List.drop_zero]
          repeat still_step
          refine wpStill_nil ?_
          change wpList _ _ _ _ _ wr.drew
          clear c1
          go_wp2_with fail
          have h5 := heap_setCell_same wr.drew X i _ _ (.int .u8 (Gf.add z y).toNat) Hhi.out
          rw [dV_set, HSet.out] at h5
          have b5 := HBI.out.drew.setCell (p := ⟨X, i, none⟩) (Nat.le_refl _) (.int .u8 (Gf.add z y).toNat)
          go_roundw
          case rel => exact ⟨i + 1, by omega, by go_num, h5, b5⟩
          case measure => simp [intOf] <;> omega
        · obtain rfl : i = 32 := by omega
          rw [mixM_all] at hhi
          rw [show (((32 : Nat) : Int)) = (32 : Int) from rfl]
          have Hhi := Lib.hid hhi
          have HBI := Lib.hid hbi
          clear hhi hbi
          go_wp2_with fail
          go_roundw
          case rel => exact ⟨m + 1, by omega, by go_num, Hhi.out, HBI.out⟩
          case measure => simp [intOf] <;> omega
    · obtain rfl : m = x0.length := by omega
      rw [List.take_of_length_le (Nat.le_refl _)] at hh
      obtain ⟨wA, rfl⟩ : ∃ x, x = wr := ⟨_, rfl⟩
      have hml := mixOf_length x0
      have rA : Rd wA a0 e0 (x0.flatten.map vB) := by
        by_cases hx0 : x0 = []
        · left; rw [hx0]; rfl
        · exact RR0.out.of_block fun x hx _ => hbl.block _ (HRX.out x hx hx0)
      have hXA : X < wA.heap.size := lt_of_heap hh
      have MC : ∀ w', InB wA.heap.size wA w' → Calls Tryd.prog 33 #[.slice a0 x0.length c0] w' fun e w'' => e = .returned (.agg (dV (mixOf x0))) ∧ InB wA.heap.size wA w'' :=
        fun w' h => InB.call h (Nat.le_refl _) (Mix_calls x0 N0.out a0 c0 e0 w' (rA.below h) (by omega))
      have hDD : (mixOf x0 == mixOf x0) = true := by simp
      obtain ⟨K, hK⟩ : ∃ K, K = mixOf x0 := ⟨_, rfl⟩
      rw [← hK] at hh MC hDD hml
      have HMC := Lib.hid MC
      have HDD := Lib.hid hDD
      have HML := Lib.hid hml
      have Hh := Lib.hid hh
      have HBL := Lib.hid hbl
      have hex := inB_ex wA.heap.size wA
      clear MC hDD hml hh hbl hK rA hlt hm
      go_wp2_with fail
      refine wp_region_inB wA.heap.size (by kernel_rfl) (by kernel_rfl) ?_
      go_big_quiet_step ((intro _; rfl))
      go_big_quiet_step ((intro hw'; exact HMC.out _ hw'))
      refine quiet_dig rfl (.tmp 9) rfl X 0 (by rfl) K HML.out (fun w' hw' => hw'.range hXA (range_of_row Hh.out)) ?_
      simp only [Act.put, List.setIfInBounds_toArray, List.set_cons_zero, List.set_cons_succ]
      refine quiet_dig_neq rfl (.tmp 45) (.tmp 46) _ rfl K K (by rfl) (by rfl) HML.out HML.out ?_
      rw [HDD.out]
      simp only [Act.put, List.setIfInBounds_toArray, List.set_cons_zero, List.set_cons_succ]
      refine wpQuiet_nil ?_
      intro w5 hw5
      have b15 : Below X w1 w5 := HBL.out.trans (Below.mono hw5 (by omega))
      have hHS : H < w5.heap.size := by have h1 := Below.size hw5; omega
      have hHS' : H ≤ w5.heap.size := Nat.le_of_lt hHS
      have BS := Lib.hid (B1.out.trans (b15.mono (by omega)))
      have GS := Lib.hid ((b15.block H hHX).trans G0.out)
      have RO := Lib.hid (RO1.out.below b15 hgr)
      have EG := Lib.hid (EG1.out.below b15 hge)
      have I5 := Lib.hid (Below.refl w5.heap.size w5)
      clear b15 hw5 HMC Hh HBL hex RO1 EG1 B1 G0 GX RR0 HRX
      by_cases hm2 : a2 < 1 ∨ 2147483647 < a2
      · have HM2 := Lib.hid hm2
        by_cases hm4 : a2 < 1
        · have r1 : decide (a2 < 1) = true := decide_eq_true hm4
          clear hm2 hm4
          go_wp2_with (first | (refine ld_row rfl (.tmp 5) rfl H (by rfl) x1 N1.out _ _ ((I5.out.block H hHS).trans GS.out) ?_))
          refine (Pick_calls x1 N1.out a2 w5).mono ?_
          rintro e w6 ⟨hpe, hb6⟩
          have I6 := Lib.hid (I5.out.trans (hb6.mono I5.out.size))
          clear hb6
          rw [if_pos HM2.out] at hpe
          obtain rfl := hpe
          go_wp2_with fail
          refine (Error_err 2 2 true rfl w6 (EG.out.at_ I6.out)).mono ?_
          rintro e w7 ⟨rfl, hb7⟩
          have I7 := Lib.hid (I6.out.trans (hb7.mono I6.out.size))
          clear hb7
          by_cases hm3 : a3 < 0 ∨ 1000 < a3
          · have HM3 := Lib.hid hm3
            by_cases hm4 : a3 < 0
            · have q1 : decide (a3 < 0) = true := decide_eq_true hm4
              clear hm3 hm4
              go_wp2_with (first | (refine ld_row rfl (.tmp 5) rfl H (by rfl) x1 N1.out _ _ ((I7.out.block H hHS).trans GS.out) ?_))
              refine (Order_no x1 a3 HM3.out w7).mono ?_
              rintro e w8 ⟨rfl, hb8⟩
              have I8 := Lib.hid (I7.out.trans (hb8.mono I7.out.size))
              clear hb8
              go_wp2_with fail
              refine (Error_err 2 2 true rfl w8 (EG.out.at_ I8.out)).mono ?_
              rintro e w9 ⟨rfl, hb9⟩
              have I9 := Lib.hid (I8.out.trans (hb9.mono I8.out.size))
              clear hb9
              have IC := Ints_calls [] [] none none 0 0 0 0 w9 Rd.nil Rd.nil (by simp)
              rw [decide_eq_true rfl] at IC
              have HIC := Lib.hid IC
              clear IC
              go_wp2_with fail
              refine HIC.out.mono ?_
              rintro e w10 ⟨rfl, nd, hnd⟩
              have I10 := Lib.hid (show Below w5.heap.size w5 w10 by rw [hnd]; exact below_drewN I9.out _)
              clear hnd HIC
              go_wp2_with (first | (refine ld_row rfl (.tmp 5) rfl H (by rfl) x1 N1.out _ _ ((I10.out.block H hHS).trans GS.out) ?_))
              refine (Order_calls x1 N1.out 2 (by omega) w10 (RO.out.at_ I10.out)).mono ?_
              rintro e w11 ⟨av11, cp11, rfl, hown11, hb11⟩
              have I11 := Lib.hid (I10.out.trans (hb11.mono I10.out.size))
              rw [orderOf_length x1 2]
              clear hown11 hb11
              go_wp2_with fail
              go_ret
              exact ⟨rfl, by rw [← HH.out]; exact BS.out.trans (I11.out.mono hHS')⟩
            · have q1 : decide (a3 < 0) = false := decide_eq_false hm4
              have q2 : decide (1000 < a3) = true := decide_eq_true (by omega)
              clear hm3 hm4
              go_wp2_with (first | (refine ld_row rfl (.tmp 5) rfl H (by rfl) x1 N1.out _ _ ((I7.out.block H hHS).trans GS.out) ?_))
              refine (Order_no x1 a3 HM3.out w7).mono ?_
              rintro e w8 ⟨rfl, hb8⟩
              have I8 := Lib.hid (I7.out.trans (hb8.mono I7.out.size))
              clear hb8
              go_wp2_with fail
              refine (Error_err 2 2 true rfl w8 (EG.out.at_ I8.out)).mono ?_
              rintro e w9 ⟨rfl, hb9⟩
              have I9 := Lib.hid (I8.out.trans (hb9.mono I8.out.size))
              clear hb9
              have IC := Ints_calls [] [] none none 0 0 0 0 w9 Rd.nil Rd.nil (by simp)
              rw [decide_eq_true rfl] at IC
              have HIC := Lib.hid IC
              clear IC
              go_wp2_with fail
              refine HIC.out.mono ?_
              rintro e w10 ⟨rfl, nd, hnd⟩
              have I10 := Lib.hid (show Below w5.heap.size w5 w10 by rw [hnd]; exact below_drewN I9.out _)
              clear hnd HIC
              go_wp2_with (first | (refine ld_row rfl (.tmp 5) rfl H (by rfl) x1 N1.out _ _ ((I10.out.block H hHS).trans GS.out) ?_))
              refine (Order_calls x1 N1.out 2 (by omega) w10 (RO.out.at_ I10.out)).mono ?_
              rintro e w11 ⟨av11, cp11, rfl, hown11, hb11⟩
              have I11 := Lib.hid (I10.out.trans (hb11.mono I10.out.size))
              rw [orderOf_length x1 2]
              clear hown11 hb11
              go_wp2_with fail
              go_ret
              exact ⟨rfl, by rw [← HH.out]; exact BS.out.trans (I11.out.mono hHS')⟩
          · obtain ⟨m, rfl⟩ : ∃ m : Nat, a3 = m := ⟨a3.toNat, by omega⟩
            have q1 : decide ((m : Int) < 0) = false := decide_eq_false (by omega)
            have q2 : decide ((1000 : Int) < (m : Int)) = false := decide_eq_false (by omega)
            have q3 : decide (1000 < m) = false := decide_eq_false (by omega)
            have hm9 : m ≤ 1000 := by omega
            clear hm3
            go_wp2_with (first | (refine ld_row rfl (.tmp 5) rfl H (by rfl) x1 N1.out _ _ ((I7.out.block H hHS).trans GS.out) ?_))
            refine (ROrdered_calls x1 N1.out m (by omega) w7).mono ?_
            rintro e w8 ⟨av8, cp8, rfl, hown8, hb8⟩
            have I8 := Lib.hid (I7.out.trans (hb8.mono I7.out.size))
            have RR := Lib.hid (Rd.of_own hown8)
            clear hown8 hb8
            rw [orderOf_length x1 m]
            go_wp2_with (first | (refine ld_row rfl (.tmp 5) rfl H (by rfl) x1 N1.out _ _ ((I8.out.block H hHS).trans GS.out) ?_))
            refine (Order_calls x1 N1.out m (by omega) w8 (RO.out.at_ I8.out)).mono ?_
            rintro e w9 ⟨av9, cp9, rfl, hown9, hb9⟩
            have I9 := Lib.hid (I8.out.trans (hb9.mono I8.out.size))
            have RQ := Lib.hid (Rd.of_own hown9)
            have RR2 := Lib.hid (RR.out.below hb9)
            clear hown9 hb9 RR
            rw [orderOf_length x1 m]
            go_wp2_with fail
            refine (Error_nil 0 true rfl w9).mono ?_
            rintro e w' ⟨rfl, rfl⟩
            have IC := Ints_calls (orderOf x1 m) (orderOf x1 m) av9 av8 cp9 cp8 _ _ w9 RQ.out RR2.out (by rw [orderOf_length]; omega)
            rw [orderOf_length x1 m, decide_eq_true rfl] at IC
            have HIC := Lib.hid IC
            clear IC
            go_wp2_with fail
            refine HIC.out.mono ?_
            rintro e w10 ⟨rfl, nd, hnd⟩
            have I10 := Lib.hid (show Below w5.heap.size w5 w10 by rw [hnd]; exact below_drewN I9.out _)
            clear hnd HIC
            go_wp2_with (first | (refine ld_row rfl (.tmp 5) rfl H (by rfl) x1 N1.out _ _ ((I10.out.block H hHS).trans GS.out) ?_))
            refine (Order_calls x1 N1.out 2 (by omega) w10 (RO.out.at_ I10.out)).mono ?_
            rintro e w11 ⟨av11, cp11, rfl, hown11, hb11⟩
            have I11 := Lib.hid (I10.out.trans (hb11.mono I10.out.size))
            rw [orderOf_length x1 2]
            clear hown11 hb11
            go_wp2_with fail
            go_ret
            exact ⟨rfl, by rw [← HH.out]; exact BS.out.trans (I11.out.mono hHS')⟩
        · have r1 : decide (a2 < 1) = false := decide_eq_false hm4
          have r2 : decide (2147483647 < a2) = true := decide_eq_true (by omega)
          clear hm2 hm4
          go_wp2_with (first | (refine ld_row rfl (.tmp 5) rfl H (by rfl) x1 N1.out _ _ ((I5.out.block H hHS).trans GS.out) ?_))
          refine (Pick_calls x1 N1.out a2 w5).mono ?_
          rintro e w6 ⟨hpe, hb6⟩
          have I6 := Lib.hid (I5.out.trans (hb6.mono I5.out.size))
          clear hb6
          rw [if_pos HM2.out] at hpe
          obtain rfl := hpe
          go_wp2_with fail
          refine (Error_err 2 2 true rfl w6 (EG.out.at_ I6.out)).mono ?_
          rintro e w7 ⟨rfl, hb7⟩
          have I7 := Lib.hid (I6.out.trans (hb7.mono I6.out.size))
          clear hb7
          by_cases hm3 : a3 < 0 ∨ 1000 < a3
          · have HM3 := Lib.hid hm3
            by_cases hm4 : a3 < 0
            · have q1 : decide (a3 < 0) = true := decide_eq_true hm4
              clear hm3 hm4
              go_wp2_with (first | (refine ld_row rfl (.tmp 5) rfl H (by rfl) x1 N1.out _ _ ((I7.out.block H hHS).trans GS.out) ?_))
              refine (Order_no x1 a3 HM3.out w7).mono ?_
              rintro e w8 ⟨rfl, hb8⟩
              have I8 := Lib.hid (I7.out.trans (hb8.mono I7.out.size))
              clear hb8
              go_wp2_with fail
              refine (Error_err 2 2 true rfl w8 (EG.out.at_ I8.out)).mono ?_
              rintro e w9 ⟨rfl, hb9⟩
              have I9 := Lib.hid (I8.out.trans (hb9.mono I8.out.size))
              clear hb9
              have IC := Ints_calls [] [] none none 0 0 0 0 w9 Rd.nil Rd.nil (by simp)
              rw [decide_eq_true rfl] at IC
              have HIC := Lib.hid IC
              clear IC
              go_wp2_with fail
              refine HIC.out.mono ?_
              rintro e w10 ⟨rfl, nd, hnd⟩
              have I10 := Lib.hid (show Below w5.heap.size w5 w10 by rw [hnd]; exact below_drewN I9.out _)
              clear hnd HIC
              go_wp2_with (first | (refine ld_row rfl (.tmp 5) rfl H (by rfl) x1 N1.out _ _ ((I10.out.block H hHS).trans GS.out) ?_))
              refine (Order_calls x1 N1.out 2 (by omega) w10 (RO.out.at_ I10.out)).mono ?_
              rintro e w11 ⟨av11, cp11, rfl, hown11, hb11⟩
              have I11 := Lib.hid (I10.out.trans (hb11.mono I10.out.size))
              rw [orderOf_length x1 2]
              clear hown11 hb11
              go_wp2_with fail
              go_ret
              exact ⟨rfl, by rw [← HH.out]; exact BS.out.trans (I11.out.mono hHS')⟩
            · have q1 : decide (a3 < 0) = false := decide_eq_false hm4
              have q2 : decide (1000 < a3) = true := decide_eq_true (by omega)
              clear hm3 hm4
              go_wp2_with (first | (refine ld_row rfl (.tmp 5) rfl H (by rfl) x1 N1.out _ _ ((I7.out.block H hHS).trans GS.out) ?_))
              refine (Order_no x1 a3 HM3.out w7).mono ?_
              rintro e w8 ⟨rfl, hb8⟩
              have I8 := Lib.hid (I7.out.trans (hb8.mono I7.out.size))
              clear hb8
              go_wp2_with fail
              refine (Error_err 2 2 true rfl w8 (EG.out.at_ I8.out)).mono ?_
              rintro e w9 ⟨rfl, hb9⟩
              have I9 := Lib.hid (I8.out.trans (hb9.mono I8.out.size))
              clear hb9
              have IC := Ints_calls [] [] none none 0 0 0 0 w9 Rd.nil Rd.nil (by simp)
              rw [decide_eq_true rfl] at IC
              have HIC := Lib.hid IC
              clear IC
              go_wp2_with fail
              refine HIC.out.mono ?_
              rintro e w10 ⟨rfl, nd, hnd⟩
              have I10 := Lib.hid (show Below w5.heap.size w5 w10 by rw [hnd]; exact below_drewN I9.out _)
              clear hnd HIC
              go_wp2_with (first | (refine ld_row rfl (.tmp 5) rfl H (by rfl) x1 N1.out _ _ ((I10.out.block H hHS).trans GS.out) ?_))
              refine (Order_calls x1 N1.out 2 (by omega) w10 (RO.out.at_ I10.out)).mono ?_
              rintro e w11 ⟨av11, cp11, rfl, hown11, hb11⟩
              have I11 := Lib.hid (I10.out.trans (hb11.mono I10.out.size))
              rw [orderOf_length x1 2]
              clear hown11 hb11
              go_wp2_with fail
              go_ret
              exact ⟨rfl, by rw [← HH.out]; exact BS.out.trans (I11.out.mono hHS')⟩
          · obtain ⟨m, rfl⟩ : ∃ m : Nat, a3 = m := ⟨a3.toNat, by omega⟩
            have q1 : decide ((m : Int) < 0) = false := decide_eq_false (by omega)
            have q2 : decide ((1000 : Int) < (m : Int)) = false := decide_eq_false (by omega)
            have q3 : decide (1000 < m) = false := decide_eq_false (by omega)
            have hm9 : m ≤ 1000 := by omega
            clear hm3
            go_wp2_with (first | (refine ld_row rfl (.tmp 5) rfl H (by rfl) x1 N1.out _ _ ((I7.out.block H hHS).trans GS.out) ?_))
            refine (ROrdered_calls x1 N1.out m (by omega) w7).mono ?_
            rintro e w8 ⟨av8, cp8, rfl, hown8, hb8⟩
            have I8 := Lib.hid (I7.out.trans (hb8.mono I7.out.size))
            have RR := Lib.hid (Rd.of_own hown8)
            clear hown8 hb8
            rw [orderOf_length x1 m]
            go_wp2_with (first | (refine ld_row rfl (.tmp 5) rfl H (by rfl) x1 N1.out _ _ ((I8.out.block H hHS).trans GS.out) ?_))
            refine (Order_calls x1 N1.out m (by omega) w8 (RO.out.at_ I8.out)).mono ?_
            rintro e w9 ⟨av9, cp9, rfl, hown9, hb9⟩
            have I9 := Lib.hid (I8.out.trans (hb9.mono I8.out.size))
            have RQ := Lib.hid (Rd.of_own hown9)
            have RR2 := Lib.hid (RR.out.below hb9)
            clear hown9 hb9 RR
            rw [orderOf_length x1 m]
            go_wp2_with fail
            refine (Error_nil 0 true rfl w9).mono ?_
            rintro e w' ⟨rfl, rfl⟩
            have IC := Ints_calls (orderOf x1 m) (orderOf x1 m) av9 av8 cp9 cp8 _ _ w9 RQ.out RR2.out (by rw [orderOf_length]; omega)
            rw [orderOf_length x1 m, decide_eq_true rfl] at IC
            have HIC := Lib.hid IC
            clear IC
            go_wp2_with fail
            refine HIC.out.mono ?_
            rintro e w10 ⟨rfl, nd, hnd⟩
            have I10 := Lib.hid (show Below w5.heap.size w5 w10 by rw [hnd]; exact below_drewN I9.out _)
            clear hnd HIC
            go_wp2_with (first | (refine ld_row rfl (.tmp 5) rfl H (by rfl) x1 N1.out _ _ ((I10.out.block H hHS).trans GS.out) ?_))
            refine (Order_calls x1 N1.out 2 (by omega) w10 (RO.out.at_ I10.out)).mono ?_
            rintro e w11 ⟨av11, cp11, rfl, hown11, hb11⟩
            have I11 := Lib.hid (I10.out.trans (hb11.mono I10.out.size))
            rw [orderOf_length x1 2]
            clear hown11 hb11
            go_wp2_with fail
            go_ret
            exact ⟨rfl, by rw [← HH.out]; exact BS.out.trans (I11.out.mono hHS')⟩
      · have HM2 := Lib.hid hm2
        obtain ⟨n, rfl⟩ : ∃ n : Nat, a2 = n := ⟨a2.toNat, by omega⟩
        have r1 : decide ((n : Int) < 1) = false := decide_eq_false (by omega)
        have r2 : decide ((2147483647 : Int) < (n : Int)) = false := decide_eq_false (by omega)
        have r3 : decide (2147483647 < n) = false := decide_eq_false (by omega)
        have hn9 : n ≤ 2147483647 := by omega
        clear hm2
        go_wp2_with (first | (refine ld_row rfl (.tmp 5) rfl H (by rfl) x1 N1.out _ _ ((I5.out.block H hHS).trans GS.out) ?_))
        refine (RPicked_calls x1 N1.out n (by omega) w5).mono ?_
        rintro e w6 ⟨rfl, hb6⟩
        have I6 := Lib.hid (I5.out.trans (hb6.mono I5.out.size))
        clear hb6
        go_wp2_with (first | (refine ld_row rfl (.tmp 5) rfl H (by rfl) x1 N1.out _ _ ((I6.out.block H hHS).trans GS.out) ?_))
        refine (Pick_calls x1 N1.out (n : Int) w6).mono ?_
        rintro e w7 ⟨hpe, hb7⟩
        have I7 := Lib.hid (I6.out.trans (hb7.mono I6.out.size))
        clear hb7
        rw [if_neg HM2.out, Int.toNat_natCast] at hpe
        obtain rfl := hpe
        have pp : (((pickN x1 n : Nat) : Int) != ((pickN x1 n : Nat) : Int)) = false := by simp
        go_wp2_with fail
        refine (Error_nil 0 true rfl w7).mono ?_
        rintro e w' ⟨rfl, rfl⟩
        by_cases hm3 : a3 < 0 ∨ 1000 < a3
        · have HM3 := Lib.hid hm3
          by_cases hm4 : a3 < 0
          · have q1 : decide (a3 < 0) = true := decide_eq_true hm4
            clear hm3 hm4
            go_wp2_with (first | (refine ld_row rfl (.tmp 5) rfl H (by rfl) x1 N1.out _ _ ((I7.out.block H hHS).trans GS.out) ?_))
            refine (Order_no x1 a3 HM3.out w7).mono ?_
            rintro e w8 ⟨rfl, hb8⟩
            have I8 := Lib.hid (I7.out.trans (hb8.mono I7.out.size))
            clear hb8
            go_wp2_with fail
            refine (Error_err 2 2 true rfl w8 (EG.out.at_ I8.out)).mono ?_
            rintro e w9 ⟨rfl, hb9⟩
            have I9 := Lib.hid (I8.out.trans (hb9.mono I8.out.size))
            clear hb9
            have IC := Ints_calls [] [] none none 0 0 0 0 w9 Rd.nil Rd.nil (by simp)
            rw [decide_eq_true rfl] at IC
            have HIC := Lib.hid IC
            clear IC
            go_wp2_with fail
            refine HIC.out.mono ?_
            rintro e w10 ⟨rfl, nd, hnd⟩
            have I10 := Lib.hid (show Below w5.heap.size w5 w10 by rw [hnd]; exact below_drewN I9.out _)
            clear hnd HIC
            go_wp2_with (first | (refine ld_row rfl (.tmp 5) rfl H (by rfl) x1 N1.out _ _ ((I10.out.block H hHS).trans GS.out) ?_))
            refine (Order_calls x1 N1.out 2 (by omega) w10 (RO.out.at_ I10.out)).mono ?_
            rintro e w11 ⟨av11, cp11, rfl, hown11, hb11⟩
            have I11 := Lib.hid (I10.out.trans (hb11.mono I10.out.size))
            rw [orderOf_length x1 2]
            clear hown11 hb11
            go_wp2_with fail
            go_ret
            exact ⟨rfl, by rw [← HH.out]; exact BS.out.trans (I11.out.mono hHS')⟩
          · have q1 : decide (a3 < 0) = false := decide_eq_false hm4
            have q2 : decide (1000 < a3) = true := decide_eq_true (by omega)
            clear hm3 hm4
            go_wp2_with (first | (refine ld_row rfl (.tmp 5) rfl H (by rfl) x1 N1.out _ _ ((I7.out.block H hHS).trans GS.out) ?_))
            refine (Order_no x1 a3 HM3.out w7).mono ?_
            rintro e w8 ⟨rfl, hb8⟩
            have I8 := Lib.hid (I7.out.trans (hb8.mono I7.out.size))
            clear hb8
            go_wp2_with fail
            refine (Error_err 2 2 true rfl w8 (EG.out.at_ I8.out)).mono ?_
            rintro e w9 ⟨rfl, hb9⟩
            have I9 := Lib.hid (I8.out.trans (hb9.mono I8.out.size))
            clear hb9
            have IC := Ints_calls [] [] none none 0 0 0 0 w9 Rd.nil Rd.nil (by simp)
            rw [decide_eq_true rfl] at IC
            have HIC := Lib.hid IC
            clear IC
            go_wp2_with fail
            refine HIC.out.mono ?_
            rintro e w10 ⟨rfl, nd, hnd⟩
            have I10 := Lib.hid (show Below w5.heap.size w5 w10 by rw [hnd]; exact below_drewN I9.out _)
            clear hnd HIC
            go_wp2_with (first | (refine ld_row rfl (.tmp 5) rfl H (by rfl) x1 N1.out _ _ ((I10.out.block H hHS).trans GS.out) ?_))
            refine (Order_calls x1 N1.out 2 (by omega) w10 (RO.out.at_ I10.out)).mono ?_
            rintro e w11 ⟨av11, cp11, rfl, hown11, hb11⟩
            have I11 := Lib.hid (I10.out.trans (hb11.mono I10.out.size))
            rw [orderOf_length x1 2]
            clear hown11 hb11
            go_wp2_with fail
            go_ret
            exact ⟨rfl, by rw [← HH.out]; exact BS.out.trans (I11.out.mono hHS')⟩
        · obtain ⟨m, rfl⟩ : ∃ m : Nat, a3 = m := ⟨a3.toNat, by omega⟩
          have q1 : decide ((m : Int) < 0) = false := decide_eq_false (by omega)
          have q2 : decide ((1000 : Int) < (m : Int)) = false := decide_eq_false (by omega)
          have q3 : decide (1000 < m) = false := decide_eq_false (by omega)
          have hm9 : m ≤ 1000 := by omega
          clear hm3
          go_wp2_with (first | (refine ld_row rfl (.tmp 5) rfl H (by rfl) x1 N1.out _ _ ((I7.out.block H hHS).trans GS.out) ?_))
          refine (ROrdered_calls x1 N1.out m (by omega) w7).mono ?_
          rintro e w8 ⟨av8, cp8, rfl, hown8, hb8⟩
          have I8 := Lib.hid (I7.out.trans (hb8.mono I7.out.size))
          have RR := Lib.hid (Rd.of_own hown8)
          clear hown8 hb8
          rw [orderOf_length x1 m]
          go_wp2_with (first | (refine ld_row rfl (.tmp 5) rfl H (by rfl) x1 N1.out _ _ ((I8.out.block H hHS).trans GS.out) ?_))
          refine (Order_calls x1 N1.out m (by omega) w8 (RO.out.at_ I8.out)).mono ?_
          rintro e w9 ⟨av9, cp9, rfl, hown9, hb9⟩
          have I9 := Lib.hid (I8.out.trans (hb9.mono I8.out.size))
          have RQ := Lib.hid (Rd.of_own hown9)
          have RR2 := Lib.hid (RR.out.below hb9)
          clear hown9 hb9 RR
          rw [orderOf_length x1 m]
          go_wp2_with fail
          refine (Error_nil 0 true rfl w9).mono ?_
          rintro e w' ⟨rfl, rfl⟩
          have IC := Ints_calls (orderOf x1 m) (orderOf x1 m) av9 av8 cp9 cp8 _ _ w9 RQ.out RR2.out (by rw [orderOf_length]; omega)
          rw [orderOf_length x1 m, decide_eq_true rfl] at IC
          have HIC := Lib.hid IC
          clear IC
          go_wp2_with fail
          refine HIC.out.mono ?_
          rintro e w10 ⟨rfl, nd, hnd⟩
          have I10 := Lib.hid (show Below w5.heap.size w5 w10 by rw [hnd]; exact below_drewN I9.out _)
          clear hnd HIC
          go_wp2_with (first | (refine ld_row rfl (.tmp 5) rfl H (by rfl) x1 N1.out _ _ ((I10.out.block H hHS).trans GS.out) ?_))
          refine (Order_calls x1 N1.out 2 (by omega) w10 (RO.out.at_ I10.out)).mono ?_
          rintro e w11 ⟨av11, cp11, rfl, hown11, hb11⟩
          have I11 := Lib.hid (I10.out.trans (hb11.mono I10.out.size))
          rw [orderOf_length x1 2]
          clear hown11 hb11
          go_wp2_with fail
          go_ret
          exact ⟨rfl, by rw [← HH.out]; exact BS.out.trans (I11.out.mono hHS')⟩

set_option maxRecDepth 100000 in
theorem lifted (os : Os) (started : os.Started) (H : Type) (enc : TypeId × Value → H) :
    ReturnsInHanded {} Tryd.checked os 9 .any (fun w args => (Rows.lotTellsSpec.pre enc Tryd.prog Tryd.f9 Rows.lotTellsRow.domain false w args ∧ laidMetH Tryd.prog Laid.list w) ∧ sizedMet enc Tryd.prog Tryd.f9 (OpenSpec.ofChange Rows.lotTellsSpec) false w args) (Rows.lotTellsSpec.post enc Tryd.prog Tryd.f9 false true false false) := by
  refine returnsInHanded_of_change_and (C := Tryd.checked) (X := fun w _ => laidMetH Tryd.prog Laid.list w) (fun _ _ _ hh h => h.of_heap hh) Laid.own started (by kernel_rfl) Tryd.func9
    (ChangeSpec.witness_at (enc := enc) (C := Tryd.checked) (os := os) (X := fun w _ => laidMetH Tryd.prog Laid.list w) false (laidWorld os) #[.slice none 0 0, .agg #[.int .u8 0, .int .u8 0, .int .u8 0, .int .u8 0, .int .u8 0, .int .u8 0, .int .u8 0, .int .u8 0, .int .u8 0, .int .u8 0, .int .u8 0, .int .u8 0, .int .u8 0, .int .u8 0, .int .u8 0, .int .u8 0, .int .u8 0, .int .u8 0, .int .u8 0, .int .u8 0, .int .u8 0, .int .u8 0, .int .u8 0, .int .u8 0, .int .u8 0, .int .u8 0, .int .u8 0, .int .u8 0, .int .u8 0, .int .u8 0, .int .u8 0, .int .u8 0], .int .i64 0, .int .i64 0] 8 rfl (by kernel_rfl) (by kernel_rfl) (by kernel_rfl) (by kernel_rfl) (by kernel_rfl) (laidWorld_met os _)) ?_
  intro W base args ds gs before hval0 hW _ hsz hL _
  have hro := rounds_of_laid hL
  have hg := handle_of_laid hL
  have hval : ∀ (j : Nat) t v, Tryd.f9.params[j]? = some t → args[j]? = some v → Value.okWide Tryd.prog W .any base t v := hval0
  have hW' := hW
  obtain ⟨p, q, hA0, hV, rfl, hfz, hnd⟩ := hW
  have hA : DataW.TrodAll enc Tryd.prog W 0 (fun _ => true) true Tryd.f9.params.toList args.toList ds p := hA0
  rw [Tryd.params9] at hA hval
  obtain ⟨v0, vs0, d0, ds0, p0, q0, hargs, rfl, rfl, h0, r0⟩ := trodAll_cons hA
  obtain ⟨v1, vs1, d1, ds1, p1, q1, rfl, rfl, rfl, h1, r1⟩ := trodAll_cons r0
  obtain ⟨v2, vs2, d2, ds2, p2, q2, rfl, rfl, rfl, h2, r2⟩ := trodAll_cons r1
  obtain ⟨v3, vs3, d3, ds3, p3, q3, rfl, rfl, rfl, h3, r3⟩ := trodAll_cons r2
  obtain ⟨rfl, rfl, rfl⟩ := trodAll_nil r3
  obtain rfl : args = #[v0, v1, v2, v3] := by cases args; simp_all
  obtain ⟨rfl, rfl⟩ := trodVars_none hV
  have k0 := h0
  have lt0 : ∀ x ∈ p0, x.block < W.heap.size := by obtain ⟨m, hm⟩ := k0; exact DataW.trod_lt m _ _ _ hm
  obtain ⟨x0, a0, c0, e0, rfl, g0, g_0, n0, r_0⟩ := open_digests Tryd.underlying63 Tryd.underlying23 Tryd.underlying5 (by kernel_rfl) (by kernel_rfl) (hval 0 63 v0 rfl rfl) h0
  have l0 : x0.length * 32 ≤ 140737488351232 := by have := trod_len (B := reachBytes) Tryd.underlying63 h0 (fun n hn => of_decide_eq_true (List.all_eq_true.1 hsz n (DataW.weights_mem_each (j := 0) (by first | rfl | kernel_rfl) rfl n hn))); rw [show Tryd.prog.bytesOf 23 = 32 by kernel_rfl] at this; exact this
  have k1 := h1
  have lt1 : ∀ x ∈ p1, x.block < W.heap.size := by obtain ⟨m, hm⟩ := k1; exact DataW.trod_lt m _ _ _ hm
  obtain ⟨x1, n1, rfl⟩ := open_digest Tryd.underlying23 Tryd.underlying5 (by kernel_rfl) (by kernel_rfl) (hval 1 23 v1 rfl rfl) h1
  have k2 := h2
  have lt2 : ∀ x ∈ p2, x.block < W.heap.size := by obtain ⟨m, hm⟩ := k2; exact DataW.trod_lt m _ _ _ hm
  obtain ⟨a2, rfl, _, _, w2⟩ := open_int Tryd.underlying3 (hval 2 3 v2 rfl rfl) h2
  have b2 := bounds_i64 w2
  have k3 := h3
  have lt3 : ∀ x ∈ p3, x.block < W.heap.size := by obtain ⟨m, hm⟩ := k3; exact DataW.trod_lt m _ _ _ hm
  obtain ⟨a3, rfl, _, _, w3⟩ := open_int Tryd.underlying3 (hval 3 3 v3 rfl rfl) h3
  have b3 := bounds_i64 w3
  clear hA0 hval0
  refine (walk x0 a0 c0 e0 x1 a2 a3 W l0 n0 r_0 n1 b2 b3 hro hg).mono fun e W' ⟨he, bel⟩ => ?_
  subst he
  exact ⟨_, rfl, _, _, _, [], _, [], hW', trodAll_mk1 (shut_bool Tryd.underlying4 _), (trodAll_cons_mk (Below.trod Laid.laidOut (by kernel_rfl) (of_decide_eq_true (by kernel_rfl)) k0 bel lt0) (trodAll_cons_mk (Below.trod Laid.laidOut (by kernel_rfl) (of_decide_eq_true (by kernel_rfl)) k1 bel lt1) (trodAll_cons_mk (Below.trod Laid.laidOut (by kernel_rfl) (of_decide_eq_true (by kernel_rfl)) k2 bel lt2) (trodAll_cons_mk (Below.trod Laid.laidOut (by kernel_rfl) (of_decide_eq_true (by kernel_rfl)) k3 bel lt3) trodAll_mk0)))), rfl, bel.frame _, fun h => by cases h⟩

theorem over : Rows.lotTellsRow.holds Tryd.pinned (OpenSpec.ofChange Rows.lotTellsSpec) :=
  OpenClaim.holds_of_wide 9 Tryd.f9 rfl rfl rfl rfl rfl rfl rfl ⟨rfl, rfl, rfl, rfl, rfl⟩ rfl rfl rfl rfl rfl (by kernel_rfl) Tryd.func9 (by kernel_rfl)
    (of_decide_eq_true (by kernel_rfl)) (by unfold Func.isWrapper; first | (rw [if_pos (by decide +kernel)]; kernel_rfl) | (rw [if_neg (by decide +kernel)]; exact ⟨rfl, rfl⟩))
    (fun os started H enc _ => lifted os started H enc)

theorem proved : Rows.LotTellsCardSaid :=
  Claim7.holds_tied_plain_at .later [] [.data, .handle] true (true, "d9367f1a9ac0cc7a5f16b7a4c9fa57317a5d4c7769de09c3b166420cc346acc4") true
    over (fun _ h => by cases h) (by kernel_rfl) (fun _ h => by cases h) lotTells_row_tie rfl ⟨rfl, rfl⟩ (by kernel_rfl) rfl
    (fun f fn hf hfn => by
      obtain rfl : f = 9 := Option.some.inj ((show Tryd.prog.funcNamed "oathbook/oathbooklaw4.LotTells" = some 9 by kernel_rfl).symm.trans hf) |>.symm
      obtain rfl : fn = Tryd.f9 := (Option.some.inj (Tryd.func9.symm.trans hfn)).symm
      exact ⟨by kernel_rfl, stand_of_all (by kernel_rfl)⟩)
    (by kernel_rfl)
#print axioms proved
end lotTells
end Go.Proofs.YtgngbmmmoecohaaDoor
