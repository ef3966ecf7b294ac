/- Any vows, any bids, any least price: the program tells what the document tells. -/
import Derived.Test.YteikbbdkpeecaaaDoorRows
import Derived.Test.YteikbbdkpeecaaaDoorBidAward
import Derived.Test.YteikbbdkpeecaaaDoorBidAwarded
import Derived.Test.YteikbbdkpeecaaaDoorShaEval
import Derived.Test.YteikbbdkpeecaaaDoorLaidRH
import Derived.WalkKit
import Derived.ProofKit
import Derived.OpenShut
import Derived.ShutString
import Derived.ChangeOld
import Derived.Below
namespace Go.Proofs.YteikbbdkpeecaaaDoor
open Go.ChangeShapes Go.WideShapes Go.ChangeAt Go.RowKit
open Go.ChangeMaps (open_string shut_string)
set_option linter.unusedVariables false
set_option linter.unusedSimpArgs false
namespace bidAwards

-- HOLE: the walk
set_option maxRecDepth 20000 in
theorem Nothing_calls (w : World) : Calls Tryd.prog 26 #[] w fun e w' => e = .returned (.agg (dV nz)) ∧ Below w.heap.size w w' := by
  obtain ⟨Z, hZ⟩ : ∃ Z, Z = nz := ⟨_, rfl⟩
  have zl : Z.length = 32 := by rw [hZ]; rfl
  have zlit : (#[.int .u8 0, .int .u8 0, .int .u8 0, .int .u8 0, .int .u8 0, .int .u8 0, .int .u8 0, .int .u8 0, .int .u8 0, .int .u8 0, .int .u8 0, .int .u8 0, .int .u8 0, .int .u8 0, .int .u8 0, .int .u8 0, .int .u8 0, .int .u8 0, .int .u8 0, .int .u8 0, .int .u8 0, .int .u8 0, .int .u8 0, .int .u8 0, .int .u8 0, .int .u8 0, .int .u8 0, .int .u8 0, .int .u8 0, .int .u8 0, .int .u8 0, .int .u8 0] : Array Value) = dV Z := by rw [hZ]; exact zdig
  have ZL := Lib.hid zl
  have ZT := Lib.hid zlit
  have HZ := Lib.hid hZ
  clear zl zlit hZ
  rw [← HZ.out]
  have fin : Below w.heap.size w (w.alloc (.cells (dV Z) 55)) := (Below.refl _ w).alloc (Nat.le_refl _) _
  have HF := Lib.hid fin
  clear fin
  go_enter Tryd.func26, Tryd.ntmps26
  go_wp2_with (first | (refine wpl_zero rfl rfl Z HZ.out ?_) | (refine st_new rfl (.tmp 0) (.tmp 1) rfl Z ZL.out (by rfl) _ _ (by rfl) (by rfl) ?_))
  try simp only [Exit.inBlock, Exit.then]
  refine bodyPost_ret (v := .agg (dV Z)) (results_cellW rfl _ _ _ ⟨w.heap.size, 0, none⟩ _ rfl ?_) rfl ⟨rfl, HF.out⟩
  exact dig_load ZL.out (range_of_row (heap_alloc_new w _))
theorem vow5_ne : (shaOf (vowText nz (beS 4 0 ++ beS 8 5)) == nz) = false := by
  rw [beq_eq_false_iff_ne]
  intro h
  have h2 : (shaOf (vowText nz (beS 4 0 ++ beS 8 5))).map UInt8.toNat = nz.map UInt8.toNat := by rw [h]
  rw [sha_n] at h2
  exact absurd h2 (by decide +kernel)
theorem built_bid5 : Tryd.prog.built 59 [(1, .int .i64 5)] = some (bV 0 5 nz) := by kernel_rfl
theorem wpl_bid5 {w : World} {ops : Array Oper} {rest : List Oper} {o : Oper} {a : Act} {Q : Exit → Act → World → Prop} (hg : o.guard = none) (x : Operand) (ho : o.op = .build 59 #[(1, x)]) (hx : a.eval x = .int .i64 5) (S : List UInt8) (hS : S = nz) (h : wpList Tryd.prog ops Q rest (a.put o.dst (.agg (bV ((0 : Nat) : Int) ((5 : Nat) : Int) S))) w) : wpList Tryd.prog ops Q (o :: rest) a w := by
  subst hS
  refine wpList_plain hg fun _ hK => ?_
  unfold Oper.wp execOp
  simp only [ho, Sem.run_bind]
  have := run_build (P := Tryd.prog) w 59 #[(1, .int .i64 5)] (bV 0 5 nz) built_bid5
  simp only [List.map_toArray, List.map_cons, List.map_nil, hx, this, Result.andThen_ok]
  exact hK _ _ h
set_option maxRecDepth 20000 in
set_option maxHeartbeats 16000000 in
theorem walk (x0 : List (List UInt8)) (a0 : Option Addr) (c0 e0 : Nat) (x1 : List Bd) (a1 : Option Addr) (c1 e1 : Nat) (a2 : Int) (w : World) (l0 : x0.length * 32 ≤ 140737488351232) (n0 : ∀ d ∈ x0, d.length = 32) (r0 : Rd w a0 e0 (x0.flatten.map vB)) (l1 : x1.length ≤ c1) (m1 : c1 ≤ 9223372036854775807) (n1 : ∀ e ∈ x1, BdW e) (r1 : Rd w a1 e1 (cellsP x1)) (h2 : -9223372036854775808 ≤ a2 ∧ a2 ≤ 9223372036854775807) (hro : RoundsAt w) (hg : ErrVar w) :
    Calls Tryd.prog 6 #[.slice a0 x0.length c0, .slice a1 x1.length c1, .int .i64 a2] w fun e w' => e = .returned (.bool true) ∧ Below w.heap.size w w' := by
  obtain ⟨Z, hZ⟩ : ∃ Z, Z = nz := ⟨_, rfl⟩
  have zl : Z.length = 32 := by rw [hZ]; rfl
  have zlit : (#[.int .u8 0, .int .u8 0, .int .u8 0, .int .u8 0, .int .u8 0, .int .u8 0, .int .u8 0, .int .u8 0, .int .u8 0, .int .u8 0, .int .u8 0, .int .u8 0, .int .u8 0, .int .u8 0, .int .u8 0, .int .u8 0, .int .u8 0, .int .u8 0, .int .u8 0, .int .u8 0, .int .u8 0, .int .u8 0, .int .u8 0, .int .u8 0, .int .u8 0, .int .u8 0, .int .u8 0, .int .u8 0, .int .u8 0, .int .u8 0, .int .u8 0, .int .u8 0] : Array Value) = dV Z := by rw [hZ]; exact zdig
  have ZL := Lib.hid zl
  have ZT := Lib.hid zlit
  have HZ := Lib.hid hZ
  clear zl zlit hZ
  have HR := Lib.hid r0
  have HRB := Lib.hid r1
  have HVS := Lib.hid n0
  have HBS := Lib.hid n1
  have HBS2 := Lib.hid (show ∀ b ∈ x1, b.salt.length = 32 from fun b h => (n1 b h).1)
  have RO := Lib.hid hro
  have EG := Lib.hid hg
  have hl0 : x0.length ≤ 9223372036854775807 := by omega
  have hl1 : x1.length ≤ 9223372036854775807 := by omega
  clear r0 r1 n0 n1 hro hg l0 l1 m1
  go_enter Tryd.func6, Tryd.ntmps6
  by_cases hneg : a2 < 0
  · have z1 : decide (a2 < 0) = true := decide_eq_true hneg
    have AC := (Award_calls x0 HVS.out (by omega) a0 c0 _ x1 HBS.out (by omega) a1 c1 _ a2 w HR.out HRB.out RO.out).mono (fun e w' h => (⟨h.1 hneg, h.2.2.2⟩ : e = .returned (.tuple #[.int .i64 0, .int .i64 0, .iface 25 (.int .i64 2)]) ∧ Below w.heap.size w w'))
    have HAC := Lib.hid AC
    clear AC hneg
    go_wp2_with fail
    refine HAC.out.mono ?_
    rintro e wA ⟨rfl, hbA⟩
    have HEC := Lib.hid (Error_err 2 2 true (by decide) wA (EG.out.at_ hbA))
    have HBA := Lib.hid hbA
    clear hbA HAC
    go_wp2_with fail
    refine HEC.out.mono ?_
    rintro e wB ⟨rfl, hbB⟩
    have BA := Lib.hid (HBA.out.trans (hbB.mono HBA.out.size))
    clear hbB HEC
    go_wp2_with fail
    go_loopw [14] (fun j wr => ∃ k : Nat, k ≤ x1.length ∧ j = .int .i64 k ∧ Below w.heap.size w wr) (fun j _ => x1.length - (intOf j).toNat)
    case atStart => exact ⟨0, Nat.zero_le _, rfl, BA.out⟩
    case round =>
      obtain ⟨k, hk, rfl, hbel⟩ := hrel
      by_cases hlt : k < x1.length
      · obtain ⟨pb, po, hpa, hpl, hrk⟩ := (HRB.out.below hbel).bid HBS2.out hlt
        subst hpa
        obtain ⟨E, hE⟩ : ∃ E, E = x1[k] := ⟨_, rfl⟩
        have EW := Lib.hid (show BdW E by rw [hE]; exact HBS.out _ (List.getElem_mem _))
        rw [← hE] at hrk
        obtain ⟨Y, hY⟩ : ∃ Y, Y = wr.heap.size := ⟨_, rfl⟩
        obtain ⟨w1, hw1⟩ : ∃ z, z = wr.alloc (.cells (dV Z) 55) := ⟨_, rfl⟩
        have b1 : Below wr.heap.size wr w1 := by rw [hw1]; exact (Below.refl _ _).alloc (Nat.le_refl _) _
        have GY1 := Lib.hid (show w1.heap[Y]? = some (.cells (dV Z) 55 (0, 0)) by rw [hw1, hY]; exact heap_alloc_new _ _)
        have LY1 := Lib.hid (lt_of_heap GY1.out)
        have HRK1 := Lib.hid (range_low hrk b1 hpl)
        have LP1 := Lib.hid (Nat.lt_of_lt_of_le hpl b1.size)
        have HB1 := Lib.hid (hbel.trans (b1.mono hbel.size))
        have HBT := Lib.hid (BidText_calls E EW.out w1)
        have HW1 := Lib.hid hw1
        have HY := Lib.hid hY
        have k0 : (0 : Int) ≤ (k : Int) := by omega
        have k1 : (k : Int) < (x1.length : Int) := by omega
        have HPY := Lib.hid (show pb < Y by rw [hY]; exact hpl)
        have HBR := Lib.hid hbel
        clear hE hrk hY hw1 b1 hbel hpl
        go_upto_region 18 with fail
        rw [ZT.out, ← HY.out, ← HW1.out]
        go_wp2_with ((refine ld_bidG rfl (.tmp 71) rfl pb (po + k * 34) (by rfl) E EW.out.1 HRK1.out ?_); simp only [Act.put, List.setIfInBounds_toArray, List.set_cons_zero, List.set_cons_succ])
        refine HBT.out.mono ?_
        rintro e w3 ⟨hok, hno, hb3⟩
        have B3 := Lib.hid hb3
        have GY3 := Lib.hid ((hb3.block _ LY1.out).trans GY1.out)
        have LY3 := Lib.hid (Nat.lt_of_lt_of_le LY1.out hb3.size)
        have HRK3 := Lib.hid (range_low HRK1.out hb3 LP1.out)
        have LP3 := Lib.hid (Nat.lt_of_lt_of_le LP1.out hb3.size)
        clear hb3 HBT
        by_cases hbo : BdOk E
        · obtain ⟨ta, tc, rfl, hown⟩ := hok hbo
          obtain ⟨D, hD⟩ : ∃ D, D = bidD E := ⟨_, rfl⟩
          have DL := Lib.hid (show D.length = 32 by rw [hD]; exact bidD_length _)
          have SC := RSum_calls (bidT E) ta tc _ w3 (Rd.of_own hown) (by rw [bidT_length E EW.out.1]; decide)
          rw [bidT_length E EW.out.1, show shaOf (bidT E) = D from hD.symm] at SC
          have HSC := Lib.hid SC
          have HD := Lib.hid hD
          have HOK := Lib.hid hbo
          clear SC hok hno hown hD hbo
          go_wp2_with fail
          refine HSC.out.mono ?_
          rintro e w4 ⟨rfl, hb4⟩
          have B4 := Lib.hid (B3.out.trans (hb4.mono B3.out.size))
          have GY4 := Lib.hid ((hb4.block _ LY3.out).trans GY3.out)
          have HRK4 := Lib.hid (range_low HRK3.out hb4 LP3.out)
          have LP4 := Lib.hid (Nat.lt_of_lt_of_le LP3.out hb4.size)
          have LY4 := Lib.hid (Nat.lt_of_lt_of_le LY3.out hb4.size)
          clear hb4 HSC
          obtain ⟨w4b, hw4b⟩ : ∃ z, z = w4.setRow Y (dV D) := ⟨_, rfl⟩
          have GY4b := Lib.hid (show w4b.heap[Y]? = some (.cells (dV D) 55 (0, 0)) by rw [hw4b]; exact setRow_heap _ _ _ _ _ _ GY4.out)
          have hYr : wr.heap.size ≤ Y := by rw [HY.out]; exact Nat.le_refl _
          have B4b : Hid (Below wr.heap.size wr w4b) := Lib.hid (by
            rw [hw4b]
            refine below_setRowW (Below.trans (show Below wr.heap.size wr w1 by rw [HW1.out]; exact (Below.refl _ _).alloc (Nat.le_refl _) _) (B4.out.mono ?_)) hYr _
            rw [HW1.out, World.size_alloc]; omega)
          have hs4b : w4b.heap.size = w4.heap.size := by rw [hw4b]; exact setRow_size _ _ _
          have hpY : pb ≠ Y := fun h => absurd HPY.out (by omega)
          have HRK4b := Lib.hid (show w4b.rangeAt pb (po + k * 34) (bL E) by rw [hw4b]; exact range_setRow_other hpY HRK4.out)
          have LP4b := Lib.hid (show pb < w4b.heap.size by rw [hs4b]; exact LP4.out)
          have LY4b := Lib.hid (show Y < w4b.heap.size by rw [hs4b]; exact LY4.out)
          have HW4b := Lib.hid hw4b
          clear hw4b hYr hs4b hpY
          have BW4 := Lib.hid (HBR.out.trans (B4b.out.mono HBR.out.size))
          have VC := Vow_calls E EW.out w4b (RO.out.at_ BW4.out)
          rw [if_pos HOK.out, ← HD.out] at VC
          have HVC := Lib.hid VC
          clear VC
          go_wp2_with (first
            | ((refine st_row rfl (.tmp 16) (.tmp 78) rfl Y D DL.out (by rfl) (by rfl) (dV Z) (dV_size ZL.out) _ GY4.out ?_); rw [← HW4b.out])
            | ((refine ld_bidG rfl (.tmp 82) rfl pb (po + k * 34) (by rfl) E EW.out.1 HRK4b.out ?_); simp only [Act.put, List.setIfInBounds_toArray, List.set_cons_zero, List.set_cons_succ]))
          refine HVC.out.mono ?_
          rintro e w5 ⟨rfl, hb5⟩
          have GY5 := Lib.hid ((hb5.block _ LY4b.out).trans GY4b.out)
          have LY5 := Lib.hid (Nat.lt_of_lt_of_le LY4b.out hb5.size)
          have B5 := Lib.hid (BW4.out.trans (hb5.mono BW4.out.size))
          clear hb5 HVC
          obtain ⟨Y2, hY2⟩ : ∃ Y, Y = w5.heap.size := ⟨_, rfl⟩
          obtain ⟨w6, hw6⟩ : ∃ z, z = w5.alloc (.cells (dV D) 55) := ⟨_, rfl⟩
          have b6 : Below w5.heap.size w5 w6 := by rw [hw6]; exact (Below.refl _ _).alloc (Nat.le_refl _) _
          have GY2 := Lib.hid (show w6.heap[Y2]? = some (.cells (dV D) 55 (0, 0)) by rw [hw6, hY2]; exact heap_alloc_new _ _)
          have GY6 := Lib.hid ((b6.block _ LY5.out).trans GY5.out)
          have B6 := Lib.hid (B5.out.trans (b6.mono B5.out.size))
          have LY26 := Lib.hid (lt_of_heap GY2.out)
          have HY2 := Lib.hid hY2
          have HW6 := Lib.hid hw6
          clear hY2 hw6 b6
          have HEC := Lib.hid (Error_nil 0 true (by decide) w6)
          go_wp2_with ((refine st_new rfl (.tmp 19) (.tmp 85) rfl D DL.out (by rfl) _ _ (by rfl) (by rfl) ?_); rw [← HY2.out, ← HW6.out])
          refine HEC.out.mono ?_
          rintro e w7 ⟨rfl, rfl⟩
          clear HEC
          have B7 := Lib.hid B6.out
          have GY27 := Lib.hid GY2.out
          have GY7 := Lib.hid GY6.out
          have BZ := Lib.hid B7.out
          go_wp2_with (first
            | ((refine ld_digG rfl (.tmp 19) rfl Y2 0 (by rfl) D DL.out (range_of_row GY27.out) ?_); simp only [Act.put, List.setIfInBounds_toArray, List.set_cons_zero, List.set_cons_succ])
            | ((refine ld_digG rfl (.tmp 16) rfl Y 0 (by rfl) D DL.out (range_of_row GY7.out) ?_); simp only [Act.put, List.setIfInBounds_toArray, List.set_cons_zero, List.set_cons_succ])
            | ((refine neq_digG rfl (.tmp 93) (.tmp 94) _ rfl D D (by rfl) (by rfl) DL.out DL.out ?_); rw [beq_self_eq_true]; simp only [Act.put, List.setIfInBounds_toArray, List.set_cons_zero, List.set_cons_succ]))
          go_roundw
          case rel => exact ⟨k + 1, hlt, by go_num, BZ.out⟩
          case measure => simp [intOf]; omega
        · have he := hno hbo
          subst he
          obtain ⟨D, hD⟩ : ∃ D, D = Z := ⟨_, rfl⟩
          have DL := Lib.hid (show D.length = 32 by rw [hD]; exact ZL.out)
          have BW4 := Lib.hid (HB1.out.trans (B3.out.mono HB1.out.size))
          have VC := Vow_calls E EW.out w3 (RO.out.at_ BW4.out)
          rw [if_neg hbo, ← HZ.out, ← hD] at VC
          have HVC := Lib.hid VC
          rw [← hD] at GY3
          clear VC hok hno hD hbo
          go_wp2_with ((refine ld_bidG rfl (.tmp 82) rfl pb (po + k * 34) (by rfl) E EW.out.1 HRK3.out ?_); simp only [Act.put, List.setIfInBounds_toArray, List.set_cons_zero, List.set_cons_succ])
          refine HVC.out.mono ?_
          rintro e w5 ⟨rfl, hb5⟩
          have GY5 := Lib.hid ((hb5.block _ LY3.out).trans GY3.out)
          have LY5 := Lib.hid (Nat.lt_of_lt_of_le LY3.out hb5.size)
          have B5 := Lib.hid (BW4.out.trans (hb5.mono BW4.out.size))
          clear hb5 HVC
          obtain ⟨Y2, hY2⟩ : ∃ Y, Y = w5.heap.size := ⟨_, rfl⟩
          obtain ⟨w6, hw6⟩ : ∃ z, z = w5.alloc (.cells (dV D) 55) := ⟨_, rfl⟩
          have b6 : Below w5.heap.size w5 w6 := by rw [hw6]; exact (Below.refl _ _).alloc (Nat.le_refl _) _
          have GY2 := Lib.hid (show w6.heap[Y2]? = some (.cells (dV D) 55 (0, 0)) by rw [hw6, hY2]; exact heap_alloc_new _ _)
          have GY6 := Lib.hid ((b6.block _ LY5.out).trans GY5.out)
          have B6 := Lib.hid (B5.out.trans (b6.mono B5.out.size))
          have LY26 := Lib.hid (lt_of_heap GY2.out)
          have HY2 := Lib.hid hY2
          have HW6 := Lib.hid hw6
          clear hY2 hw6 b6
          have HEC := Lib.hid (Error_err 2 2 true (by decide) w6 (EG.out.at_ B6.out))
          go_wp2_with ((refine st_new rfl (.tmp 19) (.tmp 85) rfl D DL.out (by rfl) _ _ (by rfl) (by rfl) ?_); rw [← HY2.out, ← HW6.out])
          refine HEC.out.mono ?_
          rintro e w7 ⟨rfl, hb7⟩
          have GY27 := Lib.hid ((hb7.block _ LY26.out).trans GY2.out)
          have GY7 := Lib.hid ((hb7.block _ (lt_of_heap GY6.out)).trans GY6.out)
          have B7 := Lib.hid (B6.out.trans (hb7.mono B6.out.size))
          clear hb7 HEC
          have BZ := Lib.hid B7.out
          go_wp2_with (first
            | ((refine ld_digG rfl (.tmp 19) rfl Y2 0 (by rfl) D DL.out (range_of_row GY27.out) ?_); simp only [Act.put, List.setIfInBounds_toArray, List.set_cons_zero, List.set_cons_succ])
            | ((refine ld_digG rfl (.tmp 16) rfl Y 0 (by rfl) D DL.out (range_of_row GY7.out) ?_); simp only [Act.put, List.setIfInBounds_toArray, List.set_cons_zero, List.set_cons_succ])
            | ((refine neq_digG rfl (.tmp 93) (.tmp 94) _ rfl D D (by rfl) (by rfl) DL.out DL.out ?_); rw [beq_self_eq_true]; simp only [Act.put, List.setIfInBounds_toArray, List.set_cons_zero, List.set_cons_succ]))
          go_roundw
          case rel => exact ⟨k + 1, hlt, by go_num, BZ.out⟩
          case measure => simp [intOf]; omega
      · obtain rfl : k = x1.length := by omega
        have HB := Lib.hid hbel
        have VC := Vow_ok 0 5 (by decide) (by decide) nz rfl wr (RO.out.at_ hbel)
        obtain ⟨D, hD⟩ : ∃ D, D = shaOf (vowText nz (beS 4 0 ++ beS 8 5)) := ⟨_, rfl⟩
        have DL := Lib.hid (show D.length = 32 by rw [hD]; exact shaOf_length _)
        have HNE := Lib.hid (show (D == Z) = false by rw [hD, HZ.out]; exact vow5_ne)
        rw [← hD, ← HZ.out] at VC
        have HVC := Lib.hid VC
        clear VC hD hbel hlt hk
        go_wp2_with ((refine wpl_bid5 rfl _ rfl (by rfl) Z HZ.out ?_); simp only [Act.put, List.setIfInBounds_toArray, List.set_cons_zero, List.set_cons_succ])
        refine HVC.out.mono ?_
        rintro e w5 ⟨rfl, hb5⟩
        have B5 := Lib.hid (HB.out.trans (hb5.mono HB.out.size))
        obtain ⟨Y2, hY2⟩ : ∃ Y, Y = w5.heap.size := ⟨_, rfl⟩
        obtain ⟨w6, hw6⟩ : ∃ z, z = w5.alloc (.cells (dV D) 55) := ⟨_, rfl⟩
        have b6 : Below w5.heap.size w5 w6 := by rw [hw6]; exact (Below.refl _ _).alloc (Nat.le_refl _) _
        have GY2 := Lib.hid (show w6.heap[Y2]? = some (.cells (dV D) 55 (0, 0)) by rw [hw6, hY2]; exact heap_alloc_new _ _)
        have LY2 := lt_of_heap GY2.out
        have B6 := Lib.hid (B5.out.trans (b6.mono B5.out.size))
        have HY2 := Lib.hid hY2
        have HW6 := Lib.hid hw6
        clear hY2 hw6 b6 hb5 HVC
        go_upto_region 27 with ((refine st_new rfl (.tmp 21) (.tmp 100) rfl D DL.out (by rfl) _ _ (by rfl) (by rfl) ?_); rw [← HY2.out, ← HW6.out])
        have nc : ∀ w', InB w6.heap.size w6 w' → Calls Tryd.prog 26 #[] w' fun e w'' => e = .returned (.agg (dV Z)) ∧ InB w6.heap.size w6 w'' := fun w' h => InB.call h (Nat.le_refl _) (by rw [HZ.out]; exact Nothing_calls w')
        have HNC := Lib.hid nc
        have FD := Lib.hid (show ∀ w', InB w6.heap.size w6 w' → w'.rangeAt Y2 0 (D.map vB) from fun w' h => h.range LY2 (range_of_row GY2.out))
        clear nc
        have hex := inB_ex w6.heap.size w6
        refine wp_region_inB w6.heap.size (by kernel_rfl) (by kernel_rfl) ?_
        repeat (first
          | (with_reducible refine quiet_dig rfl (.tmp 21) rfl (Y2) (0) (by kernel_rfl) D DL.out FD.out ?_ (by kernel_rfl); simp only [Act.put, List.setIfInBounds_toArray, List.set_cons_zero, List.set_cons_succ])
          | (with_reducible refine quiet_dig_neq rfl (.tmp 105) (.tmp 106) _ rfl D Z (by kernel_rfl) (by kernel_rfl) DL.out ZL.out ?_ (by kernel_rfl); rw [HNE.out]; simp only [Act.put, List.setIfInBounds_toArray, List.set_cons_zero, List.set_cons_succ])
          | go_big_quiet_step ((first | (intro hw'; exact HNC.out _ hw') | (intro _; rfl))))
        refine wpQuiet_nil ?_
        intro wZ hwZ
        have BZ := Lib.hid (B6.out.trans (Below.mono hwZ B6.out.size))
        clear hwZ hex
        go_wp2_with fail
        go_ret
        exact ⟨rfl, BZ.out⟩
  · have z1 : decide (a2 < 0) = false := decide_eq_false hneg
    have hn0 : 0 ≤ a2 := by omega
    clear hneg
    by_cases hv1 : 100 < x0.length
    · have z2 : decide ((100 : Int) < (x0.length : Int)) = true := decide_eq_true (by omega)
      have z3 : decide (100 < x0.length) = true := decide_eq_true hv1
      have HBIG := Lib.hid (show 100 < x0.length ∨ 100 < x1.length from .inl hv1)
      clear hv1
      have AC := (Award_calls x0 HVS.out (by omega) a0 c0 _ x1 HBS.out (by omega) a1 c1 _ a2 w HR.out HRB.out RO.out).mono (fun e w' h => (⟨h.2.1 hn0 HBIG.out, h.2.2.2⟩ : e = .returned (.tuple #[.int .i64 0, .int .i64 0, .iface 25 (.int .i64 4)]) ∧ Below w.heap.size w w'))
      have HAC := Lib.hid AC
      clear AC hn0 HBIG
      go_wp2_with fail
      refine HAC.out.mono ?_
      rintro e wA ⟨rfl, hbA⟩
      have HEC := Lib.hid (Error_err 4 4 true (by decide) wA (EG.out.at_ hbA))
      have HBA := Lib.hid hbA
      clear hbA HAC
      go_wp2_with fail
      refine HEC.out.mono ?_
      rintro e wB ⟨rfl, hbB⟩
      have BA := Lib.hid (HBA.out.trans (hbB.mono HBA.out.size))
      clear hbB HEC
      go_wp2_with fail
      go_loopw [14] (fun j wr => ∃ k : Nat, k ≤ x1.length ∧ j = .int .i64 k ∧ Below w.heap.size w wr) (fun j _ => x1.length - (intOf j).toNat)
      case atStart => exact ⟨0, Nat.zero_le _, rfl, BA.out⟩
      case round =>
        obtain ⟨k, hk, rfl, hbel⟩ := hrel
        by_cases hlt : k < x1.length
        · obtain ⟨pb, po, hpa, hpl, hrk⟩ := (HRB.out.below hbel).bid HBS2.out hlt
          subst hpa
          obtain ⟨E, hE⟩ : ∃ E, E = x1[k] := ⟨_, rfl⟩
          have EW := Lib.hid (show BdW E by rw [hE]; exact HBS.out _ (List.getElem_mem _))
          rw [← hE] at hrk
          obtain ⟨Y, hY⟩ : ∃ Y, Y = wr.heap.size := ⟨_, rfl⟩
          obtain ⟨w1, hw1⟩ : ∃ z, z = wr.alloc (.cells (dV Z) 55) := ⟨_, rfl⟩
          have b1 : Below wr.heap.size wr w1 := by rw [hw1]; exact (Below.refl _ _).alloc (Nat.le_refl _) _
          have GY1 := Lib.hid (show w1.heap[Y]? = some (.cells (dV Z) 55 (0, 0)) by rw [hw1, hY]; exact heap_alloc_new _ _)
          have LY1 := Lib.hid (lt_of_heap GY1.out)
          have HRK1 := Lib.hid (range_low hrk b1 hpl)
          have LP1 := Lib.hid (Nat.lt_of_lt_of_le hpl b1.size)
          have HB1 := Lib.hid (hbel.trans (b1.mono hbel.size))
          have HBT := Lib.hid (BidText_calls E EW.out w1)
          have HW1 := Lib.hid hw1
          have HY := Lib.hid hY
          have k0 : (0 : Int) ≤ (k : Int) := by omega
          have k1 : (k : Int) < (x1.length : Int) := by omega
          have HPY := Lib.hid (show pb < Y by rw [hY]; exact hpl)
          have HBR := Lib.hid hbel
          clear hE hrk hY hw1 b1 hbel hpl
          go_upto_region 18 with fail
          rw [ZT.out, ← HY.out, ← HW1.out]
          go_wp2_with ((refine ld_bidG rfl (.tmp 71) rfl pb (po + k * 34) (by rfl) E EW.out.1 HRK1.out ?_); simp only [Act.put, List.setIfInBounds_toArray, List.set_cons_zero, List.set_cons_succ])
          refine HBT.out.mono ?_
          rintro e w3 ⟨hok, hno, hb3⟩
          have B3 := Lib.hid hb3
          have GY3 := Lib.hid ((hb3.block _ LY1.out).trans GY1.out)
          have LY3 := Lib.hid (Nat.lt_of_lt_of_le LY1.out hb3.size)
          have HRK3 := Lib.hid (range_low HRK1.out hb3 LP1.out)
          have LP3 := Lib.hid (Nat.lt_of_lt_of_le LP1.out hb3.size)
          clear hb3 HBT
          by_cases hbo : BdOk E
          · obtain ⟨ta, tc, rfl, hown⟩ := hok hbo
            obtain ⟨D, hD⟩ : ∃ D, D = bidD E := ⟨_, rfl⟩
            have DL := Lib.hid (show D.length = 32 by rw [hD]; exact bidD_length _)
            have SC := RSum_calls (bidT E) ta tc _ w3 (Rd.of_own hown) (by rw [bidT_length E EW.out.1]; decide)
            rw [bidT_length E EW.out.1, show shaOf (bidT E) = D from hD.symm] at SC
            have HSC := Lib.hid SC
            have HD := Lib.hid hD
            have HOK := Lib.hid hbo
            clear SC hok hno hown hD hbo
            go_wp2_with fail
            refine HSC.out.mono ?_
            rintro e w4 ⟨rfl, hb4⟩
            have B4 := Lib.hid (B3.out.trans (hb4.mono B3.out.size))
            have GY4 := Lib.hid ((hb4.block _ LY3.out).trans GY3.out)
            have HRK4 := Lib.hid (range_low HRK3.out hb4 LP3.out)
            have LP4 := Lib.hid (Nat.lt_of_lt_of_le LP3.out hb4.size)
            have LY4 := Lib.hid (Nat.lt_of_lt_of_le LY3.out hb4.size)
            clear hb4 HSC
            obtain ⟨w4b, hw4b⟩ : ∃ z, z = w4.setRow Y (dV D) := ⟨_, rfl⟩
            have GY4b := Lib.hid (show w4b.heap[Y]? = some (.cells (dV D) 55 (0, 0)) by rw [hw4b]; exact setRow_heap _ _ _ _ _ _ GY4.out)
            have hYr : wr.heap.size ≤ Y := by rw [HY.out]; exact Nat.le_refl _
            have B4b : Hid (Below wr.heap.size wr w4b) := Lib.hid (by
              rw [hw4b]
              refine below_setRowW (Below.trans (show Below wr.heap.size wr w1 by rw [HW1.out]; exact (Below.refl _ _).alloc (Nat.le_refl _) _) (B4.out.mono ?_)) hYr _
              rw [HW1.out, World.size_alloc]; omega)
            have hs4b : w4b.heap.size = w4.heap.size := by rw [hw4b]; exact setRow_size _ _ _
            have hpY : pb ≠ Y := fun h => absurd HPY.out (by omega)
            have HRK4b := Lib.hid (show w4b.rangeAt pb (po + k * 34) (bL E) by rw [hw4b]; exact range_setRow_other hpY HRK4.out)
            have LP4b := Lib.hid (show pb < w4b.heap.size by rw [hs4b]; exact LP4.out)
            have LY4b := Lib.hid (show Y < w4b.heap.size by rw [hs4b]; exact LY4.out)
            have HW4b := Lib.hid hw4b
            clear hw4b hYr hs4b hpY
            have BW4 := Lib.hid (HBR.out.trans (B4b.out.mono HBR.out.size))
            have VC := Vow_calls E EW.out w4b (RO.out.at_ BW4.out)
            rw [if_pos HOK.out, ← HD.out] at VC
            have HVC := Lib.hid VC
            clear VC
            go_wp2_with (first
              | ((refine st_row rfl (.tmp 16) (.tmp 78) rfl Y D DL.out (by rfl) (by rfl) (dV Z) (dV_size ZL.out) _ GY4.out ?_); rw [← HW4b.out])
              | ((refine ld_bidG rfl (.tmp 82) rfl pb (po + k * 34) (by rfl) E EW.out.1 HRK4b.out ?_); simp only [Act.put, List.setIfInBounds_toArray, List.set_cons_zero, List.set_cons_succ]))
            refine HVC.out.mono ?_
            rintro e w5 ⟨rfl, hb5⟩
            have GY5 := Lib.hid ((hb5.block _ LY4b.out).trans GY4b.out)
            have LY5 := Lib.hid (Nat.lt_of_lt_of_le LY4b.out hb5.size)
            have B5 := Lib.hid (BW4.out.trans (hb5.mono BW4.out.size))
            clear hb5 HVC
            obtain ⟨Y2, hY2⟩ : ∃ Y, Y = w5.heap.size := ⟨_, rfl⟩
            obtain ⟨w6, hw6⟩ : ∃ z, z = w5.alloc (.cells (dV D) 55) := ⟨_, rfl⟩
            have b6 : Below w5.heap.size w5 w6 := by rw [hw6]; exact (Below.refl _ _).alloc (Nat.le_refl _) _
            have GY2 := Lib.hid (show w6.heap[Y2]? = some (.cells (dV D) 55 (0, 0)) by rw [hw6, hY2]; exact heap_alloc_new _ _)
            have GY6 := Lib.hid ((b6.block _ LY5.out).trans GY5.out)
            have B6 := Lib.hid (B5.out.trans (b6.mono B5.out.size))
            have LY26 := Lib.hid (lt_of_heap GY2.out)
            have HY2 := Lib.hid hY2
            have HW6 := Lib.hid hw6
            clear hY2 hw6 b6
            have HEC := Lib.hid (Error_nil 0 true (by decide) w6)
            go_wp2_with ((refine st_new rfl (.tmp 19) (.tmp 85) rfl D DL.out (by rfl) _ _ (by rfl) (by rfl) ?_); rw [← HY2.out, ← HW6.out])
            refine HEC.out.mono ?_
            rintro e w7 ⟨rfl, rfl⟩
            clear HEC
            have B7 := Lib.hid B6.out
            have GY27 := Lib.hid GY2.out
            have GY7 := Lib.hid GY6.out
            have BZ := Lib.hid B7.out
            go_wp2_with (first
              | ((refine ld_digG rfl (.tmp 19) rfl Y2 0 (by rfl) D DL.out (range_of_row GY27.out) ?_); simp only [Act.put, List.setIfInBounds_toArray, List.set_cons_zero, List.set_cons_succ])
              | ((refine ld_digG rfl (.tmp 16) rfl Y 0 (by rfl) D DL.out (range_of_row GY7.out) ?_); simp only [Act.put, List.setIfInBounds_toArray, List.set_cons_zero, List.set_cons_succ])
              | ((refine neq_digG rfl (.tmp 93) (.tmp 94) _ rfl D D (by rfl) (by rfl) DL.out DL.out ?_); rw [beq_self_eq_true]; simp only [Act.put, List.setIfInBounds_toArray, List.set_cons_zero, List.set_cons_succ]))
            go_roundw
            case rel => exact ⟨k + 1, hlt, by go_num, BZ.out⟩
            case measure => simp [intOf]; omega
          · have he := hno hbo
            subst he
            obtain ⟨D, hD⟩ : ∃ D, D = Z := ⟨_, rfl⟩
            have DL := Lib.hid (show D.length = 32 by rw [hD]; exact ZL.out)
            have BW4 := Lib.hid (HB1.out.trans (B3.out.mono HB1.out.size))
            have VC := Vow_calls E EW.out w3 (RO.out.at_ BW4.out)
            rw [if_neg hbo, ← HZ.out, ← hD] at VC
            have HVC := Lib.hid VC
            rw [← hD] at GY3
            clear VC hok hno hD hbo
            go_wp2_with ((refine ld_bidG rfl (.tmp 82) rfl pb (po + k * 34) (by rfl) E EW.out.1 HRK3.out ?_); simp only [Act.put, List.setIfInBounds_toArray, List.set_cons_zero, List.set_cons_succ])
            refine HVC.out.mono ?_
            rintro e w5 ⟨rfl, hb5⟩
            have GY5 := Lib.hid ((hb5.block _ LY3.out).trans GY3.out)
            have LY5 := Lib.hid (Nat.lt_of_lt_of_le LY3.out hb5.size)
            have B5 := Lib.hid (BW4.out.trans (hb5.mono BW4.out.size))
            clear hb5 HVC
            obtain ⟨Y2, hY2⟩ : ∃ Y, Y = w5.heap.size := ⟨_, rfl⟩
            obtain ⟨w6, hw6⟩ : ∃ z, z = w5.alloc (.cells (dV D) 55) := ⟨_, rfl⟩
            have b6 : Below w5.heap.size w5 w6 := by rw [hw6]; exact (Below.refl _ _).alloc (Nat.le_refl _) _
            have GY2 := Lib.hid (show w6.heap[Y2]? = some (.cells (dV D) 55 (0, 0)) by rw [hw6, hY2]; exact heap_alloc_new _ _)
            have GY6 := Lib.hid ((b6.block _ LY5.out).trans GY5.out)
            have B6 := Lib.hid (B5.out.trans (b6.mono B5.out.size))
            have LY26 := Lib.hid (lt_of_heap GY2.out)
            have HY2 := Lib.hid hY2
            have HW6 := Lib.hid hw6
            clear hY2 hw6 b6
            have HEC := Lib.hid (Error_err 2 2 true (by decide) w6 (EG.out.at_ B6.out))
            go_wp2_with ((refine st_new rfl (.tmp 19) (.tmp 85) rfl D DL.out (by rfl) _ _ (by rfl) (by rfl) ?_); rw [← HY2.out, ← HW6.out])
            refine HEC.out.mono ?_
            rintro e w7 ⟨rfl, hb7⟩
            have GY27 := Lib.hid ((hb7.block _ LY26.out).trans GY2.out)
            have GY7 := Lib.hid ((hb7.block _ (lt_of_heap GY6.out)).trans GY6.out)
            have B7 := Lib.hid (B6.out.trans (hb7.mono B6.out.size))
            clear hb7 HEC
            have BZ := Lib.hid B7.out
            go_wp2_with (first
              | ((refine ld_digG rfl (.tmp 19) rfl Y2 0 (by rfl) D DL.out (range_of_row GY27.out) ?_); simp only [Act.put, List.setIfInBounds_toArray, List.set_cons_zero, List.set_cons_succ])
              | ((refine ld_digG rfl (.tmp 16) rfl Y 0 (by rfl) D DL.out (range_of_row GY7.out) ?_); simp only [Act.put, List.setIfInBounds_toArray, List.set_cons_zero, List.set_cons_succ])
              | ((refine neq_digG rfl (.tmp 93) (.tmp 94) _ rfl D D (by rfl) (by rfl) DL.out DL.out ?_); rw [beq_self_eq_true]; simp only [Act.put, List.setIfInBounds_toArray, List.set_cons_zero, List.set_cons_succ]))
            go_roundw
            case rel => exact ⟨k + 1, hlt, by go_num, BZ.out⟩
            case measure => simp [intOf]; omega
        · obtain rfl : k = x1.length := by omega
          have HB := Lib.hid hbel
          have VC := Vow_ok 0 5 (by decide) (by decide) nz rfl wr (RO.out.at_ hbel)
          obtain ⟨D, hD⟩ : ∃ D, D = shaOf (vowText nz (beS 4 0 ++ beS 8 5)) := ⟨_, rfl⟩
          have DL := Lib.hid (show D.length = 32 by rw [hD]; exact shaOf_length _)
          have HNE := Lib.hid (show (D == Z) = false by rw [hD, HZ.out]; exact vow5_ne)
          rw [← hD, ← HZ.out] at VC
          have HVC := Lib.hid VC
          clear VC hD hbel hlt hk
          go_wp2_with ((refine wpl_bid5 rfl _ rfl (by rfl) Z HZ.out ?_); simp only [Act.put, List.setIfInBounds_toArray, List.set_cons_zero, List.set_cons_succ])
          refine HVC.out.mono ?_
          rintro e w5 ⟨rfl, hb5⟩
          have B5 := Lib.hid (HB.out.trans (hb5.mono HB.out.size))
          obtain ⟨Y2, hY2⟩ : ∃ Y, Y = w5.heap.size := ⟨_, rfl⟩
          obtain ⟨w6, hw6⟩ : ∃ z, z = w5.alloc (.cells (dV D) 55) := ⟨_, rfl⟩
          have b6 : Below w5.heap.size w5 w6 := by rw [hw6]; exact (Below.refl _ _).alloc (Nat.le_refl _) _
          have GY2 := Lib.hid (show w6.heap[Y2]? = some (.cells (dV D) 55 (0, 0)) by rw [hw6, hY2]; exact heap_alloc_new _ _)
          have LY2 := lt_of_heap GY2.out
          have B6 := Lib.hid (B5.out.trans (b6.mono B5.out.size))
          have HY2 := Lib.hid hY2
          have HW6 := Lib.hid hw6
          clear hY2 hw6 b6 hb5 HVC
          go_upto_region 27 with ((refine st_new rfl (.tmp 21) (.tmp 100) rfl D DL.out (by rfl) _ _ (by rfl) (by rfl) ?_); rw [← HY2.out, ← HW6.out])
          have nc : ∀ w', InB w6.heap.size w6 w' → Calls Tryd.prog 26 #[] w' fun e w'' => e = .returned (.agg (dV Z)) ∧ InB w6.heap.size w6 w'' := fun w' h => InB.call h (Nat.le_refl _) (by rw [HZ.out]; exact Nothing_calls w')
          have HNC := Lib.hid nc
          have FD := Lib.hid (show ∀ w', InB w6.heap.size w6 w' → w'.rangeAt Y2 0 (D.map vB) from fun w' h => h.range LY2 (range_of_row GY2.out))
          clear nc
          have hex := inB_ex w6.heap.size w6
          refine wp_region_inB w6.heap.size (by kernel_rfl) (by kernel_rfl) ?_
          repeat (first
            | (with_reducible refine quiet_dig rfl (.tmp 21) rfl (Y2) (0) (by kernel_rfl) D DL.out FD.out ?_ (by kernel_rfl); simp only [Act.put, List.setIfInBounds_toArray, List.set_cons_zero, List.set_cons_succ])
            | (with_reducible refine quiet_dig_neq rfl (.tmp 105) (.tmp 106) _ rfl D Z (by kernel_rfl) (by kernel_rfl) DL.out ZL.out ?_ (by kernel_rfl); rw [HNE.out]; simp only [Act.put, List.setIfInBounds_toArray, List.set_cons_zero, List.set_cons_succ])
            | go_big_quiet_step ((first | (intro hw'; exact HNC.out _ hw') | (intro _; rfl))))
          refine wpQuiet_nil ?_
          intro wZ hwZ
          have BZ := Lib.hid (B6.out.trans (Below.mono hwZ B6.out.size))
          clear hwZ hex
          go_wp2_with fail
          go_ret
          exact ⟨rfl, BZ.out⟩
    · have z2 : decide ((100 : Int) < (x0.length : Int)) = false := decide_eq_false (by omega)
      have z3 : decide (100 < x0.length) = false := decide_eq_false hv1
      by_cases hb1 : 100 < x1.length
      · have z4 : decide ((100 : Int) < (x1.length : Int)) = true := decide_eq_true (by omega)
        have z5 : decide (100 < x1.length) = true := decide_eq_true hb1
        have HBIG := Lib.hid (show 100 < x0.length ∨ 100 < x1.length from .inr hb1)
        clear hv1 hb1
        have AC := (Award_calls x0 HVS.out (by omega) a0 c0 _ x1 HBS.out (by omega) a1 c1 _ a2 w HR.out HRB.out RO.out).mono (fun e w' h => (⟨h.2.1 hn0 HBIG.out, h.2.2.2⟩ : e = .returned (.tuple #[.int .i64 0, .int .i64 0, .iface 25 (.int .i64 4)]) ∧ Below w.heap.size w w'))
        have HAC := Lib.hid AC
        clear AC hn0 HBIG
        go_wp2_with fail
        refine HAC.out.mono ?_
        rintro e wA ⟨rfl, hbA⟩
        have HEC := Lib.hid (Error_err 4 4 true (by decide) wA (EG.out.at_ hbA))
        have HBA := Lib.hid hbA
        clear hbA HAC
        go_wp2_with fail
        refine HEC.out.mono ?_
        rintro e wB ⟨rfl, hbB⟩
        have BA := Lib.hid (HBA.out.trans (hbB.mono HBA.out.size))
        clear hbB HEC
        go_wp2_with fail
        go_loopw [14] (fun j wr => ∃ k : Nat, k ≤ x1.length ∧ j = .int .i64 k ∧ Below w.heap.size w wr) (fun j _ => x1.length - (intOf j).toNat)
        case atStart => exact ⟨0, Nat.zero_le _, rfl, BA.out⟩
        case round =>
          obtain ⟨k, hk, rfl, hbel⟩ := hrel
          by_cases hlt : k < x1.length
          · obtain ⟨pb, po, hpa, hpl, hrk⟩ := (HRB.out.below hbel).bid HBS2.out hlt
            subst hpa
            obtain ⟨E, hE⟩ : ∃ E, E = x1[k] := ⟨_, rfl⟩
            have EW := Lib.hid (show BdW E by rw [hE]; exact HBS.out _ (List.getElem_mem _))
            rw [← hE] at hrk
            obtain ⟨Y, hY⟩ : ∃ Y, Y = wr.heap.size := ⟨_, rfl⟩
            obtain ⟨w1, hw1⟩ : ∃ z, z = wr.alloc (.cells (dV Z) 55) := ⟨_, rfl⟩
            have b1 : Below wr.heap.size wr w1 := by rw [hw1]; exact (Below.refl _ _).alloc (Nat.le_refl _) _
            have GY1 := Lib.hid (show w1.heap[Y]? = some (.cells (dV Z) 55 (0, 0)) by rw [hw1, hY]; exact heap_alloc_new _ _)
            have LY1 := Lib.hid (lt_of_heap GY1.out)
            have HRK1 := Lib.hid (range_low hrk b1 hpl)
            have LP1 := Lib.hid (Nat.lt_of_lt_of_le hpl b1.size)
            have HB1 := Lib.hid (hbel.trans (b1.mono hbel.size))
            have HBT := Lib.hid (BidText_calls E EW.out w1)
            have HW1 := Lib.hid hw1
            have HY := Lib.hid hY
            have k0 : (0 : Int) ≤ (k : Int) := by omega
            have k1 : (k : Int) < (x1.length : Int) := by omega
            have HPY := Lib.hid (show pb < Y by rw [hY]; exact hpl)
            have HBR := Lib.hid hbel
            clear hE hrk hY hw1 b1 hbel hpl
            go_upto_region 18 with fail
            rw [ZT.out, ← HY.out, ← HW1.out]
            go_wp2_with ((refine ld_bidG rfl (.tmp 71) rfl pb (po + k * 34) (by rfl) E EW.out.1 HRK1.out ?_); simp only [Act.put, List.setIfInBounds_toArray, List.set_cons_zero, List.set_cons_succ])
            refine HBT.out.mono ?_
            rintro e w3 ⟨hok, hno, hb3⟩
            have B3 := Lib.hid hb3
            have GY3 := Lib.hid ((hb3.block _ LY1.out).trans GY1.out)
            have LY3 := Lib.hid (Nat.lt_of_lt_of_le LY1.out hb3.size)
            have HRK3 := Lib.hid (range_low HRK1.out hb3 LP1.out)
            have LP3 := Lib.hid (Nat.lt_of_lt_of_le LP1.out hb3.size)
            clear hb3 HBT
            by_cases hbo : BdOk E
            · obtain ⟨ta, tc, rfl, hown⟩ := hok hbo
              obtain ⟨D, hD⟩ : ∃ D, D = bidD E := ⟨_, rfl⟩
              have DL := Lib.hid (show D.length = 32 by rw [hD]; exact bidD_length _)
              have SC := RSum_calls (bidT E) ta tc _ w3 (Rd.of_own hown) (by rw [bidT_length E EW.out.1]; decide)
              rw [bidT_length E EW.out.1, show shaOf (bidT E) = D from hD.symm] at SC
              have HSC := Lib.hid SC
              have HD := Lib.hid hD
              have HOK := Lib.hid hbo
              clear SC hok hno hown hD hbo
              go_wp2_with fail
              refine HSC.out.mono ?_
              rintro e w4 ⟨rfl, hb4⟩
              have B4 := Lib.hid (B3.out.trans (hb4.mono B3.out.size))
              have GY4 := Lib.hid ((hb4.block _ LY3.out).trans GY3.out)
              have HRK4 := Lib.hid (range_low HRK3.out hb4 LP3.out)
              have LP4 := Lib.hid (Nat.lt_of_lt_of_le LP3.out hb4.size)
              have LY4 := Lib.hid (Nat.lt_of_lt_of_le LY3.out hb4.size)
              clear hb4 HSC
              obtain ⟨w4b, hw4b⟩ : ∃ z, z = w4.setRow Y (dV D) := ⟨_, rfl⟩
              have GY4b := Lib.hid (show w4b.heap[Y]? = some (.cells (dV D) 55 (0, 0)) by rw [hw4b]; exact setRow_heap _ _ _ _ _ _ GY4.out)
              have hYr : wr.heap.size ≤ Y := by rw [HY.out]; exact Nat.le_refl _
              have B4b : Hid (Below wr.heap.size wr w4b) := Lib.hid (by
                rw [hw4b]
                refine below_setRowW (Below.trans (show Below wr.heap.size wr w1 by rw [HW1.out]; exact (Below.refl _ _).alloc (Nat.le_refl _) _) (B4.out.mono ?_)) hYr _
                rw [HW1.out, World.size_alloc]; omega)
              have hs4b : w4b.heap.size = w4.heap.size := by rw [hw4b]; exact setRow_size _ _ _
              have hpY : pb ≠ Y := fun h => absurd HPY.out (by omega)
              have HRK4b := Lib.hid (show w4b.rangeAt pb (po + k * 34) (bL E) by rw [hw4b]; exact range_setRow_other hpY HRK4.out)
              have LP4b := Lib.hid (show pb < w4b.heap.size by rw [hs4b]; exact LP4.out)
              have LY4b := Lib.hid (show Y < w4b.heap.size by rw [hs4b]; exact LY4.out)
              have HW4b := Lib.hid hw4b
              clear hw4b hYr hs4b hpY
              have BW4 := Lib.hid (HBR.out.trans (B4b.out.mono HBR.out.size))
              have VC := Vow_calls E EW.out w4b (RO.out.at_ BW4.out)
              rw [if_pos HOK.out, ← HD.out] at VC
              have HVC := Lib.hid VC
              clear VC
              go_wp2_with (first
                | ((refine st_row rfl (.tmp 16) (.tmp 78) rfl Y D DL.out (by rfl) (by rfl) (dV Z) (dV_size ZL.out) _ GY4.out ?_); rw [← HW4b.out])
                | ((refine ld_bidG rfl (.tmp 82) rfl pb (po + k * 34) (by rfl) E EW.out.1 HRK4b.out ?_); simp only [Act.put, List.setIfInBounds_toArray, List.set_cons_zero, List.set_cons_succ]))
              refine HVC.out.mono ?_
              rintro e w5 ⟨rfl, hb5⟩
              have GY5 := Lib.hid ((hb5.block _ LY4b.out).trans GY4b.out)
              have LY5 := Lib.hid (Nat.lt_of_lt_of_le LY4b.out hb5.size)
              have B5 := Lib.hid (BW4.out.trans (hb5.mono BW4.out.size))
              clear hb5 HVC
              obtain ⟨Y2, hY2⟩ : ∃ Y, Y = w5.heap.size := ⟨_, rfl⟩
              obtain ⟨w6, hw6⟩ : ∃ z, z = w5.alloc (.cells (dV D) 55) := ⟨_, rfl⟩
              have b6 : Below w5.heap.size w5 w6 := by rw [hw6]; exact (Below.refl _ _).alloc (Nat.le_refl _) _
              have GY2 := Lib.hid (show w6.heap[Y2]? = some (.cells (dV D) 55 (0, 0)) by rw [hw6, hY2]; exact heap_alloc_new _ _)
              have GY6 := Lib.hid ((b6.block _ LY5.out).trans GY5.out)
              have B6 := Lib.hid (B5.out.trans (b6.mono B5.out.size))
              have LY26 := Lib.hid (lt_of_heap GY2.out)
              have HY2 := Lib.hid hY2
              have HW6 := Lib.hid hw6
              clear hY2 hw6 b6
              have HEC := Lib.hid (Error_nil 0 true (by decide) w6)
              go_wp2_with ((refine st_new rfl (.tmp 19) (.tmp 85) rfl D DL.out (by rfl) _ _ (by rfl) (by rfl) ?_); rw [← HY2.out, ← HW6.out])
              refine HEC.out.mono ?_
              rintro e w7 ⟨rfl, rfl⟩
              clear HEC
              have B7 := Lib.hid B6.out
              have GY27 := Lib.hid GY2.out
              have GY7 := Lib.hid GY6.out
              have BZ := Lib.hid B7.out
              go_wp2_with (first
                | ((refine ld_digG rfl (.tmp 19) rfl Y2 0 (by rfl) D DL.out (range_of_row GY27.out) ?_); simp only [Act.put, List.setIfInBounds_toArray, List.set_cons_zero, List.set_cons_succ])
                | ((refine ld_digG rfl (.tmp 16) rfl Y 0 (by rfl) D DL.out (range_of_row GY7.out) ?_); simp only [Act.put, List.setIfInBounds_toArray, List.set_cons_zero, List.set_cons_succ])
                | ((refine neq_digG rfl (.tmp 93) (.tmp 94) _ rfl D D (by rfl) (by rfl) DL.out DL.out ?_); rw [beq_self_eq_true]; simp only [Act.put, List.setIfInBounds_toArray, List.set_cons_zero, List.set_cons_succ]))
              go_roundw
              case rel => exact ⟨k + 1, hlt, by go_num, BZ.out⟩
              case measure => simp [intOf]; omega
            · have he := hno hbo
              subst he
              obtain ⟨D, hD⟩ : ∃ D, D = Z := ⟨_, rfl⟩
              have DL := Lib.hid (show D.length = 32 by rw [hD]; exact ZL.out)
              have BW4 := Lib.hid (HB1.out.trans (B3.out.mono HB1.out.size))
              have VC := Vow_calls E EW.out w3 (RO.out.at_ BW4.out)
              rw [if_neg hbo, ← HZ.out, ← hD] at VC
              have HVC := Lib.hid VC
              rw [← hD] at GY3
              clear VC hok hno hD hbo
              go_wp2_with ((refine ld_bidG rfl (.tmp 82) rfl pb (po + k * 34) (by rfl) E EW.out.1 HRK3.out ?_); simp only [Act.put, List.setIfInBounds_toArray, List.set_cons_zero, List.set_cons_succ])
              refine HVC.out.mono ?_
              rintro e w5 ⟨rfl, hb5⟩
              have GY5 := Lib.hid ((hb5.block _ LY3.out).trans GY3.out)
              have LY5 := Lib.hid (Nat.lt_of_lt_of_le LY3.out hb5.size)
              have B5 := Lib.hid (BW4.out.trans (hb5.mono BW4.out.size))
              clear hb5 HVC
              obtain ⟨Y2, hY2⟩ : ∃ Y, Y = w5.heap.size := ⟨_, rfl⟩
              obtain ⟨w6, hw6⟩ : ∃ z, z = w5.alloc (.cells (dV D) 55) := ⟨_, rfl⟩
              have b6 : Below w5.heap.size w5 w6 := by rw [hw6]; exact (Below.refl _ _).alloc (Nat.le_refl _) _
              have GY2 := Lib.hid (show w6.heap[Y2]? = some (.cells (dV D) 55 (0, 0)) by rw [hw6, hY2]; exact heap_alloc_new _ _)
              have GY6 := Lib.hid ((b6.block _ LY5.out).trans GY5.out)
              have B6 := Lib.hid (B5.out.trans (b6.mono B5.out.size))
              have LY26 := Lib.hid (lt_of_heap GY2.out)
              have HY2 := Lib.hid hY2
              have HW6 := Lib.hid hw6
              clear hY2 hw6 b6
              have HEC := Lib.hid (Error_err 2 2 true (by decide) w6 (EG.out.at_ B6.out))
              go_wp2_with ((refine st_new rfl (.tmp 19) (.tmp 85) rfl D DL.out (by rfl) _ _ (by rfl) (by rfl) ?_); rw [← HY2.out, ← HW6.out])
              refine HEC.out.mono ?_
              rintro e w7 ⟨rfl, hb7⟩
              have GY27 := Lib.hid ((hb7.block _ LY26.out).trans GY2.out)
              have GY7 := Lib.hid ((hb7.block _ (lt_of_heap GY6.out)).trans GY6.out)
              have B7 := Lib.hid (B6.out.trans (hb7.mono B6.out.size))
              clear hb7 HEC
              have BZ := Lib.hid B7.out
              go_wp2_with (first
                | ((refine ld_digG rfl (.tmp 19) rfl Y2 0 (by rfl) D DL.out (range_of_row GY27.out) ?_); simp only [Act.put, List.setIfInBounds_toArray, List.set_cons_zero, List.set_cons_succ])
                | ((refine ld_digG rfl (.tmp 16) rfl Y 0 (by rfl) D DL.out (range_of_row GY7.out) ?_); simp only [Act.put, List.setIfInBounds_toArray, List.set_cons_zero, List.set_cons_succ])
                | ((refine neq_digG rfl (.tmp 93) (.tmp 94) _ rfl D D (by rfl) (by rfl) DL.out DL.out ?_); rw [beq_self_eq_true]; simp only [Act.put, List.setIfInBounds_toArray, List.set_cons_zero, List.set_cons_succ]))
              go_roundw
              case rel => exact ⟨k + 1, hlt, by go_num, BZ.out⟩
              case measure => simp [intOf]; omega
          · obtain rfl : k = x1.length := by omega
            have HB := Lib.hid hbel
            have VC := Vow_ok 0 5 (by decide) (by decide) nz rfl wr (RO.out.at_ hbel)
            obtain ⟨D, hD⟩ : ∃ D, D = shaOf (vowText nz (beS 4 0 ++ beS 8 5)) := ⟨_, rfl⟩
            have DL := Lib.hid (show D.length = 32 by rw [hD]; exact shaOf_length _)
            have HNE := Lib.hid (show (D == Z) = false by rw [hD, HZ.out]; exact vow5_ne)
            rw [← hD, ← HZ.out] at VC
            have HVC := Lib.hid VC
            clear VC hD hbel hlt hk
            go_wp2_with ((refine wpl_bid5 rfl _ rfl (by rfl) Z HZ.out ?_); simp only [Act.put, List.setIfInBounds_toArray, List.set_cons_zero, List.set_cons_succ])
            refine HVC.out.mono ?_
            rintro e w5 ⟨rfl, hb5⟩
            have B5 := Lib.hid (HB.out.trans (hb5.mono HB.out.size))
            obtain ⟨Y2, hY2⟩ : ∃ Y, Y = w5.heap.size := ⟨_, rfl⟩
            obtain ⟨w6, hw6⟩ : ∃ z, z = w5.alloc (.cells (dV D) 55) := ⟨_, rfl⟩
            have b6 : Below w5.heap.size w5 w6 := by rw [hw6]; exact (Below.refl _ _).alloc (Nat.le_refl _) _
            have GY2 := Lib.hid (show w6.heap[Y2]? = some (.cells (dV D) 55 (0, 0)) by rw [hw6, hY2]; exact heap_alloc_new _ _)
            have LY2 := lt_of_heap GY2.out
            have B6 := Lib.hid (B5.out.trans (b6.mono B5.out.size))
            have HY2 := Lib.hid hY2
            have HW6 := Lib.hid hw6
            clear hY2 hw6 b6 hb5 HVC
            go_upto_region 27 with ((refine st_new rfl (.tmp 21) (.tmp 100) rfl D DL.out (by rfl) _ _ (by rfl) (by rfl) ?_); rw [← HY2.out, ← HW6.out])
            have nc : ∀ w', InB w6.heap.size w6 w' → Calls Tryd.prog 26 #[] w' fun e w'' => e = .returned (.agg (dV Z)) ∧ InB w6.heap.size w6 w'' := fun w' h => InB.call h (Nat.le_refl _) (by rw [HZ.out]; exact Nothing_calls w')
            have HNC := Lib.hid nc
            have FD := Lib.hid (show ∀ w', InB w6.heap.size w6 w' → w'.rangeAt Y2 0 (D.map vB) from fun w' h => h.range LY2 (range_of_row GY2.out))
            clear nc
            have hex := inB_ex w6.heap.size w6
            refine wp_region_inB w6.heap.size (by kernel_rfl) (by kernel_rfl) ?_
            repeat (first
              | (with_reducible refine quiet_dig rfl (.tmp 21) rfl (Y2) (0) (by kernel_rfl) D DL.out FD.out ?_ (by kernel_rfl); simp only [Act.put, List.setIfInBounds_toArray, List.set_cons_zero, List.set_cons_succ])
              | (with_reducible refine quiet_dig_neq rfl (.tmp 105) (.tmp 106) _ rfl D Z (by kernel_rfl) (by kernel_rfl) DL.out ZL.out ?_ (by kernel_rfl); rw [HNE.out]; simp only [Act.put, List.setIfInBounds_toArray, List.set_cons_zero, List.set_cons_succ])
              | go_big_quiet_step ((first | (intro hw'; exact HNC.out _ hw') | (intro _; rfl))))
            refine wpQuiet_nil ?_
            intro wZ hwZ
            have BZ := Lib.hid (B6.out.trans (Below.mono hwZ B6.out.size))
            clear hwZ hex
            go_wp2_with fail
            go_ret
            exact ⟨rfl, BZ.out⟩
      · have z4 : decide ((100 : Int) < (x1.length : Int)) = false := decide_eq_false (by omega)
        have z5 : decide (100 < x1.length) = false := decide_eq_false hb1
        have DC := Awarded_calls x0 HVS.out (by omega) a0 c0 _ x1 HBS.out (by omega) a1 c1 _ a2 w HR.out HRB.out
        have HDC := Lib.hid DC
        have AC := fun w' (h : Below w.heap.size w w') => (Award_calls x0 HVS.out (by omega) a0 c0 _ x1 HBS.out (by omega) a1 c1 _ a2 w' (HR.out.below h) (HRB.out.below h) (RO.out.at_ h)).mono (fun e w'' h => (⟨h.2.2.1 hn0 (by omega) (by omega), h.2.2.2⟩ : (∃ x p : Int, e = .returned (.tuple #[.int .i64 x, .int .i64 p, .nilIface]) ∧ AwardIs (cntB (hasV x0) x1) a2 x p) ∧ Below w'.heap.size w' w''))
        have HAC := Lib.hid AC
        clear DC AC hb1 hv1 hn0
        go_wp2_with fail
        refine HDC.out.mono ?_
        rintro e w2 ⟨x, p, rfl, haw, hb2⟩
        have HAW := Lib.hid haw
        have HB2 := Lib.hid hb2
        clear haw hb2 HDC
        go_wp2_with fail
        refine (HAC.out w2 HB2.out).mono ?_
        rintro e w3 ⟨⟨x', p', rfl, haw⟩, hb3⟩
        obtain ⟨rfl, rfl⟩ := award_one haw HAW.out
        have BA := Lib.hid (HB2.out.trans (hb3.mono HB2.out.size))
        clear haw hb3 HAC
        have HEC := Lib.hid (Error_nil 0 true (by decide) w3)
        go_wp2_with fail
        refine HEC.out.mono ?_
        rintro e wB ⟨rfl, rfl⟩
        clear HEC
        go_wp2_with fail
        go_loopw [14] (fun j wr => ∃ k : Nat, k ≤ x1.length ∧ j = .int .i64 k ∧ Below w.heap.size w wr) (fun j _ => x1.length - (intOf j).toNat)
        case atStart => exact ⟨0, Nat.zero_le _, rfl, BA.out⟩
        case round =>
          obtain ⟨k, hk, rfl, hbel⟩ := hrel
          by_cases hlt : k < x1.length
          · obtain ⟨pb, po, hpa, hpl, hrk⟩ := (HRB.out.below hbel).bid HBS2.out hlt
            subst hpa
            obtain ⟨E, hE⟩ : ∃ E, E = x1[k] := ⟨_, rfl⟩
            have EW := Lib.hid (show BdW E by rw [hE]; exact HBS.out _ (List.getElem_mem _))
            rw [← hE] at hrk
            obtain ⟨Y, hY⟩ : ∃ Y, Y = wr.heap.size := ⟨_, rfl⟩
            obtain ⟨w1, hw1⟩ : ∃ z, z = wr.alloc (.cells (dV Z) 55) := ⟨_, rfl⟩
            have b1 : Below wr.heap.size wr w1 := by rw [hw1]; exact (Below.refl _ _).alloc (Nat.le_refl _) _
            have GY1 := Lib.hid (show w1.heap[Y]? = some (.cells (dV Z) 55 (0, 0)) by rw [hw1, hY]; exact heap_alloc_new _ _)
            have LY1 := Lib.hid (lt_of_heap GY1.out)
            have HRK1 := Lib.hid (range_low hrk b1 hpl)
            have LP1 := Lib.hid (Nat.lt_of_lt_of_le hpl b1.size)
            have HB1 := Lib.hid (hbel.trans (b1.mono hbel.size))
            have HBT := Lib.hid (BidText_calls E EW.out w1)
            have HW1 := Lib.hid hw1
            have HY := Lib.hid hY
            have k0 : (0 : Int) ≤ (k : Int) := by omega
            have k1 : (k : Int) < (x1.length : Int) := by omega
            have HPY := Lib.hid (show pb < Y by rw [hY]; exact hpl)
            have HBR := Lib.hid hbel
            clear hE hrk hY hw1 b1 hbel hpl
            go_upto_region 18 with fail
            rw [ZT.out, ← HY.out, ← HW1.out]
            go_wp2_with ((refine ld_bidG rfl (.tmp 71) rfl pb (po + k * 34) (by rfl) E EW.out.1 HRK1.out ?_); simp only [Act.put, List.setIfInBounds_toArray, List.set_cons_zero, List.set_cons_succ])
            refine HBT.out.mono ?_
            rintro e w3 ⟨hok, hno, hb3⟩
            have B3 := Lib.hid hb3
            have GY3 := Lib.hid ((hb3.block _ LY1.out).trans GY1.out)
            have LY3 := Lib.hid (Nat.lt_of_lt_of_le LY1.out hb3.size)
            have HRK3 := Lib.hid (range_low HRK1.out hb3 LP1.out)
            have LP3 := Lib.hid (Nat.lt_of_lt_of_le LP1.out hb3.size)
            clear hb3 HBT
            by_cases hbo : BdOk E
            · obtain ⟨ta, tc, rfl, hown⟩ := hok hbo
              obtain ⟨D, hD⟩ : ∃ D, D = bidD E := ⟨_, rfl⟩
              have DL := Lib.hid (show D.length = 32 by rw [hD]; exact bidD_length _)
              have SC := RSum_calls (bidT E) ta tc _ w3 (Rd.of_own hown) (by rw [bidT_length E EW.out.1]; decide)
              rw [bidT_length E EW.out.1, show shaOf (bidT E) = D from hD.symm] at SC
              have HSC := Lib.hid SC
              have HD := Lib.hid hD
              have HOK := Lib.hid hbo
              clear SC hok hno hown hD hbo
              go_wp2_with fail
              refine HSC.out.mono ?_
              rintro e w4 ⟨rfl, hb4⟩
              have B4 := Lib.hid (B3.out.trans (hb4.mono B3.out.size))
              have GY4 := Lib.hid ((hb4.block _ LY3.out).trans GY3.out)
              have HRK4 := Lib.hid (range_low HRK3.out hb4 LP3.out)
              have LP4 := Lib.hid (Nat.lt_of_lt_of_le LP3.out hb4.size)
              have LY4 := Lib.hid (Nat.lt_of_lt_of_le LY3.out hb4.size)
              clear hb4 HSC
              obtain ⟨w4b, hw4b⟩ : ∃ z, z = w4.setRow Y (dV D) := ⟨_, rfl⟩
              have GY4b := Lib.hid (show w4b.heap[Y]? = some (.cells (dV D) 55 (0, 0)) by rw [hw4b]; exact setRow_heap _ _ _ _ _ _ GY4.out)
              have hYr : wr.heap.size ≤ Y := by rw [HY.out]; exact Nat.le_refl _
              have B4b : Hid (Below wr.heap.size wr w4b) := Lib.hid (by
                rw [hw4b]
                refine below_setRowW (Below.trans (show Below wr.heap.size wr w1 by rw [HW1.out]; exact (Below.refl _ _).alloc (Nat.le_refl _) _) (B4.out.mono ?_)) hYr _
                rw [HW1.out, World.size_alloc]; omega)
              have hs4b : w4b.heap.size = w4.heap.size := by rw [hw4b]; exact setRow_size _ _ _
              have hpY : pb ≠ Y := fun h => absurd HPY.out (by omega)
              have HRK4b := Lib.hid (show w4b.rangeAt pb (po + k * 34) (bL E) by rw [hw4b]; exact range_setRow_other hpY HRK4.out)
              have LP4b := Lib.hid (show pb < w4b.heap.size by rw [hs4b]; exact LP4.out)
              have LY4b := Lib.hid (show Y < w4b.heap.size by rw [hs4b]; exact LY4.out)
              have HW4b := Lib.hid hw4b
              clear hw4b hYr hs4b hpY
              have BW4 := Lib.hid (HBR.out.trans (B4b.out.mono HBR.out.size))
              have VC := Vow_calls E EW.out w4b (RO.out.at_ BW4.out)
              rw [if_pos HOK.out, ← HD.out] at VC
              have HVC := Lib.hid VC
              clear VC
              go_wp2_with (first
                | ((refine st_row rfl (.tmp 16) (.tmp 78) rfl Y D DL.out (by rfl) (by rfl) (dV Z) (dV_size ZL.out) _ GY4.out ?_); rw [← HW4b.out])
                | ((refine ld_bidG rfl (.tmp 82) rfl pb (po + k * 34) (by rfl) E EW.out.1 HRK4b.out ?_); simp only [Act.put, List.setIfInBounds_toArray, List.set_cons_zero, List.set_cons_succ]))
              refine HVC.out.mono ?_
              rintro e w5 ⟨rfl, hb5⟩
              have GY5 := Lib.hid ((hb5.block _ LY4b.out).trans GY4b.out)
              have LY5 := Lib.hid (Nat.lt_of_lt_of_le LY4b.out hb5.size)
              have B5 := Lib.hid (BW4.out.trans (hb5.mono BW4.out.size))
              clear hb5 HVC
              obtain ⟨Y2, hY2⟩ : ∃ Y, Y = w5.heap.size := ⟨_, rfl⟩
              obtain ⟨w6, hw6⟩ : ∃ z, z = w5.alloc (.cells (dV D) 55) := ⟨_, rfl⟩
              have b6 : Below w5.heap.size w5 w6 := by rw [hw6]; exact (Below.refl _ _).alloc (Nat.le_refl _) _
              have GY2 := Lib.hid (show w6.heap[Y2]? = some (.cells (dV D) 55 (0, 0)) by rw [hw6, hY2]; exact heap_alloc_new _ _)
              have GY6 := Lib.hid ((b6.block _ LY5.out).trans GY5.out)
              have B6 := Lib.hid (B5.out.trans (b6.mono B5.out.size))
              have LY26 := Lib.hid (lt_of_heap GY2.out)
              have HY2 := Lib.hid hY2
              have HW6 := Lib.hid hw6
              clear hY2 hw6 b6
              have HEC := Lib.hid (Error_nil 0 true (by decide) w6)
              go_wp2_with ((refine st_new rfl (.tmp 19) (.tmp 85) rfl D DL.out (by rfl) _ _ (by rfl) (by rfl) ?_); rw [← HY2.out, ← HW6.out])
              refine HEC.out.mono ?_
              rintro e w7 ⟨rfl, rfl⟩
              clear HEC
              have B7 := Lib.hid B6.out
              have GY27 := Lib.hid GY2.out
              have GY7 := Lib.hid GY6.out
              have BZ := Lib.hid B7.out
              go_wp2_with (first
                | ((refine ld_digG rfl (.tmp 19) rfl Y2 0 (by rfl) D DL.out (range_of_row GY27.out) ?_); simp only [Act.put, List.setIfInBounds_toArray, List.set_cons_zero, List.set_cons_succ])
                | ((refine ld_digG rfl (.tmp 16) rfl Y 0 (by rfl) D DL.out (range_of_row GY7.out) ?_); simp only [Act.put, List.setIfInBounds_toArray, List.set_cons_zero, List.set_cons_succ])
                | ((refine neq_digG rfl (.tmp 93) (.tmp 94) _ rfl D D (by rfl) (by rfl) DL.out DL.out ?_); rw [beq_self_eq_true]; simp only [Act.put, List.setIfInBounds_toArray, List.set_cons_zero, List.set_cons_succ]))
              go_roundw
              case rel => exact ⟨k + 1, hlt, by go_num, BZ.out⟩
              case measure => simp [intOf]; omega
            · have he := hno hbo
              subst he
              obtain ⟨D, hD⟩ : ∃ D, D = Z := ⟨_, rfl⟩
              have DL := Lib.hid (show D.length = 32 by rw [hD]; exact ZL.out)
              have BW4 := Lib.hid (HB1.out.trans (B3.out.mono HB1.out.size))
              have VC := Vow_calls E EW.out w3 (RO.out.at_ BW4.out)
              rw [if_neg hbo, ← HZ.out, ← hD] at VC
              have HVC := Lib.hid VC
              rw [← hD] at GY3
              clear VC hok hno hD hbo
              go_wp2_with ((refine ld_bidG rfl (.tmp 82) rfl pb (po + k * 34) (by rfl) E EW.out.1 HRK3.out ?_); simp only [Act.put, List.setIfInBounds_toArray, List.set_cons_zero, List.set_cons_succ])
              refine HVC.out.mono ?_
              rintro e w5 ⟨rfl, hb5⟩
              have GY5 := Lib.hid ((hb5.block _ LY3.out).trans GY3.out)
              have LY5 := Lib.hid (Nat.lt_of_lt_of_le LY3.out hb5.size)
              have B5 := Lib.hid (BW4.out.trans (hb5.mono BW4.out.size))
              clear hb5 HVC
              obtain ⟨Y2, hY2⟩ : ∃ Y, Y = w5.heap.size := ⟨_, rfl⟩
              obtain ⟨w6, hw6⟩ : ∃ z, z = w5.alloc (.cells (dV D) 55) := ⟨_, rfl⟩
              have b6 : Below w5.heap.size w5 w6 := by rw [hw6]; exact (Below.refl _ _).alloc (Nat.le_refl _) _
              have GY2 := Lib.hid (show w6.heap[Y2]? = some (.cells (dV D) 55 (0, 0)) by rw [hw6, hY2]; exact heap_alloc_new _ _)
              have GY6 := Lib.hid ((b6.block _ LY5.out).trans GY5.out)
              have B6 := Lib.hid (B5.out.trans (b6.mono B5.out.size))
              have LY26 := Lib.hid (lt_of_heap GY2.out)
              have HY2 := Lib.hid hY2
              have HW6 := Lib.hid hw6
              clear hY2 hw6 b6
              have HEC := Lib.hid (Error_err 2 2 true (by decide) w6 (EG.out.at_ B6.out))
              go_wp2_with ((refine st_new rfl (.tmp 19) (.tmp 85) rfl D DL.out (by rfl) _ _ (by rfl) (by rfl) ?_); rw [← HY2.out, ← HW6.out])
              refine HEC.out.mono ?_
              rintro e w7 ⟨rfl, hb7⟩
              have GY27 := Lib.hid ((hb7.block _ LY26.out).trans GY2.out)
              have GY7 := Lib.hid ((hb7.block _ (lt_of_heap GY6.out)).trans GY6.out)
              have B7 := Lib.hid (B6.out.trans (hb7.mono B6.out.size))
              clear hb7 HEC
              have BZ := Lib.hid B7.out
              go_wp2_with (first
                | ((refine ld_digG rfl (.tmp 19) rfl Y2 0 (by rfl) D DL.out (range_of_row GY27.out) ?_); simp only [Act.put, List.setIfInBounds_toArray, List.set_cons_zero, List.set_cons_succ])
                | ((refine ld_digG rfl (.tmp 16) rfl Y 0 (by rfl) D DL.out (range_of_row GY7.out) ?_); simp only [Act.put, List.setIfInBounds_toArray, List.set_cons_zero, List.set_cons_succ])
                | ((refine neq_digG rfl (.tmp 93) (.tmp 94) _ rfl D D (by rfl) (by rfl) DL.out DL.out ?_); rw [beq_self_eq_true]; simp only [Act.put, List.setIfInBounds_toArray, List.set_cons_zero, List.set_cons_succ]))
              go_roundw
              case rel => exact ⟨k + 1, hlt, by go_num, BZ.out⟩
              case measure => simp [intOf]; omega
          · obtain rfl : k = x1.length := by omega
            have HB := Lib.hid hbel
            have VC := Vow_ok 0 5 (by decide) (by decide) nz rfl wr (RO.out.at_ hbel)
            obtain ⟨D, hD⟩ : ∃ D, D = shaOf (vowText nz (beS 4 0 ++ beS 8 5)) := ⟨_, rfl⟩
            have DL := Lib.hid (show D.length = 32 by rw [hD]; exact shaOf_length _)
            have HNE := Lib.hid (show (D == Z) = false by rw [hD, HZ.out]; exact vow5_ne)
            rw [← hD, ← HZ.out] at VC
            have HVC := Lib.hid VC
            clear VC hD hbel hlt hk
            go_wp2_with ((refine wpl_bid5 rfl _ rfl (by rfl) Z HZ.out ?_); simp only [Act.put, List.setIfInBounds_toArray, List.set_cons_zero, List.set_cons_succ])
            refine HVC.out.mono ?_
            rintro e w5 ⟨rfl, hb5⟩
            have B5 := Lib.hid (HB.out.trans (hb5.mono HB.out.size))
            obtain ⟨Y2, hY2⟩ : ∃ Y, Y = w5.heap.size := ⟨_, rfl⟩
            obtain ⟨w6, hw6⟩ : ∃ z, z = w5.alloc (.cells (dV D) 55) := ⟨_, rfl⟩
            have b6 : Below w5.heap.size w5 w6 := by rw [hw6]; exact (Below.refl _ _).alloc (Nat.le_refl _) _
            have GY2 := Lib.hid (show w6.heap[Y2]? = some (.cells (dV D) 55 (0, 0)) by rw [hw6, hY2]; exact heap_alloc_new _ _)
            have LY2 := lt_of_heap GY2.out
            have B6 := Lib.hid (B5.out.trans (b6.mono B5.out.size))
            have HY2 := Lib.hid hY2
            have HW6 := Lib.hid hw6
            clear hY2 hw6 b6 hb5 HVC
            go_upto_region 27 with ((refine st_new rfl (.tmp 21) (.tmp 100) rfl D DL.out (by rfl) _ _ (by rfl) (by rfl) ?_); rw [← HY2.out, ← HW6.out])
            have nc : ∀ w', InB w6.heap.size w6 w' → Calls Tryd.prog 26 #[] w' fun e w'' => e = .returned (.agg (dV Z)) ∧ InB w6.heap.size w6 w'' := fun w' h => InB.call h (Nat.le_refl _) (by rw [HZ.out]; exact Nothing_calls w')
            have HNC := Lib.hid nc
            have FD := Lib.hid (show ∀ w', InB w6.heap.size w6 w' → w'.rangeAt Y2 0 (D.map vB) from fun w' h => h.range LY2 (range_of_row GY2.out))
            clear nc
            have hex := inB_ex w6.heap.size w6
            refine wp_region_inB w6.heap.size (by kernel_rfl) (by kernel_rfl) ?_
            repeat (first
              | (with_reducible refine quiet_dig rfl (.tmp 21) rfl (Y2) (0) (by kernel_rfl) D DL.out FD.out ?_ (by kernel_rfl); simp only [Act.put, List.setIfInBounds_toArray, List.set_cons_zero, List.set_cons_succ])
              | (with_reducible refine quiet_dig_neq rfl (.tmp 105) (.tmp 106) _ rfl D Z (by kernel_rfl) (by kernel_rfl) DL.out ZL.out ?_ (by kernel_rfl); rw [HNE.out]; simp only [Act.put, List.setIfInBounds_toArray, List.set_cons_zero, List.set_cons_succ])
              | go_big_quiet_step ((first | (intro hw'; exact HNC.out _ hw') | (intro _; rfl))))
            refine wpQuiet_nil ?_
            intro wZ hwZ
            have BZ := Lib.hid (B6.out.trans (Below.mono hwZ B6.out.size))
            clear hwZ hex
            go_wp2_with fail
            go_ret
            exact ⟨rfl, BZ.out⟩

set_option maxRecDepth 100000 in
theorem lifted (os : Os) (started : os.Started) (H : Type) (enc : TypeId × Value → H) :
    ReturnsInHanded {} Tryd.checked os 6 .any (fun w args => (Rows.bidAwardsSpec.pre enc Tryd.prog Tryd.f6 Rows.bidAwardsRow.domain false w args ∧ laidMetH Tryd.prog Laid.list w) ∧ sizedMet enc Tryd.prog Tryd.f6 (OpenSpec.ofChange Rows.bidAwardsSpec) false w args) (Rows.bidAwardsSpec.post enc Tryd.prog Tryd.f6 false true false false) := by
  refine returnsInHanded_of_change_and (C := Tryd.checked) (X := fun w _ => laidMetH Tryd.prog Laid.list w) (fun _ _ _ hh h => h.of_heap hh) Laid.own started (by kernel_rfl) Tryd.func6
    (ChangeSpec.witness_at (enc := enc) (C := Tryd.checked) (os := os) (X := fun w _ => laidMetH Tryd.prog Laid.list w) false (laidWorld os) #[.slice none 0 0, .slice none 0 0, .int .i64 0] 8 rfl (by kernel_rfl) (by kernel_rfl) (by kernel_rfl) (by kernel_rfl) (by kernel_rfl) (laidWorld_met os _)) ?_
  intro W base args ds gs before hval0 hW _ hsz hL _
  have hro := rounds_of_laid hL
  have hg := handle_of_laid hL
  have hval : ∀ (j : Nat) t v, Tryd.f6.params[j]? = some t → args[j]? = some v → Value.okWide Tryd.prog W .any base t v := hval0
  have hW' := hW
  obtain ⟨p, q, hA0, hV, rfl, hfz, hnd⟩ := hW
  have hA : DataW.TrodAll enc Tryd.prog W 0 (fun _ => true) true Tryd.f6.params.toList args.toList ds p := hA0
  rw [Tryd.params6] at hA hval
  obtain ⟨v0, vs0, d0, ds0, p0, q0, hargs, rfl, rfl, h0, r0⟩ := trodAll_cons hA
  obtain ⟨v1, vs1, d1, ds1, p1, q1, rfl, rfl, rfl, h1, r1⟩ := trodAll_cons r0
  obtain ⟨v2, vs2, d2, ds2, p2, q2, rfl, rfl, rfl, h2, r2⟩ := trodAll_cons r1
  obtain ⟨rfl, rfl, rfl⟩ := trodAll_nil r2
  obtain rfl : args = #[v0, v1, v2] := by cases args; simp_all
  obtain ⟨rfl, rfl⟩ := trodVars_none hV
  have k0 := h0
  have lt0 : ∀ x ∈ p0, x.block < W.heap.size := by obtain ⟨m, hm⟩ := k0; exact DataW.trod_lt m _ _ _ hm
  obtain ⟨x0, a0, c0, e0, rfl, g0, g_0, n0, r_0⟩ := open_digests Tryd.underlying48 Tryd.underlying55 Tryd.underlying5 (by kernel_rfl) (by kernel_rfl) (hval 0 48 v0 rfl rfl) h0
  have l0 : x0.length * 32 ≤ 140737488351232 := by have := trod_len (B := reachBytes) Tryd.underlying48 h0 (fun n hn => of_decide_eq_true (List.all_eq_true.1 hsz n (DataW.weights_mem_each (j := 0) (by first | rfl | kernel_rfl) rfl n hn))); rw [show Tryd.prog.bytesOf 55 = 32 by kernel_rfl] at this; exact this
  have k1 := h1
  have lt1 : ∀ x ∈ p1, x.block < W.heap.size := by obtain ⟨m, hm⟩ := k1; exact DataW.trod_lt m _ _ _ hm
  obtain ⟨x1, a1, c1, e1, rfl, l1, m1, n1, r_1⟩ := open_bids Tryd.underlying49 Tryd.underlying59 Tryd.underlying3 Tryd.underlying3 Tryd.underlying55 Tryd.underlying5 (by kernel_rfl) (by kernel_rfl) (by kernel_rfl) (by kernel_rfl) (by kernel_rfl) rfl rfl rfl (hval 1 49 v1 rfl rfl) h1
  have k2 := h2
  have lt2 : ∀ x ∈ p2, x.block < W.heap.size := by obtain ⟨m, hm⟩ := k2; exact DataW.trod_lt m _ _ _ hm
  obtain ⟨a2, rfl, _, _, w2⟩ := open_int Tryd.underlying3 (hval 2 3 v2 rfl rfl) h2
  have b2 := bounds_i64 w2
  clear hA0 hval0
  refine (walk x0 a0 c0 e0 x1 a1 c1 e1 a2 W l0 n0 r_0 l1 m1 n1 r_1 b2 hro hg).mono fun e W' ⟨he, bel⟩ => ?_
  subst he
  exact ⟨_, rfl, _, _, _, [], _, [], hW', trodAll_mk1 (shut_bool Tryd.underlying4 _), (trodAll_cons_mk (Below.trod Laid.laidOut (by kernel_rfl) (of_decide_eq_true (by kernel_rfl)) k0 bel lt0) (trodAll_cons_mk (Below.trod Laid.laidOut (by kernel_rfl) (of_decide_eq_true (by kernel_rfl)) k1 bel lt1) (trodAll_cons_mk (Below.trod Laid.laidOut (by kernel_rfl) (of_decide_eq_true (by kernel_rfl)) k2 bel lt2) trodAll_mk0))), rfl, bel.frame _, fun h => by cases h⟩

theorem over : Rows.bidAwardsRow.holds Tryd.pinned (OpenSpec.ofChange Rows.bidAwardsSpec) :=
  OpenClaim.holds_of_wide 6 Tryd.f6 rfl rfl rfl rfl rfl rfl rfl ⟨rfl, rfl, rfl, rfl, rfl⟩ rfl rfl rfl rfl rfl (by kernel_rfl) Tryd.func6 (by kernel_rfl)
    (of_decide_eq_true (by kernel_rfl)) (by unfold Func.isWrapper; first | (rw [if_pos (by decide +kernel)]; kernel_rfl) | (rw [if_neg (by decide +kernel)]; exact ⟨rfl, rfl⟩))
    (fun os started H enc _ => lifted os started H enc)

theorem proved : Rows.BidAwardsCardSaid :=
  Claim7.holds_tied_plain_at .later [] [.data, .handle] true (true, "4f0e9677fe1ccb776bf052845ca0f76ca72d0c0d325736eacb132d69b7600c21") true
    over (fun _ h => by cases h) (by kernel_rfl) (fun _ h => by cases h) bidAwards_row_tie rfl ⟨rfl, rfl⟩ (by kernel_rfl) rfl
    (fun f fn hf hfn => by
      obtain rfl : f = 6 := Option.some.inj ((show Tryd.prog.funcNamed "oathbook/oathbooklaw4.BidAwards" = some 6 by kernel_rfl).symm.trans hf) |>.symm
      obtain rfl : fn = Tryd.f6 := (Option.some.inj (Tryd.func6.symm.trans hfn)).symm
      exact ⟨by kernel_rfl, stand_of_all (by kernel_rfl)⟩)
    (by kernel_rfl)
#print axioms proved
end bidAwards
end Go.Proofs.YteikbbdkpeecaaaDoor
