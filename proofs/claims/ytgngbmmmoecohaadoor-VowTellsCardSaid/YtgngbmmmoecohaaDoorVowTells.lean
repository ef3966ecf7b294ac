/- A vow is told as the document says: its digest, and whether it is kept, for any salt, any bytes and any digest. -/
import Derived.Test.YtgngbmmmoecohaaDoorRows
import Derived.Test.YtgngbmmmoecohaaDoorVow
import Derived.Test.YtgngbmmmoecohaaDoorLaidR
import Derived.Test.YtgngbmmmoecohaaDoorDig
import Derived.Test.YtgngbmmmoecohaaDoorWeigh
import Derived.WalkKit
import Derived.ProofKit
import Derived.OpenShut
import Derived.ShutString
import Derived.ChangeOld
import Derived.Below
namespace Go.Proofs.YtgngbmmmoecohaaDoor
open Go.ChangeShapes Go.WideShapes Go.ChangeAt Go.RowKit
open Go.ChangeMaps (open_string shut_string)
set_option linter.unusedVariables false
namespace vowTells

-- HOLE: the walk
set_option maxRecDepth 20000 in
set_option maxHeartbeats 4000000 in
theorem walk (x0 : List UInt8) (x1 : List UInt8) (a1 : Option Addr) (c1 e1 : Nat) (x2 : List UInt8) (w : World) (n0 : x0.length = 32) (l1 : x1.length ≤ 140737488351232) (r1 : Rd w a1 e1 (x1.map vB)) (n2 : x2.length = 32) (hro : RoundsAt w) :
    Calls Tryd.prog 3 #[.agg (dV x0), .slice a1 x1.length c1, .agg (dV x2)] w fun e w' => e = .returned (.bool true) ∧ Below w.heap.size w w' := by
  obtain ⟨H, hH⟩ : ∃ H, H = w.heap.size := ⟨_, rfl⟩
  obtain ⟨w0, hw0⟩ : ∃ x, x = w.alloc (.cells (dV x0) 23) := ⟨_, rfl⟩
  obtain ⟨w1, hw1⟩ : ∃ x, x = w0.alloc (.cells (dV x2) 23) := ⟨_, rfl⟩
  have q0 : w0.heap.size = H + 1 := by rw [hw0, hH]; exact World.size_alloc _ _
  have q1 : w1.heap.size = H + 1 + 1 := by rw [hw1, World.size_alloc, q0]
  have b0 : Below H w w0 := by rw [hw0, hH]; exact (Below.refl _ _).alloc (Nat.le_refl _) _
  have b01 : Below (H + 1) w0 w1 := by rw [hw1, ← q0]; exact (Below.refl _ _).alloc (Nat.le_refl _) _
  have b1 : Below H w w1 := b0.trans (b01.mono (by omega))
  have g0 : w1.heap[H]? = some (.cells (dV x0) 23 (0, 0)) := by
    have g : w0.heap[H]? = some (.cells (dV x0) 23 (0, 0)) := by rw [hw0, hH]; exact heap_alloc_new _ _
    exact (b01.block _ (by omega)).trans g
  have g2 : w1.heap[H + 1]? = some (.cells (dV x2) 23 (0, 0)) := by rw [hw1, ← q0]; exact heap_alloc_new _ _
  have rr : Rd w1 a1 e1 (x1.map vB) := r1.below (by rw [← hH]; exact b1)
  have ro : RoundsAt w1 := hro.at_ (by rw [← hH]; exact b1)
  have VT := VowText_calls x0 n0 x1 a1 c1 e1 w1 rr l1
  have hvl := vowText_length x0 x1 n0
  have HW0 := Lib.hid hw0
  have HW1 := Lib.hid hw1
  have HH := Lib.hid hH
  have N0 := Lib.hid n0
  have N2 := Lib.hid n2
  have G0 := Lib.hid g0
  have G2 := Lib.hid g2
  have RR := Lib.hid rr
  have RO := Lib.hid ro
  have B1 := Lib.hid b1
  have HVT := Lib.hid VT
  have HVL := Lib.hid hvl
  have hH1 : H + 1 < w1.heap.size := by omega
  clear q0 q1 b0 b01 b1 g0 g2 rr ro VT hvl hw0 hw1 hH n0 n2 r1 hro
  go_enter Tryd.func3, Tryd.ntmps3
  go_wp2_with (first | (rw [← HH.out, ← HW0.out, ← HW1.out]; refine ld_row rfl (.tmp 3) rfl H (by rfl) x0 N0.out _ _ G0.out ?_))
  refine HVT.out.mono ?_
  rintro e w2 ⟨av2, cp2, rfl, hown2, hb2⟩
  have SC := RSum_calls (vowText x0 x1) av2 cp2 _ w2 (Rd.of_own hown2) (by rw [HVL.out]; omega)
  have HSC := Lib.hid SC
  have HB2 := Lib.hid hb2
  clear HVT SC hown2 hb2
  go_wp2_with fail
  refine HSC.out.mono ?_
  rintro e w3 ⟨rfl, hb3⟩
  have b13 : Below w1.heap.size w1 w3 := HB2.out.trans (hb3.mono HB2.out.size)
  have hs3 := b13.size
  obtain ⟨D, hD⟩ : ∃ D, D = shaOf (vowText x0 x1) := ⟨_, rfl⟩
  have hDl : D.length = 32 := by rw [hD]; exact shaOf_length _
  rw [← hD]
  obtain ⟨w4, hw4⟩ : ∃ x, x = w3.alloc (.cells (dV D) 23) := ⟨_, rfl⟩
  obtain ⟨X, hX⟩ : ∃ X, X = w3.heap.size := ⟨_, rfl⟩
  have gX : w4.heap[X]? = some (.cells (dV D) 23 (0, 0)) := by rw [hw4, hX]; exact heap_alloc_new _ _
  have b14 : Below w1.heap.size w1 w4 := by rw [hw4]; exact b13.alloc hs3 _
  have g0 := (b14.block H (by omega)).trans G0.out
  have g2 := (b14.block (H + 1) (by omega)).trans G2.out
  have r4 := RR.out.below b14
  have ro4 := RO.out.at_ b14
  have b4 : Below H w w4 := B1.out.trans (b14.mono (by omega))
  have hX4 : X < w4.heap.size := lt_of_heap gX
  have hH4 : H + 1 < w4.heap.size := Nat.lt_of_lt_of_le hH1 b14.size
  have SL : ∀ w', InB w4.heap.size w4 w' → Calls Tryd.prog 16 #[.agg (dV x0), .slice a1 x1.length c1] w' fun e w'' => e = .returned (.agg (dV D)) ∧ InB w4.heap.size w4 w'' :=
    fun w' h => InB.call h (Nat.le_refl _) (by rw [hD]; exact Seal_calls x0 N0.out x1 a1 c1 e1 w' (r4.below h) l1 (ro4.at_ h))
  have OC : ∀ (v : List UInt8), v.length = 32 → ∀ w', InB w4.heap.size w4 w' → Calls Tryd.prog 17 #[.agg (dV v), .agg (dV x0), .slice a1 x1.length c1] w' fun e w'' => e = .returned (.bool (v == D)) ∧ InB w4.heap.size w4 w'' :=
    fun v hv w' h => InB.call h (Nat.le_refl _) (by rw [hD]; exact Open_calls v hv x0 N0.out x1 a1 c1 e1 w' (r4.below h) l1 (ro4.at_ h))
  have O1 := OC x2 N2.out
  have O2 := OC D hDl
  have hDD : (D == D) = true := by simp
  rw [hDD] at O2
  obtain ⟨q, hq⟩ : ∃ q, q = (x2 == D) := ⟨_, rfl⟩
  rw [← hq] at O1
  have HQ := Lib.hid hq
  have HSL := Lib.hid SL
  have HO1 := Lib.hid O1
  have HO2 := Lib.hid O2
  have HDD := Lib.hid hDD
  have HDL := Lib.hid hDl
  have HX := Lib.hid hX
  have HW4 := Lib.hid hw4
  have GX := Lib.hid gX
  have F0 := Lib.hid g0
  have F2 := Lib.hid g2
  have B4 := Lib.hid b4
  have hex := inB_ex w4.heap.size w4
  clear hq SL O1 O2 OC hDD hDl hX hw4 gX g0 g2 b4 b14 b13 r4 ro4 HSC HB2 RR RO hD hb3 hs3
  go_wp2_with (first | (rw [← HX.out]; refine st_new rfl (.tmp 7) (.tmp 11) rfl D HDL.out (by rfl) _ _ (by rfl) (by rw [← HX.out]; rfl) ?_; rw [← HW4.out]))
  refine wp_region_inB w4.heap.size (by kernel_rfl) (by kernel_rfl) ?_
  refine quiet_dig rfl (.tmp 3) rfl (H) 0 (by rfl) x0 N0.out (fun w' hw' => hw'.range (by omega) (range_of_row F0.out)) ?_
  simp only [Act.put, List.setIfInBounds_toArray, List.set_cons_zero, List.set_cons_succ]
  go_big_quiet_step ((intro _; rfl))
  go_big_quiet_step ((intro hw'; exact HSL.out _ hw'))
  refine quiet_dig rfl (.tmp 7) rfl (X) 0 (by rfl) D HDL.out (fun w' hw' => hw'.range (by omega) (range_of_row GX.out)) ?_
  simp only [Act.put, List.setIfInBounds_toArray, List.set_cons_zero, List.set_cons_succ]
  refine quiet_dig_eq rfl (.tmp 14) (.tmp 15) _ rfl D D (by rfl) (by rfl) HDL.out HDL.out ?_
  rw [HDD.out]
  simp only [Act.put, List.setIfInBounds_toArray, List.set_cons_zero, List.set_cons_succ]
  go_big_quiet_step ((intro _; rfl))
  refine quiet_dig rfl (.tmp 5) rfl (H + 1) 0 (by rfl) x2 N2.out (fun w' hw' => hw'.range (by omega) (range_of_row F2.out)) ?_
  simp only [Act.put, List.setIfInBounds_toArray, List.set_cons_zero, List.set_cons_succ]
  refine quiet_dig rfl (.tmp 3) rfl (H) 0 (by rfl) x0 N0.out (fun w' hw' => hw'.range (by omega) (range_of_row F0.out)) ?_
  simp only [Act.put, List.setIfInBounds_toArray, List.set_cons_zero, List.set_cons_succ]
  go_big_quiet_step ((intro _; rfl))
  go_big_quiet_step ((intro hw'; exact HO1.out _ hw'))
  refine quiet_dig rfl (.tmp 5) rfl (H + 1) 0 (by rfl) x2 N2.out (fun w' hw' => hw'.range (by omega) (range_of_row F2.out)) ?_
  simp only [Act.put, List.setIfInBounds_toArray, List.set_cons_zero, List.set_cons_succ]
  refine quiet_dig rfl (.tmp 7) rfl (X) 0 (by rfl) D HDL.out (fun w' hw' => hw'.range (by omega) (range_of_row GX.out)) ?_
  simp only [Act.put, List.setIfInBounds_toArray, List.set_cons_zero, List.set_cons_succ]
  refine quiet_dig_eq rfl (.tmp 22) (.tmp 23) _ rfl x2 D (by rfl) (by rfl) N2.out HDL.out ?_
  rw [← HQ.out]
  simp only [Act.put, List.setIfInBounds_toArray, List.set_cons_zero, List.set_cons_succ]
  go_big_quiet_step ((intro _; rfl))
  go_big_quiet_step ((intro _; rfl))
  go_big_quiet_step ((intro _; rfl))
  refine quiet_dig rfl (.tmp 7) rfl (X) 0 (by rfl) D HDL.out (fun w' hw' => hw'.range (by omega) (range_of_row GX.out)) ?_
  simp only [Act.put, List.setIfInBounds_toArray, List.set_cons_zero, List.set_cons_succ]
  refine quiet_dig rfl (.tmp 3) rfl (H) 0 (by rfl) x0 N0.out (fun w' hw' => hw'.range (by omega) (range_of_row F0.out)) ?_
  simp only [Act.put, List.setIfInBounds_toArray, List.set_cons_zero, List.set_cons_succ]
  go_big_quiet_step ((intro _; rfl))
  go_big_quiet_step ((intro hw'; exact HO2.out _ hw'))
  go_big_quiet_step ((intro _; rfl))
  go_big_quiet_step ((intro _; rfl))
  refine wpQuiet_nil ?_
  intro w5 hw5
  have B5 := Lib.hid (B4.out.trans (Below.mono hw5 (by omega)))
  go_wp2_with fail
  go_ret
  exact ⟨rfl, by rw [← HH.out]; exact B5.out⟩

set_option maxRecDepth 100000 in
theorem lifted (os : Os) (started : os.Started) (H : Type) (enc : TypeId × Value → H) :
    ReturnsInHanded {} Tryd.checked os 3 .any (fun w args => (Rows.vowTellsSpec.pre enc Tryd.prog Tryd.f3 Rows.vowTellsRow.domain false w args ∧ laidMetH Tryd.prog Laid.list w) ∧ sizedMet enc Tryd.prog Tryd.f3 (OpenSpec.ofChange Rows.vowTellsSpec) false w args) (Rows.vowTellsSpec.post enc Tryd.prog Tryd.f3 false true false false) := by
  refine returnsInHanded_of_change_and (C := Tryd.checked) (X := fun w _ => laidMetH Tryd.prog Laid.list w) (fun _ _ _ hh h => h.of_heap hh) Laid.own started (by kernel_rfl) Tryd.func3
    (ChangeSpec.witness_at (enc := enc) (C := Tryd.checked) (os := os) (X := fun w _ => laidMetH Tryd.prog Laid.list w) false (laidWorld os) #[.agg #[.int .u8 0, .int .u8 0, .int .u8 0, .int .u8 0, .int .u8 0, .int .u8 0, .int .u8 0, .int .u8 0, .int .u8 0, .int .u8 0, .int .u8 0, .int .u8 0, .int .u8 0, .int .u8 0, .int .u8 0, .int .u8 0, .int .u8 0, .int .u8 0, .int .u8 0, .int .u8 0, .int .u8 0, .int .u8 0, .int .u8 0, .int .u8 0, .int .u8 0, .int .u8 0, .int .u8 0, .int .u8 0, .int .u8 0, .int .u8 0, .int .u8 0, .int .u8 0], .slice none 0 0, .agg #[.int .u8 0, .int .u8 0, .int .u8 0, .int .u8 0, .int .u8 0, .int .u8 0, .int .u8 0, .int .u8 0, .int .u8 0, .int .u8 0, .int .u8 0, .int .u8 0, .int .u8 0, .int .u8 0, .int .u8 0, .int .u8 0, .int .u8 0, .int .u8 0, .int .u8 0, .int .u8 0, .int .u8 0, .int .u8 0, .int .u8 0, .int .u8 0, .int .u8 0, .int .u8 0, .int .u8 0, .int .u8 0, .int .u8 0, .int .u8 0, .int .u8 0, .int .u8 0]] 8 rfl (by kernel_rfl) (by kernel_rfl) (by kernel_rfl) (by kernel_rfl) (by kernel_rfl) (laidWorld_met os _)) ?_
  intro W base args ds gs before hval0 hW _ hsz hL _
  have hro := rounds_of_laid hL
  have hval : ∀ (j : Nat) t v, Tryd.f3.params[j]? = some t → args[j]? = some v → Value.okWide Tryd.prog W .any base t v := hval0
  have hW' := hW
  obtain ⟨p, q, hA0, hV, rfl, hfz, hnd⟩ := hW
  have hA : DataW.TrodAll enc Tryd.prog W 0 (fun _ => true) true Tryd.f3.params.toList args.toList ds p := hA0
  rw [Tryd.params3] at hA hval
  obtain ⟨v0, vs0, d0, ds0, p0, q0, hargs, rfl, rfl, h0, r0⟩ := trodAll_cons hA
  obtain ⟨v1, vs1, d1, ds1, p1, q1, rfl, rfl, rfl, h1, r1⟩ := trodAll_cons r0
  obtain ⟨v2, vs2, d2, ds2, p2, q2, rfl, rfl, rfl, h2, r2⟩ := trodAll_cons r1
  obtain ⟨rfl, rfl, rfl⟩ := trodAll_nil r2
  obtain rfl : args = #[v0, v1, v2] := by cases args; simp_all
  obtain ⟨rfl, rfl⟩ := trodVars_none hV
  have k0 := h0
  have lt0 : ∀ x ∈ p0, x.block < W.heap.size := by obtain ⟨m, hm⟩ := k0; exact DataW.trod_lt m _ _ _ hm
  obtain ⟨x0, n0, rfl⟩ := open_digest Tryd.underlying23 Tryd.underlying5 (by kernel_rfl) (by kernel_rfl) (hval 0 23 v0 rfl rfl) h0
  have k1 := h1
  have lt1 : ∀ x ∈ p1, x.block < W.heap.size := by obtain ⟨m, hm⟩ := k1; exact DataW.trod_lt m _ _ _ hm
  obtain ⟨x1, a1, c1, e1, rfl, l_1, r_1⟩ := open_bytes Tryd.underlying24 Tryd.underlying5 (by kernel_rfl) (hval 1 24 v1 rfl rfl) h1
  have l1 : x1.length ≤ 140737488351232 := by have := trod_len (B := reachBytes) Tryd.underlying24 h1 (fun n hn => of_decide_eq_true (List.all_eq_true.1 hsz n (DataW.weights_mem_each (j := 1) (by first | rfl | kernel_rfl) rfl n hn))); rw [show Tryd.prog.bytesOf 5 = 1 by kernel_rfl, Nat.mul_one] at this; exact this
  have k2 := h2
  have lt2 : ∀ x ∈ p2, x.block < W.heap.size := by obtain ⟨m, hm⟩ := k2; exact DataW.trod_lt m _ _ _ hm
  obtain ⟨x2, n2, rfl⟩ := open_digest Tryd.underlying23 Tryd.underlying5 (by kernel_rfl) (by kernel_rfl) (hval 2 23 v2 rfl rfl) h2
  clear hA0 hval0
  refine (walk x0 x1 a1 c1 e1 x2 W n0 l1 r_1 n2 hro).mono fun e W' ⟨he, bel⟩ => ?_
  subst he
  exact ⟨_, rfl, _, _, _, [], _, [], hW', trodAll_mk1 (shut_bool Tryd.underlying4 _), (trodAll_cons_mk (Below.trod Laid.laidOut (by kernel_rfl) (of_decide_eq_true (by kernel_rfl)) k0 bel lt0) (trodAll_cons_mk (Below.trod Laid.laidOut (by kernel_rfl) (of_decide_eq_true (by kernel_rfl)) k1 bel lt1) (trodAll_cons_mk (Below.trod Laid.laidOut (by kernel_rfl) (of_decide_eq_true (by kernel_rfl)) k2 bel lt2) trodAll_mk0))), rfl, bel.frame _, fun h => by cases h⟩

theorem over : Rows.vowTellsRow.holds Tryd.pinned (OpenSpec.ofChange Rows.vowTellsSpec) :=
  OpenClaim.holds_of_wide 3 Tryd.f3 rfl rfl rfl rfl rfl rfl rfl ⟨rfl, rfl, rfl, rfl, rfl⟩ rfl rfl rfl rfl rfl (by kernel_rfl) Tryd.func3 (by kernel_rfl)
    (of_decide_eq_true (by kernel_rfl)) (by unfold Func.isWrapper; first | (rw [if_pos (by decide +kernel)]; kernel_rfl) | (rw [if_neg (by decide +kernel)]; exact ⟨rfl, rfl⟩))
    (fun os started H enc _ => lifted os started H enc)

theorem proved : Rows.VowTellsCardSaid :=
  Claim7.holds_tied_plain_at .later [] [.data] true (true, "d9367f1a9ac0cc7a5f16b7a4c9fa57317a5d4c7769de09c3b166420cc346acc4") true
    over (fun _ h => by cases h) (by kernel_rfl) (fun _ h => by cases h) vowTells_row_tie rfl ⟨rfl, rfl⟩ (by kernel_rfl) rfl
    (fun f fn hf hfn => by
      obtain rfl : f = 3 := Option.some.inj ((show Tryd.prog.funcNamed "oathbook/oathbooklaw4.VowTells" = some 3 by kernel_rfl).symm.trans hf) |>.symm
      obtain rfl : fn = Tryd.f3 := (Option.some.inj (Tryd.func3.symm.trans hfn)).symm
      exact ⟨by kernel_rfl, stand_of_all (by kernel_rfl)⟩)
    (by kernel_rfl)
#print axioms proved
end vowTells
end Go.Proofs.YtgngbmmmoecohaaDoor
