/- Walks: a leaf and its path folded: the document's Long and Folded, the program's sides and Fold. -/
import Derived.Test.YtkioddmhjbaleaaGreatDoorTreePath
import Derived.Deep.RegionHeld3
namespace Go.Proofs.YtkioddmhjbaleaaGreatDoor
open Go.RowKit
set_option linter.unusedVariables false
set_option linter.unusedSimpArgs false

set_option maxHeartbeats 1000000 in
theorem RLong_calls : ∀ (N n i : Nat), n ≤ N → 1 ≤ n → n ≤ 256 → i < n → ∀ (w : World), Calls Tryz.prog 36 #[.int .i64 (i : Int), .int .i64 (n : Int)] w fun e w' => e = .returned (.int .i64 ((tlong i n : Nat) : Int)) ∧ w = w' := by
  intro N
  induction N with
  | zero => intro n i hN h1; omega
  | succ N ih =>
    intro n i hN h1 h256 hi w
    by_cases h2 : 2 ≤ n
    · obtain ⟨h, hh⟩ : ∃ h, h = hf n := ⟨_, rfl⟩
      have hlt : h < n := by rw [hh]; exact hf_lt h2
      have hpos : 0 < h := by rw [hh]; exact hf_pos _
      have HC := RHalf_calls n (by omega) (by omega) w
      rw [← hh] at HC
      have HHC := Lib.hid HC
      have z1 : ((n : Int) == 1) = false := by rw [beq_eq_false_iff_ne]; omega
      by_cases hih : i < h
      · have IH := ih h i (by omega) (by omega) (by omega) hih w
        have hl := tlong_left h2 (by rw [← hh]; exact hih)
        rw [← hh] at hl
        obtain ⟨m, hm⟩ : ∃ m, m = tlong i h := ⟨_, rfl⟩
        have hm8 := tlong_le 255 i h (by omega)
        rw [← hm] at IH hl hm8
        rw [hl]
        have HIH := Lib.hid IH
        have z2 : decide ((i : Int) < (h : Int)) = true := decide_eq_true (by omega)
        have z3 : decide (i < h) = true := decide_eq_true hih
        have e4 : IntKind.i64.wrap (1 + (m : Int)) = ((1 + m : Nat) : Int) := by rw [IntWalk.i64_in _ (by omega)]; omega
        clear IH hl hm HC hh ih h2
        go_enter Tryz.func36, Tryz.ntmps36
        go_wp2_with fail
        refine HHC.out.mono ?_
        rintro e w1 ⟨rfl, rfl⟩
        go_wp2_with fail
        refine HIH.out.mono ?_
        rintro e w1 ⟨rfl, rfl⟩
        go_wp2_with fail
        go_ret
        exact ⟨by simp, rfl⟩
      · obtain ⟨q, hq⟩ : ∃ q, q = i - h := ⟨_, rfl⟩
        obtain ⟨r, hr⟩ : ∃ r, r = n - h := ⟨_, rfl⟩
        have IH := ih r q (by omega) (by omega) (by omega) (by omega) w
        have hl := tlong_right h2 (by rw [← hh]; exact hih)
        rw [← hh, ← hq, ← hr] at hl
        obtain ⟨m, hm⟩ : ∃ m, m = tlong q r := ⟨_, rfl⟩
        have hm8 := tlong_le 255 q r (by omega)
        rw [← hm] at IH hl hm8
        rw [hl]
        have HIH := Lib.hid IH
        have z2 : decide ((i : Int) < (h : Int)) = false := decide_eq_false (by omega)
        have z3 : decide (i < h) = false := decide_eq_false hih
        have e5 : IntKind.i64.wrap ((i : Int) - (h : Int)) = (q : Int) := by rw [IntWalk.i64_in _ (by omega)]; omega
        have e6 : IntKind.i64.wrap ((n : Int) - (h : Int)) = (r : Int) := by rw [IntWalk.i64_in _ (by omega)]; omega
        have e4 : IntKind.i64.wrap (1 + (m : Int)) = ((1 + m : Nat) : Int) := by rw [IntWalk.i64_in _ (by omega)]; omega
        clear IH hl hm HC hh ih h2 hq hr
        go_enter Tryz.func36, Tryz.ntmps36
        go_wp2_with fail
        refine HHC.out.mono ?_
        rintro e w1 ⟨rfl, rfl⟩
        go_wp2_with fail
        refine HIH.out.mono ?_
        rintro e w1 ⟨rfl, rfl⟩
        go_wp2_with fail
        go_ret
        exact ⟨by simp, rfl⟩
    · obtain rfl : n = 1 := by omega
      rw [tlong_one h2]
      clear ih hN h256 h2
      go_enter Tryz.func36, Tryz.ntmps36
      go_wp2_with fail
      go_ret
      exact ⟨rfl, rfl⟩
set_option maxRecDepth 20000 in
set_option maxHeartbeats 2000000 in
theorem RFolded_calls : ∀ (N n i : Nat), n ≤ N → 1 ≤ n → n ≤ 256 → i < n → ∀ (l : List UInt8) (ps : List (List UInt8)), l.length = 32 → (∀ p ∈ ps, p.length = 32) → ps.length = tlong i n → ∀ (a : Option Addr) (cap e : Nat), ps.length ≤ cap → cap ≤ 9223372036854775807 → ∀ (w : World), Rd w a e (ps.flatten.map vB) →
    Calls Tryz.prog 37 #[.agg (dV l), .int .i64 (i : Int), .int .i64 (n : Int), .slice a ps.length cap] w fun e w' => e = .returned (.agg (dV (tfold l i n ps))) ∧ Below w.heap.size w w' := by
  intro N
  induction N with
  | zero => intro n i hN h1; omega
  | succ N ih =>
    intro n i hN h1 h256 hi l ps hl hpd hpl a cap e hc hc2 w hr
    obtain ⟨Z, hZ⟩ : ∃ Z, Z = nz := ⟨_, rfl⟩
    have zl : Z.length = 32 := by rw [hZ]; rfl
    have zlit : (#[.int .u8 0, .int .u8 0, .int .u8 0, .int .u8 0, .int .u8 0, .int .u8 0, .int .u8 0, .int .u8 0, .int .u8 0, .int .u8 0, .int .u8 0, .int .u8 0, .int .u8 0, .int .u8 0, .int .u8 0, .int .u8 0, .int .u8 0, .int .u8 0, .int .u8 0, .int .u8 0, .int .u8 0, .int .u8 0, .int .u8 0, .int .u8 0, .int .u8 0, .int .u8 0, .int .u8 0, .int .u8 0, .int .u8 0, .int .u8 0, .int .u8 0, .int .u8 0] : Array Value) = dV Z := by rw [hZ]; exact zdig
    have ZL := Lib.hid zl
    have ZT := Lib.hid zlit
    have HZ := Lib.hid hZ
    clear zl zlit hZ
    obtain ⟨H, hH⟩ : ∃ H, H = w.heap.size := ⟨_, rfl⟩
    obtain ⟨v0, hv0⟩ : ∃ z, z = w.alloc (.cells (dV l) 23) := ⟨_, rfl⟩
    obtain ⟨v1, hv1⟩ : ∃ z, z = v0.alloc (.cells (dV Z) 23) := ⟨_, rfl⟩
    have q0 : v0.heap.size = H + 1 := by rw [hv0, hH]; exact World.size_alloc _ _
    have q1 : v1.heap.size = H + 1 + 1 := by rw [hv1, World.size_alloc, q0]
    have s0 : Below (H) w v0 := by rw [hv0, hH]; exact (Below.refl _ _).alloc (Nat.le_refl _) _
    have s1 : Below (H + 1) v0 v1 := by rw [hv1, ← q0]; exact (Below.refl _ _).alloc (Nat.le_refl _) _
    have t1 : Below (H + 1 + 1) v1 v1 := Below.refl _ _
    have t0 : Below (H + 1) v0 v1 := s1.trans (t1.mono (by omega))
    have bL : Below H w v1 := s0.trans (t0.mono (by omega))
    have g0 : v1.heap[H]? = some (.cells (dV l) 23 (0, 0)) := by
      have g : v0.heap[H]? = some (.cells (dV l) 23 (0, 0)) := by rw [hv0, hH]; exact heap_alloc_new _ _
      exact (t0.block _ (by omega)).trans g
    have g1 : v1.heap[H + 1]? = some (.cells (dV Z) 23 (0, 0)) := by
      have g : v1.heap[H + 1]? = some (.cells (dV Z) 23 (0, 0)) := by rw [hv1, ← q0]; exact heap_alloc_new _ _
      exact (t1.block _ (by omega)).trans g
    have bW : Below w.heap.size w v1 := by rw [← hH]; exact bL
    have hsz : H + 1 < v1.heap.size := by omega
    have HH := Lib.hid hH
    have HW0 := Lib.hid hv0
    have HW1 := Lib.hid hv1
    have BL := Lib.hid bL
    have BW := Lib.hid bW
    have QL := Lib.hid q1
    have G0 := Lib.hid g0
    have G1 := Lib.hid g1
    clear hH hv0 hv1 q0 q1 s0 s1 t0 t1 g0 g1 bL bW
    have HL := Lib.hid hl
    by_cases h2 : 2 ≤ n
    · obtain ⟨h, hh⟩ : ∃ h, h = hf n := ⟨_, rfl⟩
      have hlt : h < n := by rw [hh]; exact hf_lt h2
      have hpos : 0 < h := by rw [hh]; exact hf_pos _
      have HC := RHalf_calls n (by omega) (by omega) v1
      rw [← hh] at HC
      have HHC := Lib.hid HC
      have z1 : ((n : Int) == 1) = false := by rw [beq_eq_false_iff_ne]; omega
      have hps0 : ps.length ≠ 0 := by
        rw [hpl]
        by_cases hih : i < h
        · rw [tlong_left h2 (by rw [← hh]; exact hih)]; omega
        · rw [tlong_right h2 (by rw [← hh]; exact hih)]; omega
      obtain ⟨m, hm⟩ : ∃ m, ps.length = m + 1 := ⟨ps.length - 1, by omega⟩
      obtain ⟨rs, hrs⟩ : ∃ rs, rs = ps.take m := ⟨_, rfl⟩
      obtain ⟨p, hp⟩ : ∃ p, p = ps[m]'(by omega) := ⟨_, rfl⟩
      have hsp : ps = rs ++ [p] := by
        rw [hrs, hp, ← List.take_succ_eq_append_getElem (by omega), List.take_of_length_le (by omega)]
      have hrl : rs.length = m := by rw [hrs, List.length_take]; omega
      have hrd : ∀ q ∈ rs, q.length = 32 := fun q hq => hpd q (by rw [hsp]; exact List.mem_append_left _ hq)
      have hpL : p.length = 32 := hpd p (by rw [hsp]; simp)
      obtain ⟨B, o, hB, hBl, hrg⟩ := hr.range hpd (k := m) (by omega)
      subst hB
      rw [← hp] at hrg
      have hrr : ∀ w', Below w.heap.size w w' → Rd w' (some ⟨B, o, none⟩) e (rs.flatten.map vB) := fun w' hb => by
        rw [hrs, flat_take ps hpd, List.map_take]; exact (hr.below hb).take _
      rw [hm]
      have hps2 := hpl
      rw [hsp] at hps2
      have PLL := Lib.hid hpL
      have HRG := Lib.hid (show v1.rangeAt B (o + m * 32) (p.map vB) from fun j v hj => (BW.out.cell (p := ⟨B, o + m * 32 + j, none⟩) hBl).trans (hrg j v hj))
      obtain ⟨Y, hY⟩ : ∃ Y, Y = v1.heap.size := ⟨_, rfl⟩
      obtain ⟨v2, hv2⟩ : ∃ z, z = v1.alloc (.cells (dV p) 23) := ⟨_, rfl⟩
      have b12 : Below v1.heap.size v1 v2 := by rw [hv2]; exact (Below.refl _ _).alloc (Nat.le_refl _) _
      have GY := Lib.hid (show v2.heap[Y]? = some (.cells (dV p) 23 (0, 0)) by rw [hv2, hY]; exact heap_alloc_new _ _)
      have G02 := Lib.hid ((b12.block H (by omega)).trans G0.out)
      have G12 := Lib.hid ((b12.block (H + 1) hsz).trans G1.out)
      have B2 := Lib.hid (BL.out.trans (b12.mono (by omega)))
      have BW2 := Lib.hid (BW.out.trans (b12.mono BW.out.size))
      have HY := Lib.hid hY
      have HV2 := Lib.hid hv2
      have lY := lt_of_heap GY.out
      have hHY : H + 1 < Y := by rw [hY]; exact hsz
      have e5 : IntKind.i64.wrap ((m : Int) + 1 - 1) = (m : Int) := by rw [IntWalk.i64_in _ (by omega)]; omega
      have e5b : IntKind.i64.wrap ((m : Int)) = (m : Int) := IntWalk.i64_in _ (by omega)
      have m0 : (0 : Int) ≤ (m : Int) := by omega
      have m1 : (m : Int) < (m : Int) + 1 := by omega
      have m2 : (m : Int) ≤ (cap : Int) := by omega
      have huinfo : (Tryz.prog.info? 23).map (·.size) = some (l.map vB).length := by rw [List.length_map, HL.out]; exact dig_size
      have hpinfo : (Tryz.prog.info? 23).map (·.size) = some (p.map vB).length := by rw [List.length_map, PLL.out]; exact dig_size
      clear hY hv2 b12 hrg HC
      by_cases hih : i < h
      · have hfd := tfold_left (l := l) h2 (by rw [← hh]; exact hih) hps2
        rw [← hh, ← hsp] at hfd
        have hrl2 : rs.length = tlong i h := by
          have := tlong_left h2 (by rw [← hh]; exact hih)
          rw [← hh] at this
          omega
        have IH := fun w' hb => ih h i (by omega) (by omega) (by omega) hih l rs hl hrd hrl2 (some ⟨B, o, none⟩) cap e (by omega) hc2 w' (hrr w' hb)
        have z2 : decide ((i : Int) < (h : Int)) = true := decide_eq_true (by omega)
        have z3 : decide (i < h) = true := decide_eq_true hih
        obtain ⟨X, hX⟩ : ∃ X, X = tfold l i h rs := ⟨_, rfl⟩
        have XL := Lib.hid (show X.length = 32 by rw [hX]; exact tfold_length _ _ _ _ hl)
        rw [← hX] at IH hfd
        rw [hrl] at IH
        obtain ⟨R, hR⟩ : ∃ R, R = tfold l i n ps := ⟨_, rfl⟩
        rw [← hR] at hfd ⊢
        have RL := Lib.hid (show R.length = 32 by rw [hfd]; exact tnode_length _ _)
        have HFD := Lib.hid hfd
        have HIH := Lib.hid IH
        clear IH hfd hX hR hrl2 hrr hrs hp hsp hrl hrd hpL hps2 hps0 hm hpl hpd hr ih hN h256 hl hh h2 hih
        go_enter Tryz.func37, Tryz.ntmps37
        go_upto_region 1 with fail
        rw [ZT.out, ← HH.out, ← HW0.out, ← HW1.out]
        go_wp2_with fail
        refine HHC.out.mono ?_
        rintro e w1 ⟨rfl, rfl⟩
        go_wp2_with (first
          | ((refine ld_digG rfl (.tmp 21) rfl B (o + m * 32) (by rfl) p PLL.out HRG.out ?_); simp only [Act.put, List.setIfInBounds_toArray, List.set_cons_zero, List.set_cons_succ])
          | ((refine st_new rfl (.tmp 10) (.tmp 22) rfl p PLL.out (by rfl) _ _ (by rfl) (by rfl) ?_); rw [← HY.out, ← HV2.out]))
        refine wp_region_held_drew (S := fun w' => w'.rangeAt H 0 (l.map vB) ∧ w'.rangeAt Y 0 (p.map vB)) (by kernel_rfl) ⟨range_of_row (show v2.drew.heap[H]? = _ from G02.out), range_of_row (show v2.drew.heap[Y]? = _ from GY.out)⟩ (fun hHeld => ?_)
        obtain ⟨wD, hwD⟩ : ∃ z, z = v2.drew := ⟨_, rfl⟩
        have BD := Lib.hid (show Below w.heap.size w wD by rw [hwD]; exact BW2.out.drew)
        have BLD := Lib.hid (show Below H w wD by rw [hwD]; exact B2.out.drew)
        have GH := Lib.hid (show wD.heap[H]? = some (.cells (dV l) 23 (0, 0)) by rw [hwD]; exact G02.out)
        have GR := Lib.hid (show wD.heap[H + 1]? = some (.cells (dV Z) 23 (0, 0)) by rw [hwD]; exact G12.out)
        have GP := Lib.hid (show wD.heap[Y]? = some (.cells (dV p) 23 (0, 0)) by rw [hwD]; exact GY.out)
        rw [← hwD] at hHeld ⊢
        clear hwD
        refine wpAnyH_take (i := 0) (oi := _) (v := _) rfl (by kernel_rfl) (by kernel_rfl) (by kernel_rfl) (fun _ _ _ h => h) (yieldsIf_load_mid (by rfl) _ _ rfl _ _ rfl (l.map vB) _ (fun w hw => hw.1) Tryz.underlying23 rfl huinfo) hHeld ?_
        simp only [Act.put, List.getElem_toArray, List.getElem_cons_zero, List.getElem_cons_succ, List.setIfInBounds_toArray, List.set_cons_zero, List.set_cons_succ]
        refine wpAnyH_take (i := 1) (oi := _) (v := .int .i64 (i : Int)) rfl (by kernel_rfl) (by kernel_rfl) (by kernel_rfl) (fun _ _ _ h => h) (Or.inl ⟨by rfl, fun w hw => by go_simp⟩) hHeld ?_
        simp only [Act.put, List.getElem_toArray, List.getElem_cons_zero, List.getElem_cons_succ, List.setIfInBounds_toArray, List.set_cons_zero, List.set_cons_succ]
        refine wpAnyH_take (i := 2) (oi := _) (v := .int .i64 (h : Int)) rfl (by kernel_rfl) (by kernel_rfl) (by kernel_rfl) (fun _ _ _ h => h) (Or.inl ⟨by rfl, fun w hw => by go_simp⟩) hHeld ?_
        simp only [Act.put, List.getElem_toArray, List.getElem_cons_zero, List.getElem_cons_succ, List.setIfInBounds_toArray, List.set_cons_zero, List.set_cons_succ]
        refine wpAnyH_take (i := 3) (oi := _) (v := .slice (some ⟨B, o, none⟩) m cap) rfl (by kernel_rfl) (by kernel_rfl) (by kernel_rfl) (fun _ _ _ h => h) (Or.inl ⟨by rfl, fun w hw => by go_simp⟩) hHeld ?_
        simp only [Act.put, List.getElem_toArray, List.getElem_cons_zero, List.getElem_cons_succ, List.setIfInBounds_toArray, List.set_cons_zero, List.set_cons_succ]
        refine wpAnyH_take (i := 5) (oi := _) (v := _) rfl (by kernel_rfl) (by kernel_rfl) (by kernel_rfl) (fun _ _ _ h => h) (yieldsIf_load_mid (by rfl) _ _ rfl _ _ rfl (p.map vB) _ (fun w hw => hw.2) Tryz.underlying23 rfl hpinfo) hHeld ?_
        simp only [Act.put, List.getElem_toArray, List.getElem_cons_zero, List.getElem_cons_succ, List.setIfInBounds_toArray, List.set_cons_zero, List.set_cons_succ]
        refine wpAnyH_ready (rs := [4]) (by kernel_rfl) (by simp) ?_
        refine AllReadyH.cons (o := _) rfl (fun K hK => ?_) AllReadyH.nil
        have HK := Lib.hid hK
        clear hK
        go_simp
        go_at_call 37
        refine (HIH.out wD BD.out).mono ?_
        rintro e w5 ⟨rfl, hb5⟩
        dsimp only
        have GH5 := Lib.hid ((hb5.block H (lt_of_heap GH.out)).trans GH.out)
        have GR5 := Lib.hid ((hb5.block (H + 1) (lt_of_heap GR.out)).trans GR.out)
        have GP5 := Lib.hid ((hb5.block Y (lt_of_heap GP.out)).trans GP.out)
        have BL5 := Lib.hid (BLD.out.trans (hb5.mono (Nat.le_of_lt (lt_of_heap GH.out))))
        have NC := RNode_calls X p XL.out PLL.out w5
        rw [← HFD.out] at NC
        have HNC := Lib.hid NC
        clear hb5 NC hHeld
        refine HK.out _ _ ⟨range_of_row GH5.out, range_of_row GP5.out⟩ ?_
        clear HK K
        try simp only [Act.put, List.getElem_toArray, List.getElem_cons_zero, List.getElem_cons_succ, List.setIfInBounds_toArray, List.set_cons_zero, List.set_cons_succ]
        intro hHeld
        refine wpAnyH_ready (rs := [6]) (by kernel_rfl) (by simp) ?_
        refine AllReadyH.cons (o := _) rfl (fun K hK => ?_) AllReadyH.nil
        have HK := Lib.hid hK
        clear hK
        go_simp
        go_at_call 22
        refine HNC.out.mono ?_
        rintro e w6 ⟨rfl, hb6⟩
        dsimp only
        have GH6 := Lib.hid ((hb6.block H (lt_of_heap GH5.out)).trans GH5.out)
        have GR6 := Lib.hid ((hb6.block (H + 1) (lt_of_heap GR5.out)).trans GR5.out)
        have GP6 := Lib.hid ((hb6.block Y (lt_of_heap GP5.out)).trans GP5.out)
        have BL6 := Lib.hid (BL5.out.trans (hb6.mono (Nat.le_of_lt (lt_of_heap GH5.out))))
        clear hb6 HNC hHeld
        refine HK.out _ _ ⟨range_of_row GH6.out, range_of_row GP6.out⟩ ?_
        clear HK K
        try simp only [Act.put, List.getElem_toArray, List.getElem_cons_zero, List.getElem_cons_succ, List.setIfInBounds_toArray, List.set_cons_zero, List.set_cons_succ]
        intro hHeld
        refine wpAnyH_ready (rs := [7]) (by kernel_rfl) (by simp) ?_
        refine AllReadyH.cons (o := _) rfl (fun K hK => ?_) AllReadyH.nil
        have HK := Lib.hid hK
        clear hK
        rw [if_pos (by rfl)]
        refine wp_store_row _ _ _ rfl (H + 1) (dV R) (by rfl) (by rfl) _ (dV Z) GR6.out (info_dV RL.out) (by rw [dV_size RL.out, dV_size ZL.out]) (dV_one R) ?_
        have nHR : H ≠ H + 1 := by omega
        have nYR : Y ≠ H + 1 := by omega
        clear hHeld
        refine HK.out _ _ ⟨range_of_row ((_root_.Go.setRow_other _ _ _ _ nHR).trans GH6.out), range_of_row ((_root_.Go.setRow_other _ _ _ _ nYR).trans GP6.out)⟩ ?_
        clear HK K
        try simp only [Act.put, List.getElem_toArray, List.getElem_cons_zero, List.getElem_cons_succ, List.setIfInBounds_toArray, List.set_cons_zero, List.set_cons_succ]
        intro hHeld
        refine wpAnyH_done (by kernel_rfl) ?_ _
        go_wp2_with fail
        try simp only [Exit.inBlock, Exit.then]
        refine bodyPost_ret (v := .agg (dV R)) (results_cellW rfl _ _ _ ⟨H + 1, 0, none⟩ _ rfl ?_) rfl ?_
        · exact dig_load RL.out (range_of_row (setRow_heap _ _ _ _ _ _ GR6.out))
        · exact ⟨rfl, by rw [← HH.out]; exact below_setRowW BL6.out (by omega) _⟩
      · obtain ⟨q, hq⟩ : ∃ q, q = i - h := ⟨_, rfl⟩
        obtain ⟨r, hrq⟩ : ∃ r, r = n - h := ⟨_, rfl⟩
        have hfd := tfold_right (l := l) h2 (by rw [← hh]; exact hih) hps2
        rw [← hh, ← hsp, ← hq, ← hrq] at hfd
        have hrl2 : rs.length = tlong q r := by
          have := tlong_right h2 (by rw [← hh]; exact hih)
          rw [← hh, ← hq, ← hrq] at this
          omega
        have IH := fun w' hb => ih r q (by omega) (by omega) (by omega) (by omega) l rs hl hrd hrl2 (some ⟨B, o, none⟩) cap e (by omega) hc2 w' (hrr w' hb)
        have z2 : decide ((i : Int) < (h : Int)) = false := decide_eq_false (by omega)
        have z3 : decide (i < h) = false := decide_eq_false hih
        have e6 : IntKind.i64.wrap ((i : Int) - (h : Int)) = (q : Int) := by rw [IntWalk.i64_in _ (by omega)]; omega
        have e7 : IntKind.i64.wrap ((n : Int) - (h : Int)) = (r : Int) := by rw [IntWalk.i64_in _ (by omega)]; omega
        obtain ⟨X, hX⟩ : ∃ X, X = tfold l q r rs := ⟨_, rfl⟩
        have XL := Lib.hid (show X.length = 32 by rw [hX]; exact tfold_length _ _ _ _ hl)
        rw [← hX] at IH hfd
        rw [hrl] at IH
        obtain ⟨R, hR⟩ : ∃ R, R = tfold l i n ps := ⟨_, rfl⟩
        rw [← hR] at hfd ⊢
        have RL := Lib.hid (show R.length = 32 by rw [hfd]; exact tnode_length _ _)
        have HFD := Lib.hid hfd
        have HIH := Lib.hid IH
        clear IH hfd hX hR hrl2 hrr hrs hp hsp hrl hrd hpL hps2 hps0 hm hpl hpd hr ih hN h256 hl hh h2 hih hq hrq
        go_enter Tryz.func37, Tryz.ntmps37
        go_upto_region 1 with fail
        rw [ZT.out, ← HH.out, ← HW0.out, ← HW1.out]
        go_wp2_with fail
        refine HHC.out.mono ?_
        rintro e w1 ⟨rfl, rfl⟩
        go_wp2_with (first
          | ((refine ld_digG rfl (.tmp 21) rfl B (o + m * 32) (by rfl) p PLL.out HRG.out ?_); simp only [Act.put, List.setIfInBounds_toArray, List.set_cons_zero, List.set_cons_succ])
          | ((refine st_new rfl (.tmp 10) (.tmp 22) rfl p PLL.out (by rfl) _ _ (by rfl) (by rfl) ?_); rw [← HY.out, ← HV2.out]))
        refine wp_region_held_drew (S := fun w' => w'.rangeAt H 0 (l.map vB) ∧ w'.rangeAt Y 0 (p.map vB)) (by kernel_rfl) ⟨range_of_row (show v2.drew.heap[H]? = _ from G02.out), range_of_row (show v2.drew.heap[Y]? = _ from GY.out)⟩ (fun hHeld => ?_)
        obtain ⟨wD, hwD⟩ : ∃ z, z = v2.drew := ⟨_, rfl⟩
        have BD := Lib.hid (show Below w.heap.size w wD by rw [hwD]; exact BW2.out.drew)
        have BLD := Lib.hid (show Below H w wD by rw [hwD]; exact B2.out.drew)
        have GH := Lib.hid (show wD.heap[H]? = some (.cells (dV l) 23 (0, 0)) by rw [hwD]; exact G02.out)
        have GR := Lib.hid (show wD.heap[H + 1]? = some (.cells (dV Z) 23 (0, 0)) by rw [hwD]; exact G12.out)
        have GP := Lib.hid (show wD.heap[Y]? = some (.cells (dV p) 23 (0, 0)) by rw [hwD]; exact GY.out)
        rw [← hwD] at hHeld ⊢
        clear hwD
        refine wpAnyH_take (i := 0) (oi := _) (v := _) rfl (by kernel_rfl) (by kernel_rfl) (by kernel_rfl) (fun _ _ _ h => h) (yieldsIf_load_mid (by rfl) _ _ rfl _ _ rfl (p.map vB) _ (fun w hw => hw.2) Tryz.underlying23 rfl hpinfo) hHeld ?_
        simp only [Act.put, List.getElem_toArray, List.getElem_cons_zero, List.getElem_cons_succ, List.setIfInBounds_toArray, List.set_cons_zero, List.set_cons_succ]
        refine wpAnyH_take (i := 1) (oi := _) (v := _) rfl (by kernel_rfl) (by kernel_rfl) (by kernel_rfl) (fun _ _ _ h => h) (yieldsIf_load_mid (by rfl) _ _ rfl _ _ rfl (l.map vB) _ (fun w hw => hw.1) Tryz.underlying23 rfl huinfo) hHeld ?_
        simp only [Act.put, List.getElem_toArray, List.getElem_cons_zero, List.getElem_cons_succ, List.setIfInBounds_toArray, List.set_cons_zero, List.set_cons_succ]
        refine wpAnyH_take (i := 2) (oi := _) (v := .int .i64 (i : Int)) rfl (by kernel_rfl) (by kernel_rfl) (by kernel_rfl) (fun _ _ _ h => h) (Or.inl ⟨by rfl, fun w hw => by go_simp⟩) hHeld ?_
        simp only [Act.put, List.getElem_toArray, List.getElem_cons_zero, List.getElem_cons_succ, List.setIfInBounds_toArray, List.set_cons_zero, List.set_cons_succ]
        refine wpAnyH_take (i := 3) (oi := _) (v := .int .i64 (h : Int)) rfl (by kernel_rfl) (by kernel_rfl) (by kernel_rfl) (fun _ _ _ h => h) (Or.inl ⟨by rfl, fun w hw => by go_simp⟩) hHeld ?_
        simp only [Act.put, List.getElem_toArray, List.getElem_cons_zero, List.getElem_cons_succ, List.setIfInBounds_toArray, List.set_cons_zero, List.set_cons_succ]
        refine wpAnyH_take (i := 4) (oi := _) (v := .int .i64 (q : Int)) rfl (by kernel_rfl) (by kernel_rfl) (by kernel_rfl) (fun _ _ _ h => h) (Or.inl ⟨by rfl, fun w hw => by go_simp⟩) hHeld ?_
        simp only [Act.put, List.getElem_toArray, List.getElem_cons_zero, List.getElem_cons_succ, List.setIfInBounds_toArray, List.set_cons_zero, List.set_cons_succ]
        refine wpAnyH_take (i := 5) (oi := _) (v := .int .i64 (n : Int)) rfl (by kernel_rfl) (by kernel_rfl) (by kernel_rfl) (fun _ _ _ h => h) (Or.inl ⟨by rfl, fun w hw => by go_simp⟩) hHeld ?_
        simp only [Act.put, List.getElem_toArray, List.getElem_cons_zero, List.getElem_cons_succ, List.setIfInBounds_toArray, List.set_cons_zero, List.set_cons_succ]
        refine wpAnyH_take (i := 6) (oi := _) (v := .int .i64 (h : Int)) rfl (by kernel_rfl) (by kernel_rfl) (by kernel_rfl) (fun _ _ _ h => h) (Or.inl ⟨by rfl, fun w hw => by go_simp⟩) hHeld ?_
        simp only [Act.put, List.getElem_toArray, List.getElem_cons_zero, List.getElem_cons_succ, List.setIfInBounds_toArray, List.set_cons_zero, List.set_cons_succ]
        refine wpAnyH_take (i := 7) (oi := _) (v := .int .i64 (r : Int)) rfl (by kernel_rfl) (by kernel_rfl) (by kernel_rfl) (fun _ _ _ h => h) (Or.inl ⟨by rfl, fun w hw => by go_simp⟩) hHeld ?_
        simp only [Act.put, List.getElem_toArray, List.getElem_cons_zero, List.getElem_cons_succ, List.setIfInBounds_toArray, List.set_cons_zero, List.set_cons_succ]
        refine wpAnyH_take (i := 8) (oi := _) (v := .slice (some ⟨B, o, none⟩) m cap) rfl (by kernel_rfl) (by kernel_rfl) (by kernel_rfl) (fun _ _ _ h => h) (Or.inl ⟨by rfl, fun w hw => by go_simp⟩) hHeld ?_
        simp only [Act.put, List.getElem_toArray, List.getElem_cons_zero, List.getElem_cons_succ, List.setIfInBounds_toArray, List.set_cons_zero, List.set_cons_succ]
        refine wpAnyH_ready (rs := [9]) (by kernel_rfl) (by simp) ?_
        refine AllReadyH.cons (o := _) rfl (fun K hK => ?_) AllReadyH.nil
        have HK := Lib.hid hK
        clear hK
        go_simp
        go_at_call 37
        refine (HIH.out wD BD.out).mono ?_
        rintro e w5 ⟨rfl, hb5⟩
        dsimp only
        have GH5 := Lib.hid ((hb5.block H (lt_of_heap GH.out)).trans GH.out)
        have GR5 := Lib.hid ((hb5.block (H + 1) (lt_of_heap GR.out)).trans GR.out)
        have GP5 := Lib.hid ((hb5.block Y (lt_of_heap GP.out)).trans GP.out)
        have BL5 := Lib.hid (BLD.out.trans (hb5.mono (Nat.le_of_lt (lt_of_heap GH.out))))
        have NC := RNode_calls p X PLL.out XL.out w5
        rw [← HFD.out] at NC
        have HNC := Lib.hid NC
        clear hb5 NC hHeld
        refine HK.out _ _ ⟨range_of_row GH5.out, range_of_row GP5.out⟩ ?_
        clear HK K
        try simp only [Act.put, List.getElem_toArray, List.getElem_cons_zero, List.getElem_cons_succ, List.setIfInBounds_toArray, List.set_cons_zero, List.set_cons_succ]
        intro hHeld
        refine wpAnyH_ready (rs := [10]) (by kernel_rfl) (by simp) ?_
        refine AllReadyH.cons (o := _) rfl (fun K hK => ?_) AllReadyH.nil
        have HK := Lib.hid hK
        clear hK
        go_simp
        go_at_call 22
        refine HNC.out.mono ?_
        rintro e w6 ⟨rfl, hb6⟩
        dsimp only
        have GH6 := Lib.hid ((hb6.block H (lt_of_heap GH5.out)).trans GH5.out)
        have GR6 := Lib.hid ((hb6.block (H + 1) (lt_of_heap GR5.out)).trans GR5.out)
        have GP6 := Lib.hid ((hb6.block Y (lt_of_heap GP5.out)).trans GP5.out)
        have BL6 := Lib.hid (BL5.out.trans (hb6.mono (Nat.le_of_lt (lt_of_heap GH5.out))))
        clear hb6 HNC hHeld
        refine HK.out _ _ ⟨range_of_row GH6.out, range_of_row GP6.out⟩ ?_
        clear HK K
        try simp only [Act.put, List.getElem_toArray, List.getElem_cons_zero, List.getElem_cons_succ, List.setIfInBounds_toArray, List.set_cons_zero, List.set_cons_succ]
        intro hHeld
        refine wpAnyH_ready (rs := [11]) (by kernel_rfl) (by simp) ?_
        refine AllReadyH.cons (o := _) rfl (fun K hK => ?_) AllReadyH.nil
        have HK := Lib.hid hK
        clear hK
        rw [if_pos (by rfl)]
        refine wp_store_row _ _ _ rfl (H + 1) (dV R) (by rfl) (by rfl) _ (dV Z) GR6.out (info_dV RL.out) (by rw [dV_size RL.out, dV_size ZL.out]) (dV_one R) ?_
        have nHR : H ≠ H + 1 := by omega
        have nYR : Y ≠ H + 1 := by omega
        clear hHeld
        refine HK.out _ _ ⟨range_of_row ((_root_.Go.setRow_other _ _ _ _ nHR).trans GH6.out), range_of_row ((_root_.Go.setRow_other _ _ _ _ nYR).trans GP6.out)⟩ ?_
        clear HK K
        try simp only [Act.put, List.getElem_toArray, List.getElem_cons_zero, List.getElem_cons_succ, List.setIfInBounds_toArray, List.set_cons_zero, List.set_cons_succ]
        intro hHeld
        refine wpAnyH_done (by kernel_rfl) ?_ _
        go_wp2_with fail
        try simp only [Exit.inBlock, Exit.then]
        refine bodyPost_ret (v := .agg (dV R)) (results_cellW rfl _ _ _ ⟨H + 1, 0, none⟩ _ rfl ?_) rfl ?_
        · exact dig_load RL.out (range_of_row (setRow_heap _ _ _ _ _ _ GR6.out))
        · exact ⟨rfl, by rw [← HH.out]; exact below_setRowW BL6.out (by omega) _⟩
    · obtain rfl : n = 1 := by omega
      have hn2 : ps.length = 0 := by rw [hpl, tlong_one h2]
      rw [tfold_one h2 hpl]
      clear ih hN h256 h2 hr hpd
      go_enter Tryz.func37, Tryz.ntmps37
      go_upto_region 1 with fail
      rw [ZT.out, ← HH.out, ← HW0.out, ← HW1.out]
      go_wp2_with (first
        | ((refine ld_digG rfl (.tmp 4) rfl (H) 0 (by rfl) l HL.out (range_of_row G0.out) ?_); simp only [Act.put, List.setIfInBounds_toArray, List.set_cons_zero, List.set_cons_succ])
        | (refine st_row rfl (.tmp 8) (.tmp 14) rfl (H + 1) l HL.out (by rfl) (by rfl) (dV Z) (dV_size ZL.out) _ G1.out ?_))
      try simp only [Exit.inBlock, Exit.then]
      refine bodyPost_ret (v := .agg (dV l)) (results_cellW rfl _ _ _ ⟨H + 1, 0, none⟩ _ rfl ?_) rfl ?_
      · exact dig_load HL.out (range_of_row (setRow_heap _ _ _ _ _ _ G1.out))
      · exact ⟨rfl, by rw [← HH.out]; exact below_setRowW BL.out (by omega) _⟩
end Go.Proofs.YtkioddmhjbaleaaGreatDoor
