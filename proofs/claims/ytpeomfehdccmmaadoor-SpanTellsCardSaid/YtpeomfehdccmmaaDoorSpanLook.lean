/- Walk: span.Look. -/
import Derived.Test.YtpeomfehdccmmaaDoorSpanFits
import Derived.Test.YtpeomfehdccmmaaDoorSpanDel
namespace Go.Proofs.YtpeomfehdccmmaaDoor
open Go.RowKit
set_option linter.unusedVariables false
set_option linter.unusedSimpArgs false

theorem fitS_len (R : List UInt8) (n : Nat) (fr : Int) : ∀ (es : List En) (ps : List (List (List UInt8))) (pr : Option Int) (i : Nat), ps.length = es.length → fitS R n fr pr i es ps = true → es = [] ∨ i + es.length ≤ n
  | [], _, _, _, _, _ => .inl rfl
  | x :: es, [], _, _, hl, _ => by simp at hl
  | x :: es, p :: ps, pr, i, hl, h => by
    rw [fitS_cons] at h
    split at h
    · rename_i hc
      right
      have h0 := hc.2.2.1
      have h1 := hc.2.2.2.1
      rcases fitS_len R n fr es ps _ _ (by simpa using hl) h with rfl | h2
      · simp only [List.length_cons, List.length_nil]; omega
      · simp only [List.length_cons]; omega
    · cases h
theorem fitsB_len {R : List UInt8} {n : Nat} {a b fr : Int} {es : List En} {ps : List (List (List UInt8))} (hl : ps.length = es.length) (h : fitsB R n a b fr es ps = true) : es.length ≤ n := by
  unfold fitsB at h
  split at h
  · rename_i h0
    split at h
    · cases h
    · rcases fitS_len R n fr es ps none 0 hl h with rfl | h2
      · simp
      · omega
  · omega
theorem vals_within (zs : List EnS) (a b : Int) : vals (zs.filter fun x => !(outP a b x)) = withinE (vals zs) a b := by
  unfold vals withinE
  rw [List.filter_map]
  congr 1
  exact List.filter_congr fun x _ => keep_in a b x
/-- what is wrong with a look -/
def lookF (R : List UInt8) (n a b fr : Int) (items : List En) (pss : List (List (List UInt8))) : Int :=
  if b < a ∨ n < 0 ∨ 256 < n then 2 else if pss.length ≠ items.length then 3 else if fitsB R n.toNat a b fr items pss then 0 else 9
def LookRet (w : World) (F : Int) (ks : List En) (e : Ending) (w' : World) : Prop :=
  (F ≠ 0 → e = .returned (.tuple #[.slice none 0 0, .iface 25 (.int .i64 F)])) ∧
  (F = 0 → ∃ a c e', e = .returned (.tuple #[.slice a ks.length c, .nilIface]) ∧ Rd w' a e' (cellsE ks)) ∧ Below w.heap.size w w'
theorem look_bad {w w' : World} {ks : List En} {F : Int} (h : F ≠ 0) (hb : Below w.heap.size w w') : LookRet w F ks (.returned (.tuple #[.slice none 0 0, .iface 25 (.int .i64 F)])) w' :=
  ⟨fun _ => rfl, fun h0 => absurd h0 h, hb⟩
theorem info_rng3 : (Tryd.prog.info? 61).map (·.size) = some 3 := by kernel_rfl
set_option maxRecDepth 20000 in
set_option maxHeartbeats 8000000 in
theorem Look_calls (R : List UInt8) (hR : R.length = 32) (n a b fr : Int) (hn : -9223372036854775808 ≤ n ∧ n ≤ 9223372036854775807) (ha : -9223372036854775808 ≤ a ∧ a ≤ 9223372036854775807) (hb : -9223372036854775808 ≤ b ∧ b ≤ 9223372036854775807) (hfr : -9223372036854775808 ≤ fr ∧ fr ≤ 9223372036854775807) (items : List En) (hw : ∀ e ∈ items, EnW e) (ia : Option Addr) (ic ie : Nat) (hil : items.length ≤ 9223372036854775807) (pss : List (List (List UInt8))) (vs : List Value) (pa : Option Addr) (pc pe : Nat) (w : World) (hri : Rd w ia ie (cellsE items)) (hrp : Rd w pa pe vs) (hps : PathsAt w pss vs) (hro : RoundsAt w) :
    Calls Tryd.prog 34 #[.agg (dV R), .int .i64 n, .int .i64 a, .int .i64 b, .agg #[.int .i64 fr, .slice ia items.length ic, .slice pa pss.length pc]] w (LookRet w (lookF R n a b fr items pss) (withinE items a b)) := by
  obtain ⟨F, hF⟩ : ∃ F, F = lookF R n a b fr items pss := ⟨_, rfl⟩
  rw [← hF]
  unfold lookF at hF
  obtain ⟨H, hH⟩ : ∃ H, H = w.heap.size := ⟨_, rfl⟩
  obtain ⟨v0, hv0⟩ : ∃ z, z = w.alloc (.cells (dV R) 23) := ⟨_, rfl⟩
  obtain ⟨v1, hv1⟩ : ∃ z, z = v0.alloc (.cells #[.int .i64 a] 3) := ⟨_, rfl⟩
  obtain ⟨v2, hv2⟩ : ∃ z, z = v1.alloc (.cells #[.int .i64 b] 3) := ⟨_, rfl⟩
  obtain ⟨v3, hv3⟩ : ∃ z, z = v2.alloc (.cells #[.int .i64 fr, .slice ia items.length ic, .slice pa pss.length pc] 61) := ⟨_, rfl⟩
  have q0 : v0.heap.size = H + 1 := by rw [hv0, hH]; exact World.size_alloc _ _
  have q1 : v1.heap.size = H + 1 + 1 := by rw [hv1, World.size_alloc, q0]
  have q2 : v2.heap.size = H + 1 + 1 + 1 := by rw [hv2, World.size_alloc, q1]
  have q3 : v3.heap.size = H + 1 + 1 + 1 + 1 := by rw [hv3, World.size_alloc, q2]
  have s0 : Below (H) w v0 := by rw [hv0, hH]; exact (Below.refl _ _).alloc (Nat.le_refl _) _
  have s1 : Below (H + 1) v0 v1 := by rw [hv1, ← q0]; exact (Below.refl _ _).alloc (Nat.le_refl _) _
  have s2 : Below (H + 1 + 1) v1 v2 := by rw [hv2, ← q1]; exact (Below.refl _ _).alloc (Nat.le_refl _) _
  have s3 : Below (H + 1 + 1 + 1) v2 v3 := by rw [hv3, ← q2]; exact (Below.refl _ _).alloc (Nat.le_refl _) _
  have t3 : Below (H + 1 + 1 + 1 + 1) v3 v3 := Below.refl _ _
  have t2 : Below (H + 1 + 1 + 1) v2 v3 := s3.trans (t3.mono (by omega))
  have t1 : Below (H + 1 + 1) v1 v3 := s2.trans (t2.mono (by omega))
  have t0 : Below (H + 1) v0 v3 := s1.trans (t1.mono (by omega))
  have bL : Below H w v3 := s0.trans (t0.mono (by omega))
  have g0 : v3.heap[H]? = some (.cells (dV R) 23 (0, 0)) := by
    have g : v0.heap[H]? = some (.cells (dV R) 23 (0, 0)) := by rw [hv0, hH]; exact heap_alloc_new _ _
    exact (t0.block _ (by omega)).trans g
  have g1 : v3.heap[H + 1]? = some (.cells #[.int .i64 a] 3 (0, 0)) := by
    have g : v1.heap[H + 1]? = some (.cells #[.int .i64 a] 3 (0, 0)) := by rw [hv1, ← q0]; exact heap_alloc_new _ _
    exact (t1.block _ (by omega)).trans g
  have g2 : v3.heap[H + 1 + 1]? = some (.cells #[.int .i64 b] 3 (0, 0)) := by
    have g : v2.heap[H + 1 + 1]? = some (.cells #[.int .i64 b] 3 (0, 0)) := by rw [hv2, ← q1]; exact heap_alloc_new _ _
    exact (t2.block _ (by omega)).trans g
  have g3 : v3.heap[H + 1 + 1 + 1]? = some (.cells #[.int .i64 fr, .slice ia items.length ic, .slice pa pss.length pc] 61 (0, 0)) := by
    have g : v3.heap[H + 1 + 1 + 1]? = some (.cells #[.int .i64 fr, .slice ia items.length ic, .slice pa pss.length pc] 61 (0, 0)) := by rw [hv3, ← q2]; exact heap_alloc_new _ _
    exact (t3.block _ (by omega)).trans g
  have bW : Below w.heap.size w v3 := by rw [← hH]; exact bL
  have hsz : H + 1 + 1 + 1 < v3.heap.size := by omega
  have HH := Lib.hid hH
  have HW0 := Lib.hid hv0
  have HW1 := Lib.hid hv1
  have HW2 := Lib.hid hv2
  have HW3 := Lib.hid hv3
  have BL := Lib.hid bL
  have BW := Lib.hid bW
  have QL := Lib.hid q3
  have G0 := Lib.hid g0
  have G1 := Lib.hid g1
  have G2 := Lib.hid g2
  have G3 := Lib.hid g3
  clear hH hv0 hv1 hv2 hv3 q0 q1 q2 q3 s0 s1 s2 s3 t0 t1 t2 t3 g0 g1 g2 g3 bL bW
  have RL := Lib.hid hR
  have RO := Lib.hid (hro.at_ BW.out)
  have HL := Lib.hid (show ∀ e ∈ items, e.val.length = 32 from fun e he => (hw e he).1)
  have RI := Lib.hid (hri.below BW.out)
  have ca : v3.cell? ⟨H + 1, 0, none⟩ = some (.int .i64 a) := by rw [cell_of_row _ _ _ _ _ _ G1.out]; rfl
  have cb : v3.cell? ⟨H + 2, 0, none⟩ = some (.int .i64 b) := by rw [cell_of_row _ _ _ _ _ _ G2.out]; rfl
  obtain ⟨c0, c1, c2⟩ := rng_cells G3.out
  have hinfo := info_rng3
  by_cases hab : b < a
  · have y1 : decide (b < a) = true := decide_eq_true hab
    rw [if_pos (.inl hab)] at hF
    subst hF
    try clear hab hn0 hnn
    go_enter Tryd.func34, Tryd.ntmps34
    go_upto_region 1 with fail
    rw [← HH.out, ← HW0.out, ← HW1.out, ← HW2.out, ← HW3.out]
    go_wp2_with fail
    go_ret2
    exact look_bad (by decide) BW.out
  · have y1 : decide (b < a) = false := decide_eq_false hab
    by_cases hn0 : n < 0
    · have y2 : decide (n < 0) = true := decide_eq_true hn0
      rw [if_pos (.inr (.inl hn0))] at hF
      subst hF
      try clear hab hn0 hnn
      go_enter Tryd.func34, Tryd.ntmps34
      go_upto_region 1 with fail
      rw [← HH.out, ← HW0.out, ← HW1.out, ← HW2.out, ← HW3.out]
      go_wp2_with fail
      go_ret2
      exact look_bad (by decide) BW.out
    · have y2 : decide (n < 0) = false := decide_eq_false hn0
      by_cases hnn : 256 < n
      · have y3 : decide (256 < n) = true := decide_eq_true hnn
        rw [if_pos (.inr (.inr hnn))] at hF
        subst hF
        try clear hab hn0 hnn
        go_enter Tryd.func34, Tryd.ntmps34
        go_upto_region 1 with fail
        rw [← HH.out, ← HW0.out, ← HW1.out, ← HW2.out, ← HW3.out]
        go_wp2_with fail
        go_ret2
        exact look_bad (by decide) BW.out
      · have y3 : decide (256 < n) = false := decide_eq_false hnn
        rw [if_neg (by omega)] at hF
        by_cases hpl : pss.length = items.length
        · rw [if_neg (by rw [hpl]; simp)] at hF
          have HPL := Lib.hid hpl
          rw [hpl] at c2 HW3 ⊢
          have FC := Fits_calls R hR n.toNat (by omega) a b fr ha hb hfr items hw ia ic ie hil pss hpl vs pa pc pe v3 (hri.below BW.out) (hrp.below BW.out) (hps.below BW.out) (hro.at_ BW.out)
          rw [show ((n.toNat : Nat) : Int) = n by omega] at FC
          have G3b := G3
          rw [hpl] at G3b
          clear G3
          by_cases hB : fitsB R n.toNat a b fr items pss = true
          · rw [hB] at hF FC
            have hF0 : F = 0 := hF
            have hkk := fitsB_keys hpl hB
            have hll := fitsB_len hpl hB
            have HOK := Lib.hid (show ∀ e ∈ items, EnOk e from fun e he => ⟨(hw e he).1, (hkk e he).1, (hkk e he).2⟩)
            have h256 : items.length ≤ 256 := by omega
            have HFC := Lib.hid FC
            clear FC hF hB hkk hll hab hn0 hnn hpl hR hw hri hrp hps hro
            subst hF0
            go_enter Tryd.func34, Tryd.ntmps34
            go_upto_region 1 with fail
            rw [← HH.out, ← HW0.out, ← HW1.out, ← HW2.out, ← HW3.out]
            go_wp2_with (first
              | ((refine ld_digG rfl (.tmp 5) rfl (H) 0 (by rfl) R RL.out (range_of_row G0.out) ?_); simp only [Act.put, List.setIfInBounds_toArray, List.set_cons_zero, List.set_cons_succ])
              | ((refine wpList_load_row rfl _ (.tmp 9) rfl (H + 3) (by rfl) _ _ _ _ G3b.out Tryd.underlying61 rfl info_rng3 ?_); simp only [Act.put, List.setIfInBounds_toArray, List.set_cons_zero, List.set_cons_succ]))
            refine HFC.out.mono ?_
            rintro e v4 ⟨rfl, hb4⟩
            have B4 := Lib.hid (BW.out.trans (hb4.mono BW.out.size))
            have BL4 := Lib.hid hb4
            have c14 := (hb4.cell (p := ⟨H + 3, 1, none⟩) hsz).trans c1
            have A4 := Lib.hid (show IntAt v4 (H + 1) a from (hb4.block (H + 1) (by omega)).trans G1.out)
            have E4 := Lib.hid (show IntAt v4 (H + 2) b from (hb4.block (H + 2) (by omega)).trans G2.out)
            have CC := Lib.hid (CloneE_calls items HL.out ia ic ie v4 (RI.out.below hb4) (by omega))
            have hs4 : H + 3 < v4.heap.size := Nat.lt_of_lt_of_le hsz hb4.size
            clear hb4 HFC ca cb c0 c1 c2
            go_wp2_with fail
            refine CC.out.mono ?_
            rintro e v5 ⟨av, cp, rfl, hown5, hb5⟩
            have A5 := Lib.hid (show IntAt v5 (H + 1) a from (hb5.block (H + 1) (by omega)).trans A4.out)
            have E5 := Lib.hid (show IntAt v5 (H + 2) b from (hb5.block (H + 2) (by omega)).trans E4.out)
            have B5 := Lib.hid (B4.out.trans (hb5.mono B4.out.size))
            obtain ⟨zs, hzs⟩ : ∃ zs, zs = liftE items HOK.out := ⟨_, rfl⟩
            have hzl : zs.length = items.length := by rw [hzs]; exact lift_length _ _
            have hzv : vals zs = items := by rw [hzs]; exact vals_lift _ _
            have DC := Del_calls a b (H + 1) (H + 2) zs v4.heap.size av cp (by omega) v5 A5.out E5.out (by omega) (by omega) (by rw [hzl, hzv]; exact hown5)
            rw [vals_within, hzv, hzl] at DC
            have HDC := Lib.hid DC
            clear DC hown5 hb5 hzs hzl hzv CC A4 E4 c14
            go_wp2_with fail
            refine HDC.out.mono ?_
            rintro e v6 ⟨a6, c6, e6, rfl, hr6, hb6⟩
            have R6 := Lib.hid hr6
            have B6 := Lib.hid (B5.out.trans ((hb6.mono B4.out.size)))
            clear hr6 hb6 HDC
            go_wp2_with fail
            go_ret2
            exact ⟨fun h => absurd rfl h, fun _ => ⟨a6, c6, e6, rfl, R6.out⟩, B6.out⟩
          · have hB2 : fitsB R n.toNat a b fr items pss = false := by simpa using hB
            rw [hB2] at hF FC
            have HFC := Lib.hid FC
            clear FC hab hn0 hnn hpl hR hw hri hrp hps hro hB hB2
            have hF9 : F = 9 := by simpa using hF
            clear hF
            subst hF9
            go_enter Tryd.func34, Tryd.ntmps34
            go_upto_region 1 with fail
            rw [← HH.out, ← HW0.out, ← HW1.out, ← HW2.out, ← HW3.out]
            go_wp2_with (first
              | ((refine ld_digG rfl (.tmp 5) rfl (H) 0 (by rfl) R RL.out (range_of_row G0.out) ?_); simp only [Act.put, List.setIfInBounds_toArray, List.set_cons_zero, List.set_cons_succ])
              | ((refine wpList_load_row rfl _ (.tmp 9) rfl (H + 3) (by rfl) _ _ _ _ G3b.out Tryd.underlying61 rfl info_rng3 ?_); simp only [Act.put, List.setIfInBounds_toArray, List.set_cons_zero, List.set_cons_succ]))
            refine HFC.out.mono ?_
            rintro e v4 ⟨rfl, hb4⟩
            have B4 := Lib.hid (BW.out.trans (hb4.mono BW.out.size))
            go_wp2_with fail
            go_ret2
            exact look_bad (by decide) B4.out
        · rw [if_pos hpl] at hF
          have hpl2 : ¬ (pss.length : Int) = (items.length : Int) := by omega
          have y4 : ((pss.length : Int) != (items.length : Int)) = true := by rw [bne_iff_ne]; exact hpl2
          have y5 : (pss.length != items.length) = true := by rw [bne_iff_ne]; exact hpl
          have y6 : (pss.length == items.length) = false := by rw [beq_eq_false_iff_ne]; exact hpl
          have y7 : ((pss.length : Int) == (items.length : Int)) = false := by rw [beq_eq_false_iff_ne]; exact hpl2
          clear hri hrp hps hro hw hR
          subst hF
          try clear hab hn0 hnn
          go_enter Tryd.func34, Tryd.ntmps34
          go_upto_region 1 with fail
          rw [← HH.out, ← HW0.out, ← HW1.out, ← HW2.out, ← HW3.out]
          go_wp2_with fail
          go_ret2
          exact look_bad (by decide) BW.out
end Go.Proofs.YtpeomfehdccmmaaDoor
