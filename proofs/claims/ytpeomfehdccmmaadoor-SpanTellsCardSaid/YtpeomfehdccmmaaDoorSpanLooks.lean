/- Walk of the document's answer: is a range one of a list with a root? -/
import Derived.Test.YtpeomfehdccmmaaDoorSpanFits
import Derived.Test.YtpeomfehdccmmaaDoorSpanRef
import Derived.Test.YtpeomfehdccmmaaDoorSpanEq
import Derived.Test.YtpeomfehdccmmaaDoorSpanSame
import Derived.Test.YtpeomfehdccmmaaDoorTreeFolded
import Derived.Test.YtpeomfehdccmmaaDoorRangeOpen
import Derived.BigQuiet
import Derived.Deep.CutBlock
namespace Go.Proofs.YtpeomfehdccmmaaDoor
open Go.RowKit
set_option linter.unusedVariables false
set_option linter.unusedSimpArgs false

theorem quiet_cell1 {P : Program} {ops : Array Oper} {C : World → Prop} {Q : Act → Prop} {a : Act} {op : Oper} {rest : List Oper} {ty1 : TypeId} {x1 : Operand} (ho : op.op = .load ty1 x1) (x : Operand) (he_ : x1 = x) (p : Addr) (hx : a.eval x = .pointer (some p)) (v : Value) (hC : ∀ w, C w → (loadVar ty1 p).run P w = .ok v w)
    (h : wpQuiet P ops C Q rest (a.put op.dst v)) (hgd : Region.wanted op (yielded ops a.tmps) = true := by rfl) : wpQuiet P ops C Q (op :: rest) a := by
  cases he_
  exact quiet_cell hgd _ _ ho p hx v hC h
set_option maxRecDepth 20000 in
set_option maxHeartbeats 16000000 in
theorem Looks_calls (R : List UInt8) (hR : R.length = 32) (n : Nat) (hn : n ≤ 256) (a b fr : Int) (hfr : -9223372036854775808 ≤ fr ∧ fr ≤ 9223372036854775807) (items : List En) (hw : ∀ e ∈ items, EnW e) (ia : Option Addr) (ic ie : Nat) (hil : items.length ≤ 9223372036854775807) (pss : List (List (List UInt8))) (hpl : pss.length = items.length) (vs : List Value) (pa : Option Addr) (pc pe : Nat) (hcap : CapsAt pss vs) (w : World) (hri : Rd w ia ie (cellsE items)) (hrp : Rd w pa pe vs) (hps : PathsAt w pss vs) :
    Calls Tryd.prog 46 #[.agg (dV R), .int .i64 (n : Int), .int .i64 a, .int .i64 b, .agg #[.int .i64 fr, .slice ia items.length ic, .slice pa pss.length pc]] w fun e w' => e = .returned (.bool (fitsB R n a b fr items pss)) ∧ Below w.heap.size w w' := by
  rw [hpl]
  obtain ⟨H, hH⟩ : ∃ H, H = w.heap.size := ⟨_, rfl⟩
  obtain ⟨v0, hv0⟩ : ∃ z, z = w.alloc (.cells (dV R) 23) := ⟨_, rfl⟩
  obtain ⟨v1, hv1⟩ : ∃ z, z = v0.alloc (.cells #[.int .i64 fr, .slice ia items.length ic, .slice pa items.length pc] 61) := ⟨_, rfl⟩
  have q0 : v0.heap.size = H + 1 := by rw [hv0, hH]; exact World.size_alloc _ _
  have q1 : v1.heap.size = H + 1 + 1 := by rw [hv1, World.size_alloc, q0]
  have s0 : Below (H) w v0 := by rw [hv0, hH]; exact (Below.refl _ _).alloc (Nat.le_refl _) _
  have s1 : Below (H + 1) v0 v1 := by rw [hv1, ← q0]; exact (Below.refl _ _).alloc (Nat.le_refl _) _
  have t1 : Below (H + 1 + 1) v1 v1 := Below.refl _ _
  have t0 : Below (H + 1) v0 v1 := s1.trans (t1.mono (by omega))
  have bL : Below H w v1 := s0.trans (t0.mono (by omega))
  have g0 : v1.heap[H]? = some (.cells (dV R) 23 (0, 0)) := by
    have g : v0.heap[H]? = some (.cells (dV R) 23 (0, 0)) := by rw [hv0, hH]; exact heap_alloc_new _ _
    exact (t0.block _ (by omega)).trans g
  have g1 : v1.heap[H + 1]? = some (.cells #[.int .i64 fr, .slice ia items.length ic, .slice pa items.length pc] 61 (0, 0)) := by
    have g : v1.heap[H + 1]? = some (.cells #[.int .i64 fr, .slice ia items.length ic, .slice pa items.length pc] 61 (0, 0)) := by rw [hv1, ← q0]; exact heap_alloc_new _ _
    exact (t1.block _ (by omega)).trans g
  have bW : Below w.heap.size w v1 := by rw [← hH]; exact bL
  have hsz : H + 1 < v1.heap.size := by omega
  have HH := Lib.hid hH
  have HW0 := Lib.hid hv0
  have HW1 := Lib.hid hv1
  have BL := Lib.hid bL
  have BW := Lib.hid bW
  have QL := Lib.hid q1
  have G0 := Lib.hid g0
  have G1 := Lib.hid g1
  clear hH hv0 hv1 q0 q1 s0 s1 t0 t1 g0 g1 bL bW
  have RL := Lib.hid hR
  have HN := Lib.hid hn
  have HL := Lib.hid (show ∀ e ∈ items, e.val.length = 32 from fun e he => (hw e he).1)
  have HWW := Lib.hid hw
  have PN := Lib.hid hpl
  have RI := Lib.hid (hri.below BW.out)
  have RP := Lib.hid (hrp.below BW.out)
  have PS := Lib.hid (hps.below BW.out)
  have QC := Lib.hid hcap
  obtain ⟨c0, c1, c2⟩ := rng_cells G1.out
  have C0 := Lib.hid c0
  have C1 := Lib.hid c1
  have C2 := Lib.hid c2
  have LH1 := Lib.hid hsz
  clear hR hw hri hrp hps hcap
  by_cases h0 : items.length = 0
  · have hi0 : items = [] := List.length_eq_zero_iff.1 h0
    have HFB : fitsB R n a b fr items pss = decide (n = 0 ∧ fr = 0 ∧ R = shaOf []) := by unfold fitsB; rw [dif_neg (by omega)]
    rw [HFB]
    have y0 : ((items.length : Int) == 0) = true := by rw [beq_iff_eq]; omega
    have y0b : (items.length == 0) = true := by rw [beq_iff_eq]; exact h0
    obtain ⟨X, hX⟩ : ∃ X, X = shaOf [] := ⟨_, rfl⟩
    have XL := Lib.hid (show X.length = 32 by rw [hX]; exact shaOf_length _)
    rw [← hX]
    have SC : ∀ w', InB v1.heap.size v1 w' → Calls Tryd.prog 54 #[.slice none 0 0] w' fun e w'' => e = .returned (.agg (dV X)) ∧ InB v1.heap.size v1 w'' := fun w' h => InB.call h (Nat.le_refl _) (by rw [hX]; exact RSum_calls [] none 0 0 w' (.inl rfl) (by decide))
    have HSC := Lib.hid SC
    have FC0 : ∀ w', InB v1.heap.size v1 w' → w'.cell? ⟨H + 1, 0, none⟩ = some (.int .i64 fr) := fun w' h => (Below.cell h (p := ⟨H + 1, 0, none⟩) LH1.out).trans C0.out
    have HFC0 := Lib.hid FC0
    have RR := Lib.hid (show ∀ w', InB v1.heap.size v1 w' → w'.rangeAt H 0 (R.map vB) from fun w' h => h.range (by have := LH1.out; omega) (range_of_row G0.out))
    clear SC FC0 hX HFB hi0 h0
    by_cases q1 : n = 0
    · have y1 : ((n : Int) == 0) = true := by rw [beq_iff_eq]; omega
      have y1b : (n == 0) = true := by rw [beq_iff_eq]; exact q1
      by_cases q2 : fr = 0
      · have y2 : (fr == 0) = true := by rw [beq_iff_eq]; exact q2
        obtain ⟨qb, hqb⟩ : ∃ qb, (R == X) = qb := ⟨_, rfl⟩
        have HQB := Lib.hid hqb
        have hd : decide (n = 0 ∧ fr = 0 ∧ R = X) = qb := by
          rw [← hqb]
          by_cases q3 : R = X
          · rw [decide_eq_true ⟨q1, q2, q3⟩, q3]; simp
          · rw [decide_eq_false (fun h => q3 h.2.2)]; symm; rw [beq_eq_false_iff_ne]; exact q3
        rw [hd]
        clear hd q1 q2 hqb
        go_enter Tryd.func46, Tryd.ntmps46
        go_upto_region 1 with fail
        rw [← HH.out, ← HW0.out, ← HW1.out]
        go_wp2_with fail
        have hex := inB_ex v1.heap.size v1
        refine wp_region_inB v1.heap.size (by kernel_rfl) (by kernel_rfl) ?_
        repeat (first
          | (refine quiet_cell1 rfl (.tmp 21) rfl ⟨H + 1, 0, none⟩ (by rfl) (.int .i64 fr) (fun w' hw' => by have hc := HFC0.out w' hw'; go_simp) ?_; simp only [Act.put, List.setIfInBounds_toArray, List.set_cons_zero, List.set_cons_succ])
          | (refine quiet_dig rfl (.tmp 5) rfl H 0 (by rfl) R RL.out RR.out ?_; simp only [Act.put, List.setIfInBounds_toArray, List.set_cons_zero, List.set_cons_succ])
          | (refine quiet_dig_eq rfl (.tmp 26) (.tmp 27) _ rfl R X (by rfl) (by rfl) RL.out XL.out ?_; rw [HQB.out]; simp only [Act.put, List.setIfInBounds_toArray, List.set_cons_zero, List.set_cons_succ])
          | go_big_quiet_step ((first | (intro hw'; exact HSC.out _ hw') | (intro _; rfl))))
        refine wpQuiet_nil ?_
        intro wZ hwZ
        have BZ := Lib.hid (show Below w.heap.size w wZ from BW.out.trans (Below.mono hwZ BW.out.size))
        clear hwZ
        go_wp2_with fail
        go_ret
        exact ⟨rfl, BZ.out⟩
      · have y2 : (fr == 0) = false := by rw [beq_eq_false_iff_ne]; exact q2
        rw [decide_eq_false (show ¬ (n = 0 ∧ fr = 0 ∧ R = X) from fun h => q2 h.2.1)]
        clear q1 q2
        go_enter Tryd.func46, Tryd.ntmps46
        go_upto_region 1 with fail
        rw [← HH.out, ← HW0.out, ← HW1.out]
        go_wp2_with fail
        have hex := inB_ex v1.heap.size v1
        refine wp_region_inB v1.heap.size (by kernel_rfl) (by kernel_rfl) ?_
        repeat (first
          | (refine quiet_cell1 rfl (.tmp 21) rfl ⟨H + 1, 0, none⟩ (by rfl) (.int .i64 fr) (fun w' hw' => by have hc := HFC0.out w' hw'; go_simp) ?_; simp only [Act.put, List.setIfInBounds_toArray, List.set_cons_zero, List.set_cons_succ])
          | (refine quiet_dig rfl (.tmp 5) rfl H 0 (by rfl) R RL.out RR.out ?_; simp only [Act.put, List.setIfInBounds_toArray, List.set_cons_zero, List.set_cons_succ])
          | (refine quiet_dig_eq rfl (.tmp 26) (.tmp 27) _ rfl R X (by rfl) (by rfl) RL.out XL.out ?_; rw [HQB.out]; simp only [Act.put, List.setIfInBounds_toArray, List.set_cons_zero, List.set_cons_succ])
          | go_big_quiet_step ((first | (intro hw'; exact HSC.out _ hw') | (intro _; rfl))))
        refine wpQuiet_nil ?_
        intro wZ hwZ
        have BZ := Lib.hid (show Below w.heap.size w wZ from BW.out.trans (Below.mono hwZ BW.out.size))
        clear hwZ
        go_wp2_with fail
        go_ret
        exact ⟨rfl, BZ.out⟩
    · have y1 : ((n : Int) == 0) = false := by rw [beq_eq_false_iff_ne]; omega
      have y1b : (n == 0) = false := by rw [beq_eq_false_iff_ne]; exact q1
      rw [decide_eq_false (show ¬ (n = 0 ∧ fr = 0 ∧ R = X) from fun h => q1 h.1)]
      clear q1
      go_enter Tryd.func46, Tryd.ntmps46
      go_upto_region 1 with fail
      rw [← HH.out, ← HW0.out, ← HW1.out]
      go_wp2_with fail
      have hex := inB_ex v1.heap.size v1
      refine wp_region_inB v1.heap.size (by kernel_rfl) (by kernel_rfl) ?_
      repeat (first
        | (refine quiet_cell1 rfl (.tmp 21) rfl ⟨H + 1, 0, none⟩ (by rfl) (.int .i64 fr) (fun w' hw' => by have hc := HFC0.out w' hw'; go_simp) ?_; simp only [Act.put, List.setIfInBounds_toArray, List.set_cons_zero, List.set_cons_succ])
        | (refine quiet_dig rfl (.tmp 5) rfl H 0 (by rfl) R RL.out RR.out ?_; simp only [Act.put, List.setIfInBounds_toArray, List.set_cons_zero, List.set_cons_succ])
        | (refine quiet_dig_eq rfl (.tmp 26) (.tmp 27) _ rfl R X (by rfl) (by rfl) RL.out XL.out ?_; rw [HQB.out]; simp only [Act.put, List.setIfInBounds_toArray, List.set_cons_zero, List.set_cons_succ])
        | go_big_quiet_step ((first | (intro hw'; exact HSC.out _ hw') | (intro _; rfl))))
      refine wpQuiet_nil ?_
      intro wZ hwZ
      have BZ := Lib.hid (show Below w.heap.size w wZ from BW.out.trans (Below.mono hwZ BW.out.size))
      clear hwZ
      go_wp2_with fail
      go_ret
      exact ⟨rfl, BZ.out⟩
  · have y0 : ((items.length : Int) == 0) = false := by rw [beq_eq_false_iff_ne]; omega
    have y0b : (items.length == 0) = false := by rw [beq_eq_false_iff_ne]; exact h0
    have e1 : IntKind.i64.wrap ((n : Int) - (items.length : Int)) = (n : Int) - (items.length : Int) := IntWalk.i64_in _ (by omega)
    obtain ⟨F, hF⟩ : ∃ F, F = fitsB R n a b fr items pss := ⟨_, rfl⟩
    rw [← hF]
    by_cases r1 : fr < 0
    · have y1 : decide (fr < 0) = true := decide_eq_true r1
      have hf : F = false := by
        cases hq : F with
        | false => rfl
        | true => have := fitsB_in hpl (hF.symm.trans hq) (by omega); omega
      subst hf
      clear hF r1 h0
      go_enter Tryd.func46, Tryd.ntmps46
      go_upto_region 1 with fail
      rw [← HH.out, ← HW0.out, ← HW1.out]
      go_wp2_with fail
      go_ret
      exact ⟨rfl, BW.out⟩
    · have y1 : decide (fr < 0) = false := decide_eq_false r1
      by_cases r2 : (n : Int) - (items.length : Int) < fr
      · have y2 : decide ((n : Int) - (items.length : Int) < fr) = true := decide_eq_true r2
        have hf : F = false := by
          cases hq : F with
          | false => rfl
          | true => have := fitsB_in hpl (hF.symm.trans hq) (by omega); omega
        subst hf
        clear hF r1 r2 h0
        go_enter Tryd.func46, Tryd.ntmps46
        go_upto_region 1 with fail
        rw [← HH.out, ← HW0.out, ← HW1.out]
        go_wp2_with fail
        go_ret
        exact ⟨rfl, BW.out⟩
      · have y2 : decide ((n : Int) - (items.length : Int) < fr) = false := decide_eq_false r2
        have y3 : decide ((n : Int) < (items.length : Int)) = false := decide_eq_false (by omega)
        have y3b : decide (n < items.length) = false := decide_eq_false (by omega)
        obtain ⟨f, hff⟩ : ∃ f : Nat, fr = (f : Int) := ⟨fr.toNat, by omega⟩
        subst hff
        have hfm : f + items.length ≤ n := by omega
        have e2 : IntKind.i64.wrap ((f : Int) + (items.length : Int)) = (f : Int) + (items.length : Int) := IntWalk.i64_in _ (by omega)
        obtain ⟨pm, hpm⟩ : ∃ q, q = items.length - 1 := ⟨_, rfl⟩
        have e3 : IntKind.i64.wrap ((items.length : Int) - 1) = (pm : Int) := by rw [IntWalk.i64_in _ (by omega)]; omega
        obtain ⟨ib, io, hib, hibl, hr0⟩ := RI.out.ent HL.out (show 0 < items.length by omega)
        subst hib
        obtain ⟨b2, o2, hb2, hb2l, hrm⟩ := RI.out.ent HL.out (show pm < items.length by omega)
        obtain ⟨rfl, rfl⟩ : ib = b2 ∧ io = o2 := by simpa using hb2
        have ck0 := range_ekey hr0
        rw [Nat.zero_mul, Nat.add_zero] at ck0
        have ckm := range_ekey hrm
        obtain ⟨K0, hK0⟩ : ∃ x, x = (items[0]'(by omega)).key := ⟨_, rfl⟩
        obtain ⟨KM, hKM⟩ : ∃ x, x = (items[pm]'(by omega)).key := ⟨_, rfl⟩
        rw [← hK0] at ck0
        rw [← hKM] at ckm
        have jp0 : (0 : Int) ≤ (pm : Int) := by omega
        have jp1 : (pm : Int) < (items.length : Int) := by omega
        have jz : (0 : Int) < (items.length : Int) := by omega
        have hF2 : F = if (0 < f ∧ a ≤ K0) ∨ (f + items.length < n ∧ KM ≤ b) then false else fitS R n (f : Int) none 0 items pss := by
          rw [hF]
          unfold fitsB
          rw [dif_pos (show 0 < items.length by omega)]
          have hl1 : items[items.length - 1]'(by omega) = items[pm]'(by omega) := by simp only [hpm]
          rw [hl1, ← hK0, ← hKM]
          by_cases hc : (0 < f ∧ a ≤ K0) ∨ (f + items.length < n ∧ KM ≤ b)
          · rw [if_pos hc, if_pos (by omega)]
          · rw [if_neg hc, if_neg (by omega)]
        obtain ⟨ob, hob⟩ : ∃ ob, ob = decide ((0 < f ∧ a ≤ K0) ∨ (f + items.length < n ∧ KM ≤ b)) := ⟨_, rfl⟩
        have HOB := Lib.hid hob
        have HF2 := Lib.hid hF2
        have HFM := Lib.hid hfm
        have HIBL := Lib.hid hibl
        have HNP := Lib.hid (show 0 < items.length by omega)
        clear hob hF2 hF hK0 hKM hr0 hrm hb2 hb2l hpm hfm hibl r1 r2 h0
        go_enter Tryd.func46, Tryd.ntmps46
        go_upto_region 1 with fail
        rw [← HH.out, ← HW0.out, ← HW1.out]
        go_upto_region 6 with fail
        go_cut [76] from 46 to 76 (fun s wx => s = .bool ob ∧ v1 = wx)
        case first =>
          by_cases g1 : 0 < f
          · have z1 : decide ((0 : Int) < (f : Int)) = true := decide_eq_true (by omega)
            have z1b : decide (0 < f) = true := decide_eq_true g1
            by_cases g2 : a ≤ K0
            · have z2 : decide (a ≤ K0) = true := decide_eq_true g2
              have hv : ob = true := by rw [HOB.out]; exact decide_eq_true (by omega)
              subst hv
              go_wp2_with fail
              go_meet
              exact ⟨rfl, rfl⟩
            · have z2 : decide (a ≤ K0) = false := decide_eq_false g2
              by_cases g3 : f + items.length < n
              · have z3 : decide ((f : Int) + (items.length : Int) < (n : Int)) = true := decide_eq_true (by omega)
                by_cases g4 : KM ≤ b
                · have z4 : decide (KM ≤ b) = true := decide_eq_true g4
                  have hv : ob = true := by rw [HOB.out]; exact decide_eq_true (by omega)
                  subst hv
                  go_wp2_with fail
                  go_meet
                  exact ⟨rfl, rfl⟩
                · have z4 : decide (KM ≤ b) = false := decide_eq_false g4
                  have hv : ob = false := by rw [HOB.out]; exact decide_eq_false (by omega)
                  subst hv
                  go_wp2_with fail
                  go_meet
                  exact ⟨rfl, rfl⟩
              · have z3 : decide ((f : Int) + (items.length : Int) < (n : Int)) = false := decide_eq_false (by omega)
                have hv : ob = false := by rw [HOB.out]; exact decide_eq_false (by omega)
                subst hv
                go_wp2_with fail
                go_meet
                exact ⟨rfl, rfl⟩
          · have z1 : decide ((0 : Int) < (f : Int)) = false := decide_eq_false (by omega)
            have z1b : decide (0 < f) = false := decide_eq_false g1
            by_cases g3 : f + items.length < n
            · have z3 : decide ((f : Int) + (items.length : Int) < (n : Int)) = true := decide_eq_true (by omega)
              by_cases g4 : KM ≤ b
              · have z4 : decide (KM ≤ b) = true := decide_eq_true g4
                have hv : ob = true := by rw [HOB.out]; exact decide_eq_true (by omega)
                subst hv
                go_wp2_with fail
                go_meet
                exact ⟨rfl, rfl⟩
              · have z4 : decide (KM ≤ b) = false := decide_eq_false g4
                have hv : ob = false := by rw [HOB.out]; exact decide_eq_false (by omega)
                subst hv
                go_wp2_with fail
                go_meet
                exact ⟨rfl, rfl⟩
            · have z3 : decide ((f : Int) + (items.length : Int) < (n : Int)) = false := decide_eq_false (by omega)
              have hv : ob = false := by rw [HOB.out]; exact decide_eq_false (by omega)
              subst hv
              go_wp2_with fail
              go_meet
              exact ⟨rfl, rfl⟩
        case rest =>
        obtain ⟨rfl, rfl⟩ := hcut
        clear ck0 ckm y2 y3 y3b jz e1 e2 e3 y0 y0b
        by_cases hob : ob = true
        · have hf : F = false := by
            have h1 := HOB.out
            rw [hob] at h1
            rw [HF2.out, if_pos (of_decide_eq_true h1.symm)]
          subst hf
          subst hob
          go_wp2_with fail
          go_ret
          exact ⟨rfl, BW.out⟩
        · have hob2 : ob = false := by simpa using hob
          have hf : F = fitS R n (f : Int) none 0 items pss := by
            have h1 := HOB.out
            rw [hob2] at h1
            rw [HF2.out, if_neg (of_decide_eq_false h1.symm)]
          subst hob2
          have HS0 := Lib.hid hf
          clear hf hob HF2 HOB
          obtain ⟨pb, po, hpb, hpbl, hpcs⟩ := RP.out.cell (k := 0) (by rw [PS.out.1, PN.out]; exact HNP.out)
          subst hpb
          have LPB := Lib.hid hpbl
          have HPC := Lib.hid hpcs
          clear hpbl hpcs c0 c1 c2
          go_wp2_with fail
          go_loopw [12] (fun iv wr => ∃ k : Nat, k ≤ items.length ∧ iv = .int .i64 (k : Int) ∧ Hid (fitS R n (f : Int) (prevK items k) k (items.drop k) (pss.drop k) = F) ∧ Hid (Below v1.heap.size v1 wr)) (fun iv _ => items.length - (intOf iv).toNat)
          case atStart => exact ⟨0, Nat.zero_le _, rfl, Lib.hid HS0.out.symm, Lib.hid (Below.refl _ _)⟩
          case round =>
            obtain ⟨k, hk, rfl, HG0, HBL⟩ := hrel
            obtain ⟨wA, rfl⟩ : ∃ z, z = wr := ⟨_, rfl⟩
            by_cases hlt : k < items.length
            · obtain ⟨b9, o9, hab, hb9, hrg⟩ := RI.out.ent HL.out hlt
              obtain ⟨rfl, rfl⟩ : ib = b9 ∧ io = o9 := by simpa using hab
              have hltp : k < pss.length := by rw [PN.out]; exact hlt
              have hg := HG0.out
              rw [List.drop_eq_getElem_cons hlt, List.drop_eq_getElem_cons hltp, fitS_cons] at hg
              have hpk := prevK_succ items k hlt
              obtain ⟨hpd, xa, xc, xe, hvk, hxr⟩ := PS.out.2 k hltp
              have hcap := QC.out k hltp _ _ _ hvk
              obtain ⟨E, hE⟩ : ∃ E, E = items[k] := ⟨_, rfl⟩
              have hEW : EnW E := by rw [hE]; exact HWW.out _ (List.getElem_mem _)
              obtain ⟨ps, hps⟩ : ∃ p, p = pss[k] := ⟨_, rfl⟩
              rw [← hE] at hg hpk hrg
              rw [← hps] at hg hpd hvk hxr hcap
              have hvl : k < vs.length := by rw [PS.out.1]; exact hltp
              have HFP := Lib.hid (show v1.cell? ⟨pb, po + k, none⟩ = some (.slice xa ps.length xc) by
                rw [HPC.out k hvl, ← List.getElem?_eq_getElem hvl]; exact hvk)
              have j0 : (0 : Int) ≤ (k : Int) := by omega
              have j1 : (k : Int) < (items.length : Int) := by omega
              have e4 : IntKind.i64.wrap ((k : Int) + 1) = (k : Int) + 1 := IntWalk.i64_in _ (by omega)
              have HEW := Lib.hid hEW
              have HRG := Lib.hid hrg
              have HPK := Lib.hid hpk
              have HPD := Lib.hid hpd
              have HXR := Lib.hid hxr
              have HCAP := Lib.hid hcap
              have HG := Lib.hid hg
              have hfmk : f + k < n := by have := HFM.out; omega
              have d0 := (HBL.out.cell (p := ⟨H + 1, 0, none⟩) LH1.out).trans C0.out
              have d1 := (HBL.out.cell (p := ⟨H + 1, 1, none⟩) LH1.out).trans C1.out
              have d2 := (HBL.out.cell (p := ⟨H + 1, 2, none⟩) LH1.out).trans C2.out
              have ck : wA.cell? ⟨ib, io + k * 33, none⟩ = some (.int .i64 E.key) := (HBL.out.cell (p := ⟨ib, io + k * 33, none⟩) HIBL.out).trans (range_ekey hrg)
              obtain ⟨x, hx⟩ : ∃ x, x = E.key := ⟨_, rfl⟩
              rw [← hx] at ck
              have HX := Lib.hid hx
              clear hpk hE hEW hrg hps hb9 hab hltp hpd hxr hvk hvl hcap hg hx HG0
              by_cases hko : KeyOk E.key
              · have HKO := Lib.hid hko
                have HIK := Lib.hid (show ∀ m, Calls Tryd.prog 14 #[.int .i64 x] (wA.drewN m) fun e w'' => e = .returned (.bool true) ∧ ∃ z, w'' = wA.drewN z from fun m => (IsKey_calls x _).mono fun e w'' h => ⟨by rw [h.1, HX.out, decide_eq_true HKO.out], m, h.2.symm⟩)
                clear hko
                by_cases hk0 : k = 0
                · have zk : decide (0 < k) = false := decide_eq_false (by omega)
                  have zk2 : decide ((0 : Int) < (k : Int)) = false := decide_eq_false (by omega)
                  have HBK := Lib.hid (show badK (prevK items k) E.key = false by rw [hk0]; rfl)
                  clear hk0
                  go_wp2_with fail
                  refine wp_region_quiet_lit (by kernel_rfl) (by kernel_rfl) ?_
                  repeat (go_big_quiet_step (exact HIK.out _))
                  refine wpQuiet_nil ?_
                  rintro _ ⟨nq, rfl⟩
                  obtain ⟨wN, hwN⟩ : ∃ z, z = wA.drewN nq := ⟨_, rfl⟩
                  have bAN : Below wA.heap.size wA wN := by rw [hwN]; exact below_drewN (Below.refl _ _) nq
                  have BN := Lib.hid (HBL.out.trans (bAN.mono HBL.out.size))
                  rw [← hwN]
                  obtain ⟨q, hq⟩ : ∃ q, q = f + k := ⟨_, rfl⟩
                  have e5 : IntKind.i64.wrap ((f : Int) + (k : Int)) = (q : Int) := by rw [IntWalk.i64_in _ (by omega)]; omega
                  have hqn : q < n := by omega
                  have n0 : wN.cell? ⟨H + 1, 0, none⟩ = some (.int .i64 (f : Int)) := (BN.out.cell (p := ⟨H + 1, 0, none⟩) LH1.out).trans C0.out
                  have n1 : wN.cell? ⟨H + 1, 1, none⟩ = some (.slice (some ⟨ib, io, none⟩) items.length ic) := (BN.out.cell (p := ⟨H + 1, 1, none⟩) LH1.out).trans C1.out
                  have n2 : wN.cell? ⟨H + 1, 2, none⟩ = some (.slice (some ⟨pb, po, none⟩) items.length pc) := (BN.out.cell (p := ⟨H + 1, 2, none⟩) LH1.out).trans C2.out
                  have np : wN.cell? ⟨pb, po + k, none⟩ = some (.slice xa ps.length xc) := (BN.out.cell (p := ⟨pb, po + k, none⟩) LPB.out).trans HFP.out
                  have hg9 := HG.out
                  simp only [Int.toNat_natCast, ← hq] at hg9
                  have HQ := Lib.hid hq
                  have HQN := Lib.hid hqn
                  have LC := Lib.hid (fun w' => RLong_calls n n q (Nat.le_refl _) (by omega) HN.out hqn w')
                  clear hwN bAN d0 d1 d2 ck hqn hq
                  by_cases hlen : ps.length = tlong q n
                  · have HLEN := Lib.hid hlen
                    have e8 : ((ps.length : Int) != ((tlong q n : Nat) : Int)) = false := by rw [hlen]; simp
                    have e9 : (ps.length != tlong q n) = false := by rw [hlen]; simp
                    obtain ⟨u, hu⟩ : ∃ u, u = itemD E := ⟨_, rfl⟩
                    have UL := Lib.hid (show u.length = 32 by rw [hu]; exact itemD_length _)
                    obtain ⟨D2, hD2⟩ : ∃ D, D = tfold u q n ps := ⟨_, rfl⟩
                    have D2L := Lib.hid (show D2.length = 32 by rw [hD2]; exact tfold_length _ _ _ _ UL.out)
                    have lc : ∀ w', InB wN.heap.size wN w' → Calls Tryd.prog 69 #[.int .i64 (q : Int), .int .i64 (n : Int)] w' fun e w'' => e = .returned (.int .i64 ((tlong q n : Nat) : Int)) ∧ InB wN.heap.size wN w'' := fun w' h => InB.calm h (LC.out w')
                    have ic_ : ∀ w', InB wN.heap.size wN w' → Calls Tryd.prog 38 #[.agg (eV E.key E.val)] w' fun e w'' => e = .returned (.agg (dV u)) ∧ InB wN.heap.size wN w'' := fun w' h => InB.call h (Nat.le_refl _) (by rw [hu]; exact ItemLeaf_calls E HEW.out HKO.out w')
                    have fc : ∀ w', InB wN.heap.size wN w' → Calls Tryd.prog 66 #[.agg (dV u), .int .i64 (q : Int), .int .i64 (n : Int), .slice xa ps.length xc] w' fun e w'' => e = .returned (.agg (dV D2)) ∧ InB wN.heap.size wN w'' := fun w' h => InB.call h (Nat.le_refl _) (by rw [hD2]; exact RFolded_calls n n q (Nat.le_refl _) (by have := HQN.out; omega) HN.out HQN.out u ps UL.out HPD.out hlen xa xc xe HCAP.out.1 HCAP.out.2 w' (HXR.out.below (BN.out.trans (Below.mono h BN.out.size))))
                    have HLC := Lib.hid lc
                    have HIC := Lib.hid ic_
                    have HFC := Lib.hid fc
                    have F0 := Lib.hid (show ∀ w', InB wN.heap.size wN w' → w'.cell? ⟨H + 1, 0, none⟩ = some (.int .i64 (f : Int)) from fun w' h => (Below.cell h (p := ⟨H + 1, 0, none⟩) (Nat.lt_of_lt_of_le LH1.out BN.out.size)).trans n0)
                    have F1 := Lib.hid (show ∀ w', InB wN.heap.size wN w' → w'.cell? ⟨H + 1, 1, none⟩ = some (.slice (some ⟨ib, io, none⟩) items.length ic) from fun w' h => (Below.cell h (p := ⟨H + 1, 1, none⟩) (Nat.lt_of_lt_of_le LH1.out BN.out.size)).trans n1)
                    have F2 := Lib.hid (show ∀ w', InB wN.heap.size wN w' → w'.cell? ⟨H + 1, 2, none⟩ = some (.slice (some ⟨pb, po, none⟩) items.length pc) from fun w' h => (Below.cell h (p := ⟨H + 1, 2, none⟩) (Nat.lt_of_lt_of_le LH1.out BN.out.size)).trans n2)
                    have FP := Lib.hid (show ∀ w', InB wN.heap.size wN w' → w'.cell? ⟨pb, po + k, none⟩ = some (.slice xa ps.length xc) from fun w' h => (Below.cell h (p := ⟨pb, po + k, none⟩) (Nat.lt_of_lt_of_le LPB.out BN.out.size)).trans np)
                    have FE := Lib.hid (show ∀ w', InB wN.heap.size wN w' → w'.rangeAt ib (io + k * 33) (eL E) from fun w' h => h.range (Nat.lt_of_lt_of_le HIBL.out BN.out.size) (range_keep BN.out HRG.out HIBL.out))
                    have FR := Lib.hid (show ∀ w', InB wN.heap.size wN w' → w'.rangeAt H 0 (R.map vB) from fun w' h => h.range (Nat.lt_of_lt_of_le (by have := LH1.out; omega) BN.out.size) (range_keep BN.out (range_of_row G0.out) (by have := LH1.out; omega)))
                    have HD2 := Lib.hid (show D2 = tfold (itemD E) q n ps by rw [hD2, hu])
                    have hex := inB_ex wN.heap.size wN
                    obtain ⟨rb, hrb⟩ : ∃ rb, (D2 == R) = rb := ⟨_, rfl⟩
                    have HRB_ := Lib.hid hrb
                    clear lc ic_ fc n0 n1 n2 np hu hD2 hlen hrb
                    go_wp2_with fail
                    refine wp_region_inB wN.heap.size (by kernel_rfl) (by kernel_rfl) ?_
                    repeat (first
                      | (refine quiet_cell1 rfl (.tmp 110) rfl ⟨H + 1, 2, none⟩ (by rfl) (.slice (some ⟨pb, po, none⟩) items.length pc) (fun w' hw' => by have hc := F2.out w' hw'; go_simp) ?_; simp only [Act.put, List.setIfInBounds_toArray, List.set_cons_zero, List.set_cons_succ])
                      | (refine quiet_cell1 rfl (.tmp 113) rfl ⟨pb, po + k, none⟩ (by rfl) (.slice xa ps.length xc) (fun w' hw' => by have hc := FP.out w' hw'; go_simp) ?_; simp only [Act.put, List.setIfInBounds_toArray, List.set_cons_zero, List.set_cons_succ])
                      | (refine quiet_cell1 rfl (.tmp 116) rfl ⟨H + 1, 0, none⟩ (by rfl) (.int .i64 (f : Int)) (fun w' hw' => by have hc := F0.out w' hw'; go_simp) ?_; simp only [Act.put, List.setIfInBounds_toArray, List.set_cons_zero, List.set_cons_succ])
                      | (refine quiet_cell1 rfl (.tmp 124) rfl ⟨H + 1, 1, none⟩ (by rfl) (.slice (some ⟨ib, io, none⟩) items.length ic) (fun w' hw' => by have hc := F1.out w' hw'; go_simp) ?_; simp only [Act.put, List.setIfInBounds_toArray, List.set_cons_zero, List.set_cons_succ])
                      | (refine quiet_cell1 rfl (.tmp 130) rfl ⟨H + 1, 0, none⟩ (by rfl) (.int .i64 (f : Int)) (fun w' hw' => by have hc := F0.out w' hw'; go_simp) ?_; simp only [Act.put, List.setIfInBounds_toArray, List.set_cons_zero, List.set_cons_succ])
                      | (refine quiet_cell1 rfl (.tmp 135) rfl ⟨H + 1, 2, none⟩ (by rfl) (.slice (some ⟨pb, po, none⟩) items.length pc) (fun w' hw' => by have hc := F2.out w' hw'; go_simp) ?_; simp only [Act.put, List.setIfInBounds_toArray, List.set_cons_zero, List.set_cons_succ])
                      | (refine quiet_cell1 rfl (.tmp 138) rfl ⟨pb, po + k, none⟩ (by rfl) (.slice xa ps.length xc) (fun w' hw' => by have hc := FP.out w' hw'; go_simp) ?_; simp only [Act.put, List.setIfInBounds_toArray, List.set_cons_zero, List.set_cons_succ])
                      | (refine quiet_entE rfl (.tmp 127) rfl ib (io + k * 33) (by rfl) E HEW.out.1 FE.out ?_; simp only [Act.put, List.setIfInBounds_toArray, List.set_cons_zero, List.set_cons_succ])
                      | (refine quiet_dig rfl (.tmp 5) rfl H 0 (by rfl) R RL.out FR.out ?_; simp only [Act.put, List.setIfInBounds_toArray, List.set_cons_zero, List.set_cons_succ])
                      | (refine quiet_dig_neq rfl (.tmp 140) (.tmp 141) _ rfl D2 R (by rfl) (by rfl) D2L.out RL.out ?_; rw [HRB_.out]; simp only [Act.put, List.setIfInBounds_toArray, List.set_cons_zero, List.set_cons_succ])
                      | go_big_quiet_step ((first | (intro hw'; exact HLC.out _ hw') | (intro hw'; exact HIC.out _ hw') | (intro hw'; exact HFC.out _ hw') | (intro _; rfl))))
                    refine wpQuiet_nil ?_
                    intro wZ hwZ
                    have BZ := Lib.hid (show Below v1.heap.size v1 wZ from BN.out.trans (Below.mono hwZ BN.out.size))
                    clear hwZ hex
                    cases rb with
                    | true =>
                      have hdr : D2 = R := by have := HRB_.out; rwa [beq_iff_eq] at this
                      rw [if_pos ⟨HKO.out, HBK.out, by omega, by have := HQN.out; have := HQ.out; omega, by have := HQN.out; have := HQ.out; omega, HLEN.out, by rw [← HD2.out]; exact hdr⟩] at hg9
                      have HG9 := Lib.hid hg9
                      clear hg9 hdr
                      go_wp2_with fail
                      go_roundw
                      case rel => exact ⟨k + 1, by omega, by go_num, Lib.hid (by rw [HPK.out]; exact HG9.out), BZ⟩
                      case measure => simp [intOf]; omega
                    | false =>
                      have hdr : ¬ D2 = R := by have := HRB_.out; rwa [beq_eq_false_iff_ne] at this
                      rw [if_neg (fun h => hdr (by rw [HD2.out]; exact h.2.2.2.2.2.2))] at hg9
                      subst hg9
                      clear hdr
                      go_wp2_with fail
                      go_ret
                      exact ⟨rfl, BW.out.trans (BZ.out.mono BW.out.size)⟩
                  · rw [if_neg (fun h => hlen h.2.2.2.2.2.1)] at hg9
                    subst hg9
                    have e8 : ((ps.length : Int) != ((tlong q n : Nat) : Int)) = true := by rw [bne_iff_ne]; omega
                    have e9 : (ps.length != tlong q n) = true := by rw [bne_iff_ne]; exact hlen
                    have HLC := Lib.hid (show ∀ m, Calls Tryd.prog 69 #[.int .i64 (q : Int), .int .i64 (n : Int)] (wN.drewN m) fun e w'' => e = .returned (.int .i64 ((tlong q n : Nat) : Int)) ∧ ∃ z, w'' = wN.drewN z from fun m => (LC.out _).mono fun e w'' h => ⟨h.1, m, h.2.symm⟩)
                    clear hlen
                    go_wp2_with fail
                    refine wp_region_quiet_lit (by kernel_rfl) (by kernel_rfl) ?_
                    repeat (go_big_quiet_step (exact HLC.out _))
                    refine wpQuiet_nil ?_
                    rintro _ ⟨nq2, rfl⟩
                    have BZ := Lib.hid (below_drewN BN.out nq2)
                    go_wp2_with fail
                    go_ret
                    exact ⟨rfl, BW.out.trans (BZ.out.mono BW.out.size)⟩
                · have zk : decide (0 < k) = true := decide_eq_true (by omega)
                  have zk2 : decide ((0 : Int) < (k : Int)) = true := decide_eq_true (by omega)
                  obtain ⟨m9, hm9⟩ : ∃ m9, k = m9 + 1 := ⟨k - 1, by omega⟩
                  have hq9 : m9 < items.length := by omega
                  obtain ⟨b8, o8, hab9, hb8, hrg9⟩ := RI.out.ent HL.out hq9
                  obtain ⟨rfl, rfl⟩ : ib = b8 ∧ io = o8 := by simpa using hab9
                  have hbk := prevK_succ items m9 hq9
                  rw [← hm9] at hbk
                  obtain ⟨y, hy⟩ : ∃ y, y = items[m9].key := ⟨_, rfl⟩
                  rw [← hy] at hbk
                  have cq : wA.cell? ⟨ib, io + m9 * 33, none⟩ = some (.int .i64 y) := by
                    rw [hy]; exact (HBL.out.cell (p := ⟨ib, io + m9 * 33, none⟩) HIBL.out).trans (range_ekey hrg9)
                  have e6 : IntKind.i64.wrap ((k : Int) - 1) = (m9 : Int) := by rw [IntWalk.i64_in _ (by omega)]; omega
                  have q0 : (0 : Int) ≤ (m9 : Int) := by omega
                  have q1 : (m9 : Int) < (items.length : Int) := by omega
                  clear hrg9 hab9 hb8 hy hm9 hk0
                  by_cases hle : x ≤ y
                  · have z8 : decide (x ≤ y) = true := decide_eq_true hle
                    have hg3 := HG.out
                    rw [if_neg (fun h => by have h2 := h.2.1; rw [hbk, ← HX.out] at h2; exact absurd (show decide (x ≤ y) = false from h2) (by rw [z8]; simp))] at hg3
                    subst hg3
                    clear HG
                    clear hle hbk
                    go_wp2_with fail
                    refine wp_region_quiet_lit (by kernel_rfl) (by kernel_rfl) ?_
                    repeat (go_big_quiet_step (exact HIK.out _))
                    refine wpQuiet_nil ?_
                    rintro _ ⟨nq, rfl⟩
                    obtain ⟨wN, hwN⟩ : ∃ z, z = wA.drewN nq := ⟨_, rfl⟩
                    have bAN : Below wA.heap.size wA wN := by rw [hwN]; exact below_drewN (Below.refl _ _) nq
                    have BN := Lib.hid (HBL.out.trans (bAN.mono HBL.out.size))
                    rw [← hwN]
                    go_wp2_with fail
                    go_ret
                    exact ⟨rfl, BW.out.trans (BN.out.mono BW.out.size)⟩
                  · have z8 : decide (x ≤ y) = false := decide_eq_false hle
                    have HBK := Lib.hid (show badK (prevK items k) E.key = false by rw [hbk, ← HX.out]; exact z8)
                    clear hle hbk
                    go_wp2_with fail
                    refine wp_region_quiet_lit (by kernel_rfl) (by kernel_rfl) ?_
                    repeat (go_big_quiet_step (exact HIK.out _))
                    refine wpQuiet_nil ?_
                    rintro _ ⟨nq, rfl⟩
                    obtain ⟨wN, hwN⟩ : ∃ z, z = wA.drewN nq := ⟨_, rfl⟩
                    have bAN : Below wA.heap.size wA wN := by rw [hwN]; exact below_drewN (Below.refl _ _) nq
                    have BN := Lib.hid (HBL.out.trans (bAN.mono HBL.out.size))
                    rw [← hwN]
                    clear cq
                    obtain ⟨q, hq⟩ : ∃ q, q = f + k := ⟨_, rfl⟩
                    have e5 : IntKind.i64.wrap ((f : Int) + (k : Int)) = (q : Int) := by rw [IntWalk.i64_in _ (by omega)]; omega
                    have hqn : q < n := by omega
                    have n0 : wN.cell? ⟨H + 1, 0, none⟩ = some (.int .i64 (f : Int)) := (BN.out.cell (p := ⟨H + 1, 0, none⟩) LH1.out).trans C0.out
                    have n1 : wN.cell? ⟨H + 1, 1, none⟩ = some (.slice (some ⟨ib, io, none⟩) items.length ic) := (BN.out.cell (p := ⟨H + 1, 1, none⟩) LH1.out).trans C1.out
                    have n2 : wN.cell? ⟨H + 1, 2, none⟩ = some (.slice (some ⟨pb, po, none⟩) items.length pc) := (BN.out.cell (p := ⟨H + 1, 2, none⟩) LH1.out).trans C2.out
                    have np : wN.cell? ⟨pb, po + k, none⟩ = some (.slice xa ps.length xc) := (BN.out.cell (p := ⟨pb, po + k, none⟩) LPB.out).trans HFP.out
                    have hg9 := HG.out
                    simp only [Int.toNat_natCast, ← hq] at hg9
                    have HQ := Lib.hid hq
                    have HQN := Lib.hid hqn
                    have LC := Lib.hid (fun w' => RLong_calls n n q (Nat.le_refl _) (by omega) HN.out hqn w')
                    clear hwN bAN d0 d1 d2 ck hqn hq
                    by_cases hlen : ps.length = tlong q n
                    · have HLEN := Lib.hid hlen
                      have e8 : ((ps.length : Int) != ((tlong q n : Nat) : Int)) = false := by rw [hlen]; simp
                      have e9 : (ps.length != tlong q n) = false := by rw [hlen]; simp
                      obtain ⟨u, hu⟩ : ∃ u, u = itemD E := ⟨_, rfl⟩
                      have UL := Lib.hid (show u.length = 32 by rw [hu]; exact itemD_length _)
                      obtain ⟨D2, hD2⟩ : ∃ D, D = tfold u q n ps := ⟨_, rfl⟩
                      have D2L := Lib.hid (show D2.length = 32 by rw [hD2]; exact tfold_length _ _ _ _ UL.out)
                      have lc : ∀ w', InB wN.heap.size wN w' → Calls Tryd.prog 69 #[.int .i64 (q : Int), .int .i64 (n : Int)] w' fun e w'' => e = .returned (.int .i64 ((tlong q n : Nat) : Int)) ∧ InB wN.heap.size wN w'' := fun w' h => InB.calm h (LC.out w')
                      have ic_ : ∀ w', InB wN.heap.size wN w' → Calls Tryd.prog 38 #[.agg (eV E.key E.val)] w' fun e w'' => e = .returned (.agg (dV u)) ∧ InB wN.heap.size wN w'' := fun w' h => InB.call h (Nat.le_refl _) (by rw [hu]; exact ItemLeaf_calls E HEW.out HKO.out w')
                      have fc : ∀ w', InB wN.heap.size wN w' → Calls Tryd.prog 66 #[.agg (dV u), .int .i64 (q : Int), .int .i64 (n : Int), .slice xa ps.length xc] w' fun e w'' => e = .returned (.agg (dV D2)) ∧ InB wN.heap.size wN w'' := fun w' h => InB.call h (Nat.le_refl _) (by rw [hD2]; exact RFolded_calls n n q (Nat.le_refl _) (by have := HQN.out; omega) HN.out HQN.out u ps UL.out HPD.out hlen xa xc xe HCAP.out.1 HCAP.out.2 w' (HXR.out.below (BN.out.trans (Below.mono h BN.out.size))))
                      have HLC := Lib.hid lc
                      have HIC := Lib.hid ic_
                      have HFC := Lib.hid fc
                      have F0 := Lib.hid (show ∀ w', InB wN.heap.size wN w' → w'.cell? ⟨H + 1, 0, none⟩ = some (.int .i64 (f : Int)) from fun w' h => (Below.cell h (p := ⟨H + 1, 0, none⟩) (Nat.lt_of_lt_of_le LH1.out BN.out.size)).trans n0)
                      have F1 := Lib.hid (show ∀ w', InB wN.heap.size wN w' → w'.cell? ⟨H + 1, 1, none⟩ = some (.slice (some ⟨ib, io, none⟩) items.length ic) from fun w' h => (Below.cell h (p := ⟨H + 1, 1, none⟩) (Nat.lt_of_lt_of_le LH1.out BN.out.size)).trans n1)
                      have F2 := Lib.hid (show ∀ w', InB wN.heap.size wN w' → w'.cell? ⟨H + 1, 2, none⟩ = some (.slice (some ⟨pb, po, none⟩) items.length pc) from fun w' h => (Below.cell h (p := ⟨H + 1, 2, none⟩) (Nat.lt_of_lt_of_le LH1.out BN.out.size)).trans n2)
                      have FP := Lib.hid (show ∀ w', InB wN.heap.size wN w' → w'.cell? ⟨pb, po + k, none⟩ = some (.slice xa ps.length xc) from fun w' h => (Below.cell h (p := ⟨pb, po + k, none⟩) (Nat.lt_of_lt_of_le LPB.out BN.out.size)).trans np)
                      have FE := Lib.hid (show ∀ w', InB wN.heap.size wN w' → w'.rangeAt ib (io + k * 33) (eL E) from fun w' h => h.range (Nat.lt_of_lt_of_le HIBL.out BN.out.size) (range_keep BN.out HRG.out HIBL.out))
                      have FR := Lib.hid (show ∀ w', InB wN.heap.size wN w' → w'.rangeAt H 0 (R.map vB) from fun w' h => h.range (Nat.lt_of_lt_of_le (by have := LH1.out; omega) BN.out.size) (range_keep BN.out (range_of_row G0.out) (by have := LH1.out; omega)))
                      have HD2 := Lib.hid (show D2 = tfold (itemD E) q n ps by rw [hD2, hu])
                      have hex := inB_ex wN.heap.size wN
                      obtain ⟨rb, hrb⟩ : ∃ rb, (D2 == R) = rb := ⟨_, rfl⟩
                      have HRB_ := Lib.hid hrb
                      clear lc ic_ fc n0 n1 n2 np hu hD2 hlen hrb
                      go_wp2_with fail
                      refine wp_region_inB wN.heap.size (by kernel_rfl) (by kernel_rfl) ?_
                      repeat (first
                        | (refine quiet_cell1 rfl (.tmp 110) rfl ⟨H + 1, 2, none⟩ (by rfl) (.slice (some ⟨pb, po, none⟩) items.length pc) (fun w' hw' => by have hc := F2.out w' hw'; go_simp) ?_; simp only [Act.put, List.setIfInBounds_toArray, List.set_cons_zero, List.set_cons_succ])
                        | (refine quiet_cell1 rfl (.tmp 113) rfl ⟨pb, po + k, none⟩ (by rfl) (.slice xa ps.length xc) (fun w' hw' => by have hc := FP.out w' hw'; go_simp) ?_; simp only [Act.put, List.setIfInBounds_toArray, List.set_cons_zero, List.set_cons_succ])
                        | (refine quiet_cell1 rfl (.tmp 116) rfl ⟨H + 1, 0, none⟩ (by rfl) (.int .i64 (f : Int)) (fun w' hw' => by have hc := F0.out w' hw'; go_simp) ?_; simp only [Act.put, List.setIfInBounds_toArray, List.set_cons_zero, List.set_cons_succ])
                        | (refine quiet_cell1 rfl (.tmp 124) rfl ⟨H + 1, 1, none⟩ (by rfl) (.slice (some ⟨ib, io, none⟩) items.length ic) (fun w' hw' => by have hc := F1.out w' hw'; go_simp) ?_; simp only [Act.put, List.setIfInBounds_toArray, List.set_cons_zero, List.set_cons_succ])
                        | (refine quiet_cell1 rfl (.tmp 130) rfl ⟨H + 1, 0, none⟩ (by rfl) (.int .i64 (f : Int)) (fun w' hw' => by have hc := F0.out w' hw'; go_simp) ?_; simp only [Act.put, List.setIfInBounds_toArray, List.set_cons_zero, List.set_cons_succ])
                        | (refine quiet_cell1 rfl (.tmp 135) rfl ⟨H + 1, 2, none⟩ (by rfl) (.slice (some ⟨pb, po, none⟩) items.length pc) (fun w' hw' => by have hc := F2.out w' hw'; go_simp) ?_; simp only [Act.put, List.setIfInBounds_toArray, List.set_cons_zero, List.set_cons_succ])
                        | (refine quiet_cell1 rfl (.tmp 138) rfl ⟨pb, po + k, none⟩ (by rfl) (.slice xa ps.length xc) (fun w' hw' => by have hc := FP.out w' hw'; go_simp) ?_; simp only [Act.put, List.setIfInBounds_toArray, List.set_cons_zero, List.set_cons_succ])
                        | (refine quiet_entE rfl (.tmp 127) rfl ib (io + k * 33) (by rfl) E HEW.out.1 FE.out ?_; simp only [Act.put, List.setIfInBounds_toArray, List.set_cons_zero, List.set_cons_succ])
                        | (refine quiet_dig rfl (.tmp 5) rfl H 0 (by rfl) R RL.out FR.out ?_; simp only [Act.put, List.setIfInBounds_toArray, List.set_cons_zero, List.set_cons_succ])
                        | (refine quiet_dig_neq rfl (.tmp 140) (.tmp 141) _ rfl D2 R (by rfl) (by rfl) D2L.out RL.out ?_; rw [HRB_.out]; simp only [Act.put, List.setIfInBounds_toArray, List.set_cons_zero, List.set_cons_succ])
                        | go_big_quiet_step ((first | (intro hw'; exact HLC.out _ hw') | (intro hw'; exact HIC.out _ hw') | (intro hw'; exact HFC.out _ hw') | (intro _; rfl))))
                      refine wpQuiet_nil ?_
                      intro wZ hwZ
                      have BZ := Lib.hid (show Below v1.heap.size v1 wZ from BN.out.trans (Below.mono hwZ BN.out.size))
                      clear hwZ hex
                      cases rb with
                      | true =>
                        have hdr : D2 = R := by have := HRB_.out; rwa [beq_iff_eq] at this
                        rw [if_pos ⟨HKO.out, HBK.out, by omega, by have := HQN.out; have := HQ.out; omega, by have := HQN.out; have := HQ.out; omega, HLEN.out, by rw [← HD2.out]; exact hdr⟩] at hg9
                        have HG9 := Lib.hid hg9
                        clear hg9 hdr
                        go_wp2_with fail
                        go_roundw
                        case rel => exact ⟨k + 1, by omega, by go_num, Lib.hid (by rw [HPK.out]; exact HG9.out), BZ⟩
                        case measure => simp [intOf]; omega
                      | false =>
                        have hdr : ¬ D2 = R := by have := HRB_.out; rwa [beq_eq_false_iff_ne] at this
                        rw [if_neg (fun h => hdr (by rw [HD2.out]; exact h.2.2.2.2.2.2))] at hg9
                        subst hg9
                        clear hdr
                        go_wp2_with fail
                        go_ret
                        exact ⟨rfl, BW.out.trans (BZ.out.mono BW.out.size)⟩
                    · rw [if_neg (fun h => hlen h.2.2.2.2.2.1)] at hg9
                      subst hg9
                      have e8 : ((ps.length : Int) != ((tlong q n : Nat) : Int)) = true := by rw [bne_iff_ne]; omega
                      have e9 : (ps.length != tlong q n) = true := by rw [bne_iff_ne]; exact hlen
                      have HLC := Lib.hid (show ∀ m, Calls Tryd.prog 69 #[.int .i64 (q : Int), .int .i64 (n : Int)] (wN.drewN m) fun e w'' => e = .returned (.int .i64 ((tlong q n : Nat) : Int)) ∧ ∃ z, w'' = wN.drewN z from fun m => (LC.out _).mono fun e w'' h => ⟨h.1, m, h.2.symm⟩)
                      clear hlen
                      go_wp2_with fail
                      refine wp_region_quiet_lit (by kernel_rfl) (by kernel_rfl) ?_
                      repeat (go_big_quiet_step (exact HLC.out _))
                      refine wpQuiet_nil ?_
                      rintro _ ⟨nq2, rfl⟩
                      have BZ := Lib.hid (below_drewN BN.out nq2)
                      go_wp2_with fail
                      go_ret
                      exact ⟨rfl, BW.out.trans (BZ.out.mono BW.out.size)⟩
              · have HIK := Lib.hid (show ∀ m, Calls Tryd.prog 14 #[.int .i64 x] (wA.drewN m) fun e w'' => e = .returned (.bool false) ∧ ∃ z, w'' = wA.drewN z from fun m => (IsKey_calls x _).mono fun e w'' h => ⟨by rw [h.1, HX.out, decide_eq_false hko], m, h.2.symm⟩)
                have hg3 := HG.out
                rw [if_neg (fun h => hko h.1)] at hg3
                subst hg3
                clear HG
                clear hko
                go_wp2_with fail
                refine wp_region_quiet_lit (by kernel_rfl) (by kernel_rfl) ?_
                repeat (go_big_quiet_step (exact HIK.out _))
                refine wpQuiet_nil ?_
                rintro _ ⟨nq, rfl⟩
                obtain ⟨wN, hwN⟩ : ∃ z, z = wA.drewN nq := ⟨_, rfl⟩
                have bAN : Below wA.heap.size wA wN := by rw [hwN]; exact below_drewN (Below.refl _ _) nq
                have BN := Lib.hid (HBL.out.trans (bAN.mono HBL.out.size))
                rw [← hwN]
                go_wp2_with fail
                go_ret
                exact ⟨rfl, BW.out.trans (BN.out.mono BW.out.size)⟩
            · obtain rfl : k = items.length := by omega
              have hg := HG0.out
              rw [List.drop_of_length_le (Nat.le_refl _), fitS_nil] at hg
              subst hg
              clear HG0
              go_wp2_with fail
              go_ret
              exact ⟨rfl, BW.out.trans (HBL.out.mono BW.out.size)⟩
end Go.Proofs.YtpeomfehdccmmaaDoor
