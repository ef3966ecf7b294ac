/- Walks: the document's Counts1 and Counts. -/
import Derived.Test.YteikbbdkpeecaaaDoorBidText
import Derived.Test.YteikbbdkpeecaaaDoorBidCount
namespace Go.Proofs.YteikbbdkpeecaaaDoor
open Go.RowKit
set_option linter.unusedVariables false
set_option linter.unusedSimpArgs false

theorem load_i64 {p : Addr} {z : Int} {w : World} (h : w.cell? p = some (.int .i64 z)) : (loadVar 3 p).run Tryd.prog w = .ok (.int .i64 z) w := by go_simp
theorem quiet_int {ops : Array Oper} {C : World → Prop} {Q : Act → Prop} {a : Act} {op : Oper} {rest : List Oper} {x1 : Operand} (ho : op.op = .load 3 x1) (x : Operand) (he_ : x1 = x) (p : Addr) (hx : a.eval x = .pointer (some p)) (z : Int) (hC : ∀ w, C w → w.cell? p = some (.int .i64 z))
    (h : wpQuiet Tryd.prog ops C Q rest (a.put op.dst (.int .i64 z))) (hgd : Region.wanted op (yielded ops a.tmps) = true) : wpQuiet Tryd.prog ops C Q (op :: rest) a := by
  cases he_
  exact quiet_cell hgd _ _ ho p hx _ (fun w hw => load_i64 (hC w hw)) h
/-- has a bid its vow? -/
def hasV (vs : List (List UInt8)) (b : Bd) : Bool := decide (BdOk b) && (decide (b.who < (vs.length : Int)) && (bidD b == vs.getD b.who.toNat []))
theorem hasV_no {vs : List (List UInt8)} {b : Bd} (h : ¬ BdOk b) : hasV vs b = false := by unfold hasV; rw [decide_eq_false h, Bool.false_and]
theorem hasV_far {vs : List (List UInt8)} {b : Bd} (h : ¬ b.who < (vs.length : Int)) : hasV vs b = false := by unfold hasV; rw [decide_eq_false h, Bool.false_and, Bool.and_false]
theorem hasV_at {vs : List (List UInt8)} {b : Bd} (h : BdOk b) {k : Nat} (hk : b.who = (k : Int)) (hl : k < vs.length) : hasV vs b = (bidD b == vs[k]) := by
  unfold hasV
  rw [decide_eq_true h, decide_eq_true (by omega), Bool.true_and, Bool.true_and, hk, Int.toNat_natCast, List.getD_eq_getElem?_getD, List.getElem?_eq_getElem hl, Option.getD_some]
set_option maxRecDepth 20000 in
set_option maxHeartbeats 4000000 in
theorem Counts1_calls (vs : List (List UInt8)) (hvs : ∀ d ∈ vs, d.length = 32) (hl : vs.length ≤ 9223372036854775807) (a : Option Addr) (c e : Nat) (b : Bd) (hb : BdW b) (w : World) (hr : Rd w a e (vs.flatten.map vB)) :
    Calls Tryd.prog 49 #[.slice a vs.length c, .agg (bV b.who b.amount b.salt)] w fun e w' => e = .returned (.bool (hasV vs b)) ∧ Below w.heap.size w w' := by
  obtain ⟨H, hH⟩ : ∃ H, H = w.heap.size := ⟨_, rfl⟩
  obtain ⟨w0, hw0⟩ : ∃ z, z = w.alloc (.cells (bV b.who b.amount b.salt) 59) := ⟨_, rfl⟩
  have q0 : w0.heap.size = H + 1 := by rw [hw0, hH]; exact World.size_alloc _ _
  have s0 : Below (H) w w0 := by rw [hw0, hH]; exact (Below.refl _ _).alloc (Nat.le_refl _) _
  have t0 : Below (H + 1) w0 w0 := Below.refl _ _
  have bL : Below H w w0 := s0.trans (t0.mono (by omega))
  have g0 : w0.heap[H]? = some (.cells (bV b.who b.amount b.salt) 59 (0, 0)) := by
    have g : w0.heap[H]? = some (.cells (bV b.who b.amount b.salt) 59 (0, 0)) := by rw [hw0, hH]; exact heap_alloc_new _ _
    exact (t0.block _ (by omega)).trans g
  have bW : Below w.heap.size w w0 := by rw [← hH]; exact bL
  have hsz : H < w0.heap.size := by omega
  have HH := Lib.hid hH
  have HW0 := Lib.hid hw0
  have BL := Lib.hid bL
  have BW := Lib.hid bW
  have QL := Lib.hid q0
  have G0 := Lib.hid g0
  clear hH hw0 q0 s0 t0 g0 bL bW
  have BT := BidText_calls b hb w0
  have HBT := Lib.hid BT
  have HB := Lib.hid hb
  have HVS := Lib.hid hvs
  have HL := Lib.hid hl
  have HR := Lib.hid (hr.below BW.out)
  obtain ⟨F, hF⟩ : ∃ F, F = hasV vs b := ⟨_, rfl⟩
  rw [← hF]
  have HF := Lib.hid hF
  clear BT hb hvs hl hr hF
  go_enter Tryd.func49, Tryd.ntmps49
  go_upto_region 1 with fail
  rw [← HH.out, ← HW0.out]
  go_wp2_with ((refine ld_bidG rfl (.tmp 3) rfl H 0 (by rfl) b HB.out.1 (range_bid G0.out) ?_); simp only [Act.put, List.setIfInBounds_toArray, List.set_cons_zero, List.set_cons_succ])
  refine HBT.out.mono ?_
  rintro e w1 ⟨hok, hno, hb1⟩
  have B1 := Lib.hid (BL.out.trans (hb1.mono (by omega)))
  have G1 := Lib.hid ((hb1.block _ hsz).trans G0.out)
  have l1 := Nat.lt_of_lt_of_le hsz hb1.size
  have R1 := Lib.hid (HR.out.below hb1)
  clear hb1 HBT
  by_cases hk : BdOk b
  · obtain ⟨ta, tc, rfl, hown⟩ := hok hk
    obtain ⟨k, hkk⟩ := Int.eq_ofNat_of_zero_le hk.1.1
    have HK := Lib.hid hk
    have HKK := Lib.hid hkk
    have RT := Lib.hid (Rd.of_own hown)
    clear hok hno hown hk
    by_cases hfar : k < vs.length
    · obtain ⟨vb, vo, hva, hvb, hrg⟩ := R1.out.range HVS.out hfar
      obtain ⟨V, hV⟩ : ∃ V, V = vs[k] := ⟨_, rfl⟩
      have VL := Lib.hid (show V.length = 32 by rw [hV]; exact HVS.out _ (List.getElem_mem _))
      have hF9 : F = (bidD b == V) := by rw [HF.out, hasV_at HK.out hkk hfar, hV]
      rw [← hV] at hrg
      obtain ⟨D, hD⟩ : ∃ D, D = bidD b := ⟨_, rfl⟩
      rw [← hD] at hF9
      have DL := Lib.hid (show D.length = 32 by rw [hD]; exact bidD_length b)
      subst hva
      have sc : ∀ w', InB w1.heap.size w1 w' → Calls Tryd.prog 24 #[.slice ta 45 tc] w' fun e w'' => e = .returned (.agg (dV D)) ∧ InB w1.heap.size w1 w'' := fun w' h => InB.call h (Nat.le_refl _) (by
        have := RSum_calls (bidT b) ta tc _ w' (RT.out.below h) (by rw [bidT_length b HB.out.1]; decide)
        rw [bidT_length b HB.out.1] at this
        rw [hD]; exact this)
      have HSC := Lib.hid sc
      have F0 := Lib.hid (show ∀ w', InB w1.heap.size w1 w' → w'.cell? ⟨H, 0, none⟩ = some (.int .i64 (k : Int)) from fun w' h => (Below.cell h (p := ⟨H, 0, none⟩) l1).trans (by rw [← hkk]; exact bV_cell0 G1.out))
      have FV := Lib.hid (show ∀ w', InB w1.heap.size w1 w' → w'.rangeAt vb (vo + k * 32) (V.map vB) from fun w' h => h.range hvb hrg)
      have k0 : (0 : Int) ≤ (k : Int) := by omega
      have k1 : (k : Int) < (vs.length : Int) := by omega
      have k2 : decide ((k : Int) < (vs.length : Int)) = true := decide_eq_true k1
      have k3 : decide (k < vs.length) = true := decide_eq_true hfar
      have HF9 := Lib.hid hF9
      clear sc hV hD hrg hkk hF9
      go_upto_region 2 with fail
      have hex := inB_ex w1.heap.size w1
      refine wp_region_inB w1.heap.size (by kernel_rfl) (by kernel_rfl) ?_
      repeat (first
        | (with_reducible refine quiet_int rfl (.tmp 14) rfl ⟨H, 0, none⟩ (by kernel_rfl) (k : Int) F0.out ?_ (by kernel_rfl); simp only [Act.put, List.setIfInBounds_toArray, List.set_cons_zero, List.set_cons_succ])
        | (with_reducible refine quiet_int rfl (.tmp 24) rfl ⟨H, 0, none⟩ (by kernel_rfl) (k : Int) F0.out ?_ (by kernel_rfl); simp only [Act.put, List.setIfInBounds_toArray, List.set_cons_zero, List.set_cons_succ])
        | (with_reducible refine quiet_dig rfl (.tmp 26) rfl (vb) (vo + k * 32) (by kernel_rfl) V VL.out FV.out ?_ (by kernel_rfl); simp only [Act.put, List.setIfInBounds_toArray, List.set_cons_zero, List.set_cons_succ])
        | (with_reducible refine quiet_dig_eq rfl (.tmp 22) (.tmp 27) _ rfl D V (by kernel_rfl) (by kernel_rfl) DL.out VL.out ?_ (by kernel_rfl); rw [← HF9.out]; simp only [Act.put, List.setIfInBounds_toArray, List.set_cons_zero, List.set_cons_succ])
        | go_big_quiet_step ((first | (intro hw'; exact HSC.out _ hw') | (intro _; rfl))))
      refine wpQuiet_nil ?_
      intro wZ hwZ
      have BZ := Lib.hid (B1.out.trans (Below.mono hwZ (Nat.le_of_lt l1)))
      clear hwZ hex
      go_wp2_with fail
      go_ret
      exact ⟨rfl, by rw [← HH.out]; exact BZ.out⟩
    · have hF9 : F = false := by rw [HF.out]; exact hasV_far (by omega)
      subst hF9
      have F0 := Lib.hid (show ∀ w', InB w1.heap.size w1 w' → w'.cell? ⟨H, 0, none⟩ = some (.int .i64 (k : Int)) from fun w' h => (Below.cell h (p := ⟨H, 0, none⟩) l1).trans (by rw [← hkk]; exact bV_cell0 G1.out))
      have k2 : decide ((k : Int) < (vs.length : Int)) = false := decide_eq_false (by omega)
      have k3 : decide (k < vs.length) = false := decide_eq_false hfar
      clear hkk
      go_upto_region 2 with fail
      have hex := inB_ex w1.heap.size w1
      refine wp_region_inB w1.heap.size (by kernel_rfl) (by kernel_rfl) ?_
      repeat (first
        | (with_reducible refine quiet_int rfl (.tmp 14) rfl ⟨H, 0, none⟩ (by kernel_rfl) (k : Int) F0.out ?_ (by kernel_rfl); simp only [Act.put, List.setIfInBounds_toArray, List.set_cons_zero, List.set_cons_succ])
        | go_big_quiet_step ((first | (intro _; rfl))))
      refine wpQuiet_nil ?_
      intro wZ hwZ
      have BZ := Lib.hid (B1.out.trans (Below.mono hwZ (Nat.le_of_lt l1)))
      clear hwZ hex
      go_wp2_with fail
      go_ret
      exact ⟨rfl, by rw [← HH.out]; exact BZ.out⟩
  · have he := hno hk
    subst he
    have hF9 : F = false := by rw [HF.out]; exact hasV_no hk
    subst hF9
    clear hok hno hk
    go_upto_region 2 with fail
    have hex := inB_ex w1.heap.size w1
    refine wp_region_inB w1.heap.size (by kernel_rfl) (by kernel_rfl) ?_
    repeat (first
      | go_big_quiet_step ((first | (intro _; rfl))))
    refine wpQuiet_nil ?_
    intro wZ hwZ
    have BZ := Lib.hid (B1.out.trans (Below.mono hwZ (Nat.le_of_lt l1)))
    clear hwZ hex
    go_wp2_with fail
    go_ret
    exact ⟨rfl, by rw [← HH.out]; exact BZ.out⟩
end Go.Proofs.YteikbbdkpeecaaaDoor
