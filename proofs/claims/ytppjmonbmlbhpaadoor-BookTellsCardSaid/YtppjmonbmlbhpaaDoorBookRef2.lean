/- Walks: the document's Nothing, BookFault and One. -/
import Derived.Test.YtppjmonbmlbhpaaDoorBookRef1
import Derived.Test.YtppjmonbmlbhpaaDoorScanLaw
import Derived.Test.YtppjmonbmlbhpaaDoorBoth
import Derived.Test.YtppjmonbmlbhpaaDoorCheck
namespace Go.Proofs.YtppjmonbmlbhpaaDoor
open Go.RowKit
set_option linter.unusedVariables false
set_option linter.unusedSimpArgs false
theorem nk_length : noKey.length = 32 := noKey_length
theorem built_nk : Tryd.prog.built 24 [] = some (dV noKey) := by kernel_rfl
theorem wpl_nk {w : World} {ops : Array Oper} {rest : List Oper} {o : Oper} {a : Act} {Q : Exit → Act → World → Prop} (hg : o.guard = none) (ho : o.op = .build 24 #[]) (Z : List UInt8) (hZ : Z = noKey) (h : wpList Tryd.prog ops Q rest (a.put o.dst (.agg (dV Z))) w) : wpList Tryd.prog ops Q (o :: rest) a w := by
  subst hZ
  refine wpList_plain hg fun _ hK => ?_
  unfold Oper.wp execOp
  simp only [ho, Sem.run_bind]
  have := run_build (P := Tryd.prog) w 24 #[] (dV noKey) built_nk
  simp only [Array.map_empty, List.map_toArray, List.map_nil] at this ⊢
  rw [this]
  exact hK _ _ h
theorem nkdig : (#[.int .u8 0, .int .u8 0, .int .u8 0, .int .u8 0, .int .u8 0, .int .u8 0, .int .u8 0, .int .u8 0, .int .u8 0, .int .u8 0, .int .u8 0, .int .u8 0, .int .u8 0, .int .u8 0, .int .u8 0, .int .u8 0, .int .u8 0, .int .u8 0, .int .u8 0, .int .u8 0, .int .u8 0, .int .u8 0, .int .u8 0, .int .u8 0, .int .u8 0, .int .u8 0, .int .u8 0, .int .u8 0, .int .u8 0, .int .u8 0, .int .u8 0, .int .u8 0] : Array Value) = dV noKey := by kernel_rfl
theorem Nothing_calls (w : World) : Calls Tryd.prog 16 #[] w fun e w' => e = .returned (.agg (dV noKey)) ∧ Below w.heap.size w w' := by
  obtain ⟨Z, hZ⟩ : ∃ Z, Z = noKey := ⟨_, rfl⟩
  have zl : Z.length = 32 := by rw [hZ]; rfl
  have zlit : (#[.int .u8 0, .int .u8 0, .int .u8 0, .int .u8 0, .int .u8 0, .int .u8 0, .int .u8 0, .int .u8 0, .int .u8 0, .int .u8 0, .int .u8 0, .int .u8 0, .int .u8 0, .int .u8 0, .int .u8 0, .int .u8 0, .int .u8 0, .int .u8 0, .int .u8 0, .int .u8 0, .int .u8 0, .int .u8 0, .int .u8 0, .int .u8 0, .int .u8 0, .int .u8 0, .int .u8 0, .int .u8 0, .int .u8 0, .int .u8 0, .int .u8 0, .int .u8 0] : Array Value) = dV Z := by rw [hZ]; exact nkdig
  have ZL := Lib.hid zl
  have ZT := Lib.hid zlit
  have HZ := Lib.hid hZ
  clear zl zlit hZ
  rw [← HZ.out]
  have fin : Below w.heap.size w (w.alloc (.cells (dV Z) 24)) := (Below.refl _ w).alloc (Nat.le_refl _) _
  have HF := Lib.hid fin
  clear fin
  go_enter Tryd.func16, Tryd.ntmps16
  go_wp2_with (first | (refine wpl_nk rfl rfl Z HZ.out ?_) | (refine st_new rfl (.tmp 0) (.tmp 1) rfl Z ZL.out (by rfl) _ _ (by rfl) (by rfl) ?_))
  try simp only [Exit.inBlock, Exit.then]
  refine bodyPost_ret (v := .agg (dV Z)) (results_cell rfl _ _ _ ⟨w.heap.size, 0, none⟩ _ rfl ?_) rfl ⟨rfl, HF.out⟩
  exact run_loadVar_mid _ _ _ _ (Z.map vB) _ (range_of_row (heap_alloc_new w _)) Tryd.underlying24 rfl (by rw [List.length_map, ZL.out]; exact dig_size)
theorem load_str {p : Addr} {z : ByteArray} {w : World} (h : w.cell? p = some (.string z)) : (loadVar 9 p).run Tryd.prog w = .ok (.string z) w := by go_simp
theorem quiet_str {ops : Array Oper} {C : World → Prop} {Q : Act → Prop} {a : Act} {op : Oper} {rest : List Oper} {x1 : Operand} (ho : op.op = .load 9 x1) (x : Operand) (he_ : x1 = x) (p : Addr) (hx : a.eval x = .pointer (some p)) (z : ByteArray) (hC : ∀ w, C w → w.cell? p = some (.string z))
    (h : wpQuiet Tryd.prog ops C Q rest (a.put op.dst (.string z))) (hgd : Region.wanted op (yielded ops a.tmps) = true) : wpQuiet Tryd.prog ops C Q (op :: rest) a := by
  cases he_
  exact quiet_cell hgd _ _ ho p hx _ (fun w hw => load_str (hC w hw)) h
set_option maxRecDepth 20000 in
set_option maxHeartbeats 4000000 in
theorem BookFault_calls (b : List Ct) (hw : ∀ c ∈ b, CtW c) (a : Option Addr) (cap e : Nat) (w : World) (hr : Rd w a e (cellsC b)) (hl : b.length ≤ 9223372036854775807) :
    Calls Tryd.prog 6 #[.slice a b.length cap] w fun e w' => e = .returned (.int .i64 (fault b)) ∧ Below w.heap.size w w' := by
  have Hw := Lib.hid hw
  clear hw
  by_cases h40 : 40 < b.length
  · have hf : fault b = 4 := by unfold fault; rw [if_pos h40]
    have Hf := Lib.hid hf
    have q1 : decide ((40 : Int) < (b.length : Int)) = true := by rw [decide_eq_true_eq]; omega
    clear hf
    go_enter Tryd.func6, Tryd.ntmps6
    go_wp2_with fail
    go_ret
    exact ⟨by rw [Hf.out]; rfl, Below.refl _ _⟩
  · have hf : fault b = faultFrom none b := by unfold fault; rw [if_neg h40]
    have Hf := Lib.hid hf
    have q1 : decide ((40 : Int) < (b.length : Int)) = false := by rw [decide_eq_false]; omega
    have HR := Lib.hid hr
    clear hf hr
    go_enter Tryd.func6, Tryd.ntmps6
    go_wp2_with fail
    go_loopw [3] (fun i wr => ∃ k : Nat, k ≤ b.length ∧ i = .int .i64 k ∧ Hid (faultFrom none b = faultFrom (prevOf b k) (b.drop k)) ∧ Hid (Below w.heap.size w wr)) (fun i _ => b.length - (intOf i).toNat)
    case atStart => exact ⟨0, Nat.zero_le _, rfl, Lib.hid rfl, Lib.hid (Below.refl _ _)⟩
    case round =>
      obtain ⟨k, hk, rfl, Hff, HBL⟩ := hrel
      by_cases hlt : k < b.length
      · obtain ⟨B, o, rfl, hB, hrg⟩ := HR.out.cont Hw.out hlt
        have hcW : CtW b[k] := Hw.out _ (List.getElem_mem _)
        have hstep := faultFrom_step b k hlt
        have hrg2 := range_below hrg HBL.out hB
        obtain ⟨c, hc⟩ : ∃ c, c = b[k] := ⟨_, rfl⟩
        rw [← hc] at hcW hstep hrg2 hrg
        have Hc := Lib.hid hc
        have Hstep := Lib.hid hstep
        have HcW := Lib.hid hcW
        have HKL := Lib.hid hcW.1
        obtain ⟨L, hL⟩ : ∃ L, L = c.lvl := ⟨_, rfl⟩
        have HL := Lib.hid hL
        have m0 : (0 : Int) ≤ (k : Int) := by omega
        have m1 : (k : Int) < (b.length : Int) := by omega
        have d0 := range_name hrg2
        have hBr : B < wr.heap.size := Nat.lt_of_lt_of_le hB HBL.out.size
        have HRG2 := Lib.hid hrg2
        have NC := IsName_calls c.name hcW.2.1 wr
        clear hc hstep hrg hrg2 hcW hL
        go_wp2_with fail
        refine NC.mono ?_; rintro e w6 ⟨rfl, hb6⟩
        clear NC d0
        have hrg6 := range_below HRG2.out hb6 hBr
        have f0 := range_name hrg6
        have f33 := range_lvl HcW.out hrg6
        rw [← HL.out] at f33
        have fk := range_key HcW.out hrg6
        have hB6 : B < w6.heap.size := Nat.lt_of_lt_of_le hBr hb6.size
        have HB6 := Lib.hid (HBL.out.trans (hb6.mono HBL.out.size))
        have HBlt6 := Lib.hid hB6
        have FK6 := Lib.hid fk
        have HRG6 := Lib.hid hrg6
        obtain ⟨nb, hnb⟩ : ∃ nb, named c.name = nb := ⟨_, rfl⟩
        rw [hnb]
        have Hnb := Lib.hid hnb
        clear hb6 fk hrg6 HRG2 hBr hnb
        cases nb with
        | false =>
          have hc1 : ctFault (prevOf b k) c = 1 := by unfold ctFault; rw [if_pos Hnb.out]
          have Hc1 := Lib.hid hc1
          clear hc1
          go_wp2_with fail
          go_ret
          exact ⟨by rw [Hf.out, Hff.out, Hstep.out, Hc1.out]; rfl, HB6.out⟩
        | true =>
          by_cases hk0 : k = 0
          · have hbh : behind (prevOf b k) c.name = true := by rw [hk0]; rfl
            have q0 : decide (0 < k) = false := by rw [decide_eq_false]; omega
            have q0' : decide ((0 : Int) < (k : Int)) = false := by rw [decide_eq_false]; omega
            have Hbh := Lib.hid hbh
            have Hk0 := Lib.hid hk0
            clear hbh hk0
            go_wp2_with fail
            go_quiet (fail)
            obtain ⟨wN, hwN⟩ : ∃ z, z = w6.drewN nq := ⟨_, rfl⟩
            have n0 : wN.cell? ⟨B, o + k * 34, none⟩ = some (.string c.name) := by rw [hwN]; exact f0
            have n33 : wN.cell? ⟨B, o + k * 34 + 33, none⟩ = some (.int .i64 L) := by rw [hwN]; exact f33
            have FKN := Lib.hid (show wN.rangeAt B (o + k * 34 + 1) (c.key.map vB) by rw [hwN]; exact FK6.out)
            have HBN := Lib.hid (show Below w.heap.size w wN by rw [hwN]; exact below_drewN HB6.out nq)
            have HBlt := Lib.hid (show B < wN.heap.size by rw [hwN]; exact HBlt6.out)
            rw [← hwN]
            clear q0 q0' f0 f33 hwN
            have Hbh1 := Hbh
            by_cases hl1 : L < 1
            · have hc1 : ctFault (prevOf b k) c = 2 := by unfold ctFault; rw [if_neg (by rw [Hnb.out]; decide), if_neg (by rw [Hbh.out]; decide), if_pos (.inl (by rw [← HL.out]; exact hl1))]
              have Hc1 := Lib.hid hc1
              have q1 : decide (L < 1) = true := decide_eq_true hl1
              clear hc1 hl1
              go_wp2_with fail
              go_ret
              exact ⟨by rw [Hf.out, Hff.out, Hstep.out, Hc1.out]; rfl, HBN.out⟩
            · by_cases hl2 : 4 < L
              · have hc1 : ctFault (prevOf b k) c = 2 := by unfold ctFault; rw [if_neg (by rw [Hnb.out]; decide), if_neg (by rw [Hbh.out]; decide), if_pos (.inr (by rw [← HL.out]; exact hl2))]
                have Hc1 := Lib.hid hc1
                have q1 : decide (L < 1) = false := decide_eq_false hl1
                have q2 : decide (4 < L) = true := decide_eq_true hl2
                clear hc1 hl1 hl2
                go_wp2_with fail
                go_ret
                exact ⟨by rw [Hf.out, Hff.out, Hstep.out, Hc1.out]; rfl, HBN.out⟩
              · have he : ctFault (prevOf b k) c = if (c.key == noKey) ≠ (L % 2 == 0) then 9 else 0 := by
                  unfold ctFault; rw [if_neg (by rw [Hnb.out]; decide), if_neg (by rw [Hbh.out]; decide), if_neg (by rw [← HL.out]; omega), ← HL.out]
                  have e : (c.key == noKey) = decide (c.key = noKey) := by cases h : decide (c.key = noKey) <;> simp_all
                  have e2 : (L % 2 == 0) = decide (L % 2 = 0) := by cases h : decide (L % 2 = 0) <;> simp_all
                  rw [e, e2]
                have He := Lib.hid he
                obtain ⟨kz, hkz⟩ : ∃ kz, (c.key == noKey) = kz := ⟨_, rfl⟩
                have HKZ := Lib.hid hkz
                have hlv : L = 1 ∨ L = 2 ∨ L = 3 ∨ L = 4 := by omega
                have NT : Hid (∀ w', InB wN.heap.size wN w' → Calls Tryd.prog 16 #[] w' fun e w'' => e = .returned (.agg (dV noKey)) ∧ InB wN.heap.size wN w'') := Lib.hid fun w' h => InB.call h (Nat.le_refl _) (Nothing_calls w')
                have FK := Lib.hid (fun w' (h : InB wN.heap.size wN w') => InB.range h HBlt.out FKN.out)
                have HN := Lib.hid nk_length
                clear he hl1 hl2 hkz
                rcases hlv with rfl | rfl | rfl | rfl <;> cases kz
                · go_upto_region 13 with fail
                  have hex := inB_ex wN.heap.size wN
                  refine wp_region_inB wN.heap.size (by kernel_rfl) (by kernel_rfl) ?_
                  repeat (first
                    | (with_reducible refine quiet_dig rfl (.tmp 70) rfl (B) (o + k * 34 + 1) (by kernel_rfl) c.key HKL.out FK.out ?_ (by kernel_rfl); simp only [Act.put, List.setIfInBounds_toArray, List.set_cons_zero, List.set_cons_succ])
                    | (with_reducible refine quiet_dig_eq rfl (.tmp 71) (.tmp 72) _ rfl c.key noKey (by kernel_rfl) (by kernel_rfl) HKL.out nk_length ?_ (by kernel_rfl); rw [HKZ.out]; simp only [Act.put, List.setIfInBounds_toArray, List.set_cons_zero, List.set_cons_succ])
                    | go_big_quiet_step ((first | (intro hw'; exact NT.out _ hw') | (intro _; rfl))))
                  refine wpQuiet_nil ?_
                  intro wZ hwZ
                  have HBZ := Lib.hid (HBN.out.trans (Below.mono hwZ HBN.out.size))
                  have hc1 : ctFault (prevOf b k) c = 0 := by rw [He.out, HKZ.out]; rfl
                  have Hc1 := Lib.hid hc1
                  clear hc1 hwZ hex
                  go_wp2_with fail
                  go_roundw
                  case rel => exact ⟨k + 1, by omega, by go_num, Lib.hid (by rw [Hff.out, Hstep.out, Hc1.out]; rfl), HBZ⟩
                  case measure => simp [intOf] <;> omega
                · go_upto_region 13 with fail
                  have hex := inB_ex wN.heap.size wN
                  refine wp_region_inB wN.heap.size (by kernel_rfl) (by kernel_rfl) ?_
                  repeat (first
                    | (with_reducible refine quiet_dig rfl (.tmp 70) rfl (B) (o + k * 34 + 1) (by kernel_rfl) c.key HKL.out FK.out ?_ (by kernel_rfl); simp only [Act.put, List.setIfInBounds_toArray, List.set_cons_zero, List.set_cons_succ])
                    | (with_reducible refine quiet_dig_eq rfl (.tmp 71) (.tmp 72) _ rfl c.key noKey (by kernel_rfl) (by kernel_rfl) HKL.out nk_length ?_ (by kernel_rfl); rw [HKZ.out]; simp only [Act.put, List.setIfInBounds_toArray, List.set_cons_zero, List.set_cons_succ])
                    | go_big_quiet_step ((first | (intro hw'; exact NT.out _ hw') | (intro _; rfl))))
                  refine wpQuiet_nil ?_
                  intro wZ hwZ
                  have HBZ := Lib.hid (HBN.out.trans (Below.mono hwZ HBN.out.size))
                  have hc1 : ctFault (prevOf b k) c = 9 := by rw [He.out, HKZ.out]; rfl
                  have Hc1 := Lib.hid hc1
                  clear hc1 hwZ hex
                  go_wp2_with fail
                  go_ret
                  exact ⟨by rw [Hf.out, Hff.out, Hstep.out, Hc1.out]; rfl, HBZ.out⟩
                · go_upto_region 13 with fail
                  have hex := inB_ex wN.heap.size wN
                  refine wp_region_inB wN.heap.size (by kernel_rfl) (by kernel_rfl) ?_
                  repeat (first
                    | (with_reducible refine quiet_dig rfl (.tmp 70) rfl (B) (o + k * 34 + 1) (by kernel_rfl) c.key HKL.out FK.out ?_ (by kernel_rfl); simp only [Act.put, List.setIfInBounds_toArray, List.set_cons_zero, List.set_cons_succ])
                    | (with_reducible refine quiet_dig_eq rfl (.tmp 71) (.tmp 72) _ rfl c.key noKey (by kernel_rfl) (by kernel_rfl) HKL.out nk_length ?_ (by kernel_rfl); rw [HKZ.out]; simp only [Act.put, List.setIfInBounds_toArray, List.set_cons_zero, List.set_cons_succ])
                    | go_big_quiet_step ((first | (intro hw'; exact NT.out _ hw') | (intro _; rfl))))
                  refine wpQuiet_nil ?_
                  intro wZ hwZ
                  have HBZ := Lib.hid (HBN.out.trans (Below.mono hwZ HBN.out.size))
                  have hc1 : ctFault (prevOf b k) c = 9 := by rw [He.out, HKZ.out]; rfl
                  have Hc1 := Lib.hid hc1
                  clear hc1 hwZ hex
                  go_wp2_with fail
                  go_ret
                  exact ⟨by rw [Hf.out, Hff.out, Hstep.out, Hc1.out]; rfl, HBZ.out⟩
                · go_upto_region 13 with fail
                  have hex := inB_ex wN.heap.size wN
                  refine wp_region_inB wN.heap.size (by kernel_rfl) (by kernel_rfl) ?_
                  repeat (first
                    | (with_reducible refine quiet_dig rfl (.tmp 70) rfl (B) (o + k * 34 + 1) (by kernel_rfl) c.key HKL.out FK.out ?_ (by kernel_rfl); simp only [Act.put, List.setIfInBounds_toArray, List.set_cons_zero, List.set_cons_succ])
                    | (with_reducible refine quiet_dig_eq rfl (.tmp 71) (.tmp 72) _ rfl c.key noKey (by kernel_rfl) (by kernel_rfl) HKL.out nk_length ?_ (by kernel_rfl); rw [HKZ.out]; simp only [Act.put, List.setIfInBounds_toArray, List.set_cons_zero, List.set_cons_succ])
                    | go_big_quiet_step ((first | (intro hw'; exact NT.out _ hw') | (intro _; rfl))))
                  refine wpQuiet_nil ?_
                  intro wZ hwZ
                  have HBZ := Lib.hid (HBN.out.trans (Below.mono hwZ HBN.out.size))
                  have hc1 : ctFault (prevOf b k) c = 0 := by rw [He.out, HKZ.out]; rfl
                  have Hc1 := Lib.hid hc1
                  clear hc1 hwZ hex
                  go_wp2_with fail
                  go_roundw
                  case rel => exact ⟨k + 1, by omega, by go_num, Lib.hid (by rw [Hff.out, Hstep.out, Hc1.out]; rfl), HBZ⟩
                  case measure => simp [intOf] <;> omega
                · go_upto_region 13 with fail
                  have hex := inB_ex wN.heap.size wN
                  refine wp_region_inB wN.heap.size (by kernel_rfl) (by kernel_rfl) ?_
                  repeat (first
                    | (with_reducible refine quiet_dig rfl (.tmp 70) rfl (B) (o + k * 34 + 1) (by kernel_rfl) c.key HKL.out FK.out ?_ (by kernel_rfl); simp only [Act.put, List.setIfInBounds_toArray, List.set_cons_zero, List.set_cons_succ])
                    | (with_reducible refine quiet_dig_eq rfl (.tmp 71) (.tmp 72) _ rfl c.key noKey (by kernel_rfl) (by kernel_rfl) HKL.out nk_length ?_ (by kernel_rfl); rw [HKZ.out]; simp only [Act.put, List.setIfInBounds_toArray, List.set_cons_zero, List.set_cons_succ])
                    | go_big_quiet_step ((first | (intro hw'; exact NT.out _ hw') | (intro _; rfl))))
                  refine wpQuiet_nil ?_
                  intro wZ hwZ
                  have HBZ := Lib.hid (HBN.out.trans (Below.mono hwZ HBN.out.size))
                  have hc1 : ctFault (prevOf b k) c = 0 := by rw [He.out, HKZ.out]; rfl
                  have Hc1 := Lib.hid hc1
                  clear hc1 hwZ hex
                  go_wp2_with fail
                  go_roundw
                  case rel => exact ⟨k + 1, by omega, by go_num, Lib.hid (by rw [Hff.out, Hstep.out, Hc1.out]; rfl), HBZ⟩
                  case measure => simp [intOf] <;> omega
                · go_upto_region 13 with fail
                  have hex := inB_ex wN.heap.size wN
                  refine wp_region_inB wN.heap.size (by kernel_rfl) (by kernel_rfl) ?_
                  repeat (first
                    | (with_reducible refine quiet_dig rfl (.tmp 70) rfl (B) (o + k * 34 + 1) (by kernel_rfl) c.key HKL.out FK.out ?_ (by kernel_rfl); simp only [Act.put, List.setIfInBounds_toArray, List.set_cons_zero, List.set_cons_succ])
                    | (with_reducible refine quiet_dig_eq rfl (.tmp 71) (.tmp 72) _ rfl c.key noKey (by kernel_rfl) (by kernel_rfl) HKL.out nk_length ?_ (by kernel_rfl); rw [HKZ.out]; simp only [Act.put, List.setIfInBounds_toArray, List.set_cons_zero, List.set_cons_succ])
                    | go_big_quiet_step ((first | (intro hw'; exact NT.out _ hw') | (intro _; rfl))))
                  refine wpQuiet_nil ?_
                  intro wZ hwZ
                  have HBZ := Lib.hid (HBN.out.trans (Below.mono hwZ HBN.out.size))
                  have hc1 : ctFault (prevOf b k) c = 9 := by rw [He.out, HKZ.out]; rfl
                  have Hc1 := Lib.hid hc1
                  clear hc1 hwZ hex
                  go_wp2_with fail
                  go_ret
                  exact ⟨by rw [Hf.out, Hff.out, Hstep.out, Hc1.out]; rfl, HBZ.out⟩
                · go_upto_region 13 with fail
                  have hex := inB_ex wN.heap.size wN
                  refine wp_region_inB wN.heap.size (by kernel_rfl) (by kernel_rfl) ?_
                  repeat (first
                    | (with_reducible refine quiet_dig rfl (.tmp 70) rfl (B) (o + k * 34 + 1) (by kernel_rfl) c.key HKL.out FK.out ?_ (by kernel_rfl); simp only [Act.put, List.setIfInBounds_toArray, List.set_cons_zero, List.set_cons_succ])
                    | (with_reducible refine quiet_dig_eq rfl (.tmp 71) (.tmp 72) _ rfl c.key noKey (by kernel_rfl) (by kernel_rfl) HKL.out nk_length ?_ (by kernel_rfl); rw [HKZ.out]; simp only [Act.put, List.setIfInBounds_toArray, List.set_cons_zero, List.set_cons_succ])
                    | go_big_quiet_step ((first | (intro hw'; exact NT.out _ hw') | (intro _; rfl))))
                  refine wpQuiet_nil ?_
                  intro wZ hwZ
                  have HBZ := Lib.hid (HBN.out.trans (Below.mono hwZ HBN.out.size))
                  have hc1 : ctFault (prevOf b k) c = 9 := by rw [He.out, HKZ.out]; rfl
                  have Hc1 := Lib.hid hc1
                  clear hc1 hwZ hex
                  go_wp2_with fail
                  go_ret
                  exact ⟨by rw [Hf.out, Hff.out, Hstep.out, Hc1.out]; rfl, HBZ.out⟩
                · go_upto_region 13 with fail
                  have hex := inB_ex wN.heap.size wN
                  refine wp_region_inB wN.heap.size (by kernel_rfl) (by kernel_rfl) ?_
                  repeat (first
                    | (with_reducible refine quiet_dig rfl (.tmp 70) rfl (B) (o + k * 34 + 1) (by kernel_rfl) c.key HKL.out FK.out ?_ (by kernel_rfl); simp only [Act.put, List.setIfInBounds_toArray, List.set_cons_zero, List.set_cons_succ])
                    | (with_reducible refine quiet_dig_eq rfl (.tmp 71) (.tmp 72) _ rfl c.key noKey (by kernel_rfl) (by kernel_rfl) HKL.out nk_length ?_ (by kernel_rfl); rw [HKZ.out]; simp only [Act.put, List.setIfInBounds_toArray, List.set_cons_zero, List.set_cons_succ])
                    | go_big_quiet_step ((first | (intro hw'; exact NT.out _ hw') | (intro _; rfl))))
                  refine wpQuiet_nil ?_
                  intro wZ hwZ
                  have HBZ := Lib.hid (HBN.out.trans (Below.mono hwZ HBN.out.size))
                  have hc1 : ctFault (prevOf b k) c = 0 := by rw [He.out, HKZ.out]; rfl
                  have Hc1 := Lib.hid hc1
                  clear hc1 hwZ hex
                  go_wp2_with fail
                  go_roundw
                  case rel => exact ⟨k + 1, by omega, by go_num, Lib.hid (by rw [Hff.out, Hstep.out, Hc1.out]; rfl), HBZ⟩
                  case measure => simp [intOf] <;> omega
          · obtain ⟨j, rfl⟩ : ∃ j, k = j + 1 := ⟨k - 1, by omega⟩
            have hjl : j < b.length := by omega
            obtain ⟨B2, o2, hB2, _, hrj⟩ := HR.out.cont Hw.out hjl
            obtain ⟨rfl, rfl⟩ : B = B2 ∧ o = o2 := by
              have := Option.some.inj hB2
              exact ⟨congrArg Addr.block this, congrArg Addr.off this⟩
            have nj := range_name (range_below hrj HB6.out hB)
            have q0 : decide (0 < j + 1) = true := by rw [decide_eq_true_eq]; omega
            have hpj : prevOf b (j + 1) = some b[j].name := by
              show (b[j]?).map Ct.name = _
              rw [List.getElem?_eq_getElem hjl]; rfl
            have hpW := (Hw.out _ (List.getElem_mem hjl)).2.1
            obtain ⟨pn, hpn⟩ : ∃ pn, pn = b[j].name := ⟨_, rfl⟩
            rw [← hpn] at nj hpj hpW
            have HP := Lib.hid hpj
            obtain ⟨be, hbe⟩ : ∃ be, Op.bytesLess (sb pn) (sb c.name) = be := ⟨_, rfl⟩
            have hbh : behind (prevOf b (j + 1)) c.name = be := by rw [hpj]; exact hbe
            have Hbh := Lib.hid hbh
            have hwj : IntKind.i64.wrap (j : Int) = (j : Int) := IntWalk.i64_in _ (by omega)
            have j0 : (0 : Int) ≤ (j : Int) := by omega
            have j1 : (j : Int) < (b.length : Int) := by omega
            have FP := Lib.hid (fun w' (h : InB w6.heap.size w6 w') => (Below.cell h (p := ⟨B, o + j * 34, none⟩) HBlt6.out).trans nj)
            have FN := Lib.hid (fun w' (h : InB w6.heap.size w6 w') => (Below.cell h (p := ⟨B, o + (j + 1) * 34, none⟩) HBlt6.out).trans f0)
            have LC : Hid (∀ w', InB w6.heap.size w6 w' → Calls Tryd.prog 15 #[.string pn, .string c.name] w' fun e w'' => e = .returned (.bool be) ∧ InB w6.heap.size w6 w'') := Lib.hid fun w' h => InB.call h (Nat.le_refl _) (by rw [← hbe]; exact Less_calls pn c.name hpW HcW.out.2.1 w')
            clear hbh hbe hpj hpn hB2 hrj nj f0 f33
            go_upto_region 8 with fail
            have hex := inB_ex w6.heap.size w6
            refine wp_region_inB w6.heap.size (by kernel_rfl) (by kernel_rfl) ?_
            repeat (first
              | (with_reducible refine quiet_str rfl (.tmp 28) rfl ⟨B, o + j * 34, none⟩ (by kernel_rfl) pn FP.out ?_ (by kernel_rfl); simp only [Act.put, List.setIfInBounds_toArray, List.set_cons_zero, List.set_cons_succ])
              | (with_reducible refine quiet_str rfl (.tmp 33) rfl ⟨B, o + (j + 1) * 34, none⟩ (by kernel_rfl) c.name FN.out ?_ (by kernel_rfl); simp only [Act.put, List.setIfInBounds_toArray, List.set_cons_zero, List.set_cons_succ])
              | go_big_quiet_step ((first | (intro hw'; exact LC.out _ hw') | (intro _; rfl))))
            refine wpQuiet_nil ?_
            intro wZ hwZ
            have HBN := Lib.hid (HB6.out.trans (Below.mono hwZ HB6.out.size))
            obtain ⟨wN, hwN⟩ : ∃ z, z = wZ := ⟨_, rfl⟩
            have hgN := range_below HRG6.out hwZ HBlt6.out
            have n0 := range_name hgN
            have n33 := range_lvl HcW.out hgN
            rw [← HL.out] at n33
            have FKN := Lib.hid (range_key HcW.out hgN)
            have HBlt := Lib.hid (Nat.lt_of_lt_of_le HBlt6.out (Below.size hwZ))
            rw [← hwN] at n0 n33 FKN HBlt HBN ⊢
            clear hwN hgN hwZ FP FN LC hex
            cases be with
            | false =>
              have hc1 : ctFault (prevOf b (j + 1)) c = 7 := by unfold ctFault; rw [if_neg (by rw [Hnb.out]; decide), if_pos Hbh.out]
              have Hc1 := Lib.hid hc1
              clear hc1
              go_wp2_with fail
              go_ret
              exact ⟨by rw [Hf.out, Hff.out, Hstep.out, Hc1.out]; rfl, HBN.out⟩
            | true =>
              have Hbh1 := Hbh
              by_cases hl1 : L < 1
              · have hc1 : ctFault (prevOf b (j + 1)) c = 2 := by unfold ctFault; rw [if_neg (by rw [Hnb.out]; decide), if_neg (by rw [Hbh.out]; decide), if_pos (.inl (by rw [← HL.out]; exact hl1))]
                have Hc1 := Lib.hid hc1
                have q1 : decide (L < 1) = true := decide_eq_true hl1
                clear hc1 hl1
                go_wp2_with fail
                go_ret
                exact ⟨by rw [Hf.out, Hff.out, Hstep.out, Hc1.out]; rfl, HBN.out⟩
              · by_cases hl2 : 4 < L
                · have hc1 : ctFault (prevOf b (j + 1)) c = 2 := by unfold ctFault; rw [if_neg (by rw [Hnb.out]; decide), if_neg (by rw [Hbh.out]; decide), if_pos (.inr (by rw [← HL.out]; exact hl2))]
                  have Hc1 := Lib.hid hc1
                  have q1 : decide (L < 1) = false := decide_eq_false hl1
                  have q2 : decide (4 < L) = true := decide_eq_true hl2
                  clear hc1 hl1 hl2
                  go_wp2_with fail
                  go_ret
                  exact ⟨by rw [Hf.out, Hff.out, Hstep.out, Hc1.out]; rfl, HBN.out⟩
                · have he : ctFault (prevOf b (j + 1)) c = if (c.key == noKey) ≠ (L % 2 == 0) then 9 else 0 := by
                    unfold ctFault; rw [if_neg (by rw [Hnb.out]; decide), if_neg (by rw [Hbh.out]; decide), if_neg (by rw [← HL.out]; omega), ← HL.out]
                    have e : (c.key == noKey) = decide (c.key = noKey) := by cases h : decide (c.key = noKey) <;> simp_all
                    have e2 : (L % 2 == 0) = decide (L % 2 = 0) := by cases h : decide (L % 2 = 0) <;> simp_all
                    rw [e, e2]
                  have He := Lib.hid he
                  obtain ⟨kz, hkz⟩ : ∃ kz, (c.key == noKey) = kz := ⟨_, rfl⟩
                  have HKZ := Lib.hid hkz
                  have hlv : L = 1 ∨ L = 2 ∨ L = 3 ∨ L = 4 := by omega
                  have NT : Hid (∀ w', InB wN.heap.size wN w' → Calls Tryd.prog 16 #[] w' fun e w'' => e = .returned (.agg (dV noKey)) ∧ InB wN.heap.size wN w'') := Lib.hid fun w' h => InB.call h (Nat.le_refl _) (Nothing_calls w')
                  have FK := Lib.hid (fun w' (h : InB wN.heap.size wN w') => InB.range h HBlt.out FKN.out)
                  have HN := Lib.hid nk_length
                  clear he hl1 hl2 hkz
                  rcases hlv with rfl | rfl | rfl | rfl <;> cases kz
                  · go_upto_region 13 with fail
                    have hex := inB_ex wN.heap.size wN
                    refine wp_region_inB wN.heap.size (by kernel_rfl) (by kernel_rfl) ?_
                    repeat (first
                      | (with_reducible refine quiet_dig rfl (.tmp 70) rfl (B) (o + (j + 1) * 34 + 1) (by kernel_rfl) c.key HKL.out FK.out ?_ (by kernel_rfl); simp only [Act.put, List.setIfInBounds_toArray, List.set_cons_zero, List.set_cons_succ])
                      | (with_reducible refine quiet_dig_eq rfl (.tmp 71) (.tmp 72) _ rfl c.key noKey (by kernel_rfl) (by kernel_rfl) HKL.out nk_length ?_ (by kernel_rfl); rw [HKZ.out]; simp only [Act.put, List.setIfInBounds_toArray, List.set_cons_zero, List.set_cons_succ])
                      | go_big_quiet_step ((first | (intro hw'; exact NT.out _ hw') | (intro _; rfl))))
                    refine wpQuiet_nil ?_
                    intro wZ hwZ
                    have HBZ := Lib.hid (HBN.out.trans (Below.mono hwZ HBN.out.size))
                    have hc1 : ctFault (prevOf b (j + 1)) c = 0 := by rw [He.out, HKZ.out]; rfl
                    have Hc1 := Lib.hid hc1
                    clear hc1 hwZ hex
                    go_wp2_with fail
                    go_roundw
                    case rel => exact ⟨(j + 1) + 1, by omega, by go_num, Lib.hid (by rw [Hff.out, Hstep.out, Hc1.out]; rfl), HBZ⟩
                    case measure => simp [intOf] <;> omega
                  · go_upto_region 13 with fail
                    have hex := inB_ex wN.heap.size wN
                    refine wp_region_inB wN.heap.size (by kernel_rfl) (by kernel_rfl) ?_
                    repeat (first
                      | (with_reducible refine quiet_dig rfl (.tmp 70) rfl (B) (o + (j + 1) * 34 + 1) (by kernel_rfl) c.key HKL.out FK.out ?_ (by kernel_rfl); simp only [Act.put, List.setIfInBounds_toArray, List.set_cons_zero, List.set_cons_succ])
                      | (with_reducible refine quiet_dig_eq rfl (.tmp 71) (.tmp 72) _ rfl c.key noKey (by kernel_rfl) (by kernel_rfl) HKL.out nk_length ?_ (by kernel_rfl); rw [HKZ.out]; simp only [Act.put, List.setIfInBounds_toArray, List.set_cons_zero, List.set_cons_succ])
                      | go_big_quiet_step ((first | (intro hw'; exact NT.out _ hw') | (intro _; rfl))))
                    refine wpQuiet_nil ?_
                    intro wZ hwZ
                    have HBZ := Lib.hid (HBN.out.trans (Below.mono hwZ HBN.out.size))
                    have hc1 : ctFault (prevOf b (j + 1)) c = 9 := by rw [He.out, HKZ.out]; rfl
                    have Hc1 := Lib.hid hc1
                    clear hc1 hwZ hex
                    go_wp2_with fail
                    go_ret
                    exact ⟨by rw [Hf.out, Hff.out, Hstep.out, Hc1.out]; rfl, HBZ.out⟩
                  · go_upto_region 13 with fail
                    have hex := inB_ex wN.heap.size wN
                    refine wp_region_inB wN.heap.size (by kernel_rfl) (by kernel_rfl) ?_
                    repeat (first
                      | (with_reducible refine quiet_dig rfl (.tmp 70) rfl (B) (o + (j + 1) * 34 + 1) (by kernel_rfl) c.key HKL.out FK.out ?_ (by kernel_rfl); simp only [Act.put, List.setIfInBounds_toArray, List.set_cons_zero, List.set_cons_succ])
                      | (with_reducible refine quiet_dig_eq rfl (.tmp 71) (.tmp 72) _ rfl c.key noKey (by kernel_rfl) (by kernel_rfl) HKL.out nk_length ?_ (by kernel_rfl); rw [HKZ.out]; simp only [Act.put, List.setIfInBounds_toArray, List.set_cons_zero, List.set_cons_succ])
                      | go_big_quiet_step ((first | (intro hw'; exact NT.out _ hw') | (intro _; rfl))))
                    refine wpQuiet_nil ?_
                    intro wZ hwZ
                    have HBZ := Lib.hid (HBN.out.trans (Below.mono hwZ HBN.out.size))
                    have hc1 : ctFault (prevOf b (j + 1)) c = 9 := by rw [He.out, HKZ.out]; rfl
                    have Hc1 := Lib.hid hc1
                    clear hc1 hwZ hex
                    go_wp2_with fail
                    go_ret
                    exact ⟨by rw [Hf.out, Hff.out, Hstep.out, Hc1.out]; rfl, HBZ.out⟩
                  · go_upto_region 13 with fail
                    have hex := inB_ex wN.heap.size wN
                    refine wp_region_inB wN.heap.size (by kernel_rfl) (by kernel_rfl) ?_
                    repeat (first
                      | (with_reducible refine quiet_dig rfl (.tmp 70) rfl (B) (o + (j + 1) * 34 + 1) (by kernel_rfl) c.key HKL.out FK.out ?_ (by kernel_rfl); simp only [Act.put, List.setIfInBounds_toArray, List.set_cons_zero, List.set_cons_succ])
                      | (with_reducible refine quiet_dig_eq rfl (.tmp 71) (.tmp 72) _ rfl c.key noKey (by kernel_rfl) (by kernel_rfl) HKL.out nk_length ?_ (by kernel_rfl); rw [HKZ.out]; simp only [Act.put, List.setIfInBounds_toArray, List.set_cons_zero, List.set_cons_succ])
                      | go_big_quiet_step ((first | (intro hw'; exact NT.out _ hw') | (intro _; rfl))))
                    refine wpQuiet_nil ?_
                    intro wZ hwZ
                    have HBZ := Lib.hid (HBN.out.trans (Below.mono hwZ HBN.out.size))
                    have hc1 : ctFault (prevOf b (j + 1)) c = 0 := by rw [He.out, HKZ.out]; rfl
                    have Hc1 := Lib.hid hc1
                    clear hc1 hwZ hex
                    go_wp2_with fail
                    go_roundw
                    case rel => exact ⟨(j + 1) + 1, by omega, by go_num, Lib.hid (by rw [Hff.out, Hstep.out, Hc1.out]; rfl), HBZ⟩
                    case measure => simp [intOf] <;> omega
                  · go_upto_region 13 with fail
                    have hex := inB_ex wN.heap.size wN
                    refine wp_region_inB wN.heap.size (by kernel_rfl) (by kernel_rfl) ?_
                    repeat (first
                      | (with_reducible refine quiet_dig rfl (.tmp 70) rfl (B) (o + (j + 1) * 34 + 1) (by kernel_rfl) c.key HKL.out FK.out ?_ (by kernel_rfl); simp only [Act.put, List.setIfInBounds_toArray, List.set_cons_zero, List.set_cons_succ])
                      | (with_reducible refine quiet_dig_eq rfl (.tmp 71) (.tmp 72) _ rfl c.key noKey (by kernel_rfl) (by kernel_rfl) HKL.out nk_length ?_ (by kernel_rfl); rw [HKZ.out]; simp only [Act.put, List.setIfInBounds_toArray, List.set_cons_zero, List.set_cons_succ])
                      | go_big_quiet_step ((first | (intro hw'; exact NT.out _ hw') | (intro _; rfl))))
                    refine wpQuiet_nil ?_
                    intro wZ hwZ
                    have HBZ := Lib.hid (HBN.out.trans (Below.mono hwZ HBN.out.size))
                    have hc1 : ctFault (prevOf b (j + 1)) c = 0 := by rw [He.out, HKZ.out]; rfl
                    have Hc1 := Lib.hid hc1
                    clear hc1 hwZ hex
                    go_wp2_with fail
                    go_roundw
                    case rel => exact ⟨(j + 1) + 1, by omega, by go_num, Lib.hid (by rw [Hff.out, Hstep.out, Hc1.out]; rfl), HBZ⟩
                    case measure => simp [intOf] <;> omega
                  · go_upto_region 13 with fail
                    have hex := inB_ex wN.heap.size wN
                    refine wp_region_inB wN.heap.size (by kernel_rfl) (by kernel_rfl) ?_
                    repeat (first
                      | (with_reducible refine quiet_dig rfl (.tmp 70) rfl (B) (o + (j + 1) * 34 + 1) (by kernel_rfl) c.key HKL.out FK.out ?_ (by kernel_rfl); simp only [Act.put, List.setIfInBounds_toArray, List.set_cons_zero, List.set_cons_succ])
                      | (with_reducible refine quiet_dig_eq rfl (.tmp 71) (.tmp 72) _ rfl c.key noKey (by kernel_rfl) (by kernel_rfl) HKL.out nk_length ?_ (by kernel_rfl); rw [HKZ.out]; simp only [Act.put, List.setIfInBounds_toArray, List.set_cons_zero, List.set_cons_succ])
                      | go_big_quiet_step ((first | (intro hw'; exact NT.out _ hw') | (intro _; rfl))))
                    refine wpQuiet_nil ?_
                    intro wZ hwZ
                    have HBZ := Lib.hid (HBN.out.trans (Below.mono hwZ HBN.out.size))
                    have hc1 : ctFault (prevOf b (j + 1)) c = 9 := by rw [He.out, HKZ.out]; rfl
                    have Hc1 := Lib.hid hc1
                    clear hc1 hwZ hex
                    go_wp2_with fail
                    go_ret
                    exact ⟨by rw [Hf.out, Hff.out, Hstep.out, Hc1.out]; rfl, HBZ.out⟩
                  · go_upto_region 13 with fail
                    have hex := inB_ex wN.heap.size wN
                    refine wp_region_inB wN.heap.size (by kernel_rfl) (by kernel_rfl) ?_
                    repeat (first
                      | (with_reducible refine quiet_dig rfl (.tmp 70) rfl (B) (o + (j + 1) * 34 + 1) (by kernel_rfl) c.key HKL.out FK.out ?_ (by kernel_rfl); simp only [Act.put, List.setIfInBounds_toArray, List.set_cons_zero, List.set_cons_succ])
                      | (with_reducible refine quiet_dig_eq rfl (.tmp 71) (.tmp 72) _ rfl c.key noKey (by kernel_rfl) (by kernel_rfl) HKL.out nk_length ?_ (by kernel_rfl); rw [HKZ.out]; simp only [Act.put, List.setIfInBounds_toArray, List.set_cons_zero, List.set_cons_succ])
                      | go_big_quiet_step ((first | (intro hw'; exact NT.out _ hw') | (intro _; rfl))))
                    refine wpQuiet_nil ?_
                    intro wZ hwZ
                    have HBZ := Lib.hid (HBN.out.trans (Below.mono hwZ HBN.out.size))
                    have hc1 : ctFault (prevOf b (j + 1)) c = 9 := by rw [He.out, HKZ.out]; rfl
                    have Hc1 := Lib.hid hc1
                    clear hc1 hwZ hex
                    go_wp2_with fail
                    go_ret
                    exact ⟨by rw [Hf.out, Hff.out, Hstep.out, Hc1.out]; rfl, HBZ.out⟩
                  · go_upto_region 13 with fail
                    have hex := inB_ex wN.heap.size wN
                    refine wp_region_inB wN.heap.size (by kernel_rfl) (by kernel_rfl) ?_
                    repeat (first
                      | (with_reducible refine quiet_dig rfl (.tmp 70) rfl (B) (o + (j + 1) * 34 + 1) (by kernel_rfl) c.key HKL.out FK.out ?_ (by kernel_rfl); simp only [Act.put, List.setIfInBounds_toArray, List.set_cons_zero, List.set_cons_succ])
                      | (with_reducible refine quiet_dig_eq rfl (.tmp 71) (.tmp 72) _ rfl c.key noKey (by kernel_rfl) (by kernel_rfl) HKL.out nk_length ?_ (by kernel_rfl); rw [HKZ.out]; simp only [Act.put, List.setIfInBounds_toArray, List.set_cons_zero, List.set_cons_succ])
                      | go_big_quiet_step ((first | (intro hw'; exact NT.out _ hw') | (intro _; rfl))))
                    refine wpQuiet_nil ?_
                    intro wZ hwZ
                    have HBZ := Lib.hid (HBN.out.trans (Below.mono hwZ HBN.out.size))
                    have hc1 : ctFault (prevOf b (j + 1)) c = 0 := by rw [He.out, HKZ.out]; rfl
                    have Hc1 := Lib.hid hc1
                    clear hc1 hwZ hex
                    go_wp2_with fail
                    go_roundw
                    case rel => exact ⟨(j + 1) + 1, by omega, by go_num, Lib.hid (by rw [Hff.out, Hstep.out, Hc1.out]; rfl), HBZ⟩
                    case measure => simp [intOf] <;> omega
      · obtain rfl : k = b.length := by omega
        have he : faultFrom none b = 0 := by rw [Hff.out, List.drop_length]; rfl
        have He := Lib.hid he
        clear he
        go_wp2_with fail
        go_ret
        exact ⟨by rw [Hf.out, He.out]; rfl, HBL.out⟩
end Go.Proofs.YtppjmonbmlbhpaaDoor
