/- Seals in memory; slices.Index and Contains at seals and at int. -/
import Derived.Test.YtkioddmhjbaleaaDoorTrieP1
import Derived.Test.YtkioddmhjbaleaaDoorArrA
import Derived.WalkKit
import Derived.Below
namespace Go.Proofs.YtkioddmhjbaleaaDoor
open Go.RowKit
set_option linter.unusedVariables false
set_option linter.unusedSimpArgs false
theorem part_keyS (k : Int) (v : List UInt8) (w : World) : (part 3 (eV k v) 0).run Tryd.prog w = .ok (.int .i64 k) w := by
  have hs : ∀ w, (sizeOf 3).run Tryd.prog w = .ok 1 w := fun w => by kernel_rfl
  have ha : ∀ w, (isAgg 3).run Tryd.prog w = .ok false w := fun w => by kernel_rfl
  simp [part, hs, ha, go_sem, eV, eL]
theorem part_valS (k : Int) (v : List UInt8) (hv : v.length = 32) (w : World) : (part 23 (eV k v) 1).run Tryd.prog w = .ok (.agg (dV v)) w := by
  have hs : ∀ w, (sizeOf 23).run Tryd.prog w = .ok 32 w := fun w => by kernel_rfl
  have ha : ∀ w, (isAgg 23).run Tryd.prog w = .ok true w := fun w => by kernel_rfl
  simp [part, hs, ha, go_sem, eV, eL, dV]
  exact List.take_of_length_le (by simp [hv])
theorem eV0S (k : Int) (v : List UInt8) : (eV k v)[0]? = some (.int .i64 k) := rfl
theorem eVexS (k : Int) (v : List UInt8) (hv : v.length = 32) : (eV k v).extract 1 33 = dV v := by
  simp [eV, dV]
  exact List.take_of_length_le (by simp [hv])
theorem key_eqS (x y : Int) (w : World) : (Op.equalIn 9999 3 (.int .i64 x) (.int .i64 y)).run Tryd.prog w = .ok (x == y) w := by
  show (Op.equalIn (9998 + 1) _ _ _).run _ _ = _
  unfold Op.equalIn
  simp [run_underlying Tryd.underlying3, go_sem]
theorem val_eqS {d e : List UInt8} (hd : d.length = 32) (he : e.length = 32) (w : World) : (Op.equalIn 9999 23 (.agg (dV d)) (.agg (dV e))).run Tryd.prog w = .ok (d == e) w :=
  run_equalIn_bytes w 9997 _ _ 32 Tryd.underlying23 Tryd.underlying5 (fun w => by kernel_rfl) d e hd he
theorem seal_stood : Tryd.prog.stoodInHeld 80 = false := by kernel_rfl
theorem seal_eq {x y : En} (hx : x.val.length = 32) (hy : y.val.length = 32) (w : World) : (Op.equalIn 10000 80 (.agg (eV x.key x.val)) (.agg (eV y.key y.val))).run Tryd.prog w = .ok (x.key == y.key && x.val == y.val) w := by
  show (Op.equalIn (9999 + 1) _ _ _).run _ _ = _
  unfold Op.equalIn
  have p1 := part_keyS x.key x.val
  have p2 := part_keyS y.key y.val
  have p3 := part_valS x.key x.val hx
  have p4 := part_valS y.key y.val hy
  have q1 := key_eqS x.key y.key
  have q2 := val_eqS hx hy
  have q3 := seal_stood
  have r1 := eV0S x.key x.val
  have r2 := eV0S y.key y.val
  have r3 := eVexS x.key x.val hx
  have r4 := eVexS y.key y.val hy
  have hs : ∀ w, (sizeOf 23).run Tryd.prog w = .ok 32 w := fun w => by kernel_rfl
  have ha : ∀ w, (isAgg 23).run Tryd.prog w = .ok true w := fun w => by kernel_rfl
  have hs2 : ∀ w, (sizeOf 3).run Tryd.prog w = .ok 1 w := fun w => by kernel_rfl
  have ha2 : ∀ w, (isAgg 3).run Tryd.prog w = .ok false w := fun w => by kernel_rfl
  cases h1 : (x.key == y.key) <;> cases h2 : (x.val == y.val) <;> rw [h1] at q1 <;> rw [h2] at q2 <;>
    simp [run_underlying Tryd.underlying80, go_sem, q1, q2, q3, r1, r2, r3, r4, hs, ha, hs2, ha2]
instance : DecidableEq En := fun x y => decidable_of_iff (x.key = y.key ∧ x.val = y.val) ⟨fun ⟨h1, h2⟩ => by cases x; cases y; simp_all, fun h => by rw [h]; exact ⟨rfl, rfl⟩⟩
theorem en_beqS (x y : En) : (x.key == y.key && x.val == y.val) = decide (x = y) := by
  rw [Bool.eq_iff_iff]
  simp only [Bool.and_eq_true, beq_iff_eq, decide_eq_true_iff]
  exact ⟨fun ⟨h1, h2⟩ => by cases x; cases y; simp_all, fun h => by rw [h]; exact ⟨rfl, rfl⟩⟩
theorem run_seal_eq {x y : En} (hx : x.val.length = 32) (hy : y.val.length = 32) (w : World) : (binOp .eql 80 (.agg (eV x.key x.val)) (.agg (eV y.key y.val))).run Tryd.prog w = .ok (.bool (decide (x = y))) w := by
  show (Op.equalIn 10000 80 (.agg (eV x.key x.val)) (.agg (eV y.key y.val)) >>= fun b => pure (Value.bool b)).run _ _ = _
  rw [Sem.run_bind, seal_eq hx hy w, en_beqS]; rfl
theorem info_seal : (Tryd.prog.info? 80).map (·.size) = some 33 := by kernel_rfl
theorem info_sealz : (Tryd.prog.info? 80).map (fun i => (i.zero, i.size, i.bytes)) = some (some (.agg (eV 0 nz)), 33, 40) := by kernel_rfl
set_option maxRecDepth 20000 in
theorem run_build_seal32 (k : Int) (k0 k1 k2 k3 k4 k5 k6 k7 k8 k9 k10 k11 k12 k13 k14 k15 k16 k17 k18 k19 k20 k21 k22 k23 k24 k25 k26 k27 k28 k29 k30 k31 : UInt8) (w : World) : (Instr.build 80 #[(0, .int .i64 k), (1, .agg (dV [k0, k1, k2, k3, k4, k5, k6, k7, k8, k9, k10, k11, k12, k13, k14, k15, k16, k17, k18, k19, k20, k21, k22, k23, k24, k25, k26, k27, k28, k29, k30, k31]))]).run Tryd.prog w = .ok (.agg (eV k [k0, k1, k2, k3, k4, k5, k6, k7, k8, k9, k10, k11, k12, k13, k14, k15, k16, k17, k18, k19, k20, k21, k22, k23, k24, k25, k26, k27, k28, k29, k30, k31])) w := by kernel_rfl
theorem run_build_seal (k : Int) : ∀ (v : List UInt8), v.length = 32 → ∀ w : World, (Instr.build 80 #[(0, .int .i64 k), (1, .agg (dV v))]).run Tryd.prog w = .ok (.agg (eV k v)) w := by
  intro v hv
  match v, hv with
  | [k0, k1, k2, k3, k4, k5, k6, k7, k8, k9, k10, k11, k12, k13, k14, k15, k16, k17, k18, k19, k20, k21, k22, k23, k24, k25, k26, k27, k28, k29, k30, k31], _ => exact run_build_seal32 k k0 k1 k2 k3 k4 k5 k6 k7 k8 k9 k10 k11 k12 k13 k14 k15 k16 k17 k18 k19 k20 k21 k22 k23 k24 k25 k26 k27 k28 k29 k30 k31
section
variable {ops : Array Oper} {rest : List Oper} {op : Oper} {a : Act} {w : World} {Q : Exit → Act → World → Prop}
theorem bld_seal (hgd : op.guard = none) (x y : Operand) (ho : op.op = .build 80 #[(0, x), (1, y)]) (z : Int) (d : List UInt8) (hd : d.length = 32) (hx : a.eval x = .int .i64 z) (hy : a.eval y = .agg (dV d))
    (hw : wpList Tryd.prog ops Q rest (a.put op.dst (.agg (eV z d))) w) : wpList Tryd.prog ops Q (op :: rest) a w := by
  refine wpList_plain hgd fun K hK => ?_
  unfold Oper.wp execOp
  simp only [ho, List.map_toArray, List.map_cons, List.map_nil, hx, hy, Sem.run_bind, run_build_seal z d hd w, Result.andThen_ok, Sem.run_pure]
  exact hK _ _ hw
theorem ld_seal (hgd : op.guard = none) (x : Operand) (ho : op.op = .load 80 x) (b o : Nat) (hx : a.eval x = .pointer (some ⟨b, o, none⟩)) (e : En) (he : e.val.length = 32) (hr : w.rangeAt b o (eL e))
    (h : wpList Tryd.prog ops Q rest (a.put op.dst (.agg (eV e.key e.val))) w) : wpList Tryd.prog ops Q (op :: rest) a w :=
  wpList_load_mid hgd _ x ho b o hx (eL e) _ hr Tryd.underlying80 rfl (by rw [eL_length he]; exact info_seal) h
theorem eq_seal (hgd : op.guard = none) (x y : Operand) (t : TypeId) (ho : op.op = .binOp .eql 80 x y t) (d e : En) (hx : a.eval x = .agg (eV d.key d.val)) (hy : a.eval y = .agg (eV e.key e.val)) (hd : d.val.length = 32) (he : e.val.length = 32)
    (h : wpList Tryd.prog ops Q rest (a.put op.dst (.bool (decide (d = e)))) w) : wpList Tryd.prog ops Q (op :: rest) a w := by
  refine wpList_plain hgd fun K hK => ?_
  unfold Oper.wp execOp
  have g : (eqGuard .eql 80 x y (.agg (eV d.key d.val)) (.agg (eV e.key e.val))).run Tryd.prog w = .ok () w := by simp [go_sem]
  simp only [ho, hx, hy, Sem.run_bind, g, run_seal_eq hd he w, Result.andThen_ok, Sem.run_pure]
  exact hK _ _ h
end

section
variable {ops : Array Oper} {C : World → Prop} {Q : Act → Prop} {a : Act} {op : Oper} {rest : List Oper}
theorem quiet_seal {x1 : Operand} (ho : op.op = .load 80 x1) (x : Operand) (he_ : x1 = x) (b o : Nat) (hx : a.eval x = .pointer (some ⟨b, o, none⟩)) (e : En) (he : e.val.length = 32) (hC : ∀ w, C w → w.rangeAt b o (eL e))
    (h : wpQuiet Tryd.prog ops C Q rest (a.put op.dst (.agg (eV e.key e.val)))) (hgd : Region.wanted op (yielded ops a.tmps) = true) : wpQuiet Tryd.prog ops C Q (op :: rest) a := by
  cases he_
  exact quiet_mid hgd _ _ ho b o hx (eL e) _ hC Tryd.underlying80 rfl (by rw [eL_length he]; exact info_seal) h
theorem quiet_seal_eq {x1 y1 : Operand} {t1 : TypeId} (ho : op.op = .binOp .eql 80 x1 y1 t1) (x y : Operand) (t : TypeId) (he_ : (x1, y1, t1) = (x, y, t)) (d e : En) (hx : a.eval x = .agg (eV d.key d.val)) (hy : a.eval y = .agg (eV e.key e.val)) (hd : d.val.length = 32) (he : e.val.length = 32) (r : Bool) (hr : decide (d = e) = r)
    (h : wpQuiet Tryd.prog ops C Q rest (a.put op.dst (.bool r))) (hgd : Region.wanted op (yielded ops a.tmps) = true) : wpQuiet Tryd.prog ops C Q (op :: rest) a := by
  cases he_
  subst hr
  exact BigFrame.wpQuiet_want hgd fun K hK => ⟨.bool (decide (d = e)), fun w hw => by
    unfold Oper.quietAt execOp
    have g : (eqGuard .eql 80 x1 y1 (.agg (eV d.key d.val)) (.agg (eV e.key e.val))).run Tryd.prog w = .ok () w := by simp [go_sem]
    simp only [ho, hx, hy, Sem.run_bind, g, run_seal_eq hd he w, Result.andThen_ok]
    exact ⟨rfl, rfl⟩, hK _ h⟩
end
theorem IndexI_calls (xs : List Int) (v : Int) (a : Option Addr) (ca ea n : Nat) (hn : xs.length = n) (w : World) (ha : Rd w a ea (xs.map vI)) (hx : n ≤ 1000000) :
    Calls Tryd.prog 112 #[.slice a n ca, .int .i64 v] w fun e w' => ∃ m : Int, decide (0 ≤ m) = decide (v ∈ xs) ∧ e = .returned (.int .i64 m) ∧ w = w' := by
  subst hn
  go_enter Tryd.func112, Tryd.ntmps112
  go_wp2
  go_loop [8] (fun i => ∃ k : Nat, k ≤ xs.length ∧ i = .int .i64 k ∧ v ∉ xs.take k) (fun i => xs.length - (intOf i).toNat)
  case atStart => exact ⟨0, Nat.zero_le _, rfl, by simp⟩
  case round =>
    obtain ⟨k, hk, rfl, ht⟩ := hrel
    have Ht := Lib.hid ht
    clear ht
    by_cases hlt : k < xs.length
    · obtain ⟨ba, oa, rfl, _, hca⟩ := ha.cell (k := k) (by rw [List.length_map]; exact hlt)
      have c1 := hca k (by rw [List.length_map]; exact hlt)
      rw [List.getElem_map] at c1
      unfold vI at c1
      clear hca ha
      by_cases hxy : v = xs[k]
      · have t : (v == xs[k]) = true := by rw [← hxy]; simp
        have Hxy := Lib.hid hxy
        clear hxy
        go_wp2
        go_ret
        refine ⟨k, ?_, rfl, rfl⟩
        have h1 : v ∈ xs := by have := Hxy.out; rw [this]; exact List.getElem_mem _
        simp [h1]
      · have t : (v == xs[k]) = false := by rw [beq_eq_false_iff_ne]; exact hxy
        have Hxy := Lib.hid hxy
        clear hxy
        go_wp2
        go_round
        case rel => exact ⟨k + 1, by omega, by go_num, by rw [List.take_succ_eq_append_getElem hlt]; intro h; rcases List.mem_append.1 h with h | h; exact Ht.out h; exact Hxy.out (by simpa using h)⟩
        case measure => simp [intOf] <;> omega
    · obtain rfl : k = xs.length := by omega
      go_wp2
      go_ret
      refine ⟨-1, ?_, rfl, rfl⟩
      have := Ht.out
      rw [List.take_of_length_le (Nat.le_refl _)] at this
      simp [this]
theorem ContainsI_calls (xs : List Int) (v : Int) (a : Option Addr) (ca ea n : Nat) (hn : xs.length = n) (w : World) (ha : Rd w a ea (xs.map vI)) (hx : n ≤ 1000000) :
    Calls Tryd.prog 72 #[.slice a n ca, .int .i64 v] w fun e w' => e = .returned (.bool (decide (v ∈ xs))) ∧ w = w' := by
  go_enter Tryd.func72, Tryd.ntmps72
  go_wp2_with fail
  refine (IndexI_calls xs v a ca ea n hn _ ha hx).mono ?_; rintro e w' ⟨n, hn, rfl, rfl⟩
  have Hn := Lib.hid hn
  clear hn
  go_wp2_with fail
  go_ret
  rw [← Hn.out]
  exact ⟨rfl, rfl⟩
theorem IndexS_calls (xs : List En) (hxs : ∀ e ∈ xs, e.val.length = 32) (v : En) (hv : v.val.length = 32) (a : Option Addr) (ca ea n : Nat) (hn : xs.length = n) (w : World) (ha : Rd w a ea (cellsE xs)) (hx : n ≤ 1000000) :
    Calls Tryd.prog 135 #[.slice a n ca, .agg (eV v.key v.val)] w fun e w' => ∃ m : Int, decide (0 ≤ m) = decide (v ∈ xs) ∧ e = .returned (.int .i64 m) ∧ Below w.heap.size w w' := by
  subst hn
  obtain ⟨V, hV⟩ : ∃ z, z = w.heap.size := ⟨_, rfl⟩
  obtain ⟨w1, hw1⟩ : ∃ z, z = w.alloc (.cells (eV v.key v.val) 80) := ⟨_, rfl⟩
  have HB := Lib.hid (show Below w.heap.size w w1 by rw [hw1]; exact (Below.refl _ w).alloc (Nat.le_refl _) _)
  have GV := Lib.hid (show w1.heap[V]? = some (.cells (eV v.key v.val) 80 (0, 0)) by rw [hw1, hV]; exact heap_alloc_new _ _)
  have HA := Lib.hid (ha.below HB.out)
  have HXS := Lib.hid hxs
  have HVL := Lib.hid hv
  have FV := Lib.hid hV
  have FW := Lib.hid hw1
  clear ha hxs hv hV hw1
  go_enter Tryd.func135, Tryd.ntmps135
  go_wp2_with fail
  rw [← FV.out, ← FW.out]
  go_loopw [8] (fun i wr => ∃ k : Nat, k ≤ xs.length ∧ i = .int .i64 k ∧ v ∉ xs.take k ∧ Below w1.heap.size w1 wr) (fun i _ => xs.length - (intOf i).toNat)
  case atStart => exact ⟨0, Nat.zero_le _, rfl, by simp, Below.refl _ _⟩
  case round =>
    obtain ⟨k, hk, rfl, ht, hbw⟩ := hrel
    have Ht := Lib.hid ht
    have BW := Lib.hid hbw
    clear ht hbw
    by_cases hlt : k < xs.length
    · have hrr := HA.out.below BW.out
      obtain ⟨ba, oa, rfl, hba, hca⟩ := Rd.ent hrr HXS.out hlt
      have hV2 := (BW.out.block V (lt_of_heap GV.out)).trans GV.out
      have hVl := lt_of_heap hV2
      have FCV := Lib.hid (fun w' (h : InB wr.heap.size wr w') => h.range hVl (range_ent hV2))
      have HX := Lib.hid (HXS.out _ (List.getElem_mem hlt))
      obtain ⟨x, hxk⟩ : ∃ x, x = xs[k] := ⟨_, rfl⟩
      have HXK := Lib.hid hxk
      rw [← hxk] at hca HX
      have FCA := Lib.hid (fun w' (h : InB wr.heap.size wr w') => h.range hba hca)
      clear hca hxk hrr hV2 hVl hba
      by_cases hxy : v = x
      · have Hxy := Lib.hid hxy
        clear hxy
        go_upto_region 4 with fail
        have hex := inB_ex wr.heap.size wr
        refine wp_region_inB wr.heap.size (by kernel_rfl) (by kernel_rfl) ?_
        repeat (first
          | (with_reducible refine quiet_seal rfl (.tmp 3) rfl V 0 (by kernel_rfl) v HVL.out FCV.out ?_ (by kernel_rfl); simp only [Act.put, List.setIfInBounds_toArray, List.set_cons_zero, List.set_cons_succ])
          | (with_reducible refine quiet_seal rfl (.tmp 14) rfl ba (oa + k * 33) (by kernel_rfl) x HX.out FCA.out ?_ (by kernel_rfl); simp only [Act.put, List.setIfInBounds_toArray, List.set_cons_zero, List.set_cons_succ])
          | (with_reducible refine quiet_seal_eq rfl (.tmp 11) (.tmp 15) _ rfl v x (by kernel_rfl) (by kernel_rfl) HVL.out HX.out true (decide_eq_true Hxy.out) ?_ (by kernel_rfl); simp only [Act.put, List.setIfInBounds_toArray, List.set_cons_zero, List.set_cons_succ])
          | go_big_quiet_step ((first | (intro _; rfl))))
        refine wpQuiet_nil ?_
        intro wZ hwZ
        have BZ := Lib.hid (BW.out.trans (hwZ.mono BW.out.size))
        clear hwZ hex
        go_wp2_with fail
        go_ret
        refine ⟨k, ?_, rfl, HB.out.trans (BZ.out.mono HB.out.size)⟩
        have h1 : v ∈ xs := by rw [Hxy.out, HXK.out]; exact List.getElem_mem _
        simp [h1]
      · have Hxy := Lib.hid hxy
        clear hxy
        go_upto_region 4 with fail
        have hex := inB_ex wr.heap.size wr
        refine wp_region_inB wr.heap.size (by kernel_rfl) (by kernel_rfl) ?_
        repeat (first
          | (with_reducible refine quiet_seal rfl (.tmp 3) rfl V 0 (by kernel_rfl) v HVL.out FCV.out ?_ (by kernel_rfl); simp only [Act.put, List.setIfInBounds_toArray, List.set_cons_zero, List.set_cons_succ])
          | (with_reducible refine quiet_seal rfl (.tmp 14) rfl ba (oa + k * 33) (by kernel_rfl) x HX.out FCA.out ?_ (by kernel_rfl); simp only [Act.put, List.setIfInBounds_toArray, List.set_cons_zero, List.set_cons_succ])
          | (with_reducible refine quiet_seal_eq rfl (.tmp 11) (.tmp 15) _ rfl v x (by kernel_rfl) (by kernel_rfl) HVL.out HX.out false (decide_eq_false Hxy.out) ?_ (by kernel_rfl); simp only [Act.put, List.setIfInBounds_toArray, List.set_cons_zero, List.set_cons_succ])
          | go_big_quiet_step ((first | (intro _; rfl))))
        refine wpQuiet_nil ?_
        intro wZ hwZ
        have BZ := Lib.hid (BW.out.trans (hwZ.mono BW.out.size))
        clear hwZ hex
        go_wp2_with fail
        go_roundw
        case rel => exact ⟨k + 1, by omega, by go_num, (by rw [List.take_succ_eq_append_getElem hlt]; intro h; rcases List.mem_append.1 h with h | h; exact Ht.out h; exact Hxy.out (by rw [HXK.out]; simpa using h)), BZ.out⟩
        case measure => simp [intOf] <;> omega
    · obtain rfl : k = xs.length := by omega
      go_wp2_with fail
      go_ret
      refine ⟨-1, ?_, rfl, HB.out.trans (BW.out.mono HB.out.size)⟩
      have := Ht.out
      rw [List.take_of_length_le (Nat.le_refl _)] at this
      simp [this]
theorem ContainsS_calls (xs : List En) (hxs : ∀ e ∈ xs, e.val.length = 32) (v : En) (hv : v.val.length = 32) (a : Option Addr) (ca ea n : Nat) (hn : xs.length = n) (w : World) (ha : Rd w a ea (cellsE xs)) (hx : n ≤ 1000000) :
    Calls Tryd.prog 110 #[.slice a n ca, .agg (eV v.key v.val)] w fun e w' => e = .returned (.bool (decide (v ∈ xs))) ∧ Below w.heap.size w w' := by
  obtain ⟨V, hV⟩ : ∃ z, z = w.heap.size := ⟨_, rfl⟩
  obtain ⟨w1, hw1⟩ : ∃ z, z = w.alloc (.cells (eV v.key v.val) 80) := ⟨_, rfl⟩
  have HB := Lib.hid (show Below w.heap.size w w1 by rw [hw1]; exact (Below.refl _ w).alloc (Nat.le_refl _) _)
  have GV := Lib.hid (show w1.heap[V]? = some (.cells (eV v.key v.val) 80 (0, 0)) by rw [hw1, hV]; exact heap_alloc_new _ _)
  have HA := Lib.hid (ha.below HB.out)
  have HXS := Lib.hid hxs
  have HVL := Lib.hid hv
  have FV := Lib.hid hV
  have FW := Lib.hid hw1
  have RV := Lib.hid (range_ent GV.out)
  clear ha hxs hv hV hw1
  go_enter Tryd.func110, Tryd.ntmps110
  go_upto_region 1 with fail
  rw [← FV.out, ← FW.out]
  go_wp2_with ((refine ld_seal rfl (.tmp 3) rfl V 0 (by rfl) v HVL.out RV.out ?_); simp only [Act.put, List.setIfInBounds_toArray, List.set_cons_zero, List.set_cons_succ])
  refine (IndexS_calls xs HXS.out v HVL.out a ca ea n hn _ HA.out hx).mono ?_; rintro e w' ⟨n, hn, rfl, hb⟩
  have Hn := Lib.hid hn
  have B2 := Lib.hid (HB.out.trans (hb.mono HB.out.size))
  clear hn hb
  go_wp2_with fail
  go_ret
  rw [← Hn.out]
  exact ⟨rfl, B2.out⟩
end Go.Proofs.YtkioddmhjbaleaaDoor
