/- Law of the run: are two entries the same? -/
import Derived.Test.YtpeomfehdccmmaaDoorEntMem
import Derived.Test.YtpeomfehdccmmaaDoorArrA
import Derived.WalkKit
import Derived.Below
namespace Go.Proofs.YtpeomfehdccmmaaDoor
open Go.RowKit
set_option linter.unusedVariables false
set_option linter.unusedSimpArgs false
theorem part_key (k : Int) (v : List UInt8) (w : World) : (part 3 (eV k v) 0).run Tryd.prog w = .ok (.int .i64 k) w := by
  have hs : ∀ w, (sizeOf 3).run Tryd.prog w = .ok 1 w := fun w => by kernel_rfl
  have ha : ∀ w, (isAgg 3).run Tryd.prog w = .ok false w := fun w => by kernel_rfl
  simp [part, hs, ha, go_sem, eV, eL]
theorem part_val (k : Int) (v : List UInt8) (hv : v.length = 32) (w : World) : (part 23 (eV k v) 1).run Tryd.prog w = .ok (.agg (dV v)) w := by
  have hs : ∀ w, (sizeOf 23).run Tryd.prog w = .ok 32 w := fun w => by kernel_rfl
  have ha : ∀ w, (isAgg 23).run Tryd.prog w = .ok true w := fun w => by kernel_rfl
  simp [part, hs, ha, go_sem, eV, eL, dV]
  exact List.take_of_length_le (by simp [hv])
theorem eV0 (k : Int) (v : List UInt8) : (eV k v)[0]? = some (.int .i64 k) := rfl
theorem eVex (k : Int) (v : List UInt8) (hv : v.length = 32) : (eV k v).extract 1 33 = dV v := by
  simp [eV, dV]
  exact List.take_of_length_le (by simp [hv])
theorem key_eq (x y : Int) (w : World) : (Op.equalIn 9999 3 (.int .i64 x) (.int .i64 y)).run Tryd.prog w = .ok (x == y) w := by
  show (Op.equalIn (9998 + 1) _ _ _).run _ _ = _
  unfold Op.equalIn
  simp [run_underlying Tryd.underlying3, go_sem]
theorem val_eq {d e : List UInt8} (hd : d.length = 32) (he : e.length = 32) (w : World) : (Op.equalIn 9999 23 (.agg (dV d)) (.agg (dV e))).run Tryd.prog w = .ok (d == e) w :=
  run_equalIn_bytes w 9997 _ _ 32 Tryd.underlying23 Tryd.underlying5 (fun w => by kernel_rfl) d e hd he
theorem ent_stood : Tryd.prog.stoodInHeld 35 = false := by kernel_rfl
theorem ent_eq {x y : En} (hx : x.val.length = 32) (hy : y.val.length = 32) (w : World) : (Op.equalIn 10000 35 (.agg (eV x.key x.val)) (.agg (eV y.key y.val))).run Tryd.prog w = .ok (x.key == y.key && x.val == y.val) w := by
  show (Op.equalIn (9999 + 1) _ _ _).run _ _ = _
  unfold Op.equalIn
  have p1 := part_key x.key x.val
  have p2 := part_key y.key y.val
  have p3 := part_val x.key x.val hx
  have p4 := part_val y.key y.val hy
  have q1 := key_eq x.key y.key
  have q2 := val_eq hx hy
  have q3 := ent_stood
  have r1 := eV0 x.key x.val
  have r2 := eV0 y.key y.val
  have r3 := eVex x.key x.val hx
  have r4 := eVex y.key y.val hy
  have hs : ∀ w, (sizeOf 23).run Tryd.prog w = .ok 32 w := fun w => by kernel_rfl
  have ha : ∀ w, (isAgg 23).run Tryd.prog w = .ok true w := fun w => by kernel_rfl
  have hs2 : ∀ w, (sizeOf 3).run Tryd.prog w = .ok 1 w := fun w => by kernel_rfl
  have ha2 : ∀ w, (isAgg 3).run Tryd.prog w = .ok false w := fun w => by kernel_rfl
  cases h1 : (x.key == y.key) <;> cases h2 : (x.val == y.val) <;> rw [h1] at q1 <;> rw [h2] at q2 <;>
    simp [run_underlying Tryd.underlying35, go_sem, q1, q2, q3, r1, r2, r3, r4, hs, ha, hs2, ha2]
instance : DecidableEq En := fun x y => decidable_of_iff (x.key = y.key ∧ x.val = y.val) ⟨fun ⟨h1, h2⟩ => by cases x; cases y; simp_all, fun h => by rw [h]; exact ⟨rfl, rfl⟩⟩
theorem en_beq (x y : En) : (x.key == y.key && x.val == y.val) = decide (x = y) := by
  rw [Bool.eq_iff_iff]
  simp only [Bool.and_eq_true, beq_iff_eq, decide_eq_true_iff]
  exact ⟨fun ⟨h1, h2⟩ => by cases x; cases y; simp_all, fun h => by rw [h]; exact ⟨rfl, rfl⟩⟩
theorem run_ent_neq {x y : En} (hx : x.val.length = 32) (hy : y.val.length = 32) (w : World) : (binOp .neq 35 (.agg (eV x.key x.val)) (.agg (eV y.key y.val))).run Tryd.prog w = .ok (.bool (!(decide (x = y)))) w := by
  show (Op.equalIn 10000 35 (.agg (eV x.key x.val)) (.agg (eV y.key y.val)) >>= fun b => pure (Value.bool (!b))).run _ _ = _
  rw [Sem.run_bind, ent_eq hx hy w, en_beq]; rfl
section
variable {ops : Array Oper} {C : World → Prop} {Q : Act → Prop} {a : Act} {op : Oper} {rest : List Oper}
theorem quiet_entE_0 (hgd : Region.wanted op (yielded ops a.tmps) = true) (x : Operand) (ho : op.op = .load 35 x) (b o : Nat) (hx : a.eval x = .pointer (some ⟨b, o, none⟩)) (e : En) (he : e.val.length = 32) (hC : ∀ w, C w → w.rangeAt b o (eL e))
    (h : wpQuiet Tryd.prog ops C Q rest (a.put op.dst (.agg (eV e.key e.val)))) : wpQuiet Tryd.prog ops C Q (op :: rest) a :=
  quiet_mid hgd _ x ho b o hx (eL e) _ hC Tryd.underlying35 rfl (by rw [eL_length he]; exact info_ent) h
theorem quiet_entE {x1 : Operand} (ho : op.op = .load 35 x1) (x : Operand) (he_ : x1 = x) (b o : Nat) (hx : a.eval x = .pointer (some ⟨b, o, none⟩)) (e : En) (he : e.val.length = 32) (hC : ∀ w, C w → w.rangeAt b o (eL e))
    (h : wpQuiet Tryd.prog ops C Q rest (a.put op.dst (.agg (eV e.key e.val)))) (hgd : Region.wanted op (yielded ops a.tmps) = true := by rfl) : wpQuiet Tryd.prog ops C Q (op :: rest) a := by
  cases he_
  exact quiet_entE_0 hgd _ ho b o hx e he hC h
theorem quiet_ent_neq_0 (hgd : Region.wanted op (yielded ops a.tmps) = true) (x y : Operand) (t : TypeId) (ho : op.op = .binOp .neq 35 x y t) (d e : En) (hx : a.eval x = .agg (eV d.key d.val)) (hy : a.eval y = .agg (eV e.key e.val)) (hd : d.val.length = 32) (he : e.val.length = 32)
    (h : wpQuiet Tryd.prog ops C Q rest (a.put op.dst (.bool (!(decide (d = e)))))) : wpQuiet Tryd.prog ops C Q (op :: rest) a :=
  BigFrame.wpQuiet_want hgd fun K hK => ⟨.bool (!(decide (d = e))), fun w hw => by
    unfold Oper.quietAt execOp
    have g : (eqGuard .neq 35 x y (.agg (eV d.key d.val)) (.agg (eV e.key e.val))).run Tryd.prog w = .ok () w := by simp [go_sem]
    simp only [ho, hx, hy, Sem.run_bind, g, run_ent_neq hd he w, Result.andThen_ok]
    exact ⟨rfl, rfl⟩, hK _ h⟩
theorem quiet_ent_neq {x1 y1 : Operand} {t1 : TypeId} (ho : op.op = .binOp .neq 35 x1 y1 t1) (x y : Operand) (t : TypeId) (he_ : (x1, y1, t1) = (x, y, t)) (d e : En) (hx : a.eval x = .agg (eV d.key d.val)) (hy : a.eval y = .agg (eV e.key e.val)) (hd : d.val.length = 32) (he : e.val.length = 32)
    (h : wpQuiet Tryd.prog ops C Q rest (a.put op.dst (.bool (!(decide (d = e)))))) (hgd : Region.wanted op (yielded ops a.tmps) = true := by rfl) : wpQuiet Tryd.prog ops C Q (op :: rest) a := by
  cases he_
  exact quiet_ent_neq_0 hgd _ _ _ ho d e hx hy hd he h
end
set_option maxRecDepth 20000 in
set_option maxHeartbeats 4000000 in
theorem Entries_calls (xs ys : List En) (hx : ∀ e ∈ xs, e.val.length = 32) (hy : ∀ e ∈ ys, e.val.length = 32) (aa : Option Addr) (ca ea : Nat) (ab : Option Addr) (cb eb : Nat) (w : World) (ha : Rd w aa ea (cellsE xs)) (hb : Rd w ab eb (cellsE ys)) (hlx : xs.length ≤ 9223372036854775807) :
    Calls Tryd.prog 35 #[.slice aa xs.length ca, .slice ab ys.length cb] w fun e w' => e = .returned (.bool (decide (xs = ys))) ∧ ∃ n, w' = w.drewN n := by
  have Hx := Lib.hid hx
  have Hy := Lib.hid hy
  clear hx hy
  by_cases hlen : xs.length = ys.length
  · have hl1 : xs.length ≤ ys.length := by omega
    have hl2 : ys.length ≤ xs.length := by omega
    clear hlen
    go_enter Tryd.func35, Tryd.ntmps35
    have hlen : xs.length = ys.length := by omega
    have y1 : ((xs.length : Int) != (ys.length : Int)) = false := by rw [bne_eq_false_iff_eq]; omega
    clear hlen
    go_wp2
    go_loopw [5] (fun i wr => ∃ k n : Nat, k ≤ xs.length ∧ i = .int .i64 k ∧ xs.take k = ys.take k ∧ wr = w.drewN n) (fun i _ => xs.length - (intOf i).toNat)
    case atStart => exact ⟨0, 0, Nat.zero_le _, rfl, rfl, rfl⟩
    case round =>
      obtain ⟨k, n, hk, rfl, ht, rfl⟩ := hrel
      have Ht := Lib.hid ht
      clear ht
      by_cases hlt : k < xs.length
      · have hlt2 : k < ys.length := by omega
        obtain ⟨ba, oa, rfl, _, hca⟩ := ha.ent Hx.out hlt
        obtain ⟨bb, ob, rfl, _, hcb⟩ := hb.ent Hy.out hlt2
        have hcw := Hx.out _ (List.getElem_mem hlt)
        have hdw := Hy.out _ (List.getElem_mem hlt2)
        obtain ⟨c, hc⟩ : ∃ c, c = xs[k] := ⟨_, rfl⟩
        obtain ⟨d, hd⟩ : ∃ d, d = ys[k] := ⟨_, rfl⟩
        rw [← hc] at hca hcw
        rw [← hd] at hcb hdw
        have HCA := Lib.hid hca
        have HCB := Lib.hid hcb
        have HCW := Lib.hid hcw
        have HDW := Lib.hid hdw
        have HC := Lib.hid hc
        have HD := Lib.hid hd
        have i1 : (k : Int) < (xs.length : Int) := by omega
        have i2 : (k : Int) < (ys.length : Int) := by omega
        have i0 : (0 : Int) ≤ (k : Int) := by omega
        have e4 : IntKind.i64.wrap ((k : Int) + 1) = (k : Int) + 1 := IntWalk.i64_in _ (by omega)
        obtain ⟨q, hq⟩ : ∃ q, decide (c = d) = q := ⟨_, rfl⟩
        have HQ := Lib.hid hq
        clear hca hcb ha hb hcw hdw hc hd hq
        go_wp2_with fail
        refine wp_region_quiet_lit (by kernel_rfl) (by kernel_rfl) ?_
        repeat (first
          | (refine quiet_entE rfl (.tmp 19) rfl ba (oa + k * 33) (by rfl) c HCW.out (fun w' hw' => by obtain ⟨n, rfl⟩ := hw'; exact HCA.out) ?_; simp only [Act.put, List.setIfInBounds_toArray, List.set_cons_zero, List.set_cons_succ])
          | (refine quiet_entE rfl (.tmp 23) rfl bb (ob + k * 33) (by rfl) d HDW.out (fun w' hw' => by obtain ⟨n, rfl⟩ := hw'; exact HCB.out) ?_; simp only [Act.put, List.setIfInBounds_toArray, List.set_cons_zero, List.set_cons_succ])
          | (refine quiet_ent_neq rfl (.tmp 20) (.tmp 24) _ rfl c d (by rfl) (by rfl) HCW.out HDW.out ?_; rw [HQ.out]; simp only [Act.put, List.setIfInBounds_toArray, List.set_cons_zero, List.set_cons_succ])
          | go_big_quiet_step (fail))
        refine wpQuiet_nil ?_
        rintro _ ⟨nq, rfl⟩
        cases q with
        | true =>
          have hcd : c = d := of_decide_eq_true HQ.out
          have Hcd := Lib.hid hcd
          clear hcd
          go_wp2_with fail
          go_roundw
          case rel => exact ⟨k + 1, n + nq, by omega, by go_num, by rw [List.take_succ_eq_append_getElem hlt, List.take_succ_eq_append_getElem hlt2, Ht.out, ← HC.out, ← HD.out, Hcd.out], rfl⟩
          case measure => simp [intOf] <;> omega
        | false =>
          have hcd : ¬ c = d := of_decide_eq_false HQ.out
          have Hcd := Lib.hid hcd
          clear hcd
          go_wp2_with fail
          go_ret
          have hne : ¬ xs = ys := fun h => Hcd.out (by rw [HC.out, HD.out]; simp [h])
          exact ⟨by rw [decide_eq_false hne]; try rfl, n + nq, by rw [World.drewN_drewN]⟩
      · obtain rfl : k = xs.length := by omega
        go_wp2
        go_ret
        have := Ht.out
        rw [List.take_of_length_le (Nat.le_refl _), List.take_of_length_le hl2] at this
        exact ⟨by rw [decide_eq_true this]; try rfl, n, rfl⟩
  · have hne : ((xs.length : Int) != (ys.length : Int)) = true := by rw [bne_iff_ne]; omega
    go_enter Tryd.func35, Tryd.ntmps35
    go_wp2
    go_ret
    have hn : ¬ xs = ys := fun h => hlen (by rw [h])
    exact ⟨by rw [decide_eq_false hn]; try rfl, 0, rfl⟩
end Go.Proofs.YtpeomfehdccmmaaDoor
