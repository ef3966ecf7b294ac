/- Whom a book trusts, or trusted two of, it goes on to, whatever is joined to it: what the law tells is true, with no further condition. -/
import Derived.Test.YtpfpcklonkgkeaaRows
import Derived.StillTailTactics
import Derived.Deep.RegionHeld3
import Derived.SizedLaws
import Derived.Test.YtpfpcklonkgkeaaKnown
import Derived.ShutString
import Derived.ChangeOld
import Derived.Below
namespace Go.Proofs.Ytpfpcklonkgkeaa
open Go.ChangeShapes Go.WideShapes Go.ChangeAt Go.RowKit
open Go.ChangeMaps (open_string shut_string)
set_option linter.unusedVariables false
namespace bookRises
theorem own : ownKnob Try.prog.godebug = none := by kernel_rfl
theorem laidOut : laidOutB Try.prog = true := by kernel_rfl

-- HOLE: the walk
set_option linter.unusedSimpArgs false
theorem Known_is {b : List Ct} (hw : ∀ c ∈ b, CtW c) (a : Option Addr) (cap : Nat) (n : ByteArray) (w : World) (hr : BookAt w b a cap) :
    Calls Try.prog 14 #[.slice a b.length cap, .string n] w fun e w' => e = .returned (.tuple #[.agg (cV ((lk b n).getD zeroCt)), .bool (lk b n).isSome]) ∧ Below w.heap.size w w' := by
  obtain ⟨h1, h2, e, h3⟩ := hr
  exact Known_calls b hw a cap e n w h3 (by omega)
theorem known_W {b : List Ct} (hw : ∀ c ∈ b, CtW c) (n : ByteArray) : CtW ((lk b n).getD zeroCt) := by
  cases h : lk b n with
  | none => exact zero_W
  | some c => exact hw c (lk_some h).1
section
variable {ops : Array Oper} {rest : List Oper} {op : Oper} {a : Act} {w : World} {Q : Exit → Act → World → Prop}
theorem eq_digG (hgd : Region.wanted op (yielded ops a.tmps) = true) (x y : Operand) (t : TypeId) (ho : op.op = .binOp .eql 24 x y t) (d e : List UInt8) (hx : a.eval x = .agg (dV d)) (hy : a.eval y = .agg (dV e)) (hd : d.length = 32) (he : e.length = 32)
    (h : wpList Try.prog ops Q rest (a.put op.dst (.bool (d == e))) w) : wpList Try.prog ops Q (op :: rest) a w := by
  unfold wpList
  rw [if_pos hgd]
  refine .inl ?_
  unfold Oper.wp execOp
  have g : (eqGuard .eql 24 x y (.agg (dV d)) (.agg (dV e))).run Try.prog w = .ok () w := by simp [go_sem]
  have b : (binOp .eql 24 (.agg (dV d)) (.agg (dV e))).run Try.prog w = .ok (.bool (d == e)) w := by
    show (Op.equalIn 10000 24 (.agg (dV d)) (.agg (dV e)) >>= fun b => pure (Value.bool b)).run _ _ = _
    rw [Sem.run_bind, dig_eq hd he w]; rfl
  simp only [ho, hx, hy, Sem.run_bind, g, b, Result.andThen_ok]
  exact h
theorem ld_digG (hgd : Region.wanted op (yielded ops a.tmps) = true) (x : Operand) (ho : op.op = .load 24 x) (b o : Nat) (hx : a.eval x = .pointer (some ⟨b, o, none⟩)) (d : List UInt8) (hl : d.length = 32) (hc : w.rangeAt b o (d.map vB))
    (h : wpList Try.prog ops Q rest (a.put op.dst (.agg (dV d))) w) : wpList Try.prog ops Q (op :: rest) a w := by
  unfold wpList
  rw [if_pos hgd]
  exact .inl (wp_load_mid _ x ho b o hx (d.map vB) _ hc Try.underlying24 rfl (by rw [List.length_map, hl]; exact dig_size) h)
end
set_option maxRecDepth 20000 in
set_option maxHeartbeats 8000000 in
theorem walk (x0 : List Ct) (a0 : Option Addr) (c0 e0 : Nat) (x1 : List Ct) (a1 : Option Addr) (c1 e1 : Nat) (s2 : ByteArray) (x3 : List UInt8) (w : World) (l0 : x0.length ≤ c0) (m0 : c0 ≤ 9223372036854775807) (n0 : ∀ c ∈ x0, CtW c) (r0 : Rd w a0 e0 (cellsC x0)) (l1 : x1.length ≤ c1) (m1 : c1 ≤ 9223372036854775807) (n1 : ∀ c ∈ x1, CtW c) (r1 : Rd w a1 e1 (cellsC x1)) (l2 : s2.size ≤ 9223372036854775807) (n3 : x3.length = 32) :
    Calls Try.prog 5 #[.slice a0 x0.length c0, .slice a1 x1.length c1, .string s2, .agg (dV x3)] w fun e w' => e = .returned (.bool true) ∧ Below w.heap.size w w' := by
  obtain ⟨W0, hW0⟩ : ∃ W0, W0 = w.alloc (.cells (dV x3) 24) := ⟨_, rfl⟩
  have hb0 : Below w.heap.size w W0 := by rw [hW0]; exact (Below.refl _ _).alloc (Nat.le_refl _) _
  have hk0 : W0.heap[w.heap.size]? = some (.cells (dV x3) 24 (0, 0)) := by rw [hW0]; exact heap_alloc_new _ _
  have hs0 : w.heap.size < W0.heap.size := by rw [hW0, World.size_alloc]; omega
  have MT := met_calls W0
  have A0 : BookAt W0 x0 a0 c0 := BookAt.below ⟨l0, m0, e0, r0⟩ hb0
  have A1 : BookAt W0 x1 a1 c1 := BookAt.below ⟨l1, m1, e1, r1⟩ hb0
  have N0 := Lib.hid n0
  have N1 := Lib.hid n1
  have HW0 := Lib.hid hW0
  have HK0 := Lib.hid hk0
  have HB0 := Lib.hid hb0
  clear r0 r1 n0 n1 hW0 hk0 hb0
  obtain ⟨H, hH⟩ : ∃ H, H = w.heap.size := ⟨_, rfl⟩
  have HH := Lib.hid hH
  rw [← hH] at HK0 HB0 hs0
  go_enter Try.func5, Try.ntmps5
  go_wp2_with fail
  rw [← HW0.out, ← HH.out]
  clear hH
  refine MT.mono ?_
  rintro e w1 ⟨rfl, hb⟩
  replace A0 := A0.below hb
  replace A1 := A1.below hb
  have HB := Lib.hid (HB0.out.trans (hb.mono (Nat.le_of_lt hs0)))
  have HK := Lib.hid ((hb.block H hs0).trans HK0.out)
  have hs1 : H < w1.heap.size := Nat.lt_of_lt_of_le hs0 hb.size
  clear MT hb
  go_wp2_with fail
  have JC := BJoin_calls x0 x1 N0.out N1.out a0 a1 c0 c1 _ _ w1 A0.2.2.choose_spec A1.2.2.choose_spec (Nat.le_trans A0.1 A0.2.1) (Nat.le_trans A1.1 A1.2.1) A0.1 A1.1 A0.2.1 A1.2.1
  refine JC.mono ?_
  rintro e w2 ⟨hb2, hJ⟩
  clear JC
  replace A0 := A0.below hb2
  replace A1 := A1.below hb2
  have HB2 := Lib.hid (HB.out.trans (hb2.mono (Nat.le_of_lt hs1)))
  have HK2 := Lib.hid ((hb2.block H hs1).trans HK.out)
  have hs2 : H < w2.heap.size := Nat.lt_of_lt_of_le hs1 hb2.size
  clear hb2
  rcases hJ with ⟨hj0, aJ, cJ, eJ, rfl, lJ, mJ, rJ⟩ | ⟨hj0, rfl⟩
  · obtain ⟨g0, g1, g2⟩ := joinFault_zero hj0
    have F0 : Fine x0 := ⟨g0, N0.out⟩
    have F1 : Fine x1 := ⟨g1, N1.out⟩
    have FJ := fine_merge F0 F1 g2
    have hrise := fun (c : Ct) (hc : c ∈ x0) => rises g0 g1 hc
    obtain ⟨J, hJ⟩ : ∃ J, J = mergeC x0 x1 := ⟨_, rfl⟩
    rw [← hJ] at FJ lJ rJ hrise
    have AJ : BookAt w2 J aJ cJ := ⟨lJ, mJ, eJ, rJ⟩
    have HR := Lib.hid hrise
    have HJ := Lib.hid hJ
    rw [← hJ]
    clear hj0 lJ rJ hJ hrise g2
    have HF0 := Lib.hid F0
    have HFJ := Lib.hid FJ
    have HA0 := Lib.hid A0
    have HA1 := Lib.hid A1
    have HAJ := Lib.hid AJ
    have b0l := A0.1
    have b0m := A0.2.1
    clear F0 F1 FJ A0 A1 AJ g0 g1
    go_wp2_with fail
    go_loopw [12] (fun i wr => ∃ k : Nat, k ≤ x0.length ∧ i = .int .i64 k ∧ Below w2.heap.size w2 wr) (fun i _ => x0.length - (intOf i).toNat)
    case atStart => exact ⟨0, Nat.zero_le _, rfl, Below.refl _ _⟩
    case round =>
      obtain ⟨k, hk, rfl, hbl⟩ := hrel
      by_cases hlt : k < x0.length
      · obtain ⟨B, o, hBo, hB, hrg⟩ := HA0.out.2.2.choose_spec.cont N0.out hlt
        obtain rfl := hBo
        have hcm : x0[k] ∈ x0 := List.getElem_mem hlt
        obtain ⟨c, hc⟩ : ∃ c, c = x0[k] := ⟨_, rfl⟩
        rw [← hc] at hrg hcm
        have hcw := N0.out c hcm
        obtain ⟨x, hx1, hx2, hx3, hx4⟩ := HR.out c hcm
        have hrg1 := range_below hrg hbl hB
        have nc := range_name hrg1
        have lc := range_lvl hcw hrg1
        have i1 : (k : Int) < (x0.length : Int) := by omega
        have i0 : (0 : Int) ≤ (k : Int) := by omega
        have hxw : CtW x := HFJ.out.2 x (lk_some hx1).1
        have HRG := Lib.hid hrg
        have HCW := Lib.hid hcw
        have HXW := Lib.hid hxw
        have HX2 := Lib.hid hx2
        have HX3 := Lib.hid hx3
        have HX4 := Lib.hid hx4
        have KJ := Known_is HFJ.out.2 aJ cJ c.name wr (HAJ.out.below hbl)
        rw [hx1] at KJ
        simp only [Option.getD_some, Option.isSome_some] at KJ
        have hs3 := hbl.size
        have HBL := Lib.hid hbl
        clear hrg hrg1 hcm hc hcw hx1 hx2 hx3 hx4 hxw hbl
        go_wp2_with fail
        refine KJ.mono ?_
        rintro e w3 ⟨rfl, hb3⟩
        have hs4 := hb3.size
        have HB3 := Lib.hid (HBL.out.trans (hb3.mono HBL.out.size))
        obtain ⟨w4, hw4⟩ : ∃ w4, w4 = w3.alloc (.cells (cV x) 37) := ⟨_, rfl⟩
        have hg4 := heap_alloc_new w3 (.cells (cV x) 37)
        rw [← hw4] at hg4
        have hb4 : Below w2.heap.size w2 w4 := by rw [hw4]; exact HB3.out.alloc HB3.out.size _
        have hs5 : w4.heap.size = w3.heap.size + 1 := by rw [hw4]; exact World.size_alloc _ _
        have HB4 := Lib.hid hb4
        have HW4 := Lib.hid hw4
        have lx := range_lvl HXW.out (range_rec hg4)
        simp only [Nat.zero_add] at lx
        have kx := range_key HXW.out (range_rec hg4)
        simp only [Nat.zero_add] at kx
        have kc := range_key HCW.out (range_below HRG.out hb4 hB)
        have nc4 := (hb4.cell (p := ⟨B, o + k * 34, none⟩) hB).trans (range_name HRG.out)
        have lc4 := (hb4.cell (p := ⟨B, o + k * 34 + 33, none⟩) hB).trans (range_lvl HCW.out HRG.out)
        have HKX := Lib.hid kx
        have HKC := Lib.hid kc
        have HG4 := Lib.hid hg4
        obtain ⟨X, hX⟩ : ∃ X, X = w3.heap.size := ⟨_, rfl⟩
        have HXX := Lib.hid hX
        rw [← hX] at lx HKX HG4 hs5
        clear KJ hb3 nc lc hw4 hg4 hb4 kx kc hX
        obtain ⟨y, hy⟩ : ∃ y, y = (lk x1 c.name).getD zeroCt := ⟨_, rfl⟩
        obtain ⟨o1, ho1⟩ : ∃ o1, o1 = (lk x1 c.name).isSome := ⟨_, rfl⟩
        have hyo : c.lvl = 3 → x.lvl = 4 → o1 = true ∧ 3 ≤ y.lvl := by
          intro h1 h2
          obtain ⟨z, hz1, hz2⟩ := HX4.out h1 h2
          rw [hy, ho1, hz1]
          exact ⟨rfl, hz2⟩
        have hyw : CtW y := by rw [hy]; exact known_W N1.out _
        have HYO := Lib.hid hyo
        have HYW := Lib.hid hyw
        have KB := fun n => Known_is N1.out a1 c1 c.name (w4.drewN n) (HA1.out.below (below_drewN HB4.out n))
        rw [← hy, ← ho1] at KB
        have qa : decide (x.lvl < c.lvl) = false := decide_eq_false (by have := HX2.out; omega)
        obtain ⟨b1, hb1⟩ : ∃ b1, (c.lvl == 3) = b1 := ⟨_, rfl⟩
        obtain ⟨b2, hb2⟩ : ∃ b2, (x.lvl == 3) = b2 := ⟨_, rfl⟩
        obtain ⟨b4, hb4⟩ : ∃ b4, (x.lvl == 4) = b4 := ⟨_, rfl⟩
        clear hy ho1 hyo hyw
        cases b1 with
        | false =>
          have qf : True := trivial
          clear qf
          go_wp2_with (first
            | (refine st_recNew contT rfl (.tmp 13) (.tmp 45) rfl x HXW.out (by rfl) _ _ (by rfl) (by rfl) ?_; rw [← HW4.out]))
          rw [← HXX.out]
          go_quiet (fail)
          go_wp2_with fail
          refine (KB nq).mono ?_
          rintro e w5 ⟨rfl, hb5⟩
          clear KB
          have HB5 := Lib.hid ((below_drewN HB4.out nq).trans (hb5.mono HB4.out.size))
          have lx5 := (hb5.cell (p := ⟨X, 33, none⟩) (by show X < w4.heap.size; omega)).trans lx
          obtain ⟨w6, hw6⟩ : ∃ w6, w6 = w5.alloc (.cells (cV y) 37) := ⟨_, rfl⟩
          have hg6 := heap_alloc_new w5 (.cells (cV y) 37)
          rw [← hw6] at hg6
          have hs6 : w4.heap.size ≤ w5.heap.size := hb5.size
          have hb6 : Below w2.heap.size w2 w6 := by rw [hw6]; exact HB5.out.alloc HB5.out.size _
          have HB6 := Lib.hid hb6
          have HW6 := Lib.hid hw6
          have ly := range_lvl HYW.out (range_rec hg6)
          simp only [Nat.zero_add] at ly
          have lx6 : w6.cell? ⟨X, 33, none⟩ = some (.int .i64 x.lvl) := by rw [hw6]; exact (((Below.refl _ _).alloc (Nat.le_refl _) _ : Below w5.heap.size w5 (w5.alloc (.cells (cV y) 37))).cell (p := ⟨X, 33, none⟩) (by show X < w5.heap.size; omega)).trans lx5
          have lc6 := (hb6.cell (p := ⟨B, o + k * 34 + 33, none⟩) hB).trans (range_lvl HCW.out HRG.out)
          clear hb5 lx5 hw6 hg6 hb6 hs6 nc4 lc4 lx
          go_wp2_with (first
            | (refine st_recNew contT rfl (.tmp 15) (.tmp 90) rfl y HYW.out (by rfl) _ _ (by rfl) (by rfl) ?_; rw [← HW6.out]))
          go_roundw
          case rel => exact ⟨k + 1, by omega, by go_num, HB6.out⟩
          case measure => simp [intOf] <;> omega
        | true =>
          cases b2 with
          | true =>
            have h3 : c.lvl = 3 := by simpa using hb1
            have h33 : x.lvl = 3 := by simpa using hb2
            have hk2 : x.key = c.key := HX3.out h3 h33
            have qk : (!(x.key == c.key)) = false := by rw [hk2, beq_self_eq_true]; rfl
            have QK := Lib.hid qk
            clear qk
            have h4 : (x.lvl == 4) = false := by rw [h33]; rfl
            rw [h4] at hb4
            subst hb4
            clear h3 h33 hk2
            have qf : True := trivial
            clear qf
            go_wp2_with (first
              | (refine st_recNew contT rfl (.tmp 13) (.tmp 45) rfl x HXW.out (by rfl) _ _ (by rfl) (by rfl) ?_; rw [← HW4.out]))
            rw [← HXX.out]
            refine wp_region_quiet_lit (by kernel_rfl) (by kernel_rfl) ?_
            repeat (first
              | go_big_quiet_skip
              | (refine quiet_dig rfl (.tmp 72) rfl X 1 (by rfl) x.key HXW.out.1 (fun w' hw' => by obtain ⟨n, rfl⟩ := hw'; exact HKX.out) ?_; simp only [Act.put, List.setIfInBounds_toArray, List.set_cons_zero, List.set_cons_succ])
              | (refine quiet_dig rfl (.tmp 77) rfl B (o + k * 34 + 1) (by rfl) c.key HCW.out.1 (fun w' hw' => by obtain ⟨n, rfl⟩ := hw'; exact HKC.out) ?_; simp only [Act.put, List.setIfInBounds_toArray, List.set_cons_zero, List.set_cons_succ])
              | (refine quiet_dig_neq rfl (.tmp 73) (.tmp 78) _ rfl x.key c.key (by rfl) (by rfl) HXW.out.1 HCW.out.1 ?_; rw [QK.out]; simp only [Act.put, List.setIfInBounds_toArray, List.set_cons_zero, List.set_cons_succ])
              | go_big_quiet_step (fail))
            refine wpQuiet_nil ?_
            rintro _ ⟨nq, rfl⟩
            go_wp2_with fail
            refine (KB nq).mono ?_
            rintro e w5 ⟨rfl, hb5⟩
            clear KB
            have HB5 := Lib.hid ((below_drewN HB4.out nq).trans (hb5.mono HB4.out.size))
            have lx5 := (hb5.cell (p := ⟨X, 33, none⟩) (by show X < w4.heap.size; omega)).trans lx
            obtain ⟨w6, hw6⟩ : ∃ w6, w6 = w5.alloc (.cells (cV y) 37) := ⟨_, rfl⟩
            have hg6 := heap_alloc_new w5 (.cells (cV y) 37)
            rw [← hw6] at hg6
            have hs6 : w4.heap.size ≤ w5.heap.size := hb5.size
            have hb6 : Below w2.heap.size w2 w6 := by rw [hw6]; exact HB5.out.alloc HB5.out.size _
            have HB6 := Lib.hid hb6
            have HW6 := Lib.hid hw6
            have ly := range_lvl HYW.out (range_rec hg6)
            simp only [Nat.zero_add] at ly
            have lx6 : w6.cell? ⟨X, 33, none⟩ = some (.int .i64 x.lvl) := by rw [hw6]; exact (((Below.refl _ _).alloc (Nat.le_refl _) _ : Below w5.heap.size w5 (w5.alloc (.cells (cV y) 37))).cell (p := ⟨X, 33, none⟩) (by show X < w5.heap.size; omega)).trans lx5
            have lc6 := (hb6.cell (p := ⟨B, o + k * 34 + 33, none⟩) hB).trans (range_lvl HCW.out HRG.out)
            clear hb5 lx5 hw6 hg6 hb6 hs6 nc4 lc4 lx
            go_wp2_with (first
              | (refine st_recNew contT rfl (.tmp 15) (.tmp 90) rfl y HYW.out (by rfl) _ _ (by rfl) (by rfl) ?_; rw [← HW6.out]))
            go_roundw
            case rel => exact ⟨k + 1, by omega, by go_num, HB6.out⟩
            case measure => simp [intOf] <;> omega
          | false =>
            cases b4 with
            | false =>
              have qf : True := trivial
              clear qf
              go_wp2_with (first
                | (refine st_recNew contT rfl (.tmp 13) (.tmp 45) rfl x HXW.out (by rfl) _ _ (by rfl) (by rfl) ?_; rw [← HW4.out]))
              rw [← HXX.out]
              go_quiet (fail)
              go_wp2_with fail
              refine (KB nq).mono ?_
              rintro e w5 ⟨rfl, hb5⟩
              clear KB
              have HB5 := Lib.hid ((below_drewN HB4.out nq).trans (hb5.mono HB4.out.size))
              have lx5 := (hb5.cell (p := ⟨X, 33, none⟩) (by show X < w4.heap.size; omega)).trans lx
              obtain ⟨w6, hw6⟩ : ∃ w6, w6 = w5.alloc (.cells (cV y) 37) := ⟨_, rfl⟩
              have hg6 := heap_alloc_new w5 (.cells (cV y) 37)
              rw [← hw6] at hg6
              have hs6 : w4.heap.size ≤ w5.heap.size := hb5.size
              have hb6 : Below w2.heap.size w2 w6 := by rw [hw6]; exact HB5.out.alloc HB5.out.size _
              have HB6 := Lib.hid hb6
              have HW6 := Lib.hid hw6
              have ly := range_lvl HYW.out (range_rec hg6)
              simp only [Nat.zero_add] at ly
              have lx6 : w6.cell? ⟨X, 33, none⟩ = some (.int .i64 x.lvl) := by rw [hw6]; exact (((Below.refl _ _).alloc (Nat.le_refl _) _ : Below w5.heap.size w5 (w5.alloc (.cells (cV y) 37))).cell (p := ⟨X, 33, none⟩) (by show X < w5.heap.size; omega)).trans lx5
              have lc6 := (hb6.cell (p := ⟨B, o + k * 34 + 33, none⟩) hB).trans (range_lvl HCW.out HRG.out)
              clear hb5 lx5 hw6 hg6 hb6 hs6 nc4 lc4 lx
              go_wp2_with (first
                | (refine st_recNew contT rfl (.tmp 15) (.tmp 90) rfl y HYW.out (by rfl) _ _ (by rfl) (by rfl) ?_; rw [← HW6.out]))
              go_roundw
              case rel => exact ⟨k + 1, by omega, by go_num, HB6.out⟩
              case measure => simp [intOf] <;> omega
            | true =>
              have qf : True := trivial
              have h3 : c.lvl = 3 := by simpa using hb1
              have h4 : x.lvl = 4 := by simpa using hb4
              obtain ⟨rfl, hy3⟩ := HYO.out h3 h4
              have qy : decide (y.lvl < 3) = false := decide_eq_false (by omega)
              clear h3 h4
              clear qf
              go_wp2_with (first
                | (refine st_recNew contT rfl (.tmp 13) (.tmp 45) rfl x HXW.out (by rfl) _ _ (by rfl) (by rfl) ?_; rw [← HW4.out]))
              rw [← HXX.out]
              go_quiet (fail)
              go_wp2_with fail
              refine (KB nq).mono ?_
              rintro e w5 ⟨rfl, hb5⟩
              clear KB
              have HB5 := Lib.hid ((below_drewN HB4.out nq).trans (hb5.mono HB4.out.size))
              have lx5 := (hb5.cell (p := ⟨X, 33, none⟩) (by show X < w4.heap.size; omega)).trans lx
              obtain ⟨w6, hw6⟩ : ∃ w6, w6 = w5.alloc (.cells (cV y) 37) := ⟨_, rfl⟩
              have hg6 := heap_alloc_new w5 (.cells (cV y) 37)
              rw [← hw6] at hg6
              have hs6 : w4.heap.size ≤ w5.heap.size := hb5.size
              have hb6 : Below w2.heap.size w2 w6 := by rw [hw6]; exact HB5.out.alloc HB5.out.size _
              have HB6 := Lib.hid hb6
              have HW6 := Lib.hid hw6
              have ly := range_lvl HYW.out (range_rec hg6)
              simp only [Nat.zero_add] at ly
              have lx6 : w6.cell? ⟨X, 33, none⟩ = some (.int .i64 x.lvl) := by rw [hw6]; exact (((Below.refl _ _).alloc (Nat.le_refl _) _ : Below w5.heap.size w5 (w5.alloc (.cells (cV y) 37))).cell (p := ⟨X, 33, none⟩) (by show X < w5.heap.size; omega)).trans lx5
              have lc6 := (hb6.cell (p := ⟨B, o + k * 34 + 33, none⟩) hB).trans (range_lvl HCW.out HRG.out)
              clear hb5 lx5 hw6 hg6 hb6 hs6 nc4 lc4 lx
              go_wp2_with (first
                | (refine st_recNew contT rfl (.tmp 15) (.tmp 90) rfl y HYW.out (by rfl) _ _ (by rfl) (by rfl) ?_; rw [← HW6.out]))
              go_roundw
              case rel => exact ⟨k + 1, by omega, by go_num, HB6.out⟩
              case measure => simp [intOf] <;> omega
      · obtain rfl : k = x0.length := by omega
        have TC := Trust_calls x0 N0.out a0 c0 _ s2 x3 n3 l2 wr (HA0.out.2.2.choose_spec.below hbl) (by omega) b0l b0m
        have hk7 := (hbl.block H hs2).trans HK2.out
        have HK7 := Lib.hid hk7
        have hs3 := hbl.size
        have HBL := Lib.hid hbl
        clear hk7 hbl
        go_wp2_with (refine ld_row rfl (.tmp 7) rfl H (by rfl) x3 n3 _ _ HK7.out ?_)
        refine TC.mono ?_
        rintro e w3 ⟨hb3, hT⟩
        clear TC
        have HB3 := Lib.hid (HBL.out.trans (hb3.mono hs3))
        have HK8 := Lib.hid ((hb3.block H (by omega)).trans HK7.out)
        have hs4 := hb3.size
        rcases hT with ⟨hj1, aT, cT, eT, rfl, lT, mT, rT⟩ | ⟨_, rfl⟩
        · obtain ⟨g0, g1, g2⟩ := joinFault_zero hj1
          have hcw : CtW ⟨s2, x3, 3⟩ := ⟨n3, l2, by show (-9223372036854775808 : Int) ≤ 3; omega, by show (3 : Int) ≤ 9223372036854775807; omega⟩
          have FT := fine_merge HF0.out (⟨g1, fun c hc => by rw [List.mem_singleton.1 hc]; exact hcw⟩ : Fine [⟨s2, x3, 3⟩]) g2
          obtain ⟨x, hx1, hx2, hx3⟩ := trusted g0 g1 rfl
          obtain ⟨T, hT⟩ : ∃ T, T = mergeC x0 [⟨s2, x3, 3⟩] := ⟨_, rfl⟩
          rw [← hT] at FT lT rT hx1 ⊢
          dsimp only at hx1 hx3
          have hxw : CtW x := FT.2 x (lk_some hx1).1
          have KT := Known_is FT.2 aT cT s2 w3 ⟨lT, mT, eT, rT⟩
          rw [hx1] at KT
          simp only [Option.getD_some, Option.isSome_some] at KT
          have HXW := Lib.hid hxw
          have HX3 := Lib.hid hx3
          clear hj1 g0 g1 g2 hcw FT hT hxw hx1 hx3 lT rT hb3
          go_wp2_with fail
          refine KT.mono ?_
          rintro e w4 ⟨rfl, hb4⟩
          clear KT
          have HB4 := Lib.hid (HB3.out.trans (hb4.mono (by omega)))
          have HK9 := (hb4.block H (by omega)).trans HK8.out
          have hs5 := hb4.size
          obtain ⟨w5, hw5⟩ : ∃ w5, w5 = w4.alloc (.cells (cV x) 37) := ⟨_, rfl⟩
          have hg5 := heap_alloc_new w4 (.cells (cV x) 37)
          rw [← hw5] at hg5
          have hb45 : Below w4.heap.size w4 w5 := by rw [hw5]; exact (Below.refl _ _).alloc (Nat.le_refl _) _
          have hb5 : Below w2.heap.size w2 w5 := HB4.out.trans (hb45.mono (by omega))
          have hk5 := range_of_row ((hb45.block H (by omega)).trans HK9)
          have lx := range_lvl HXW.out (range_rec hg5)
          have kx := range_key HXW.out (range_rec hg5)
          simp only [Nat.zero_add] at lx kx
          have HK5 := Lib.hid hk5
          have HKX := Lib.hid kx
          have HW5 := Lib.hid hw5
          have HB5 := Lib.hid hb5
          have q3 : decide (3 ≤ x.lvl) = true := decide_eq_true hx2
          have hfin : Below w.heap.size w w5 := by rw [← HH.out]; exact HB2.out.trans (hb5.mono (by omega))
          have HFIN := Lib.hid hfin
          obtain ⟨b4, hb4x⟩ : ∃ b4, (x.lvl == 4) = b4 := ⟨_, rfl⟩
          clear hb4 HK9 hw5 hg5 hb45 hb5 hk5 kx hfin
          cases b4 with
          | true =>
            go_wp2_with (first
              | (refine st_recNew contT rfl (.tmp 18) (.tmp 125) rfl x HXW.out (by rfl) _ _ (by rfl) (by rfl) ?_; rw [← HW5.out]))
            all_goals first | (exfalso; omega) | skip
            go_ret
            exact ⟨rfl, HFIN.out⟩
          | false =>
            have h4 : ¬ x.lvl = 4 := by simpa using hb4x
            have hk : x.key = x3 := by rcases HX3.out with h | h; exact absurd h h4; exact h
            have hkq : (x.key == x3) = true := by rw [hk, beq_self_eq_true]
            have HKQ := Lib.hid hkq
            clear h4 hk hkq
            go_wp2_with (first
              | (refine st_recNew contT rfl (.tmp 18) (.tmp 125) rfl x HXW.out (by rfl) _ _ (by rfl) (by rfl) ?_; rw [← HW5.out])
              | (refine ld_digG (by kernel_rfl) (.tmp 138) rfl w4.heap.size 1 (by rfl) x.key HXW.out.1 HKX.out ?_; simp only [Act.put, List.setIfInBounds_toArray, List.set_cons_zero, List.set_cons_succ])
              | (refine ld_digG (by kernel_rfl) (.tmp 7) rfl H 0 (by rfl) x3 n3 HK5.out ?_; simp only [Act.put, List.setIfInBounds_toArray, List.set_cons_zero, List.set_cons_succ])
              | (refine eq_digG (by kernel_rfl) (.tmp 139) (.tmp 140) _ rfl x.key x3 (by rfl) (by rfl) HXW.out.1 n3 ?_; rw [HKQ.out]; simp only [Act.put, List.setIfInBounds_toArray, List.set_cons_zero, List.set_cons_succ]))
            all_goals first | (exfalso; omega) | skip
            go_ret
            exact ⟨rfl, HFIN.out⟩
        · go_wp2_with fail
          go_ret
          exact ⟨rfl, by rw [← HH.out]; exact HB2.out.trans (HB3.out.mono (by omega))⟩
  · clear hj0
    go_wp2_with fail
    go_ret
    exact ⟨rfl, by rw [← HH.out]; exact HB2.out⟩

set_option maxRecDepth 100000 in
theorem lifted (os : Os) (started : os.Started) (H : Type) (enc : TypeId × Value → H) :
    ReturnsInHanded {} Try.checked os 5 .any (Rows.bookRisesSpec.pre6 enc Try.prog Try.f5 Rows.bookRisesRow.domain false) (Rows.bookRisesSpec.post enc Try.prog Try.f5 false true false false) := by
  refine returnsInHanded_of_change (C := Try.checked) own started (by kernel_rfl) Try.func5
    (ChangeSpec.witness6 (enc := enc) (C := Try.checked) false ⟨#[], #[.slice none 0 0, .slice none 0 0, .string ⟨#[]⟩, .agg #[.int .u8 0, .int .u8 0, .int .u8 0, .int .u8 0, .int .u8 0, .int .u8 0, .int .u8 0, .int .u8 0, .int .u8 0, .int .u8 0, .int .u8 0, .int .u8 0, .int .u8 0, .int .u8 0, .int .u8 0, .int .u8 0, .int .u8 0, .int .u8 0, .int .u8 0, .int .u8 0, .int .u8 0, .int .u8 0, .int .u8 0, .int .u8 0, .int .u8 0, .int .u8 0, .int .u8 0, .int .u8 0, .int .u8 0, .int .u8 0, .int .u8 0, .int .u8 0]], []⟩ 8 (by kernel_rfl) (by kernel_rfl) (by kernel_rfl) (by kernel_rfl)) ?_
  intro W base args ds gs before hval0 hW hcnd _
  have hval : ∀ (j : Nat) t v, Try.f5.params[j]? = some t → args[j]? = some v → Value.okWide Try.prog W .any base t v := hval0
  have hW' := hW
  obtain ⟨p, q, hA0, hV, rfl, hfz, hnd⟩ := hW
  have hA : DataW.TrodAll enc Try.prog W 0 (fun _ => true) true Try.f5.params.toList args.toList ds p := hA0
  rw [Try.params5] at hA hval
  obtain ⟨v0, vs0, d0, ds0, p0, q0, hargs, rfl, rfl, h0, r0⟩ := trodAll_cons hA
  obtain ⟨v1, vs1, d1, ds1, p1, q1, rfl, rfl, rfl, h1, r1⟩ := trodAll_cons r0
  obtain ⟨v2, vs2, d2, ds2, p2, q2, rfl, rfl, rfl, h2, r2⟩ := trodAll_cons r1
  obtain ⟨v3, vs3, d3, ds3, p3, q3, rfl, rfl, rfl, h3, r3⟩ := trodAll_cons r2
  obtain ⟨rfl, rfl, rfl⟩ := trodAll_nil r3
  obtain rfl : args = #[v0, v1, v2, v3] := by cases args; simp_all
  obtain ⟨rfl, rfl⟩ := trodVars_none hV
  have k0 := h0
  have lt0 : ∀ x ∈ p0, x.block < W.heap.size := by obtain ⟨m, hm⟩ := k0; exact DataW.trod_lt m _ _ _ hm
  obtain ⟨x0, a0, c0, e0, rfl, l0, m0, n0, r_0⟩ := open_book Try.underlying27 contT (hval 0 27 v0 rfl rfl) h0
  have k1 := h1
  have lt1 : ∀ x ∈ p1, x.block < W.heap.size := by obtain ⟨m, hm⟩ := k1; exact DataW.trod_lt m _ _ _ hm
  obtain ⟨x1, a1, c1, e1, rfl, l1, m1, n1, r_1⟩ := open_book Try.underlying27 contT (hval 1 27 v1 rfl rfl) h1
  have k2 := h2
  have lt2 : ∀ x ∈ p2, x.block < W.heap.size := by obtain ⟨m, hm⟩ := k2; exact DataW.trod_lt m _ _ _ hm
  obtain ⟨s2, rfl, _, _, l2⟩ := open_string Try.underlying9 (hval 2 9 v2 rfl rfl) h2
  have k3 := h3
  have lt3 : ∀ x ∈ p3, x.block < W.heap.size := by obtain ⟨m, hm⟩ := k3; exact DataW.trod_lt m _ _ _ hm
  obtain ⟨x3, n3, rfl⟩ := open_digest Try.underlying24 Try.underlying5 (by kernel_rfl) (by kernel_rfl) (hval 3 24 v3 rfl rfl) h3
  clear hA0 hval0
  refine (walk x0 a0 c0 e0 x1 a1 c1 e1 s2 x3 W l0 m0 n0 r_0 l1 m1 n1 r_1 l2 n3).mono fun e W' ⟨he, bel⟩ => ?_
  subst he
  exact ⟨_, rfl, _, _, _, [], _, [], hW', trodAll_mk1 (shut_bool Try.underlying4 _), (trodAll_cons_mk (Below.trod laidOut (by kernel_rfl) (of_decide_eq_true (by kernel_rfl)) k0 bel lt0) (trodAll_cons_mk (Below.trod laidOut (by kernel_rfl) (of_decide_eq_true (by kernel_rfl)) k1 bel lt1) (trodAll_cons_mk (Below.trod laidOut (by kernel_rfl) (of_decide_eq_true (by kernel_rfl)) k2 bel lt2) (trodAll_cons_mk (Below.trod laidOut (by kernel_rfl) (of_decide_eq_true (by kernel_rfl)) k3 bel lt3) trodAll_mk0)))), rfl, bel.frame _, fun h => by cases h⟩

theorem over : Rows.bookRisesRow.holds Try.pinned (OpenSpec.ofChange Rows.bookRisesSpec) :=
  OpenClaim.holds_of_wide 5 Try.f5 rfl rfl rfl rfl rfl rfl rfl ⟨rfl, rfl, rfl, rfl, rfl⟩ rfl rfl rfl rfl rfl (by kernel_rfl) Try.func5 (by kernel_rfl)
    (of_decide_eq_true (by kernel_rfl)) (by unfold Func.isWrapper; first | (rw [if_pos (by decide +kernel)]; kernel_rfl) | (rw [if_neg (by decide +kernel)]; exact ⟨rfl, rfl⟩))
    (fun os started H enc _ => lifted os started H enc)

theorem proved : Rows.BookRisesSaid := over
#print axioms proved
end bookRises
end Go.Proofs.Ytpfpcklonkgkeaa
