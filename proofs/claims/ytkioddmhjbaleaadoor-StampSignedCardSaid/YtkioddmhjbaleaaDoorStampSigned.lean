/- StampSigned: for every seed, height and texts, each text is signed by a key of its own and each signature tells the one public key; when all are spent nothing more is signed; conditions: the laid start, arguments as the card says. -/
import Derived.Test.YtkioddmhjbaleaaDoorRows
import Derived.Test.YtkioddmhjbaleaaDoorStampL
import Derived.Test.YtkioddmhjbaleaaDoorLaidRH
import Derived.WalkKit
import Derived.ProofKit
import Derived.OpenShut
import Derived.ShutString
import Derived.ChangeOld
import Derived.Below
namespace Go.Proofs.YtkioddmhjbaleaaDoor
open Go.ChangeShapes Go.WideShapes Go.ChangeAt Go.RowKit
open Go.ChangeMaps (open_string shut_string)
set_option linter.unusedVariables false
set_option linter.unusedSimpArgs false
namespace stampSigned

theorem PubBad (Z : List UInt8) (hZ : Z = nz) (seed : List UInt8) (hs : seed.length = 32) (h : Int) (hh : h < 0 ∨ 4 < h) (w : World) :
    Calls Tryd.prog 10 #[.agg (dV seed), .int .i64 h] w fun e w' => e = .returned (.tuple #[.agg (dV Z), .iface 41 (.int .i64 2)]) ∧ Below w.heap.size w w' := by
  subst hZ; exact SPublic_bad seed hs h hh w
theorem Left_z (seed : List UInt8) (hs : seed.length = 32) (P n nx d : Nat) (hd : d + nx = n) (hn : n ≤ 256) (w : World) (h : StampAt w P seed n nx) : Calls Tryd.prog 21 #[.pointer (some ⟨P, 0, none⟩)] w fun e w' => e = .returned (.int .i64 (d : Int)) ∧ Below w.heap.size w w' := by
  have := Left_calls seed hs P n nx hn (by omega) w h
  rw [show n - nx = d by omega] at this
  exact this
theorem stepDig {ops : Array Oper} {o : Oper} {a : Act} {w : World} {K : Act → World → Prop} {Q : Exit → Act → World → Prop} {E : Prop} (hgd : o.guard = none) (x y : Operand) (ho : o.op = .store 23 x y) (g : Nat) (d : List UInt8) (hl : d.length = 32) (hx : a.eval x = .pointer (some ⟨g, 0, none⟩)) (hy : a.eval y = .agg (dV d)) (old : Array Value) (hold : old.size = 32) (t : TypeId) (hg : w.heap[g]? = some (.cells old t (0, 0)))
    (h : K (a.put o.dst undef) (w.setRow g (dV d))) : if Region.wanted o (yielded ops a.tmps) = true then Oper.wp Tryd.prog o a w K Q else E := by
  rw [if_pos (by unfold Region.wanted; rw [hgd])]
  exact wp_store_row _ x y ho g (dV d) hx hy t old hg (info_dV hl) (by rw [dV_size hl, hold]) (dV_one d) h
theorem range_keepS {w w' : World} {b o : Nat} {vs : List Value} (hb : Below w.heap.size w w') (h : w.rangeAt b o vs) (hl : b < w.heap.size) : w'.rangeAt b o vs :=
  fun j v hj => (hb.cell (p := ⟨b, o + j, none⟩) hl).trans (h j v hj)
theorem range_sig {w : World} {X : Nat} {u v z : Value} {t : TypeId} {fr : Nat × Nat} (h : w.heap[X]? = some (.cells #[u, v, z] t fr)) : w.rangeAt X 0 [u, v, z] := fun j v hj => by
  rw [Nat.zero_add, cell_of_row w X j _ t fr h]; simpa using hj
theorem RecOwn (x0 D R : List UInt8) (hD : D.length = 32) (h n m : Nat) (hh : h ≤ 4) (hn : n = 2 ^ h) (hm : m < n) (hR : R = troot (leavesK x0 n)) (sa pa : Option Addr) (sc pc e0 e1 : Nat) (w : World) (hr : Rd w sa e0 ((wsig (skey x0 m) D).flatten.map vB)) (hp : Rd w pa e1 ((tpath (leavesK x0 n) m).flatten.map vB)) (hro : RoundsAt w) :
    Calls Tryd.prog 12 #[.agg (dV D), .int .i64 (h : Int), .agg #[.int .i64 (m : Int), .slice sa 67 sc, .slice pa (tlong m n) pc]] w fun e w' => e = .returned (.tuple #[.agg (dV R), .nilIface]) ∧ Below w.heap.size w w' := by
  have hl : (tpath (leavesK x0 n) m).length = tlong m n := by
    have := tpath_long _ (leavesK x0 n) m (Nat.le_refl _)
    rwa [leavesK_length] at this
  have hf : tfold (wpub (skey x0 m)) m n (tpath (leavesK x0 n) m) = R := by
    have := tfold_path _ (leavesK x0 n) m _ (leavesK_get x0 n m hm) (Nat.le_refl _)
    rw [leavesK_length] at this
    rw [this, hR]
  have := Recover_z D hD (wsig (skey x0 m) D) (wsig_dig _ _) (wsig_length _ _) h h rfl hh n hn m m rfl hm sa pa sc (tlong m n) pc e0 e1 (tpath (leavesK x0 n) m) (tpath_dig _ _ _ (Nat.le_refl _) (leavesK_dig _ _)) hl hl.symm w hr hp hro
  rw [wkey_sig, hf] at this
  exact this
-- HOLE: the walk
set_option maxRecDepth 20000 in
set_option maxHeartbeats 8000000 in
theorem walk (x0 : List UInt8) (a1 : Int) (x2 : List (List UInt8)) (a2 : Option Addr) (c2 e2 : Nat) (w : World) (n0 : x0.length = 32) (h1 : -9223372036854775808 ≤ a1 ∧ a1 ≤ 9223372036854775807) (l2 : x2.length * 32 ≤ 140737488351232) (n2 : ∀ d ∈ x2, d.length = 32) (r2 : Rd w a2 e2 (x2.flatten.map vB)) (hro : RoundsAt w) (hg : ErrVar w) :
    Calls Tryd.prog 5 #[.agg (dV x0), .int .i64 a1, .slice a2 x2.length c2] w fun e w' => e = .returned (.bool true) ∧ Below w.heap.size w w' := by
  have SL := Lib.hid n0
  have RO := Lib.hid hro
  have HG := Lib.hid hg
  have N2 := Lib.hid n2
  have R2 := Lib.hid r2
  clear n0 hro hg n2 r2
  by_cases hbad : a1 < 0 ∨ 4 < a1
  · obtain ⟨Z, hZ⟩ : ∃ Z, Z = nz := ⟨_, rfl⟩
    have ZL := Lib.hid (show Z.length = 32 by rw [hZ]; rfl)
    have HZ := Lib.hid hZ
    have HBD := Lib.hid hbad
    clear hZ
    rcases hbad with h1 | h1
    · obtain ⟨S, hS⟩ : ∃ z, z = w.heap.size := ⟨_, rfl⟩
      obtain ⟨w1, hw1⟩ : ∃ z, z = w.alloc (.cells (dV x0) 23) := ⟨_, rfl⟩
      have st1 : Below w.heap.size w w1 := by rw [hw1]; exact (Below.refl _ _).alloc (Nat.le_refl _) _
      have B1 := Lib.hid (show Below w.heap.size w w1 from Below.trans (Below.refl w.heap.size w) (Below.mono st1 (Below.size (Below.refl w.heap.size w))))
      have GS_1 := Lib.hid (show w1.heap[S]? = some (.cells (dV x0) 23 (0, 0)) by rw [hw1, hS]; exact heap_alloc_new _ _)
      have LS_1 := Lib.hid (lt_of_heap GS_1.out)
      have HS := Lib.hid hS
      have Hw1 := Lib.hid hw1
      clear hS hw1 st1
      have SZS := Lib.hid (show S = w.heap.size from HS.out)
      go_enter Tryd.func5, Tryd.ntmps5
      go_upto_region 1 with fail
      rw [← SZS.out, ← Hw1.out]
      go_wp2_with (first
        | (refine at_ld 23 (.tmp 3) rfl ?_; (refine ld_digG rfl (.tmp 3) rfl (S) 0 (by rfl) x0 SL.out (range_of_row GS_1.out) ?_); simp only [Act.put, List.setIfInBounds_toArray, List.set_cons_zero, List.set_cons_succ]))
      refine (PubBad Z HZ.out x0 SL.out a1 HBD.out w1).mono ?_
      rintro e w2 ⟨rfl, hb2⟩
      have B2 := Lib.hid (show Below w.heap.size w w2 from Below.trans B1.out (Below.mono hb2 (Below.size B1.out)))
      have GS_2 := Lib.hid ((Below.block hb2 S LS_1.out).trans GS_1.out)
      have LS_2 := Lib.hid (Nat.lt_of_lt_of_le LS_1.out (Below.size hb2))
      clear hb2
      obtain ⟨Q, hQ⟩ : ∃ z, z = w2.heap.size := ⟨_, rfl⟩
      obtain ⟨w3, hw3⟩ : ∃ z, z = w2.alloc (.cells (dV Z) 23) := ⟨_, rfl⟩
      have st3 : Below w2.heap.size w2 w3 := by rw [hw3]; exact (Below.refl _ _).alloc (Nat.le_refl _) _
      have B3 := Lib.hid (show Below w.heap.size w w3 from Below.trans B2.out (Below.mono st3 (Below.size B2.out)))
      have GS_3 := Lib.hid ((Below.block st3 S LS_2.out).trans GS_2.out)
      have LS_3 := Lib.hid (Nat.lt_of_lt_of_le LS_2.out (Below.size st3))
      have GQ_3 := Lib.hid (show w3.heap[Q]? = some (.cells (dV Z) 23 (0, 0)) by rw [hw3, hQ]; exact heap_alloc_new _ _)
      have LQ_3 := Lib.hid (lt_of_heap GQ_3.out)
      have HQ := Lib.hid hQ
      have Hw3 := Lib.hid hw3
      clear hQ hw3 st3
      go_wp2_with (first
        | (refine at_st 23 (.tmp 7) (.tmp 24) rfl ?_; (refine st_new rfl (.tmp 7) (.tmp 24) rfl Z ZL.out (by rfl) _ _ (by rfl) (by rfl) ?_); rw [← HQ.out, ← Hw3.out]))
      refine (Error_err 2 2 true (by decide) w3 (HG.out.at_ B3.out)).mono ?_
      rintro e w4 ⟨rfl, hb4⟩
      have B4 := Lib.hid (show Below w.heap.size w w4 from Below.trans B3.out (Below.mono hb4 (Below.size B3.out)))
      have GS_4 := Lib.hid ((Below.block hb4 S LS_3.out).trans GS_3.out)
      have LS_4 := Lib.hid (Nat.lt_of_lt_of_le LS_3.out (Below.size hb4))
      have GQ_4 := Lib.hid ((Below.block hb4 Q LQ_3.out).trans GQ_3.out)
      have LQ_4 := Lib.hid (Nat.lt_of_lt_of_le LQ_3.out (Below.size hb4))
      clear hb4
      go_wp2_with fail
      go_ret
      exact ⟨rfl, B4.out⟩
    · have h2 : ¬ a1 < 0 := by omega
      obtain ⟨S, hS⟩ : ∃ z, z = w.heap.size := ⟨_, rfl⟩
      obtain ⟨w1, hw1⟩ : ∃ z, z = w.alloc (.cells (dV x0) 23) := ⟨_, rfl⟩
      have st1 : Below w.heap.size w w1 := by rw [hw1]; exact (Below.refl _ _).alloc (Nat.le_refl _) _
      have B1 := Lib.hid (show Below w.heap.size w w1 from Below.trans (Below.refl w.heap.size w) (Below.mono st1 (Below.size (Below.refl w.heap.size w))))
      have GS_1 := Lib.hid (show w1.heap[S]? = some (.cells (dV x0) 23 (0, 0)) by rw [hw1, hS]; exact heap_alloc_new _ _)
      have LS_1 := Lib.hid (lt_of_heap GS_1.out)
      have HS := Lib.hid hS
      have Hw1 := Lib.hid hw1
      clear hS hw1 st1
      have SZS := Lib.hid (show S = w.heap.size from HS.out)
      go_enter Tryd.func5, Tryd.ntmps5
      go_upto_region 1 with fail
      rw [← SZS.out, ← Hw1.out]
      go_wp2_with (first
        | (refine at_ld 23 (.tmp 3) rfl ?_; (refine ld_digG rfl (.tmp 3) rfl (S) 0 (by rfl) x0 SL.out (range_of_row GS_1.out) ?_); simp only [Act.put, List.setIfInBounds_toArray, List.set_cons_zero, List.set_cons_succ]))
      refine (PubBad Z HZ.out x0 SL.out a1 HBD.out w1).mono ?_
      rintro e w2 ⟨rfl, hb2⟩
      have B2 := Lib.hid (show Below w.heap.size w w2 from Below.trans B1.out (Below.mono hb2 (Below.size B1.out)))
      have GS_2 := Lib.hid ((Below.block hb2 S LS_1.out).trans GS_1.out)
      have LS_2 := Lib.hid (Nat.lt_of_lt_of_le LS_1.out (Below.size hb2))
      clear hb2
      obtain ⟨Q, hQ⟩ : ∃ z, z = w2.heap.size := ⟨_, rfl⟩
      obtain ⟨w3, hw3⟩ : ∃ z, z = w2.alloc (.cells (dV Z) 23) := ⟨_, rfl⟩
      have st3 : Below w2.heap.size w2 w3 := by rw [hw3]; exact (Below.refl _ _).alloc (Nat.le_refl _) _
      have B3 := Lib.hid (show Below w.heap.size w w3 from Below.trans B2.out (Below.mono st3 (Below.size B2.out)))
      have GS_3 := Lib.hid ((Below.block st3 S LS_2.out).trans GS_2.out)
      have LS_3 := Lib.hid (Nat.lt_of_lt_of_le LS_2.out (Below.size st3))
      have GQ_3 := Lib.hid (show w3.heap[Q]? = some (.cells (dV Z) 23 (0, 0)) by rw [hw3, hQ]; exact heap_alloc_new _ _)
      have LQ_3 := Lib.hid (lt_of_heap GQ_3.out)
      have HQ := Lib.hid hQ
      have Hw3 := Lib.hid hw3
      clear hQ hw3 st3
      go_wp2_with (first
        | (refine at_st 23 (.tmp 7) (.tmp 24) rfl ?_; (refine st_new rfl (.tmp 7) (.tmp 24) rfl Z ZL.out (by rfl) _ _ (by rfl) (by rfl) ?_); rw [← HQ.out, ← Hw3.out]))
      refine (Error_err 2 2 true (by decide) w3 (HG.out.at_ B3.out)).mono ?_
      rintro e w4 ⟨rfl, hb4⟩
      have B4 := Lib.hid (show Below w.heap.size w w4 from Below.trans B3.out (Below.mono hb4 (Below.size B3.out)))
      have GS_4 := Lib.hid ((Below.block hb4 S LS_3.out).trans GS_3.out)
      have LS_4 := Lib.hid (Nat.lt_of_lt_of_le LS_3.out (Below.size hb4))
      have GQ_4 := Lib.hid ((Below.block hb4 Q LQ_3.out).trans GQ_3.out)
      have LQ_4 := Lib.hid (Nat.lt_of_lt_of_le LQ_3.out (Below.size hb4))
      clear hb4
      go_wp2_with fail
      go_ret
      exact ⟨rfl, B4.out⟩
  · obtain ⟨h, rfl⟩ : ∃ h : Nat, a1 = (h : Int) := ⟨a1.toNat, by omega⟩
    have hh : h ≤ 4 := by omega
    obtain ⟨n, hn⟩ : ∃ n, n = 2 ^ h := ⟨_, rfl⟩
    have hn16 : n ≤ 16 := by rw [hn]; exact Nat.le_trans (Nat.pow_le_pow_right (by omega) hh) (by decide)
    have HN := Lib.hid hn
    have HH := Lib.hid hh
    have q1 : decide ((h : Int) < 0) = false := decide_eq_false (by omega)
    have q2 : decide ((4 : Int) < (h : Int)) = false := decide_eq_false (by omega)
    have q3 : decide (4 < h) = false := decide_eq_false (by omega)
    clear hbad hh hn
    obtain ⟨R, hR⟩ : ∃ R, R = troot (leavesK x0 n) := ⟨_, rfl⟩
    have RL := Lib.hid (show R.length = 32 by rw [hR]; exact troot_length _ (leavesK_dig _ _))
    have HR := Lib.hid hR
    clear hR
    obtain ⟨S, hS⟩ : ∃ z, z = w.heap.size := ⟨_, rfl⟩
    obtain ⟨w1, hw1⟩ : ∃ z, z = w.alloc (.cells (dV x0) 23) := ⟨_, rfl⟩
    have st1 : Below w.heap.size w w1 := by rw [hw1]; exact (Below.refl _ _).alloc (Nat.le_refl _) _
    have B1 := Lib.hid (show Below w.heap.size w w1 from Below.trans (Below.refl w.heap.size w) (Below.mono st1 (Below.size (Below.refl w.heap.size w))))
    have GS_1 := Lib.hid (show w1.heap[S]? = some (.cells (dV x0) 23 (0, 0)) by rw [hw1, hS]; exact heap_alloc_new _ _)
    have LS_1 := Lib.hid (lt_of_heap GS_1.out)
    have HS := Lib.hid hS
    have Hw1 := Lib.hid hw1
    clear hS hw1 st1
    have SZS := Lib.hid (show S = w.heap.size from HS.out)
    go_enter Tryd.func5, Tryd.ntmps5
    go_upto_region 1 with fail
    rw [← SZS.out, ← Hw1.out]
    go_wp2_with (first
      | (refine at_ld 23 (.tmp 3) rfl ?_; (refine ld_digG rfl (.tmp 3) rfl (S) 0 (by rfl) x0 SL.out (range_of_row GS_1.out) ?_); simp only [Act.put, List.setIfInBounds_toArray, List.set_cons_zero, List.set_cons_succ]))
    refine (Public_z x0 SL.out h h rfl HH.out n HN.out w1 (RO.out.at_ B1.out)).mono ?_
    rintro e w2 ⟨rfl, hb2⟩
    have B2 := Lib.hid (show Below w.heap.size w w2 from Below.trans B1.out (Below.mono hb2 (Below.size B1.out)))
    have GS_2 := Lib.hid ((Below.block hb2 S LS_1.out).trans GS_1.out)
    have LS_2 := Lib.hid (Nat.lt_of_lt_of_le LS_1.out (Below.size hb2))
    clear hb2
    rw [← HR.out]
    obtain ⟨Q, hQ⟩ : ∃ z, z = w2.heap.size := ⟨_, rfl⟩
    obtain ⟨w3, hw3⟩ : ∃ z, z = w2.alloc (.cells (dV R) 23) := ⟨_, rfl⟩
    have st3 : Below w2.heap.size w2 w3 := by rw [hw3]; exact (Below.refl _ _).alloc (Nat.le_refl _) _
    have B3 := Lib.hid (show Below w.heap.size w w3 from Below.trans B2.out (Below.mono st3 (Below.size B2.out)))
    have GS_3 := Lib.hid ((Below.block st3 S LS_2.out).trans GS_2.out)
    have LS_3 := Lib.hid (Nat.lt_of_lt_of_le LS_2.out (Below.size st3))
    have GQ_3 := Lib.hid (show w3.heap[Q]? = some (.cells (dV R) 23 (0, 0)) by rw [hw3, hQ]; exact heap_alloc_new _ _)
    have LQ_3 := Lib.hid (lt_of_heap GQ_3.out)
    have HQ := Lib.hid hQ
    have Hw3 := Lib.hid hw3
    clear hQ hw3 st3
    go_wp2_with (first
      | (refine at_st 23 (.tmp 7) (.tmp 24) rfl ?_; (refine st_new rfl (.tmp 7) (.tmp 24) rfl R RL.out (by rfl) _ _ (by rfl) (by rfl) ?_); rw [← HQ.out, ← Hw3.out])
      | (refine at_ld 23 (.tmp 3) rfl ?_; (refine ld_digG rfl (.tmp 3) rfl (S) 0 (by rfl) x0 SL.out (range_of_row GS_3.out) ?_); simp only [Act.put, List.setIfInBounds_toArray, List.set_cons_zero, List.set_cons_succ]))
    refine (New_z x0 SL.out h h rfl HH.out n HN.out w3 (RO.out.at_ B3.out)).mono ?_
    rintro e w4 ⟨P, rfl, hP, hSAP, hb4⟩
    have B4 := Lib.hid (show Below w.heap.size w w4 from Below.trans B3.out (Below.mono hb4 (Below.size B3.out)))
    have GS_4 := Lib.hid ((Below.block hb4 S LS_3.out).trans GS_3.out)
    have LS_4 := Lib.hid (Nat.lt_of_lt_of_le LS_3.out (Below.size hb4))
    have GQ_4 := Lib.hid ((Below.block hb4 Q LQ_3.out).trans GQ_3.out)
    have LQ_4 := Lib.hid (Nat.lt_of_lt_of_le LQ_3.out (Below.size hb4))
    have SAP_4 := Lib.hid hSAP
    have HBP := Lib.hid (show w.heap.size ≤ P from Nat.le_trans (Below.size B3.out) hP)
    clear hP hSAP
    clear hb4
    by_cases hl20 : 20 < x2.length
    · have q4 : decide ((20 : Int) < (x2.length : Int)) = true := decide_eq_true (by omega)
      have q5 : decide (20 < x2.length) = true := decide_eq_true (by omega)
      go_wp2_with fail
      go_ret
      exact ⟨rfl, B4.out⟩
    · have q4 : decide ((20 : Int) < (x2.length : Int)) = false := decide_eq_false (by omega)
      have q5 : decide (20 < x2.length) = false := decide_eq_false (by omega)
      go_wp2_with fail
      go_loop [12, 13] (fun a i => ∃ k p : Nat, k ≤ h ∧ p = 2 ^ k ∧ i = .int .i64 (k : Int) ∧ a = .int .i64 (p : Int)) (fun _ i => h - (intOf i).toNat)
      case atStart => exact ⟨0, 1, Nat.zero_le _, rfl, rfl, rfl⟩
      case round =>
        obtain ⟨k, p, hk, hp, rfl, rfl⟩ := hrel
        by_cases hlt : k < h
        · have hp16 : p ≤ 16 := by rw [hp]; exact Nat.le_trans (Nat.pow_le_pow_right (by omega) (Nat.le_trans hk HH.out)) (by decide)
          have e4 : IntKind.i64.wrap ((k : Int) + 1) = (k : Int) + 1 := IntWalk.i64_in _ (by omega)
          have e5 : IntKind.i64.wrap (2 * (p : Int)) = ((2 * p : Nat) : Int) := by rw [IntWalk.i64_in _ (by omega)]; omega
          have HP := Lib.hid (show 2 * p = 2 ^ (k + 1) by rw [hp, Nat.pow_succ]; omega)
          clear hp
          go_wp2_with fail
          go_round
          case rel => exact ⟨k + 1, 2 * p, hlt, HP.out, by go_num, by go_num⟩
          case measure => simp [intOf]; omega
        · obtain rfl : k = h := by omega
          obtain rfl : p = n := by rw [hp, HN.out]
          clear hp hlt hk
          go_wp2_with fail
          have BB := Lib.hid B4.out
          go_loopw [14] (fun i wr => ∃ m : Nat, m ≤ x2.length ∧ i = .int .i64 (m : Int) ∧ Hid (StampAt wr P x0 p (min m p) ∧ wr.heap[Q]? = some (.cells (dV R) 23 (0, 0)) ∧ Below w.heap.size w wr)) (fun i _ => x2.length - (intOf i).toNat)
          case atStart => exact ⟨0, Nat.zero_le _, rfl, Lib.hid ⟨by rw [Nat.zero_min]; exact SAP_4.out, GQ_4.out, B4.out⟩⟩
          case round =>
            obtain ⟨m, hm, rfl, HI⟩ := hrel
            by_cases hlt : m < x2.length
            · obtain ⟨wA, rfl⟩ : ∃ z, z = wr := ⟨_, rfl⟩
              obtain ⟨b1, o1, ha2, hb1, hrg⟩ := (R2.out.below HI.out.2.2).range N2.out hlt
              subst ha2
              obtain ⟨D, hD⟩ : ∃ D, D = x2[m] := ⟨_, rfl⟩
              rw [← hD] at hrg
              have DL := Lib.hid (show D.length = 32 by rw [hD]; exact N2.out _ (List.getElem_mem _))
              have HRG := Lib.hid hrg
              have m0 : (0 : Int) ≤ (m : Int) := by omega
              have m1 : (m : Int) < (x2.length : Int) := by omega
              have e6 : IntKind.i64.wrap ((m : Int) + 1) = (m : Int) + 1 := IntWalk.i64_in _ (by omega)
              have B100 := Lib.hid HI.out.2.2
              have GQ_100 := Lib.hid HI.out.2.1
              have LQ_100 := Lib.hid (lt_of_heap GQ_100.out)
              have HDE := Lib.hid hD
              clear hD hb1 hrg
              by_cases hsp : m < p
              · have SAP_100 := Lib.hid (show StampAt wA P x0 p m by have := HI.out.1; rw [Nat.min_eq_left (by omega)] at this; exact this)
                have g1 : decide ((p : Int) ≤ (m : Int)) = false := decide_eq_false (by omega)
                have g2 : decide (p ≤ m) = false := decide_eq_false (by omega)
                obtain ⟨d, hd⟩ : ∃ d : Nat, d + (m + 1) = p := ⟨p - (m + 1), by omega⟩
                have e7 : IntKind.i64.wrap ((p : Int) - (m : Int)) = (d : Int) + 1 := by rw [IntWalk.i64_in _ (by omega)]; omega
                have e8 : IntKind.i64.wrap ((d : Int) + 1 - 1) = (d : Int) := by rw [IntWalk.i64_in _ (by omega)]; omega
                have e9 : IntKind.i64.wrap ((d : Int)) = (d : Int) := IntWalk.i64_in _ (by omega)
                have HD := Lib.hid hd
                have HSP := Lib.hid hsp
                have HN16 := Lib.hid hn16
                have HM := Lib.hid (show min (m + 1) p = m + 1 by omega)
                clear hd hsp HI
                go_wp2_with (first
                  | (refine at_ld 23 (.tmp 83) rfl ?_; (refine ld_digG rfl (.tmp 83) rfl (b1) (o1 + m * 32) (by rfl) D DL.out HRG.out ?_); simp only [Act.put, List.setIfInBounds_toArray, List.set_cons_zero, List.set_cons_succ]))
                refine (Sign_z x0 D SL.out DL.out P p m m rfl (by omega) HSP.out wA SAP_100.out (RO.out.at_ B100.out)).mono ?_
                rintro e w101 ⟨saA, scA, paA, pcA, rfl, hsg, hpt, hst, hsv⟩
                have B101 := Lib.hid (show Below w.heap.size w w101 from hsv.below B100.out HBP.out)
                have GQ_101 := Lib.hid (hsv.blk SAP_100.out GQ_100.out (by decide))
                have LQ_101 := Lib.hid (Nat.lt_of_lt_of_le LQ_100.out hsv.2.1)
                have SAP_101 := Lib.hid hst
                have RSA_101 := Lib.hid hsg
                have RPA_101 := Lib.hid hpt
                clear hsg hpt hst hsv
                obtain ⟨X, hX⟩ : ∃ z, z = w101.heap.size := ⟨_, rfl⟩
                obtain ⟨w102, hw102⟩ : ∃ z, z = w101.alloc (.cells #[.int .i64 (m : Int), .slice saA 67 scA, .slice paA (tlong m p) pcA] 33) := ⟨_, rfl⟩
                have st102 : Below w101.heap.size w101 w102 := by rw [hw102]; exact (Below.refl _ _).alloc (Nat.le_refl _) _
                have B102 := Lib.hid (show Below w.heap.size w w102 from Below.trans B101.out (Below.mono st102 (Below.size B101.out)))
                have GQ_102 := Lib.hid ((Below.block st102 Q LQ_101.out).trans GQ_101.out)
                have LQ_102 := Lib.hid (Nat.lt_of_lt_of_le LQ_101.out (Below.size st102))
                have SAP_102 := Lib.hid (SAP_101.out.below st102)
                have RSA_102 := Lib.hid (RSA_101.out.below st102)
                have RPA_102 := Lib.hid (RPA_101.out.below st102)
                have GX_102 := Lib.hid (show w102.heap[X]? = some (.cells #[.int .i64 (m : Int), .slice saA 67 scA, .slice paA (tlong m p) pcA] 33 (0, 0)) by rw [hw102, hX]; exact heap_alloc_new _ _)
                have LX_102 := Lib.hid (lt_of_heap GX_102.out)
                have HX := Lib.hid hX
                have Hw102 := Lib.hid hw102
                clear hX hw102 st102
                go_wp2_with (first
                  | (refine at_st 33 (.tmp 15) (.tmp 86) rfl ?_; (refine st_sigNew rfl (.tmp 15) (.tmp 86) rfl (.int .i64 (m : Int)) (.slice saA 67 scA) (.slice paA (tlong m p) pcA) (by rfl) _ _ (by rfl) (by rfl) (sig_one _ _ _ _ _ _ _) ?_); rw [← HX.out, ← Hw102.out]))
                have HRG2 := Lib.hid (show b1 < w102.heap.size ∧ w102.rangeAt b1 (o1 + m * 32) (D.map vB) from by
                  obtain ⟨b1', o1', he, hl', hrg'⟩ := (R2.out.below B102.out).range N2.out hlt
                  cases he
                  rw [← HDE.out] at hrg'
                  exact ⟨hl', hrg'⟩)
                obtain ⟨wd, hwd⟩ : ∃ z, z = w102.drew := ⟨_, rfl⟩
                have HBD := Lib.hid (show Below w102.heap.size w102 wd by rw [hwd]; exact (Below.refl _ _).drew)
                have HSZ := Lib.hid (show wd.heap.size = w102.heap.size by rw [hwd]; rfl)
                have KS := Lib.hid (show ∀ w', Below wd.heap.size wd w' → (w'.rangeAt b1 (o1 + m * 32) (D.map vB) ∧ w'.heap[X]? = some (.cells #[.int .i64 (m : Int), .slice saA 67 scA, .slice paA (tlong m p) pcA] 33 (0, 0))) from fun w' hb => by
                  have hb2 : Below w102.heap.size w102 w' := HBD.out.trans (by rw [← HSZ.out]; exact hb)
                  exact ⟨range_keepS hb2 HRG2.out.2 HRG2.out.1, (hb2.block X LX_102.out).trans GX_102.out⟩)
                have RC := Lib.hid (show ∀ w', Below wd.heap.size wd w' → _ from fun w' hb => by
                  have hb2 : Below w102.heap.size w102 w' := HBD.out.trans (by rw [← HSZ.out]; exact hb)
                  have hb3 : Below w.heap.size w w' := B102.out.trans (hb2.mono (Below.size B102.out))
                  exact RecOwn x0 D R DL.out k p m HH.out HN.out HSP.out HR.out saA paA scA pcA _ _ w' (RSA_102.out.below hb2) (RPA_102.out.below hb2) (RO.out.at_ hb3))
                refine wp_region_held_drew (S := fun w' => w'.rangeAt b1 (o1 + m * 32) (D.map vB) ∧ w'.heap[X]? = some (.cells #[.int .i64 (m : Int), .slice saA 67 scA, .slice paA (tlong m p) pcA] 33 (0, 0))) (by kernel_rfl) (by rw [← hwd]; exact KS.out wd (Below.refl _ _)) (fun hHeld => ?_)
                rw [← hwd] at hHeld ⊢
                have HWD := Lib.hid hwd
                clear hwd
                refine wpAnyH_take (i := 0) (oi := _) (v := .slice (some ⟨b1, o1, none⟩) x2.length c2) rfl (by kernel_rfl) (by kernel_rfl) (by kernel_rfl) (fun _ _ _ h => h) (Or.inl ⟨by rfl, fun w hw => by go_simp⟩) hHeld ?_
                simp only [Act.put, List.getElem_toArray, List.getElem_cons_zero, List.getElem_cons_succ, List.setIfInBounds_toArray, List.set_cons_zero, List.set_cons_succ]
                refine wpAnyH_take (i := 1) (oi := _) (v := .int .i64 (m : Int)) rfl (by kernel_rfl) (by kernel_rfl) (by kernel_rfl) (fun _ _ _ h => h) (Or.inl ⟨by rfl, fun w hw => by go_simp⟩) hHeld ?_
                simp only [Act.put, List.getElem_toArray, List.getElem_cons_zero, List.getElem_cons_succ, List.setIfInBounds_toArray, List.set_cons_zero, List.set_cons_succ]
                refine wpAnyH_take (i := 2) (oi := _) (v := .pointer (some ⟨b1, o1 + m * 32, none⟩)) rfl (by kernel_rfl) (by kernel_rfl) (by kernel_rfl) (fun _ _ _ h => h) (Or.inl ⟨by rfl, fun w hw => by go_simp⟩) hHeld ?_
                simp only [Act.put, List.getElem_toArray, List.getElem_cons_zero, List.getElem_cons_succ, List.setIfInBounds_toArray, List.set_cons_zero, List.set_cons_succ]
                refine wpAnyH_take (i := 3) (oi := _) (v := _) rfl (by kernel_rfl) (by kernel_rfl) (by kernel_rfl) (fun _ _ _ h => h) (yieldsIf_load_mid (by rfl) _ _ rfl _ _ rfl (D.map vB) _ (fun w hw => hw.1) Tryd.underlying23 rfl (by rw [List.length_map, DL.out]; exact dig_size)) hHeld ?_
                simp only [Act.put, List.getElem_toArray, List.getElem_cons_zero, List.getElem_cons_succ, List.setIfInBounds_toArray, List.set_cons_zero, List.set_cons_succ]
                refine wpAnyH_take (i := 4) (oi := _) (v := .int .i64 (k : Int)) rfl (by kernel_rfl) (by kernel_rfl) (by kernel_rfl) (fun _ _ _ h => h) (Or.inl ⟨by rfl, fun w hw => by go_simp⟩) hHeld ?_
                simp only [Act.put, List.getElem_toArray, List.getElem_cons_zero, List.getElem_cons_succ, List.setIfInBounds_toArray, List.set_cons_zero, List.set_cons_succ]
                refine wpAnyH_take (i := 5) (oi := _) (v := _) rfl (by kernel_rfl) (by kernel_rfl) (by kernel_rfl) (fun _ _ _ h => h) (yieldsIf_load_mid (by rfl) _ _ rfl _ _ rfl ([.int .i64 (m : Int), .slice saA 67 scA, .slice paA (tlong m p) pcA]) _ (fun w hw => range_sig hw.2) Tryd.underlying33 rfl (info_sig _ _ _)) hHeld ?_
                simp only [Act.put, List.getElem_toArray, List.getElem_cons_zero, List.getElem_cons_succ, List.setIfInBounds_toArray, List.set_cons_zero, List.set_cons_succ]
                refine wpAnyH_ready (rs := [6, 10]) (by kernel_rfl) (by simp) ?_
                refine AllReadyH.cons (o := _) rfl (fun K hK => ?_) (AllReadyH.cons (o := _) rfl (fun K hK => ?_) AllReadyH.nil)
                · have HK := Lib.hid hK
                  clear hK
                  go_simp
                  go_at_call 12
                  refine (RC.out _ (Below.refl wd.heap.size wd)).mono ?_
                  rintro e wq ⟨rfl, hbq⟩
                  have Bwq := Lib.hid (Below.trans (Below.refl wd.heap.size wd) (hbq.mono (Below.size (Below.refl wd.heap.size wd))))
                  clear hbq
                  dsimp only
                  refine HK.out _ _ (KS.out wq Bwq.out) ?_
                  clear HK K hHeld
                  try simp only [Act.put, List.getElem_toArray, List.getElem_cons_zero, List.getElem_cons_succ, List.setIfInBounds_toArray, List.set_cons_zero, List.set_cons_succ]
                  intro hHeld
                  refine wpAnyH_take (i := 7) (oi := _) (v := .tuple #[.agg (dV R), .nilIface]) rfl (by kernel_rfl) (by kernel_rfl) (by kernel_rfl) (fun _ _ _ h => h) (Or.inl ⟨by rfl, fun w hw => by go_simp⟩) hHeld ?_
                  simp only [Act.put, List.getElem_toArray, List.getElem_cons_zero, List.getElem_cons_succ, List.setIfInBounds_toArray, List.set_cons_zero, List.set_cons_succ]
                  refine wpAnyH_take (i := 8) (oi := _) (v := .agg (dV R)) rfl (by kernel_rfl) (by kernel_rfl) (by kernel_rfl) (fun _ _ _ h => h) (Or.inl ⟨by rfl, fun w hw => by go_simp⟩) hHeld ?_
                  simp only [Act.put, List.getElem_toArray, List.getElem_cons_zero, List.getElem_cons_succ, List.setIfInBounds_toArray, List.set_cons_zero, List.set_cons_succ]
                  refine wpAnyH_take (i := 9) (oi := _) (v := .nilIface) rfl (by kernel_rfl) (by kernel_rfl) (by kernel_rfl) (fun _ _ _ h => h) (Or.inl ⟨by rfl, fun w hw => by go_simp⟩) hHeld ?_
                  simp only [Act.put, List.getElem_toArray, List.getElem_cons_zero, List.getElem_cons_succ, List.setIfInBounds_toArray, List.set_cons_zero, List.set_cons_succ]
                  refine wpAnyH_ready (rs := [10]) (by kernel_rfl) (by simp) ?_
                  refine AllReadyH.cons (o := _) rfl (fun K hK => ?_) AllReadyH.nil
                  have HK := Lib.hid hK
                  clear hK
                  go_simp
                  rw [zdig]
                  obtain ⟨Y, hY⟩ : ∃ z, z = wq.heap.size := ⟨_, rfl⟩
                  rw [← hY]
                  obtain ⟨wr2, hwr2⟩ : ∃ z, z = wq.alloc (.cells (dV nz) 23) := ⟨_, rfl⟩
                  rw [← hwr2]
                  have Bwr2 := Lib.hid (show Below wd.heap.size wd wr2 by rw [hwr2]; exact Below.alloc Bwq.out (Below.size Bwq.out) _)
                  have GY0_wr2 := Lib.hid (show wr2.heap[Y]? = some (.cells (dV nz) 23 (0, 0)) by rw [hwr2, hY]; exact heap_alloc_new _ _)
                  have HYB := Lib.hid (show wd.heap.size ≤ Y by rw [hY]; exact Below.size Bwq.out)
                  clear hY hwr2
                  refine HK.out _ _ (KS.out wr2 Bwr2.out) ?_
                  clear HK K hHeld
                  try simp only [Act.put, List.getElem_toArray, List.getElem_cons_zero, List.getElem_cons_succ, List.setIfInBounds_toArray, List.set_cons_zero, List.set_cons_succ]
                  intro hHeld
                  refine wpAnyH_ready (rs := [11]) (by kernel_rfl) (by simp) ?_
                  refine AllReadyH.cons (o := _) rfl (fun K hK => ?_) AllReadyH.nil
                  have HK := Lib.hid hK
                  clear hK
                  refine stepDig rfl (.tmp 18) (.tmp 108) rfl Y R RL.out (by rfl) (by rfl) (dV nz) (dV_size rfl) _ GY0_wr2.out ?_
                  obtain ⟨wf, hwf⟩ : ∃ z, z = wr2.setRow Y (dV R) := ⟨_, rfl⟩
                  rw [← hwf]
                  have Bwf := Lib.hid (show Below wd.heap.size wd wf by rw [hwf]; exact below_setRowW Bwr2.out HYB.out _)
                  have GY := Lib.hid (show wf.heap[Y]? = some (.cells (dV R) 23 (0, 0)) by rw [hwf]; exact setRow_heap _ _ _ _ _ _ GY0_wr2.out)
                  clear hwf
                  refine HK.out _ _ (KS.out wf Bwf.out) ?_
                  clear HK K hHeld
                  try simp only [Act.put, List.getElem_toArray, List.getElem_cons_zero, List.getElem_cons_succ, List.setIfInBounds_toArray, List.set_cons_zero, List.set_cons_succ]
                  intro hHeld
                  refine wpAnyH_take (i := 12) (oi := _) (v := .nilIface) rfl (by kernel_rfl) (by kernel_rfl) (by kernel_rfl) (fun _ _ _ h => h) (Or.inl ⟨by rfl, fun w hw => by go_simp⟩) hHeld ?_
                  simp only [Act.put, List.getElem_toArray, List.getElem_cons_zero, List.getElem_cons_succ, List.setIfInBounds_toArray, List.set_cons_zero, List.set_cons_succ]
                  refine wpAnyH_done (by kernel_rfl) ?_ _
                  have hst : Below w102.heap.size w102 wf := HBD.out.trans (by rw [← HSZ.out]; exact Bwf.out)
                  have B103 := Lib.hid (show Below w.heap.size w wf from Below.trans B102.out (Below.mono hst (Below.size B102.out)))
                  have GQ_103 := Lib.hid ((Below.block hst Q LQ_102.out).trans GQ_102.out)
                  have LQ_103 := Lib.hid (Nat.lt_of_lt_of_le LQ_102.out (Below.size hst))
                  have GX_103 := Lib.hid ((Below.block hst X LX_102.out).trans GX_102.out)
                  have LX_103 := Lib.hid (Nat.lt_of_lt_of_le LX_102.out (Below.size hst))
                  have SAP_103 := Lib.hid (SAP_102.out.below hst)
                  have RSA_103 := Lib.hid (RSA_102.out.below hst)
                  have RPA_103 := Lib.hid (RPA_102.out.below hst)
                  have GY_103 := Lib.hid GY.out
                  have LY_103 := Lib.hid (lt_of_heap GY.out)
                  clear hst hHeld
                  have qx := (cellQ GX_103.out).1
                  go_wp2_with (first
                    | (refine at_ld 23 (.tmp 18) rfl ?_; (refine ld_digG rfl (.tmp 18) rfl (Y) 0 (by rfl) R RL.out (range_of_row GY_103.out) ?_); simp only [Act.put, List.setIfInBounds_toArray, List.set_cons_zero, List.set_cons_succ])
                    | (refine at_ld 23 (.tmp 7) rfl ?_; (refine ld_digG rfl (.tmp 7) rfl (Q) 0 (by rfl) R RL.out (range_of_row GQ_103.out) ?_); simp only [Act.put, List.setIfInBounds_toArray, List.set_cons_zero, List.set_cons_succ])
                    | (refine at_bin .neq 23 (.tmp 123) (.tmp 124) _ rfl ?_; (refine neq_digG rfl (.tmp 123) (.tmp 124) _ rfl R R (by rfl) (by rfl) RL.out RL.out ?_); rw [beq_self_eq_true]; simp only [Act.put, List.setIfInBounds_toArray, List.set_cons_zero, List.set_cons_succ]))
                  refine (Left_z x0 SL.out P p (m + 1) d HD.out (by omega) wf SAP_103.out).mono ?_
                  rintro e w104 ⟨rfl, hb104⟩
                  have B104 := Lib.hid (show Below w.heap.size w w104 from Below.trans B103.out (Below.mono hb104 (Below.size B103.out)))
                  have GQ_104 := Lib.hid ((Below.block hb104 Q LQ_103.out).trans GQ_103.out)
                  have LQ_104 := Lib.hid (Nat.lt_of_lt_of_le LQ_103.out (Below.size hb104))
                  have GX_104 := Lib.hid ((Below.block hb104 X LX_103.out).trans GX_103.out)
                  have LX_104 := Lib.hid (Nat.lt_of_lt_of_le LX_103.out (Below.size hb104))
                  have GY_104 := Lib.hid ((Below.block hb104 Y LY_103.out).trans GY_103.out)
                  have LY_104 := Lib.hid (Nat.lt_of_lt_of_le LY_103.out (Below.size hb104))
                  have SAP_104 := Lib.hid (SAP_103.out.below hb104)
                  have RSA_104 := Lib.hid (RSA_103.out.below hb104)
                  have RPA_104 := Lib.hid (RPA_103.out.below hb104)
                  clear hb104
                  go_wp2_with fail
                  exact ⟨⟨m + 1, hlt, by go_num, Lib.hid ⟨by rw [HM.out]; exact SAP_104.out, GQ_104.out, B104.out⟩⟩, by simp [intOf]; omega⟩
                · have HK := Lib.hid hK
                  clear hK
                  go_simp
                  rw [zdig]
                  obtain ⟨Y, hY⟩ : ∃ z, z = wd.heap.size := ⟨_, rfl⟩
                  rw [← hY]
                  obtain ⟨wr2, hwr2⟩ : ∃ z, z = wd.alloc (.cells (dV nz) 23) := ⟨_, rfl⟩
                  rw [← hwr2]
                  have Bwr2 := Lib.hid (show Below wd.heap.size wd wr2 by rw [hwr2]; exact Below.alloc (Below.refl wd.heap.size wd) (Below.size (Below.refl wd.heap.size wd)) _)
                  have GY0_wr2 := Lib.hid (show wr2.heap[Y]? = some (.cells (dV nz) 23 (0, 0)) by rw [hwr2, hY]; exact heap_alloc_new _ _)
                  have HYB := Lib.hid (show wd.heap.size ≤ Y by rw [hY]; exact Below.size (Below.refl wd.heap.size wd))
                  clear hY hwr2
                  refine HK.out _ _ (KS.out wr2 Bwr2.out) ?_
                  clear HK K hHeld
                  try simp only [Act.put, List.getElem_toArray, List.getElem_cons_zero, List.getElem_cons_succ, List.setIfInBounds_toArray, List.set_cons_zero, List.set_cons_succ]
                  intro hHeld
                  refine wpAnyH_ready (rs := [6]) (by kernel_rfl) (by simp) ?_
                  refine AllReadyH.cons (o := _) rfl (fun K hK => ?_) AllReadyH.nil
                  have HK := Lib.hid hK
                  clear hK
                  go_simp
                  go_at_call 12
                  refine (RC.out _ Bwr2.out).mono ?_
                  rintro e wq ⟨rfl, hbq⟩
                  have Bwq := Lib.hid (Below.trans Bwr2.out (hbq.mono (Below.size Bwr2.out)))
                  have GY0_wq := Lib.hid ((hbq.block Y (lt_of_heap GY0_wr2.out)).trans GY0_wr2.out)
                  clear hbq
                  dsimp only
                  refine HK.out _ _ (KS.out wq Bwq.out) ?_
                  clear HK K hHeld
                  try simp only [Act.put, List.getElem_toArray, List.getElem_cons_zero, List.getElem_cons_succ, List.setIfInBounds_toArray, List.set_cons_zero, List.set_cons_succ]
                  intro hHeld
                  refine wpAnyH_take (i := 7) (oi := _) (v := .tuple #[.agg (dV R), .nilIface]) rfl (by kernel_rfl) (by kernel_rfl) (by kernel_rfl) (fun _ _ _ h => h) (Or.inl ⟨by rfl, fun w hw => by go_simp⟩) hHeld ?_
                  simp only [Act.put, List.getElem_toArray, List.getElem_cons_zero, List.getElem_cons_succ, List.setIfInBounds_toArray, List.set_cons_zero, List.set_cons_succ]
                  refine wpAnyH_take (i := 8) (oi := _) (v := .agg (dV R)) rfl (by kernel_rfl) (by kernel_rfl) (by kernel_rfl) (fun _ _ _ h => h) (Or.inl ⟨by rfl, fun w hw => by go_simp⟩) hHeld ?_
                  simp only [Act.put, List.getElem_toArray, List.getElem_cons_zero, List.getElem_cons_succ, List.setIfInBounds_toArray, List.set_cons_zero, List.set_cons_succ]
                  refine wpAnyH_take (i := 9) (oi := _) (v := .nilIface) rfl (by kernel_rfl) (by kernel_rfl) (by kernel_rfl) (fun _ _ _ h => h) (Or.inl ⟨by rfl, fun w hw => by go_simp⟩) hHeld ?_
                  simp only [Act.put, List.getElem_toArray, List.getElem_cons_zero, List.getElem_cons_succ, List.setIfInBounds_toArray, List.set_cons_zero, List.set_cons_succ]
                  refine wpAnyH_ready (rs := [11]) (by kernel_rfl) (by simp) ?_
                  refine AllReadyH.cons (o := _) rfl (fun K hK => ?_) AllReadyH.nil
                  have HK := Lib.hid hK
                  clear hK
                  refine stepDig rfl (.tmp 18) (.tmp 108) rfl Y R RL.out (by rfl) (by rfl) (dV nz) (dV_size rfl) _ GY0_wq.out ?_
                  obtain ⟨wf, hwf⟩ : ∃ z, z = wq.setRow Y (dV R) := ⟨_, rfl⟩
                  rw [← hwf]
                  have Bwf := Lib.hid (show Below wd.heap.size wd wf by rw [hwf]; exact below_setRowW Bwq.out HYB.out _)
                  have GY := Lib.hid (show wf.heap[Y]? = some (.cells (dV R) 23 (0, 0)) by rw [hwf]; exact setRow_heap _ _ _ _ _ _ GY0_wq.out)
                  clear hwf
                  refine HK.out _ _ (KS.out wf Bwf.out) ?_
                  clear HK K hHeld
                  try simp only [Act.put, List.getElem_toArray, List.getElem_cons_zero, List.getElem_cons_succ, List.setIfInBounds_toArray, List.set_cons_zero, List.set_cons_succ]
                  intro hHeld
                  refine wpAnyH_take (i := 12) (oi := _) (v := .nilIface) rfl (by kernel_rfl) (by kernel_rfl) (by kernel_rfl) (fun _ _ _ h => h) (Or.inl ⟨by rfl, fun w hw => by go_simp⟩) hHeld ?_
                  simp only [Act.put, List.getElem_toArray, List.getElem_cons_zero, List.getElem_cons_succ, List.setIfInBounds_toArray, List.set_cons_zero, List.set_cons_succ]
                  refine wpAnyH_done (by kernel_rfl) ?_ _
                  have hst : Below w102.heap.size w102 wf := HBD.out.trans (by rw [← HSZ.out]; exact Bwf.out)
                  have B103 := Lib.hid (show Below w.heap.size w wf from Below.trans B102.out (Below.mono hst (Below.size B102.out)))
                  have GQ_103 := Lib.hid ((Below.block hst Q LQ_102.out).trans GQ_102.out)
                  have LQ_103 := Lib.hid (Nat.lt_of_lt_of_le LQ_102.out (Below.size hst))
                  have GX_103 := Lib.hid ((Below.block hst X LX_102.out).trans GX_102.out)
                  have LX_103 := Lib.hid (Nat.lt_of_lt_of_le LX_102.out (Below.size hst))
                  have SAP_103 := Lib.hid (SAP_102.out.below hst)
                  have RSA_103 := Lib.hid (RSA_102.out.below hst)
                  have RPA_103 := Lib.hid (RPA_102.out.below hst)
                  have GY_103 := Lib.hid GY.out
                  have LY_103 := Lib.hid (lt_of_heap GY.out)
                  clear hst hHeld
                  have qx := (cellQ GX_103.out).1
                  go_wp2_with (first
                    | (refine at_ld 23 (.tmp 18) rfl ?_; (refine ld_digG rfl (.tmp 18) rfl (Y) 0 (by rfl) R RL.out (range_of_row GY_103.out) ?_); simp only [Act.put, List.setIfInBounds_toArray, List.set_cons_zero, List.set_cons_succ])
                    | (refine at_ld 23 (.tmp 7) rfl ?_; (refine ld_digG rfl (.tmp 7) rfl (Q) 0 (by rfl) R RL.out (range_of_row GQ_103.out) ?_); simp only [Act.put, List.setIfInBounds_toArray, List.set_cons_zero, List.set_cons_succ])
                    | (refine at_bin .neq 23 (.tmp 123) (.tmp 124) _ rfl ?_; (refine neq_digG rfl (.tmp 123) (.tmp 124) _ rfl R R (by rfl) (by rfl) RL.out RL.out ?_); rw [beq_self_eq_true]; simp only [Act.put, List.setIfInBounds_toArray, List.set_cons_zero, List.set_cons_succ]))
                  refine (Left_z x0 SL.out P p (m + 1) d HD.out (by omega) wf SAP_103.out).mono ?_
                  rintro e w104 ⟨rfl, hb104⟩
                  have B104 := Lib.hid (show Below w.heap.size w w104 from Below.trans B103.out (Below.mono hb104 (Below.size B103.out)))
                  have GQ_104 := Lib.hid ((Below.block hb104 Q LQ_103.out).trans GQ_103.out)
                  have LQ_104 := Lib.hid (Nat.lt_of_lt_of_le LQ_103.out (Below.size hb104))
                  have GX_104 := Lib.hid ((Below.block hb104 X LX_103.out).trans GX_103.out)
                  have LX_104 := Lib.hid (Nat.lt_of_lt_of_le LX_103.out (Below.size hb104))
                  have GY_104 := Lib.hid ((Below.block hb104 Y LY_103.out).trans GY_103.out)
                  have LY_104 := Lib.hid (Nat.lt_of_lt_of_le LY_103.out (Below.size hb104))
                  have SAP_104 := Lib.hid (SAP_103.out.below hb104)
                  have RSA_104 := Lib.hid (RSA_103.out.below hb104)
                  have RPA_104 := Lib.hid (RPA_103.out.below hb104)
                  clear hb104
                  go_wp2_with fail
                  exact ⟨⟨m + 1, hlt, by go_num, Lib.hid ⟨by rw [HM.out]; exact SAP_104.out, GQ_104.out, B104.out⟩⟩, by simp [intOf]; omega⟩
              · have SAP_100 := Lib.hid (show StampAt wA P x0 p p by have := HI.out.1; rw [Nat.min_eq_right (by omega)] at this; exact this)
                have g1 : decide ((p : Int) ≤ (m : Int)) = true := decide_eq_true (by omega)
                have g2 : decide (p ≤ m) = true := decide_eq_true (by omega)
                have HM := Lib.hid (show min (m + 1) p = p by omega)
                have HN16 := Lib.hid hn16
                clear hsp HI
                go_wp2_with (first
                  | (refine at_ld 23 (.tmp 83) rfl ?_; (refine ld_digG rfl (.tmp 83) rfl (b1) (o1 + m * 32) (by rfl) D DL.out HRG.out ?_); simp only [Act.put, List.setIfInBounds_toArray, List.set_cons_zero, List.set_cons_succ]))
                refine (Sign_spent x0 D SL.out DL.out P p (by omega) wA SAP_100.out).mono ?_
                rintro e w101 ⟨rfl, hb101⟩
                have B101 := Lib.hid (show Below w.heap.size w w101 from Below.trans B100.out (Below.mono hb101 (Below.size B100.out)))
                have GQ_101 := Lib.hid ((Below.block hb101 Q LQ_100.out).trans GQ_100.out)
                have LQ_101 := Lib.hid (Nat.lt_of_lt_of_le LQ_100.out (Below.size hb101))
                have SAP_101 := Lib.hid (SAP_100.out.below hb101)
                clear hb101
                obtain ⟨X, hX⟩ : ∃ z, z = w101.heap.size := ⟨_, rfl⟩
                obtain ⟨w102, hw102⟩ : ∃ z, z = w101.alloc (.cells #[.int .i64 0, .slice none 0 0, .slice none 0 0] 33) := ⟨_, rfl⟩
                have st102 : Below w101.heap.size w101 w102 := by rw [hw102]; exact (Below.refl _ _).alloc (Nat.le_refl _) _
                have B102 := Lib.hid (show Below w.heap.size w w102 from Below.trans B101.out (Below.mono st102 (Below.size B101.out)))
                have GQ_102 := Lib.hid ((Below.block st102 Q LQ_101.out).trans GQ_101.out)
                have LQ_102 := Lib.hid (Nat.lt_of_lt_of_le LQ_101.out (Below.size st102))
                have SAP_102 := Lib.hid (SAP_101.out.below st102)
                have GX_102 := Lib.hid (show w102.heap[X]? = some (.cells #[.int .i64 0, .slice none 0 0, .slice none 0 0] 33 (0, 0)) by rw [hw102, hX]; exact heap_alloc_new _ _)
                have LX_102 := Lib.hid (lt_of_heap GX_102.out)
                have HX := Lib.hid hX
                have Hw102 := Lib.hid hw102
                clear hX hw102 st102
                go_wp2_with (first
                  | (refine at_st 33 (.tmp 15) (.tmp 86) rfl ?_; (refine st_sigNew rfl (.tmp 15) (.tmp 86) rfl (.int .i64 0) (.slice none 0 0) (.slice none 0 0) (by rfl) _ _ (by rfl) (by rfl) (sig_one _ _ _ _ _ _ _) ?_); rw [← HX.out, ← Hw102.out]))
                refine (Error_err 6 6 true (by decide) w102 (HG.out.at_ B102.out)).mono ?_
                rintro e w103 ⟨rfl, hb103⟩
                have B103 := Lib.hid (show Below w.heap.size w w103 from Below.trans B102.out (Below.mono hb103 (Below.size B102.out)))
                have GQ_103 := Lib.hid ((Below.block hb103 Q LQ_102.out).trans GQ_102.out)
                have LQ_103 := Lib.hid (Nat.lt_of_lt_of_le LQ_102.out (Below.size hb103))
                have GX_103 := Lib.hid ((Below.block hb103 X LX_102.out).trans GX_102.out)
                have LX_103 := Lib.hid (Nat.lt_of_lt_of_le LX_102.out (Below.size hb103))
                have SAP_103 := Lib.hid (SAP_102.out.below hb103)
                clear hb103
                go_wp2_with fail
                refine (Left_z x0 SL.out P p p 0 (by omega) (by omega) w103 SAP_103.out).mono ?_
                rintro e w104 ⟨rfl, hb104⟩
                have B104 := Lib.hid (show Below w.heap.size w w104 from Below.trans B103.out (Below.mono hb104 (Below.size B103.out)))
                have GQ_104 := Lib.hid ((Below.block hb104 Q LQ_103.out).trans GQ_103.out)
                have LQ_104 := Lib.hid (Nat.lt_of_lt_of_le LQ_103.out (Below.size hb104))
                have GX_104 := Lib.hid ((Below.block hb104 X LX_103.out).trans GX_103.out)
                have LX_104 := Lib.hid (Nat.lt_of_lt_of_le LX_103.out (Below.size hb104))
                have SAP_104 := Lib.hid (SAP_103.out.below hb104)
                clear hb104
                go_wp2_with fail
                go_roundw
                case rel => exact ⟨m + 1, hlt, by go_num, Lib.hid ⟨by rw [HM.out]; exact SAP_104.out, GQ_104.out, B104.out⟩⟩
                case measure => simp [intOf]; omega
            · obtain rfl : m = x2.length := by omega
              obtain ⟨d, hd⟩ : ∃ d : Nat, d + min x2.length p = p := ⟨p - min x2.length p, by omega⟩
              have d0 : (0 : Int) ≤ (d : Int) := by omega
              have HD := Lib.hid hd
              clear hd
              go_wp2_with fail
              refine (Left_z x0 SL.out P p _ d HD.out (by omega) _ HI.out.1).mono ?_
              rintro e wz ⟨rfl, hz⟩
              have BZ := Lib.hid (HI.out.2.2.trans (hz.mono (Below.size HI.out.2.2)))
              go_wp2_with fail
              go_ret
              exact ⟨rfl, BZ.out⟩

set_option maxRecDepth 100000 in
theorem lifted (os : Os) (started : os.Started) (H : Type) (enc : TypeId × Value → H) :
    ReturnsInHanded {} Tryd.checked os 5 .any (fun w args => (Rows.stampSignedSpec.pre enc Tryd.prog Tryd.f5 Rows.stampSignedRow.domain false w args ∧ laidMetH Tryd.prog Laid.list w) ∧ sizedMet enc Tryd.prog Tryd.f5 (OpenSpec.ofChange Rows.stampSignedSpec) false w args) (Rows.stampSignedSpec.post enc Tryd.prog Tryd.f5 false true false false) := by
  refine returnsInHanded_of_change_and (C := Tryd.checked) (X := fun w _ => laidMetH Tryd.prog Laid.list w) (fun _ _ _ hh h => h.of_heap hh) Laid.own started (by kernel_rfl) Tryd.func5
    (ChangeSpec.witness_at (enc := enc) (C := Tryd.checked) (os := os) (X := fun w _ => laidMetH Tryd.prog Laid.list w) false (laidWorld os) #[.agg #[.int .u8 0, .int .u8 0, .int .u8 0, .int .u8 0, .int .u8 0, .int .u8 0, .int .u8 0, .int .u8 0, .int .u8 0, .int .u8 0, .int .u8 0, .int .u8 0, .int .u8 0, .int .u8 0, .int .u8 0, .int .u8 0, .int .u8 0, .int .u8 0, .int .u8 0, .int .u8 0, .int .u8 0, .int .u8 0, .int .u8 0, .int .u8 0, .int .u8 0, .int .u8 0, .int .u8 0, .int .u8 0, .int .u8 0, .int .u8 0, .int .u8 0, .int .u8 0], .int .i64 0, .slice none 0 0] 8 rfl (by kernel_rfl) (by kernel_rfl) (by kernel_rfl) (by kernel_rfl) (by kernel_rfl) (laidWorld_met os _)) ?_
  intro W base args ds gs before hval0 hW _ hsz hL _
  have hro := rounds_of_laid hL
  have hg := handle_of_laid hL
  have hval : ∀ (j : Nat) t v, Tryd.f5.params[j]? = some t → args[j]? = some v → Value.okWide Tryd.prog W .any base t v := hval0
  have hW' := hW
  obtain ⟨p, q, hA0, hV, rfl, hfz, hnd⟩ := hW
  have hA : DataW.TrodAll enc Tryd.prog W 0 (fun _ => true) true Tryd.f5.params.toList args.toList ds p := hA0
  rw [Tryd.params5] at hA hval
  obtain ⟨v0, vs0, d0, ds0, p0, q0, hargs, rfl, rfl, h0, r0⟩ := trodAll_cons hA
  obtain ⟨v1, vs1, d1, ds1, p1, q1, rfl, rfl, rfl, h1, r1⟩ := trodAll_cons r0
  obtain ⟨v2, vs2, d2, ds2, p2, q2, rfl, rfl, rfl, h2, r2⟩ := trodAll_cons r1
  obtain ⟨rfl, rfl, rfl⟩ := trodAll_nil r2
  obtain rfl : args = #[v0, v1, v2] := by cases args; simp_all
  obtain ⟨rfl, rfl⟩ := trodVars_none hV
  have k0 := h0
  have lt0 : ∀ x ∈ p0, x.block < W.heap.size := by obtain ⟨m, hm⟩ := k0; exact DataW.trod_lt m _ _ _ hm
  obtain ⟨x0, n0, rfl⟩ := open_digest Tryd.underlying23 Tryd.underlying5 (by kernel_rfl) (by kernel_rfl) (hval 0 23 v0 rfl rfl) h0
  have k1 := h1
  have lt1 : ∀ x ∈ p1, x.block < W.heap.size := by obtain ⟨m, hm⟩ := k1; exact DataW.trod_lt m _ _ _ hm
  obtain ⟨a1, rfl, _, _, w1⟩ := open_int Tryd.underlying3 (hval 1 3 v1 rfl rfl) h1
  have b1 := bounds_i64 w1
  have k2 := h2
  have lt2 : ∀ x ∈ p2, x.block < W.heap.size := by obtain ⟨m, hm⟩ := k2; exact DataW.trod_lt m _ _ _ hm
  obtain ⟨x2, a2, c2, e2, rfl, g2, g_2, n2, r_2⟩ := open_digests Tryd.underlying31 Tryd.underlying23 Tryd.underlying5 (by kernel_rfl) (by kernel_rfl) (hval 2 31 v2 rfl rfl) h2
  have l2 : x2.length * 32 ≤ 140737488351232 := by have := trod_len (B := reachBytes) Tryd.underlying31 h2 (fun n hn => of_decide_eq_true (List.all_eq_true.1 hsz n (DataW.weights_mem_each (j := 2) (by first | rfl | kernel_rfl) rfl n hn))); rw [show Tryd.prog.bytesOf 23 = 32 by kernel_rfl] at this; exact this
  clear hA0 hval0
  refine (walk x0 a1 x2 a2 c2 e2 W n0 b1 l2 n2 r_2 hro hg).mono fun e W' ⟨he, bel⟩ => ?_
  subst he
  exact ⟨_, rfl, _, _, _, [], _, [], hW', trodAll_mk1 (shut_bool Tryd.underlying4 _), (trodAll_cons_mk (Below.trod Laid.laidOut (by kernel_rfl) (of_decide_eq_true (by kernel_rfl)) k0 bel lt0) (trodAll_cons_mk (Below.trod Laid.laidOut (by kernel_rfl) (of_decide_eq_true (by kernel_rfl)) k1 bel lt1) (trodAll_cons_mk (Below.trod Laid.laidOut (by kernel_rfl) (of_decide_eq_true (by kernel_rfl)) k2 bel lt2) trodAll_mk0))), rfl, bel.frame _, fun h => by cases h⟩

theorem over : Rows.stampSignedRow.holds Tryd.pinned (OpenSpec.ofChange Rows.stampSignedSpec) :=
  OpenClaim.holds_of_wide 5 Tryd.f5 rfl rfl rfl rfl rfl rfl rfl ⟨rfl, rfl, rfl, rfl, rfl⟩ rfl rfl rfl rfl rfl (by kernel_rfl) Tryd.func5 (by kernel_rfl)
    (of_decide_eq_true (by kernel_rfl)) (by unfold Func.isWrapper; first | (rw [if_pos (by decide +kernel)]; kernel_rfl) | (rw [if_neg (by decide +kernel)]; exact ⟨rfl, rfl⟩))
    (fun os started H enc _ => lifted os started H enc)

theorem proved : Rows.StampSignedCardSaid :=
  Claim7.holds_tied_plain_at .later [] [.data, .handle] true (true, "4217d634fd497304c4c9b362b9b2f4a24703606a484f8eaaf8eb436b2e24aad0") true
    over (fun _ h => by cases h) (by kernel_rfl) (fun _ h => by cases h) stampSigned_row_tie rfl ⟨rfl, rfl⟩ (by kernel_rfl) rfl
    (fun f fn hf hfn => by
      obtain rfl : f = 5 := Option.some.inj ((show Tryd.prog.funcNamed "oathbook/oathbooklaw2.StampSigned" = some 5 by kernel_rfl).symm.trans hf) |>.symm
      obtain rfl : fn = Tryd.f5 := (Option.some.inj (Tryd.func5.symm.trans hfn)).symm
      exact ⟨by kernel_rfl, stand_of_all (by kernel_rfl)⟩)
    (by kernel_rfl)
#print axioms proved
end stampSigned
end Go.Proofs.YtkioddmhjbaleaaDoor
