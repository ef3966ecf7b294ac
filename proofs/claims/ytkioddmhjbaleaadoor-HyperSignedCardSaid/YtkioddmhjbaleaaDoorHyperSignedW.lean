/- The walk of HyperSigned: what the statement's function answers. -/
import Derived.Test.YtkioddmhjbaleaaDoorHyp4
import Derived.Test.YtkioddmhjbaleaaDoorLaidRH
import Derived.WalkKit
import Derived.StillTailTactics
import Derived.Deep.RegionHeld3
import Derived.Laws.OwnMore
import Derived.BigQuiet
import Derived.Below
namespace Go.Proofs.YtkioddmhjbaleaaDoor
open Go.RowKit
set_option linter.unusedVariables false
set_option linter.unusedSimpArgs false
namespace hyperSigned
-- HOLE: the walk
theorem PubBadH (Z : List UInt8) (hZ : Z = nz) (seed : List UInt8) (h : Int) (hh : h < 0 ∨ 2 < h) (w : World) :
    Calls Tryd.prog 26 #[.agg (dV seed), .int .i64 h] w fun e w' => e = .returned (.tuple #[.agg (dV Z), .iface 41 (.int .i64 2)]) ∧ Below w.heap.size w w' := by
  subst hZ; exact HPublic_bad seed h hh w
theorem LeftH (seed : List UInt8) (hs : seed.length = 32) (h : Int) (N : Nat) (hg : High3 h N) (X B i d : Nat) (hd : d + i = N * N) (w : World) (hy : HyAt w X B seed h N i) : Calls Tryd.prog 29 #[.pointer (some ⟨X, 0, none⟩)] w fun e w' => e = .returned (.int .i64 (d : Int)) ∧ Below w.heap.size w w' := by
  have := HLeft_calls seed hs h N hg X B i (by omega) w hy
  rw [show N * N - i = d by omega] at this
  exact this
theorem own_ho {B : Nat} {w w' : World} (h : Ho B w w') {base size n : Nat} {e : TypeId} {v : Value} {xs : List Value} (ho : w.ownsRow base e size v n xs) (h1 : e ≠ 85) (h2 : e ≠ 100) : w'.ownsRow base e size v n xs := by
  refine ⟨ho.1, ?_⟩
  rcases ho.2 with h3 | ⟨g, cap, cur, hv, hg, hh, r⟩
  · exact .inl h3
  · exact .inr ⟨g, cap, cur, hv, hg, h.2 g _ _ _ hh h1 h2, r⟩
theorem Kp.grown {w w' : World} {base size n : Nat} {eo : TypeId} {v : Value} {xs : List Value} (ho : w.ownsRow base eo size v n xs) (hg : w.grownBy w' v.ownBlock) (h1 : eo ≠ 85) (h2 : eo ≠ 100) (h3 : eo ≠ 23) : Kp w w' := fun b c t fr hb ht => by
  refine (hg.block b (lt_of_heap hb) (fun e => ?_)).trans hb
  obtain ⟨cur, e', fr', hh, rfl⟩ := own_block ho b e.symm
  rw [hb] at hh
  simp only [Option.some.injEq, Obj.cells.injEq] at hh
  obtain ⟨_, rfl, _⟩ := hh
  rcases ht with h | h | h
  · exact h1 h
  · exact h2 h
  · exact h3 h
theorem Ho.grow {B : Nat} {w w1 w2 : World} (h : Ho B w w1) (hb : Below w.heap.size w1 w2) (hB : B ≤ w.heap.size) : Ho B w w2 :=
  ⟨h.1.trans (hb.mono hB), fun b c t fr hb1 h1 h2 => (hb.block b (lt_of_heap hb1)).trans (h.2 b c t fr hb1 h1 h2)⟩
theorem ErrVar.ho {B : Nat} {w w' : World} (h : Ho B w w') (hB : 0 < B) (hg : ErrVar w) : ErrVar w' := hg.below h.1 hB
def placesK (N j : Nat) : List Int := (List.range j).map fun k => ((k / N * 100 + k % N : Nat) : Int)
theorem placesK_length (N j : Nat) : (placesK N j).length = j := by simp [placesK]
theorem placesK_get (N j l : Nat) (h : l < j) : (placesK N j)[l]'(by rw [placesK_length]; exact h) = ((l / N * 100 + l % N : Nat) : Int) := by simp [placesK]
theorem placesK_succ (N j : Nat) : placesK N (j + 1) = placesK N j ++ [((j / N * 100 + j % N : Nat) : Int)] := by
  unfold placesK; rw [List.range_succ, List.map_append]; rfl
theorem place_ne {h : Int} {N : Nat} (g : High3 h N) {l k : Nat} (hl : l < k) : l / N * 100 + l % N ≠ k / N * 100 + k % N := by
  rcases g with ⟨_, rfl⟩ | ⟨_, rfl⟩ | ⟨_, rfl⟩ <;> omega
theorem one_ints (xs : List Int) : ∀ u ∈ xs.map vI, u.oneCell' = true := by intro u hu; obtain ⟨z, _, rfl⟩ := List.mem_map.1 hu; rfl
theorem tpathK (seed : List UInt8) (N t : Nat) : (tpath (leavesK seed N) t).length = tlong t N := by
  have := tpath_long _ (leavesK seed N) t (Nat.le_refl _)
  rwa [leavesK_length] at this
theorem tfoldK (seed : List UInt8) (N t : Nat) (ht : t < N) : tfold (wpub (skey seed t)) t N (tpath (leavesK seed N) t) = troot (leavesK seed N) := by
  have := tfold_path _ (leavesK seed N) t _ (leavesK_get seed N t ht) (Nat.le_refl _)
  rwa [leavesK_length] at this
theorem sfaultK (N t pl : Nat) (ht : t < N) (hp : pl = tlong t N) : sfault N 67 (t : Int) pl = 0 := by
  unfold sfault
  rw [if_neg (by simp), if_neg (by omega), if_neg (by rw [Int.toNat_natCast]; simpa using hp)]
theorem srootK (seed m : List UInt8) (N t : Nat) (ht : t < N) : sroot N m (wsig (skey seed t) m) (t : Int) (tpath (leavesK seed N) t) = troot (leavesK seed N) := by
  unfold sroot
  rw [wsig_length, sfaultK N t _ ht (tpathK _ _ _), if_pos rfl, wkey_sig, Int.toNat_natCast, tfoldK seed N t ht]
theorem RecOwnH (x0 D R : List UInt8) (hD : D.length = 32) (h : Int) (N t nx : Nat) (hg : High3 h N) (ht : t < N) (hnx : nx < N) (hR : R = troot (leavesK (hup x0) N)) (ua va sa pa : Option Addr) (uc vc sc pc ue ve se pe : Nat) (w : World)
    (hru : Rd w ua ue ((wsig (skey (hup x0) t) (troot (leavesK (hlow x0 t) N))).flatten.map vB)) (hrv : Rd w va ve ((tpath (leavesK (hup x0) N) t).flatten.map vB)) (hrs : Rd w sa se ((wsig (skey (hlow x0 t) nx) D).flatten.map vB)) (hrp : Rd w pa pe ((tpath (leavesK (hlow x0 t) N) nx).flatten.map vB)) (hro : RoundsAt w) :
    Calls Tryd.prog 30 #[.agg (dV D), .int .i64 h, .agg #[.int .i64 (t : Int), .slice ua 67 uc, .slice va (tlong t N) vc, .int .i64 (nx : Int), .slice sa 67 sc, .slice pa (tlong nx N) pc]] w fun e w' => e = .returned (.tuple #[.agg (dV R), .nilIface]) ∧ Below w.heap.size w w' := by
  have hN := hg.bounds
  have H := HRec_any D hD h N hg (t : Int) (nx : Int) (wsig (skey (hup x0) t) (troot (leavesK (hlow x0 t) N))) (tpath (leavesK (hup x0) N) t) (wsig (skey (hlow x0 t) nx) D) (tpath (leavesK (hlow x0 t) N) nx) ua va sa pa 67 uc (tlong t N) vc 67 sc (tlong nx N) pc ue ve se pe (by omega) (by omega)
    (wsig_dig _ _) (tpath_dig _ _ _ (Nat.le_refl _) (leavesK_dig _ _)) (wsig_dig _ _) (tpath_dig _ _ _ (Nat.le_refl _) (leavesK_dig _ _)) (wsig_length _ _).symm (tpathK _ _ _).symm (wsig_length _ _).symm (tpathK _ _ _).symm w hru hrv hrs hrp hro
  have e1 : hfault N 67 (t : Int) (tlong t N) 67 (nx : Int) (tlong nx N) = 0 := by
    unfold hfault
    rw [sfaultK N nx _ hnx rfl, sfaultK N t _ ht rfl]; rfl
  have e2 : hroot N D (wsig (skey (hup x0) t) (troot (leavesK (hlow x0 t) N))) (t : Int) (tpath (leavesK (hup x0) N) t) (wsig (skey (hlow x0 t) nx) D) (nx : Int) (tpath (leavesK (hlow x0 t) N) nx) = R := by
    unfold hroot
    rw [wsig_length, sfaultK N nx _ hnx (tpathK _ _ _), if_neg (by simp), srootK _ _ N nx hnx, srootK _ _ N t ht, hR]
  rw [e1, e2] at H
  exact H
theorem st_dblNew {ops : Array Oper} {rest : List Oper} {op : Oper} {a : Act} {w : World} {Q : Exit → Act → World → Prop} (hgd : op.guard = none) (x y : Operand) (ho : op.op = .store 59 x y) (b0 b1 b2 b3 b4 b5 : Value) (hy : a.eval y = .agg #[b0, b1, b2, b3, b4, b5]) (Z : Array Value) (t : TypeId) (hZ : Z.size = 6) (hx : a.eval x = .pointer (some ⟨w.heap.size, 0, none⟩)) (h1 : (#[b0, b1, b2, b3, b4, b5] : Array Value).all (·.oneCell') = true)
    (h : wpList Tryd.prog ops Q rest (a.put op.dst undef) (w.alloc (.cells #[b0, b1, b2, b3, b4, b5] t))) : wpList Tryd.prog ops Q (op :: rest) a (w.alloc (.cells Z t)) :=
  st_dbl hgd x y ho w.heap.size b0 b1 b2 b3 b4 b5 hx hy Z hZ t (heap_alloc_new w _) h1 (by rw [World.setRow_alloc_new]; exact h)
theorem dbl_all {w : World} {V : Nat} {a b c d e f : Value} {t : TypeId} {fr : Nat × Nat} (h : w.heap[V]? = some (.cells #[a, b, c, d, e, f] t fr)) : w.rangeAt V 0 [a, b, c, d, e, f] := by
  intro j v hj
  rw [Nat.zero_add, cell_of_row w V j _ t fr h]
  simpa using hj
set_option maxRecDepth 20000 in
set_option maxHeartbeats 16000000 in
theorem walk (x0 : List UInt8) (a1 : Int) (x2 : List (List UInt8)) (a2 : Option Addr) (c2 e2 : Nat) (w : World) (n0 : x0.length = 32) (h1 : -9223372036854775808 ≤ a1 ∧ a1 ≤ 9223372036854775807) (l2 : x2.length * 32 ≤ 140737488351232) (n2 : ∀ d ∈ x2, d.length = 32) (r2 : Rd w a2 e2 (x2.flatten.map vB)) (hro : RoundsAt w) (hg : ErrVar w) :
    Calls Tryd.prog 6 #[.agg (dV x0), .int .i64 a1, .slice a2 x2.length c2] w fun e w' => e = .returned (.bool true) ∧ Below w.heap.size w w' := by
  have SL := Lib.hid n0
  have RO := Lib.hid hro
  have HG := Lib.hid hg
  have N2 := Lib.hid n2
  have R2 := Lib.hid r2
  have hgB1 := hro.lt
  have hgB2 := hg.lt
  clear n0 hro hg n2 r2
  by_cases hbad : a1 < 0 ∨ 2 < a1
  · obtain ⟨Z, hZ⟩ : ∃ Z, Z = nz := ⟨_, rfl⟩
    have ZL := Lib.hid (show Z.length = 32 by rw [hZ]; rfl)
    have HZ := Lib.hid hZ
    have HBD := Lib.hid hbad
    clear hZ
    rcases hbad with h1 | h1
    · obtain ⟨S, hS⟩ : ∃ z, z = w.heap.size := ⟨_, rfl⟩
      obtain ⟨w1, hw1⟩ : ∃ z, z = w.alloc (.cells (dV x0) 23) := ⟨_, rfl⟩
      have st1 : Below w.heap.size w w1 := by rw [hw1]; exact (Below.refl _ _).alloc (Nat.le_refl _) _
      have B1 := Lib.hid (show Below w.heap.size w w1 from Below.trans (Below.refl w.heap.size w) (Below.mono st1 (Below.size (Below.refl w.heap.size w))))
      have GS_1 := Lib.hid (show w1.heap[S]? = some (.cells (dV x0) 23 (0, 0)) by rw [hw1, hS]; exact heap_alloc_new _ _)
      have LS_1 := Lib.hid (lt_of_heap GS_1.out)
      have HS := Lib.hid hS
      have Hw1 := Lib.hid hw1
      clear hS hw1 st1
      have SZS := Lib.hid (show S = w.heap.size from HS.out)
      go_enter Tryd.func6, Tryd.ntmps6
      go_upto_region 1 with fail
      rw [← SZS.out, ← Hw1.out]
      go_wp2_with (first
        | (refine at_ld 23 (.tmp 3) rfl ?_; (refine ld_digG rfl (.tmp 3) rfl (S) 0 (by rfl) x0 SL.out (range_of_row GS_1.out) ?_); simp only [Act.put, List.setIfInBounds_toArray, List.set_cons_zero, List.set_cons_succ]))
      refine (PubBadH Z HZ.out x0 a1 HBD.out w1).mono ?_
      rintro e w2 ⟨rfl, hb2⟩
      have B2 := Lib.hid (show Below w.heap.size w w2 from Below.trans B1.out (Below.mono hb2 (Below.size B1.out)))
      have GS_2 := Lib.hid ((Below.block hb2 S LS_1.out).trans GS_1.out)
      have LS_2 := Lib.hid (Nat.lt_of_lt_of_le LS_1.out (Below.size hb2))
      clear hb2
      obtain ⟨Q, hQ⟩ : ∃ z, z = w2.heap.size := ⟨_, rfl⟩
      obtain ⟨w3, hw3⟩ : ∃ z, z = w2.alloc (.cells (dV Z) 23) := ⟨_, rfl⟩
      have st3 : Below w2.heap.size w2 w3 := by rw [hw3]; exact (Below.refl _ _).alloc (Nat.le_refl _) _
      have B3 := Lib.hid (show Below w.heap.size w w3 from Below.trans B2.out (Below.mono st3 (Below.size B2.out)))
      have GS_3 := Lib.hid ((Below.block st3 S LS_2.out).trans GS_2.out)
      have LS_3 := Lib.hid (Nat.lt_of_lt_of_le LS_2.out (Below.size st3))
      have GQ_3 := Lib.hid (show w3.heap[Q]? = some (.cells (dV Z) 23 (0, 0)) by rw [hw3, hQ]; exact heap_alloc_new _ _)
      have LQ_3 := Lib.hid (lt_of_heap GQ_3.out)
      have HQ := Lib.hid hQ
      have Hw3 := Lib.hid hw3
      clear hQ hw3 st3
      go_wp2_with (first
        | (refine at_st 23 (.tmp 7) (.tmp 27) rfl ?_; (refine st_new rfl (.tmp 7) (.tmp 27) rfl Z ZL.out (by rfl) _ _ (by rfl) (by rfl) ?_); rw [← HQ.out, ← Hw3.out]))
      refine (Error_err 2 2 true (by decide) w3 (HG.out.at_ B3.out)).mono ?_
      rintro e w4 ⟨rfl, hb4⟩
      have B4 := Lib.hid (show Below w.heap.size w w4 from Below.trans B3.out (Below.mono hb4 (Below.size B3.out)))
      have GS_4 := Lib.hid ((Below.block hb4 S LS_3.out).trans GS_3.out)
      have LS_4 := Lib.hid (Nat.lt_of_lt_of_le LS_3.out (Below.size hb4))
      have GQ_4 := Lib.hid ((Below.block hb4 Q LQ_3.out).trans GQ_3.out)
      have LQ_4 := Lib.hid (Nat.lt_of_lt_of_le LQ_3.out (Below.size hb4))
      clear hb4
      go_wp2_with fail
      go_ret
      exact ⟨rfl, B4.out⟩
    · have h2 : ¬ a1 < 0 := by omega
      obtain ⟨S, hS⟩ : ∃ z, z = w.heap.size := ⟨_, rfl⟩
      obtain ⟨w1, hw1⟩ : ∃ z, z = w.alloc (.cells (dV x0) 23) := ⟨_, rfl⟩
      have st1 : Below w.heap.size w w1 := by rw [hw1]; exact (Below.refl _ _).alloc (Nat.le_refl _) _
      have B1 := Lib.hid (show Below w.heap.size w w1 from Below.trans (Below.refl w.heap.size w) (Below.mono st1 (Below.size (Below.refl w.heap.size w))))
      have GS_1 := Lib.hid (show w1.heap[S]? = some (.cells (dV x0) 23 (0, 0)) by rw [hw1, hS]; exact heap_alloc_new _ _)
      have LS_1 := Lib.hid (lt_of_heap GS_1.out)
      have HS := Lib.hid hS
      have Hw1 := Lib.hid hw1
      clear hS hw1 st1
      have SZS := Lib.hid (show S = w.heap.size from HS.out)
      go_enter Tryd.func6, Tryd.ntmps6
      go_upto_region 1 with fail
      rw [← SZS.out, ← Hw1.out]
      go_wp2_with (first
        | (refine at_ld 23 (.tmp 3) rfl ?_; (refine ld_digG rfl (.tmp 3) rfl (S) 0 (by rfl) x0 SL.out (range_of_row GS_1.out) ?_); simp only [Act.put, List.setIfInBounds_toArray, List.set_cons_zero, List.set_cons_succ]))
      refine (PubBadH Z HZ.out x0 a1 HBD.out w1).mono ?_
      rintro e w2 ⟨rfl, hb2⟩
      have B2 := Lib.hid (show Below w.heap.size w w2 from Below.trans B1.out (Below.mono hb2 (Below.size B1.out)))
      have GS_2 := Lib.hid ((Below.block hb2 S LS_1.out).trans GS_1.out)
      have LS_2 := Lib.hid (Nat.lt_of_lt_of_le LS_1.out (Below.size hb2))
      clear hb2
      obtain ⟨Q, hQ⟩ : ∃ z, z = w2.heap.size := ⟨_, rfl⟩
      obtain ⟨w3, hw3⟩ : ∃ z, z = w2.alloc (.cells (dV Z) 23) := ⟨_, rfl⟩
      have st3 : Below w2.heap.size w2 w3 := by rw [hw3]; exact (Below.refl _ _).alloc (Nat.le_refl _) _
      have B3 := Lib.hid (show Below w.heap.size w w3 from Below.trans B2.out (Below.mono st3 (Below.size B2.out)))
      have GS_3 := Lib.hid ((Below.block st3 S LS_2.out).trans GS_2.out)
      have LS_3 := Lib.hid (Nat.lt_of_lt_of_le LS_2.out (Below.size st3))
      have GQ_3 := Lib.hid (show w3.heap[Q]? = some (.cells (dV Z) 23 (0, 0)) by rw [hw3, hQ]; exact heap_alloc_new _ _)
      have LQ_3 := Lib.hid (lt_of_heap GQ_3.out)
      have HQ := Lib.hid hQ
      have Hw3 := Lib.hid hw3
      clear hQ hw3 st3
      go_wp2_with (first
        | (refine at_st 23 (.tmp 7) (.tmp 27) rfl ?_; (refine st_new rfl (.tmp 7) (.tmp 27) rfl Z ZL.out (by rfl) _ _ (by rfl) (by rfl) ?_); rw [← HQ.out, ← Hw3.out]))
      refine (Error_err 2 2 true (by decide) w3 (HG.out.at_ B3.out)).mono ?_
      rintro e w4 ⟨rfl, hb4⟩
      have B4 := Lib.hid (show Below w.heap.size w w4 from Below.trans B3.out (Below.mono hb4 (Below.size B3.out)))
      have GS_4 := Lib.hid ((Below.block hb4 S LS_3.out).trans GS_3.out)
      have LS_4 := Lib.hid (Nat.lt_of_lt_of_le LS_3.out (Below.size hb4))
      have GQ_4 := Lib.hid ((Below.block hb4 Q LQ_3.out).trans GQ_3.out)
      have LQ_4 := Lib.hid (Nat.lt_of_lt_of_le LQ_3.out (Below.size hb4))
      clear hb4
      go_wp2_with fail
      go_ret
      exact ⟨rfl, B4.out⟩
  · obtain ⟨h, hh⟩ : ∃ h : Int, h = a1 := ⟨_, rfl⟩
    subst hh
    obtain ⟨N, hN3⟩ := High3.of (h := h) (by omega) (by omega)
    obtain ⟨k0, hk1, hk2, hk3⟩ := hN3.pow
    have HP3 := Lib.hid hN3
    obtain ⟨NN, hNN⟩ : ∃ z, z = N * N := ⟨_, rfl⟩
    obtain ⟨K2, hK2⟩ : ∃ z, z = 2 * k0 := ⟨_, rfl⟩
    have HNN := Lib.hid hNN
    have HPW := Lib.hid (show NN = 2 ^ K2 by rw [hNN, hk3, hK2, Nat.two_mul, Nat.pow_add])
    have hNN16 : NN ≤ 16 := by rw [hNN]; rcases hN3 with ⟨_, rfl⟩ | ⟨_, rfl⟩ | ⟨_, rfl⟩ <;> omega
    have hK24 : K2 ≤ 4 := by have := hN3.bounds; omega
    have eK : IntKind.i64.wrap (2 * h) = (K2 : Int) := by rw [IntWalk.i64_in _ (by have := hN3.bounds; omega)]; omega
    have q1 : decide (h < 0) = false := decide_eq_false (by omega)
    have q2 : decide (2 < h) = false := decide_eq_false (by omega)
    clear hbad hk1 hk2 hk3 hN3 hNN hK2
    obtain ⟨R, hR⟩ : ∃ R, R = troot (leavesK (hup x0) N) := ⟨_, rfl⟩
    have RL := Lib.hid (show R.length = 32 by rw [hR]; exact troot_length _ (leavesK_dig _ _))
    have HR := Lib.hid hR
    clear hR
    have h1' := h1
    clear h1
    obtain ⟨S, hS⟩ : ∃ z, z = w.heap.size := ⟨_, rfl⟩
    obtain ⟨w1, hw1⟩ : ∃ z, z = w.alloc (.cells (dV x0) 23) := ⟨_, rfl⟩
    have st1 : Below w.heap.size w w1 := by rw [hw1]; exact (Below.refl _ _).alloc (Nat.le_refl _) _
    have B1 := Lib.hid (show Below w.heap.size w w1 from Below.trans (Below.refl w.heap.size w) (Below.mono st1 (Below.size (Below.refl w.heap.size w))))
    have GS_1 := Lib.hid (show w1.heap[S]? = some (.cells (dV x0) 23 (0, 0)) by rw [hw1, hS]; exact heap_alloc_new _ _)
    have LS_1 := Lib.hid (lt_of_heap GS_1.out)
    have HS := Lib.hid hS
    have Hw1 := Lib.hid hw1
    clear hS hw1 st1
    have SZS := Lib.hid (show S = w.heap.size from HS.out)
    go_enter Tryd.func6, Tryd.ntmps6
    go_upto_region 1 with fail
    rw [← SZS.out, ← Hw1.out]
    go_wp2_with (first
      | (refine at_ld 23 (.tmp 3) rfl ?_; (refine ld_digG rfl (.tmp 3) rfl (S) 0 (by rfl) x0 SL.out (range_of_row GS_1.out) ?_); simp only [Act.put, List.setIfInBounds_toArray, List.set_cons_zero, List.set_cons_succ]))
    refine (HPublic_ok x0 SL.out h N HP3.out w1 (RO.out.at_ B1.out)).mono ?_
    rintro e w2 ⟨rfl, hb2⟩
    have B2 := Lib.hid (show Below w.heap.size w w2 from Below.trans B1.out (Below.mono hb2 (Below.size B1.out)))
    have GS_2 := Lib.hid ((Below.block hb2 S LS_1.out).trans GS_1.out)
    have LS_2 := Lib.hid (Nat.lt_of_lt_of_le LS_1.out (Below.size hb2))
    clear hb2
    rw [← HR.out]
    obtain ⟨Q, hQ⟩ : ∃ z, z = w2.heap.size := ⟨_, rfl⟩
    obtain ⟨w3, hw3⟩ : ∃ z, z = w2.alloc (.cells (dV R) 23) := ⟨_, rfl⟩
    have st3 : Below w2.heap.size w2 w3 := by rw [hw3]; exact (Below.refl _ _).alloc (Nat.le_refl _) _
    have B3 := Lib.hid (show Below w.heap.size w w3 from Below.trans B2.out (Below.mono st3 (Below.size B2.out)))
    have GS_3 := Lib.hid ((Below.block st3 S LS_2.out).trans GS_2.out)
    have LS_3 := Lib.hid (Nat.lt_of_lt_of_le LS_2.out (Below.size st3))
    have GQ_3 := Lib.hid (show w3.heap[Q]? = some (.cells (dV R) 23 (0, 0)) by rw [hw3, hQ]; exact heap_alloc_new _ _)
    have LQ_3 := Lib.hid (lt_of_heap GQ_3.out)
    have HQ := Lib.hid hQ
    have Hw3 := Lib.hid hw3
    clear hQ hw3 st3
    go_wp2_with (first
      | (refine at_st 23 (.tmp 7) (.tmp 27) rfl ?_; (refine st_new rfl (.tmp 7) (.tmp 27) rfl R RL.out (by rfl) _ _ (by rfl) (by rfl) ?_); rw [← HQ.out, ← Hw3.out])
      | (refine at_ld 23 (.tmp 3) rfl ?_; (refine ld_digG rfl (.tmp 3) rfl (S) 0 (by rfl) x0 SL.out (range_of_row GS_3.out) ?_); simp only [Act.put, List.setIfInBounds_toArray, List.set_cons_zero, List.set_cons_succ]))
    refine (HNew_ok x0 SL.out h N HP3.out w.heap.size w3 (Below.size B3.out) (RO.out.at_ B3.out)).mono ?_
    rintro e w4 ⟨X, rfl, hX, hb4, hHY⟩
    have B4 := Lib.hid (show Below w.heap.size w w4 from Below.trans B3.out (Below.mono hb4 (Below.size B3.out)))
    have GS_4 := Lib.hid ((Below.block hb4 S LS_3.out).trans GS_3.out)
    have LS_4 := Lib.hid (Nat.lt_of_lt_of_le LS_3.out (Below.size hb4))
    have GQ_4 := Lib.hid ((Below.block hb4 Q LQ_3.out).trans GQ_3.out)
    have LQ_4 := Lib.hid (Nat.lt_of_lt_of_le LQ_3.out (Below.size hb4))
    have HY_4 := Lib.hid hHY
    clear hHY hX
    clear hb4
    obtain ⟨B, hB⟩ : ∃ z, z = w.heap.size := ⟨_, rfl⟩
    go_wp2_with fail
    rw [← hB] at HY_4
    have HBz := Lib.hid hB
    have hgB : 1 < B := by rw [hB]; exact hgB1
    have hgE : 0 < B := by rw [hB]; exact hgB2
    have hBW : B ≤ w4.heap.size := by rw [hB]; exact Below.size B4.out
    clear hB
    go_loop [12, 13] (fun a i => ∃ k p : Nat, k ≤ K2 ∧ p = 2 ^ k ∧ i = .int .i64 (k : Int) ∧ a = .int .i64 (p : Int)) (fun _ i => K2 - (intOf i).toNat)
    case atStart => exact ⟨0, 1, Nat.zero_le _, rfl, rfl, rfl⟩
    case round =>
      obtain ⟨k, p, hk, hp, rfl, rfl⟩ := hrel
      by_cases hlt : k < K2
      · have hp16 : p ≤ 16 := by rw [hp]; exact Nat.le_trans (Nat.pow_le_pow_right (by omega) (Nat.le_trans hk hK24)) (by decide)
        have e4 : IntKind.i64.wrap ((k : Int) + 1) = (k : Int) + 1 := IntWalk.i64_in _ (by omega)
        have e5 : IntKind.i64.wrap (2 * (p : Int)) = ((2 * p : Nat) : Int) := by rw [IntWalk.i64_in _ (by omega)]; omega
        have HP := Lib.hid (show 2 * p = 2 ^ (k + 1) by rw [hp, Nat.pow_succ]; omega)
        clear hp
        go_wp2_with fail
        go_round
        case rel => exact ⟨k + 1, 2 * p, hlt, HP.out, by go_num, by go_num⟩
        case measure => simp [intOf]; omega
      · obtain rfl : k = K2 := by omega
        obtain rfl : p = NN := by rw [hp, HPW.out]
        clear hp hlt hk
        by_cases hl20 : 20 < x2.length
        · have q4 : decide ((20 : Int) < (x2.length : Int)) = true := decide_eq_true (by omega)
          have q5 : decide (20 < x2.length) = true := decide_eq_true (by omega)
          go_wp2_with fail
          go_ret
          exact ⟨rfl, B4.out⟩
        · have q4 : decide ((20 : Int) < (x2.length : Int)) = false := decide_eq_false (by omega)
          have q5 : decide (20 < x2.length) = false := decide_eq_false (by omega)
          go_wp2_with fail
          obtain ⟨w1, hw1⟩ : ∃ z, z = w4 := ⟨_, rfl⟩
          rw [← hw1]
          have HYZ := Lib.hid (show HyAt w1 X B x0 h N 0 by rw [hw1]; exact HY_4.out)
          have GQZ := Lib.hid (show w1.heap[Q]? = some (.cells (dV R) 23 (0, 0)) by rw [hw1]; exact GQ_4.out)
          have BBZ := Lib.hid (show Below w.heap.size w w1 by rw [hw1]; exact B4.out)
          have hBW1 : B ≤ w1.heap.size := by rw [hw1]; exact hBW
          have ROZ := Lib.hid (RO.out.at_ BBZ.out)
          have HGZ := Lib.hid (HG.out.at_ BBZ.out)
          clear hw1
          go_loopw [14, 15] (fun vp vi wr => ∃ k j : Nat, k ≤ x2.length ∧ j = min k p ∧ vi = .int .i64 (k : Int) ∧ Hid (HyAt wr X B x0 h N j) ∧ Hid (Ho B w1 wr) ∧ Hid (wr.ownsRow w1.heap.size 3 1 vp j ((placesK N j).map vI))) (fun _ vi _ => x2.length - (intOf vi).toNat)
          case atStart => exact ⟨0, 0, Nat.zero_le _, (Nat.zero_min _).symm, rfl, HYZ, Lib.hid (Ho.refl _ _), Lib.hid (World.ownsRow_nil _ _ _ _)⟩
          case round =>
            obtain ⟨k, j, hk, hj, rfl, HYA, HOA, OWA⟩ := hrel
            obtain ⟨wA, rfl⟩ : ∃ z, z = wr := ⟨_, rfl⟩
            obtain ⟨pa0, pc0, rfl⟩ := own_slice OWA.out
            by_cases hlt : k < x2.length
            · obtain ⟨b1, o1, ha2, hb1, hrg⟩ := (R2.out.below (show Below w.heap.size w wA from BBZ.out.trans (by rw [← HBz.out]; exact HOA.out.1))).range N2.out hlt
              subst ha2
              obtain ⟨D, hD⟩ : ∃ D, D = x2[k] := ⟨_, rfl⟩
              rw [← hD] at hrg
              have DL := Lib.hid (show D.length = 32 by rw [hD]; exact N2.out _ (List.getElem_mem _))
              have HDE := Lib.hid hD
              have HRG := Lib.hid hrg
              have m0 : (0 : Int) ≤ (k : Int) := by omega
              have m1 : (k : Int) < (x2.length : Int) := by omega
              have e6 : IntKind.i64.wrap ((k : Int) + 1) = (k : Int) + 1 := IntWalk.i64_in _ (by omega)
              have ROA := Lib.hid (HOA.out.rounds hgB ROZ.out)
              clear hD hb1 hrg
              by_cases hsp : k < p
              · obtain rfl : j = k := by omega
                obtain ⟨t, ht⟩ : ∃ t, t = j / N := ⟨_, rfl⟩
                obtain ⟨nx, hnx⟩ : ∃ n, n = j % N := ⟨_, rfl⟩
                obtain ⟨hht, hhn, hhi⟩ := HP3.out.split (i := j) (by rw [← HNN.out]; exact hsp)
                rw [← ht] at hht hhi
                rw [← hnx] at hhn hhi
                have hN4 := HP3.out.bounds
                obtain ⟨pl, hpl⟩ : ∃ z, z = t * 100 + nx := ⟨_, rfl⟩
                have HPL := Lib.hid (show pl = j / N * 100 + j % N by rw [hpl, ht, hnx])
                have HHI := Lib.hid hhi
                have HT := Lib.hid ht
                have HNX := Lib.hid hnx
                have SG := Lib.hid (HSign_ok x0 D SL.out DL.out h N HP3.out X B j t nx hhi hht hhn wA hgB HYA.out ROA.out)
                have g1 : decide ((p : Int) ≤ (j : Int)) = false := decide_eq_false (by omega)
                have g2 : decide (p ≤ j) = false := decide_eq_false (by omega)
                have e10 : IntKind.i64.wrap ((t : Int) * 100) = (t : Int) * 100 := IntWalk.i64_in _ (by omega)
                have e11 : IntKind.i64.wrap ((t : Int) * 100 + (nx : Int)) = (pl : Int) := by rw [IntWalk.i64_in _ (by omega)]; omega
                have HPB := Lib.hid (show pl ≤ 1000 by omega)
                obtain ⟨d, hd⟩ : ∃ d : Nat, d + (j + 1) = p := ⟨p - (j + 1), by omega⟩
                have e7 : IntKind.i64.wrap ((p : Int) - (j : Int)) = (d : Int) + 1 := by rw [IntWalk.i64_in _ (by omega)]; omega
                have e8 : IntKind.i64.wrap ((d : Int) + 1 - 1) = (d : Int) := by rw [IntWalk.i64_in _ (by omega)]; omega
                have e9 : IntKind.i64.wrap ((d : Int)) = (d : Int) := IntWalk.i64_in _ (by omega)
                have HD := Lib.hid hd
                have HSP := Lib.hid hsp
                clear ht hnx hhi hpl hj hd
                go_wp2_with (refine at_ld 23 (.tmp 75) rfl ?_; (refine ld_digG rfl (.tmp 75) rfl (b1) (o1 + j * 32) (by rfl) D DL.out HRG.out ?_); simp only [Act.put, List.setIfInBounds_toArray, List.set_cons_zero, List.set_cons_succ])
                refine SG.out.mono ?_
                rintro e wB ⟨ua, uc, va, vc, sa, sc, pa, pc, rfl, hru, hrv, hrs, hrp, hyr, hho⟩
                obtain ⟨E, hE⟩ : ∃ z, z = wB.heap.size := ⟨_, rfl⟩
                obtain ⟨wC, hwC⟩ : ∃ z, z = wB.alloc (.cells #[.int .i64 (t : Int), .slice ua 67 uc, .slice va (tlong t N) vc, .int .i64 (nx : Int), .slice sa 67 sc, .slice pa (tlong nx N) pc] 59) := ⟨_, rfl⟩
                have hbC : Below wB.heap.size wB wC := by rw [hwC]; exact (Below.refl _ _).alloc (Nat.le_refl _) _
                have HOB := Lib.hid (HOA.out.trans hho)
                have HOC := Lib.hid (HOB.out.below hbC (Nat.le_trans hBW1 HOB.out.size))
                have HYC := Lib.hid (show HyAt wC X B x0 h N (j + 1) by have := hyr.hyAt.below hbC; rw [show t * N + (nx + 1) = j + 1 by have := HHI.out; omega] at this; exact this)
                have RUC := Lib.hid (hru.below hbC)
                have RVC := Lib.hid (hrv.below hbC)
                have RSC := Lib.hid (hrs.below hbC)
                have RPC := Lib.hid (hrp.below hbC)
                have OWC := Lib.hid (own_below (own_ho hho OWA.out (by decide) (by decide)) hbC)
                have GEC := Lib.hid (show wC.heap[E]? = some (.cells #[.int .i64 (t : Int), .slice ua 67 uc, .slice va (tlong t N) vc, .int .i64 (nx : Int), .slice sa 67 sc, .slice pa (tlong nx N) pc] 59 (0, 0)) by rw [hwC, hE]; exact heap_alloc_new _ _)
                have ROC := Lib.hid (HOC.out.rounds hgB ROZ.out)
                have R2C := R2.out.below (show Below w.heap.size w wC from BBZ.out.trans (by rw [← HBz.out]; exact HOC.out.1))
                obtain ⟨b3, o3, hb3, hb4, hrg3⟩ := R2C.range N2.out hlt
                have hbo := Option.some.inj hb3
                obtain rfl : b1 = b3 := congrArg Addr.block hbo
                obtain rfl : o1 = o3 := congrArg Addr.off hbo
                rw [← HDE.out] at hrg3
                have HRC := Lib.hid hrg3
                have LRC := Lib.hid hb4
                have GQC := Lib.hid (HOC.out.2 Q _ _ _ GQZ.out (by decide) (by decide))
                have HE := Lib.hid hE
                have HWC := Lib.hid hwC
                clear hru hrv hrs hrp hyr hho hbC hE hwC R2C hb3 hb4 hrg3 hbo SG HYA HOA OWA HOB HRG ROA
                go_upto_region 24 with (first
                  | ((refine st_dblNew rfl (.tmp 16) (.tmp 78) rfl (.int .i64 (t : Int)) (.slice ua 67 uc) (.slice va (tlong t N) vc) (.int .i64 (nx : Int)) (.slice sa 67 sc) (.slice pa (tlong nx N) pc) (by rfl) _ _ (by rfl) (by rfl) (dbl_one _ _ _ _ _ _ _ _ _ _ _ _ _ _) ?_); rw [← HE.out, ← HWC.out]))
                clear HWC HE
                go_cut [19, 20] from 92 to 101 (fun v19 v20 wx => ∃ U, v19 = .pointer (some ⟨U, 0, none⟩) ∧ v20 = .nilIface ∧ wx.heap[U]? = some (.cells (dV R) 23 (0, 0)) ∧ Below wC.heap.size wC wx)
                case first =>
                  have KS : ∀ w' : World, Below wC.heap.size wC w' → (w'.rangeAt b1 (o1 + j * 32) (D.map vB) ∧ w'.heap[E]? = some (.cells #[.int .i64 (t : Int), .slice ua 67 uc, .slice va (tlong t N) vc, .int .i64 (nx : Int), .slice sa 67 sc, .slice pa (tlong nx N) pc] 59 (0, 0))) := fun w' hb => ⟨range_belowH HRC.out hb LRC.out, (hb.block E (lt_of_heap GEC.out)).trans GEC.out⟩
                  have HKS := Lib.hid KS
                  have HIM := Lib.hid (show (Tryd.prog.info? 23).map (·.size) = some (D.map vB).length by rw [List.length_map, DL.out]; exact dig_size)
                  obtain ⟨wd, hwd⟩ : ∃ z, z = wC.drew := ⟨_, rfl⟩
                  have BD_wd := Lib.hid (show Below wC.heap.size wC wd by rw [hwd]; exact (Below.refl _ _).drew)
                  refine wp_region_held_drew (S := fun w' => w'.rangeAt b1 (o1 + j * 32) (D.map vB) ∧ w'.heap[E]? = some (.cells #[.int .i64 (t : Int), .slice ua 67 uc, .slice va (tlong t N) vc, .int .i64 (nx : Int), .slice sa 67 sc, .slice pa (tlong nx N) pc] 59 (0, 0))) (by kernel_rfl) (by rw [← hwd]; exact KS wd BD_wd.out) (fun hHeld => ?_)
                  rw [← hwd] at hHeld ⊢
                  clear hwd KS
                  refine wpAnyH_take (i := 0) (oi := _) (v := .slice (some ⟨b1, o1, none⟩) x2.length c2) rfl (by kernel_rfl) (by kernel_rfl) (by kernel_rfl) (fun _ _ _ h => h) (Or.inl ⟨by rfl, fun w hw => by go_simp⟩) hHeld ?_
                  simp only [Act.put, List.getElem_toArray, List.getElem_cons_zero, List.getElem_cons_succ, List.setIfInBounds_toArray, List.set_cons_zero, List.set_cons_succ]
                  refine wpAnyH_take (i := 1) (oi := _) (v := .int .i64 (j : Int)) rfl (by kernel_rfl) (by kernel_rfl) (by kernel_rfl) (fun _ _ _ h => h) (Or.inl ⟨by rfl, fun w hw => by go_simp⟩) hHeld ?_
                  simp only [Act.put, List.getElem_toArray, List.getElem_cons_zero, List.getElem_cons_succ, List.setIfInBounds_toArray, List.set_cons_zero, List.set_cons_succ]
                  refine wpAnyH_take (i := 2) (oi := _) (v := .pointer (some ⟨b1, o1 + j * 32, none⟩)) rfl (by kernel_rfl) (by kernel_rfl) (by kernel_rfl) (fun _ _ _ h => h) (Or.inl ⟨by rfl, fun w hw => by go_simp⟩) hHeld ?_
                  simp only [Act.put, List.getElem_toArray, List.getElem_cons_zero, List.getElem_cons_succ, List.setIfInBounds_toArray, List.set_cons_zero, List.set_cons_succ]
                  refine wpAnyH_take (i := 3) (oi := _) (v := _) rfl (by kernel_rfl) (by kernel_rfl) (by kernel_rfl) (fun _ _ _ h => h) (yieldsIf_load_mid (by rfl) _ _ rfl _ _ rfl (D.map vB) _ (fun w hw => hw.1) Tryd.underlying23 rfl HIM.out) hHeld ?_
                  simp only [Act.put, List.getElem_toArray, List.getElem_cons_zero, List.getElem_cons_succ, List.setIfInBounds_toArray, List.set_cons_zero, List.set_cons_succ]
                  refine wpAnyH_take (i := 4) (oi := _) (v := .int .i64 h) rfl (by kernel_rfl) (by kernel_rfl) (by kernel_rfl) (fun _ _ _ h => h) (Or.inl ⟨by rfl, fun w hw => by go_simp⟩) hHeld ?_
                  simp only [Act.put, List.getElem_toArray, List.getElem_cons_zero, List.getElem_cons_succ, List.setIfInBounds_toArray, List.set_cons_zero, List.set_cons_succ]
                  refine wpAnyH_take (i := 5) (oi := _) (v := _) rfl (by kernel_rfl) (by kernel_rfl) (by kernel_rfl) (fun _ _ _ h => h) (yieldsIf_load_mid (by rfl) _ _ rfl _ _ rfl [.int .i64 (t : Int), .slice ua 67 uc, .slice va (tlong t N) vc, .int .i64 (nx : Int), .slice sa 67 sc, .slice pa (tlong nx N) pc] _ (fun w hw => dbl_all hw.2) Tryd.underlying59 rfl (info_dbl _ _ _ _ _ _)) hHeld ?_
                  simp only [Act.put, List.getElem_toArray, List.getElem_cons_zero, List.getElem_cons_succ, List.setIfInBounds_toArray, List.set_cons_zero, List.set_cons_succ]
                  refine wpAnyH_ready (rs := [6, 10]) (by kernel_rfl) (by simp) ?_
                  refine AllReadyH.cons (o := _) rfl (fun K hK => ?_) (AllReadyH.cons (o := _) rfl (fun K hK => ?_) AllReadyH.nil)
                  · have HK := Lib.hid hK
                    clear hK
                    go_simp
                    go_at_call 30
                    refine (RecOwnH x0 D R DL.out h N t nx HP3.out hht hhn HR.out ua va sa pa uc vc sc pc _ _ _ _ wd (RUC.out.below BD_wd.out) (RVC.out.below BD_wd.out) (RSC.out.below BD_wd.out) (RPC.out.below BD_wd.out) (ROC.out.at_ BD_wd.out)).mono ?_
                    rintro e we ⟨rfl, hb⟩
                    have BD_we := Lib.hid (show Below wC.heap.size wC we from BD_wd.out.trans (hb.mono BD_wd.out.size))
                    clear hb
                    dsimp only
                    refine HK.out _ _ (HKS.out we BD_we.out) ?_
                    clear HK K hHeld
                    try simp only [Act.put, List.getElem_toArray, List.getElem_cons_zero, List.getElem_cons_succ, List.setIfInBounds_toArray, List.set_cons_zero, List.set_cons_succ]
                    intro hHeld
                    refine wpAnyH_take (i := 7) (oi := _) (v := .tuple #[.agg (dV R), .nilIface]) rfl (by kernel_rfl) (by kernel_rfl) (by kernel_rfl) (fun _ _ _ h => h) (Or.inl ⟨by rfl, fun w hw => by go_simp⟩) hHeld ?_
                    simp only [Act.put, List.getElem_toArray, List.getElem_cons_zero, List.getElem_cons_succ, List.setIfInBounds_toArray, List.set_cons_zero, List.set_cons_succ]
                    refine wpAnyH_take (i := 8) (oi := _) (v := .agg (dV R)) rfl (by kernel_rfl) (by kernel_rfl) (by kernel_rfl) (fun _ _ _ h => h) (Or.inl ⟨by rfl, fun w hw => by go_simp⟩) hHeld ?_
                    simp only [Act.put, List.getElem_toArray, List.getElem_cons_zero, List.getElem_cons_succ, List.setIfInBounds_toArray, List.set_cons_zero, List.set_cons_succ]
                    refine wpAnyH_take (i := 9) (oi := _) (v := .nilIface) rfl (by kernel_rfl) (by kernel_rfl) (by kernel_rfl) (fun _ _ _ h => h) (Or.inl ⟨by rfl, fun w hw => by go_simp⟩) hHeld ?_
                    simp only [Act.put, List.getElem_toArray, List.getElem_cons_zero, List.getElem_cons_succ, List.setIfInBounds_toArray, List.set_cons_zero, List.set_cons_succ]
                    refine wpAnyH_ready (rs := [10]) (by kernel_rfl) (by simp) ?_
                    refine AllReadyH.cons (o := _) rfl (fun K hK => ?_) AllReadyH.nil
                    have HK := Lib.hid hK
                    clear hK
                    go_simp
                    rw [zdig]
                    obtain ⟨U, hU⟩ : ∃ z, z = we.heap.size := ⟨_, rfl⟩
                    obtain ⟨wf, hw1⟩ : ∃ z, z = we.alloc (.cells (dV nz) 23) := ⟨_, rfl⟩
                    have BD_wf := Lib.hid (show Below wC.heap.size wC wf by rw [hw1]; exact BD_we.out.alloc BD_we.out.size _)
                    have GT_wf := Lib.hid (show wf.heap[U]? = some (.cells (dV nz) 23 (0, 0)) by rw [hw1, hU]; exact heap_alloc_new _ _)
                    have LT := Lib.hid (show wC.heap.size ≤ U by rw [hU]; exact BD_we.out.size)
                    rw [← hU, ← hw1]
                    clear hU hw1
                    refine HK.out _ _ (HKS.out wf BD_wf.out) ?_
                    clear HK K hHeld
                    try simp only [Act.put, List.getElem_toArray, List.getElem_cons_zero, List.getElem_cons_succ, List.setIfInBounds_toArray, List.set_cons_zero, List.set_cons_succ]
                    intro hHeld
                    refine wpAnyH_ready (rs := [11]) (by kernel_rfl) (by simp) ?_
                    refine AllReadyH.cons (o := _) rfl (fun K hK => ?_) AllReadyH.nil
                    have HK := Lib.hid hK
                    clear hK
                    rw [if_pos (by rfl)]
                    refine wp_store_row _ _ _ rfl U (dV R) (by rfl) (by rfl) _ (dV nz) GT_wf.out (by rw [dV_size RL.out]; exact dig_size) (by rw [dV_size RL.out, dV_size nz_length]) (dV_one _) ?_
                    obtain ⟨wg, hw2⟩ : ∃ z, z = wf.setRow U (dV R) := ⟨_, rfl⟩
                    have GF := Lib.hid (show wg.heap[U]? = some (.cells (dV R) 23 (0, 0)) by rw [hw2]; exact setRow_heap _ _ _ _ _ _ GT_wf.out)
                    have BD_wg := Lib.hid (show Below wC.heap.size wC wg by rw [hw2]; exact below_setRowW BD_wf.out LT.out _)
                    rw [← hw2]
                    clear hw2
                    refine HK.out _ _ (HKS.out wg BD_wg.out) ?_
                    clear HK K hHeld
                    try simp only [Act.put, List.getElem_toArray, List.getElem_cons_zero, List.getElem_cons_succ, List.setIfInBounds_toArray, List.set_cons_zero, List.set_cons_succ]
                    intro hHeld
                    refine wpAnyH_take (i := 12) (oi := _) (v := .nilIface) rfl (by kernel_rfl) (by kernel_rfl) (by kernel_rfl) (fun _ _ _ h => h) (Or.inl ⟨by rfl, fun w hw => by go_simp⟩) hHeld ?_
                    simp only [Act.put, List.getElem_toArray, List.getElem_cons_zero, List.getElem_cons_succ, List.setIfInBounds_toArray, List.set_cons_zero, List.set_cons_succ]
                    refine wpAnyH_done (by kernel_rfl) ?_ _
                    clear hHeld
                    go_wp2_with fail
                    go_meet
                    exact ⟨U, rfl, rfl, GF.out, BD_wg.out⟩
                  · have HK := Lib.hid hK
                    clear hK
                    go_simp
                    rw [zdig]
                    obtain ⟨U, hU⟩ : ∃ z, z = wd.heap.size := ⟨_, rfl⟩
                    obtain ⟨we, hw1⟩ : ∃ z, z = wd.alloc (.cells (dV nz) 23) := ⟨_, rfl⟩
                    have BD_we := Lib.hid (show Below wC.heap.size wC we by rw [hw1]; exact BD_wd.out.alloc BD_wd.out.size _)
                    have GT_we := Lib.hid (show we.heap[U]? = some (.cells (dV nz) 23 (0, 0)) by rw [hw1, hU]; exact heap_alloc_new _ _)
                    have LT := Lib.hid (show wC.heap.size ≤ U by rw [hU]; exact BD_wd.out.size)
                    rw [← hU, ← hw1]
                    clear hU hw1
                    refine HK.out _ _ (HKS.out we BD_we.out) ?_
                    clear HK K hHeld
                    try simp only [Act.put, List.getElem_toArray, List.getElem_cons_zero, List.getElem_cons_succ, List.setIfInBounds_toArray, List.set_cons_zero, List.set_cons_succ]
                    intro hHeld
                    refine wpAnyH_ready (rs := [6]) (by kernel_rfl) (by simp) ?_
                    refine AllReadyH.cons (o := _) rfl (fun K hK => ?_) AllReadyH.nil
                    have HK := Lib.hid hK
                    clear hK
                    go_simp
                    go_at_call 30
                    refine (RecOwnH x0 D R DL.out h N t nx HP3.out hht hhn HR.out ua va sa pa uc vc sc pc _ _ _ _ we (RUC.out.below BD_we.out) (RVC.out.below BD_we.out) (RSC.out.below BD_we.out) (RPC.out.below BD_we.out) (ROC.out.at_ BD_we.out)).mono ?_
                    rintro e wf ⟨rfl, hb⟩
                    have BD_wf := Lib.hid (show Below wC.heap.size wC wf from BD_we.out.trans (hb.mono BD_we.out.size))
                    have GT_wf := Lib.hid ((hb.block U (lt_of_heap GT_we.out)).trans GT_we.out)
                    clear hb
                    dsimp only
                    refine HK.out _ _ (HKS.out wf BD_wf.out) ?_
                    clear HK K hHeld
                    try simp only [Act.put, List.getElem_toArray, List.getElem_cons_zero, List.getElem_cons_succ, List.setIfInBounds_toArray, List.set_cons_zero, List.set_cons_succ]
                    intro hHeld
                    refine wpAnyH_take (i := 7) (oi := _) (v := .tuple #[.agg (dV R), .nilIface]) rfl (by kernel_rfl) (by kernel_rfl) (by kernel_rfl) (fun _ _ _ h => h) (Or.inl ⟨by rfl, fun w hw => by go_simp⟩) hHeld ?_
                    simp only [Act.put, List.getElem_toArray, List.getElem_cons_zero, List.getElem_cons_succ, List.setIfInBounds_toArray, List.set_cons_zero, List.set_cons_succ]
                    refine wpAnyH_take (i := 8) (oi := _) (v := .agg (dV R)) rfl (by kernel_rfl) (by kernel_rfl) (by kernel_rfl) (fun _ _ _ h => h) (Or.inl ⟨by rfl, fun w hw => by go_simp⟩) hHeld ?_
                    simp only [Act.put, List.getElem_toArray, List.getElem_cons_zero, List.getElem_cons_succ, List.setIfInBounds_toArray, List.set_cons_zero, List.set_cons_succ]
                    refine wpAnyH_take (i := 9) (oi := _) (v := .nilIface) rfl (by kernel_rfl) (by kernel_rfl) (by kernel_rfl) (fun _ _ _ h => h) (Or.inl ⟨by rfl, fun w hw => by go_simp⟩) hHeld ?_
                    simp only [Act.put, List.getElem_toArray, List.getElem_cons_zero, List.getElem_cons_succ, List.setIfInBounds_toArray, List.set_cons_zero, List.set_cons_succ]
                    refine wpAnyH_ready (rs := [11]) (by kernel_rfl) (by simp) ?_
                    refine AllReadyH.cons (o := _) rfl (fun K hK => ?_) AllReadyH.nil
                    have HK := Lib.hid hK
                    clear hK
                    rw [if_pos (by rfl)]
                    refine wp_store_row _ _ _ rfl U (dV R) (by rfl) (by rfl) _ (dV nz) GT_wf.out (by rw [dV_size RL.out]; exact dig_size) (by rw [dV_size RL.out, dV_size nz_length]) (dV_one _) ?_
                    obtain ⟨wg, hw2⟩ : ∃ z, z = wf.setRow U (dV R) := ⟨_, rfl⟩
                    have GF := Lib.hid (show wg.heap[U]? = some (.cells (dV R) 23 (0, 0)) by rw [hw2]; exact setRow_heap _ _ _ _ _ _ GT_wf.out)
                    have BD_wg := Lib.hid (show Below wC.heap.size wC wg by rw [hw2]; exact below_setRowW BD_wf.out LT.out _)
                    rw [← hw2]
                    clear hw2
                    refine HK.out _ _ (HKS.out wg BD_wg.out) ?_
                    clear HK K hHeld
                    try simp only [Act.put, List.getElem_toArray, List.getElem_cons_zero, List.getElem_cons_succ, List.setIfInBounds_toArray, List.set_cons_zero, List.set_cons_succ]
                    intro hHeld
                    refine wpAnyH_take (i := 12) (oi := _) (v := .nilIface) rfl (by kernel_rfl) (by kernel_rfl) (by kernel_rfl) (fun _ _ _ h => h) (Or.inl ⟨by rfl, fun w hw => by go_simp⟩) hHeld ?_
                    simp only [Act.put, List.getElem_toArray, List.getElem_cons_zero, List.getElem_cons_succ, List.setIfInBounds_toArray, List.set_cons_zero, List.set_cons_succ]
                    refine wpAnyH_done (by kernel_rfl) ?_ _
                    clear hHeld
                    go_wp2_with fail
                    go_meet
                    exact ⟨U, rfl, rfl, GF.out, BD_wg.out⟩
                case rest =>
                obtain ⟨U, rfl, rfl, hgU, hbU⟩ := hcut
                obtain ⟨wD, rfl⟩ : ∃ z, z = wc := ⟨_, rfl⟩
                have GU := Lib.hid hgU
                have BU := Lib.hid hbU
                have HOD := Lib.hid (HOC.out.below hbU (Nat.le_trans hBW1 HOC.out.size))
                have HYD := Lib.hid (HYC.out.below hbU)
                have OWD := Lib.hid (own_below OWC.out hbU)
                have GQD := Lib.hid ((hbU.block Q (lt_of_heap GQC.out)).trans GQC.out)
                have GED := Lib.hid ((hbU.block E (lt_of_heap GEC.out)).trans GEC.out)
                have CL := Lib.hid (LeftH x0 SL.out h N HP3.out X B (j + 1) d (by rw [← HNN.out]; exact HD.out) wD HYD.out)
                have QRR := Lib.hid (show (R == R) = true from beq_self_eq_true R)
                clear hgU hbU HOC HYC OWC GQC GEC RUC RVC RSC RPC HRC LRC
                go_wp2_with (first
                  | (refine at_ld 23 (.tmp 19) rfl ?_; (refine ld_digG rfl (.tmp 19) rfl U 0 (by rfl) R RL.out (range_of_row GU.out) ?_); simp only [Act.put, List.setIfInBounds_toArray, List.set_cons_zero, List.set_cons_succ])
                  | (refine at_ld 23 (.tmp 7) rfl ?_; (refine ld_digG rfl (.tmp 7) rfl Q 0 (by rfl) R RL.out (range_of_row GQD.out) ?_); simp only [Act.put, List.setIfInBounds_toArray, List.set_cons_zero, List.set_cons_succ])
                  | (refine at_bin .neq 23 (.tmp 109) (.tmp 110) _ rfl ?_; (refine neq_digG rfl (.tmp 109) (.tmp 110) _ rfl R R (by rfl) (by rfl) RL.out RL.out ?_); rw [QRR.out]; simp only [Act.put, List.setIfInBounds_toArray, List.set_cons_zero, List.set_cons_succ]))
                refine CL.out.mono ?_
                rintro e wF ⟨rfl, hbF⟩
                have BF := Lib.hid hbF
                have HOF := Lib.hid (HOD.out.below hbF (Nat.le_trans hBW1 HOD.out.size))
                have HYF := Lib.hid (HYD.out.below hbF)
                have OWF := Lib.hid (own_below OWD.out hbF)
                have GEF := Lib.hid ((hbF.block E (lt_of_heap GED.out)).trans GED.out)
                have ce0 := cell_of_row _ E 0 _ _ _ GEF.out
                have ce3 := cell_of_row _ E 3 _ _ _ GEF.out
                simp only [List.getElem?_toArray, List.getElem?_cons_zero, List.getElem?_cons_succ] at ce0 ce3
                clear CL hbF HOD HYD OWD GED GQD GU BU BF
                go_wp2_with fail
                go_loopw [22] (fun vl w3 => ∃ l : Nat, l ≤ j ∧ vl = .int .i64 (l : Int) ∧ wF = w3) (fun vl _ => j - (intOf vl).toNat)
                case atStart => exact ⟨0, Nat.zero_le _, rfl, rfl⟩
                case round =>
                  obtain ⟨l, hl, rfl, rfl⟩ := hrel
                  by_cases hll : l < j
                  · obtain ⟨b5, o5, hb5, hb6, hcells⟩ := (Rd.of_own OWF.out).ints (k := l) (by rw [placesK_length]; exact hll)
                    have hcl := hcells l (by rw [placesK_length]; exact hll)
                    rw [placesK_get N j l hll] at hcl
                    obtain ⟨ql, hql⟩ : ∃ z, z = l / N * 100 + l % N := ⟨_, rfl⟩
                    have hne : ql ≠ pl := by rw [hql, HPL.out]; exact place_ne HP3.out hll
                    rw [← hql] at hcl
                    have z1 : ((ql : Int) == (pl : Int)) = false := by rw [beq_eq_false_iff_ne]; omega
                    have z2 : decide ((ql : Int) = (pl : Int)) = false := decide_eq_false (by omega)
                    have z3 : decide (ql = pl) = false := decide_eq_false hne
                    have l0 : (0 : Int) ≤ (l : Int) := by omega
                    have l1 : (l : Int) < (j : Int) := by omega
                    have e12 : IntKind.i64.wrap ((l : Int) + 1) = (l : Int) + 1 := IntWalk.i64_in _ (by omega)
                    subst hb5
                    clear hcells hql hne
                    go_wp2_with fail
                    go_roundw
                    case rel => exact ⟨l + 1, by omega, by go_num, trivial⟩
                    case measure => simp [intOf]; omega
                  · obtain rfl : l = j := by omega
                    obtain ⟨wH, hwH⟩ : ∃ z, z = wF.alloc (.cells #[.int .i64 (pl : Int)] 3) := ⟨_, rfl⟩
                    have hbH : Below wF.heap.size wF wH := by rw [hwH]; exact (Below.refl _ _).alloc (Nat.le_refl _) _
                    have OWH := Lib.hid (own_below OWF.out hbH)
                    have HYH := Lib.hid (HYF.out.below hbH)
                    have HOH := Lib.hid (HOF.out.below hbH (Nat.le_trans hBW1 HOF.out.size))
                    have RPH := Lib.hid (show Rd wH (some ⟨wF.heap.size, 0, none⟩) 3 ([(pl : Int)].map vI) by rw [hwH]; exact Rd.new wF #[.int .i64 (pl : Int)] 3)
                    have HFW := Lib.hid (show w1.heap.size ≤ wH.heap.size from HOH.out.size)
                    have HPS := Lib.hid (show (placesK N (l + 1)).map vI = (placesK N l).map vI ++ [(pl : Int)].map vI by rw [placesK_succ, List.map_append, HPL.out])
                    have HWH := Lib.hid hwH
                    clear hll hwH hbH ce0 ce3
                    go_wp2_with (first
                      | (at_builtin; rw [← HWH.out]; refine appRd 57 3 (.int .i64 0) 1 8 Tryd.underlying57 info_intN rfl (by omega) (by omega) rfl (.tmp 142) (.tmp 144) rfl w1.heap.size _ l _ (by rfl) OWH.out ⟨wF.heap.size, 0, none⟩ 1 1 ([(pl : Int)].map vI) (by rfl) _ RPH.out (by rfl) (one_ints _) (by omega) (by omega) HFW.out _ rfl ?_; intro g cp wG hown hgrow _ _; rw [← HPS.out] at hown; have OWG := Lib.hid hown; have HOG := Lib.hid (Ho.grow HOH.out (below_grow (Below.refl _ _) OWH.out hgrow HFW.out) hBW1); have HYG := Lib.hid (HYH.out.kp (Kp.grown OWH.out hgrow (by decide) (by decide) (by decide))); clear hown hgrow))
                    go_roundw
                    case rel => exact ⟨l + 1, l + 1, by omega, by have := HSP.out; omega, by go_num, HYG, HOG, OWG⟩
                    case measure => simp [intOf]; omega
              · obtain rfl : j = p := by omega
                have SG := Lib.hid (HSign_spent x0 D SL.out h N HP3.out X B wA hgB (by rw [← HNN.out]; exact HYA.out) ROA.out)
                have g1 : decide ((j : Int) ≤ (k : Int)) = true := decide_eq_true (by omega)
                have g2 : decide (j ≤ k) = true := decide_eq_true (by omega)
                have HKJ := Lib.hid hsp
                clear hj hsp
                go_wp2_with (refine at_ld 23 (.tmp 75) rfl ?_; (refine ld_digG rfl (.tmp 75) rfl (b1) (o1 + k * 32) (by rfl) D DL.out HRG.out ?_); simp only [Act.put, List.setIfInBounds_toArray, List.set_cons_zero, List.set_cons_succ])
                refine SG.out.mono ?_
                rintro e wB ⟨rfl, hya, hho⟩
                obtain ⟨E, hE⟩ : ∃ z, z = wB.heap.size := ⟨_, rfl⟩
                obtain ⟨wC, hwC⟩ : ∃ z, z = wB.alloc (.cells #[.int .i64 0, .slice none 0 0, .slice none 0 0, .int .i64 0, .slice none 0 0, .slice none 0 0] 59) := ⟨_, rfl⟩
                have hbC : Below wB.heap.size wB wC := by rw [hwC]; exact (Below.refl _ _).alloc (Nat.le_refl _) _
                have HOB := Lib.hid (HOA.out.trans hho)
                have HOC := Lib.hid (HOB.out.below hbC (Nat.le_trans hBW1 HOB.out.size))
                have HYC := Lib.hid (hya.below hbC)
                have OWC := Lib.hid (own_below (own_ho hho OWA.out (by decide) (by decide)) hbC)
                have HGC := Lib.hid (ErrVar.ho HOC.out hgE HGZ.out)
                have CE := Lib.hid (Error_err 6 6 true (by decide) wC HGC.out)
                have HE := Lib.hid hE
                have HWC := Lib.hid hwC
                clear hya hho hbC hE hwC SG HYA HOA OWA HOB HRG ROA
                go_wp2_with (first
                  | ((refine st_dblNew rfl (.tmp 16) (.tmp 78) rfl (.int .i64 0) (.slice none 0 0) (.slice none 0 0) (.int .i64 0) (.slice none 0 0) (.slice none 0 0) (by rfl) _ _ (by rfl) (by rfl) (dbl_one _ _ _ _ _ _ _ _ _ _ _ _ _ _) ?_); rw [← HE.out, ← HWC.out]))
                refine CE.out.mono ?_
                rintro e wD ⟨rfl, hbD⟩
                have HOD := Lib.hid (HOC.out.below hbD (Nat.le_trans hBW1 HOC.out.size))
                have HYD := Lib.hid (HYC.out.below hbD)
                have OWD := Lib.hid (own_below OWC.out hbD)
                have CL := Lib.hid (LeftH x0 SL.out h N HP3.out X B (N * N) 0 (by omega) wD HYD.out)
                clear hbD HOC HYC OWC CE HWC HE
                go_wp2_with fail
                refine CL.out.mono ?_
                rintro e wF ⟨rfl, hbF⟩
                have HOF := Lib.hid (HOD.out.below hbF (Nat.le_trans hBW1 HOD.out.size))
                have HYF := Lib.hid (show HyAt wF X B x0 h N j by rw [HNN.out]; exact HYD.out.below hbF)
                have OWF := Lib.hid (own_below OWD.out hbF)
                clear CL hbF HOD HYD OWD
                go_wp2_with fail
                go_roundw
                case rel => exact ⟨k + 1, j, by omega, by have := HKJ.out; omega, by go_num, HYF, HOF, OWF⟩
                case measure => simp [intOf]; omega
            · obtain rfl : k = x2.length := by omega
              obtain ⟨d, hd⟩ : ∃ d, d + j = p := ⟨p - j, by omega⟩
              have CL := Lib.hid (LeftH x0 SL.out h N HP3.out X B j d (by rw [← HNN.out]; exact hd) wA HYA.out)
              have qd : decide ((0 : Int) ≤ (d : Int)) = true := decide_eq_true (by omega)
              clear hlt hd hj
              go_wp2_with fail
              refine CL.out.mono ?_
              rintro e wF ⟨rfl, hbF⟩
              have BF := Lib.hid ((BBZ.out.trans (HOA.out.1.mono (by rw [HBz.out]; exact Nat.le_refl _))).trans (hbF.mono (Nat.le_trans BBZ.out.size HOA.out.size)))
              clear CL hbF
              go_wp2_with fail
              go_ret
              exact ⟨by first | rfl | simp, BF.out⟩
end hyperSigned
end Go.Proofs.YtkioddmhjbaleaaDoor
