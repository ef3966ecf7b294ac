/- Walks: a stamp in memory; stamp.New, Public, Left. -/
import Derived.Test.YtkioddmhjbaleaaGreatDoorRWots2
import Derived.Test.YtkioddmhjbaleaaGreatDoorFinalH
import Derived.Test.YtkioddmhjbaleaaGreatDoorTreeFold
import Derived.Test.YtkioddmhjbaleaaGreatDoorTreeFolded
namespace Go.Proofs.YtkioddmhjbaleaaGreatDoor
open Go.RowKit
set_option linter.unusedVariables false
set_option linter.unusedSimpArgs false

/-- a stamp's cells -/
def sV (seed : List UInt8) (lv : Value) (nx : Nat) : Array Value := (seed.map vB ++ [lv, .int .i64 (nx : Int)]).toArray
theorem sV_size {seed : List UInt8} (h : seed.length = 32) (lv : Value) (nx : Nat) : (sV seed lv nx).size = 34 := by simp [sV, h]
theorem sV_32 {seed : List UInt8} (h : seed.length = 32) (lv : Value) (nx : Nat) : (sV seed lv nx)[32]? = some lv := by
  unfold sV; rw [List.getElem?_toArray, List.getElem?_append_right (by simp [h])]; simp [h]
theorem sV_33 {seed : List UInt8} (h : seed.length = 32) (lv : Value) (nx : Nat) : (sV seed lv nx)[33]? = some (.int .i64 (nx : Int)) := by
  unfold sV; rw [List.getElem?_toArray, List.getElem?_append_right (by simp [h])]; simp [h]
theorem sV_seed {seed : List UInt8} (h : seed.length = 32) (lv : Value) (nx : Nat) {w : World} {P : Nat} {t : TypeId} {fr : Nat × Nat} (hg : w.heap[P]? = some (.cells (sV seed lv nx) t fr)) : w.rangeAt P 0 (seed.map vB) := by
  intro j v hj
  rw [Nat.zero_add, cell_of_row w P j _ t fr hg]
  unfold sV
  rw [List.getElem?_toArray, List.getElem?_append_left (by have := (List.getElem?_eq_some_iff.1 hj).1; exact this)]
  exact hj
theorem sV_set32 {seed : List UInt8} (h : seed.length = 32) (lv lv' : Value) (nx : Nat) : (sV seed lv nx).setIfInBounds 32 lv' = sV seed lv' nx := by
  unfold sV
  apply Array.toList_inj.1
  rw [Array.toList_setIfInBounds]
  show (seed.map vB ++ [lv, _]).set 32 lv' = seed.map vB ++ [lv', _]
  rw [List.set_append_right _ _ (by simp [h]), List.length_map, h]; rfl
theorem sV_set33 {seed : List UInt8} (h : seed.length = 32) (lv : Value) (nx nx' : Nat) : (sV seed lv nx).setIfInBounds 33 (.int .i64 (nx' : Int)) = sV seed lv nx' := by
  unfold sV
  apply Array.toList_inj.1
  rw [Array.toList_setIfInBounds]
  show (seed.map vB ++ [lv, _]).set 33 _ = seed.map vB ++ [lv, _]
  rw [List.set_append_right _ _ (by simp [h]), List.length_map, h]; rfl
theorem setCell_rowS {w : World} {b i : Nat} {cs : Array Value} {t : TypeId} {fr : Nat × Nat} (h : w.heap[b]? = some (.cells cs t fr)) (v : Value) : (w.setCell ⟨b, i, none⟩ v).heap[b]? = some (.cells (cs.setIfInBounds i v) t fr) := by
  simp [World.setCell, Array.getElem?_modify, h]
theorem run_build_stamp32 (k0 k1 k2 k3 k4 k5 k6 k7 k8 k9 k10 k11 k12 k13 k14 k15 k16 k17 k18 k19 k20 k21 k22 k23 k24 k25 k26 k27 k28 k29 k30 k31 : UInt8) (w : World) : (Instr.build 82 #[(0, .agg (dV [k0, k1, k2, k3, k4, k5, k6, k7, k8, k9, k10, k11, k12, k13, k14, k15, k16, k17, k18, k19, k20, k21, k22, k23, k24, k25, k26, k27, k28, k29, k30, k31]))]).run Tryz.prog w = .ok (.agg (sV [k0, k1, k2, k3, k4, k5, k6, k7, k8, k9, k10, k11, k12, k13, k14, k15, k16, k17, k18, k19, k20, k21, k22, k23, k24, k25, k26, k27, k28, k29, k30, k31] (.slice none 0 0) 0)) w := by kernel_rfl
theorem run_build_stamp : ∀ (key : List UInt8), key.length = 32 → ∀ w : World, (Instr.build 82 #[(0, .agg (dV key))]).run Tryz.prog w = .ok (.agg (sV key (.slice none 0 0) 0)) w := by
  intro key h
  match key, h with
  | [k0, k1, k2, k3, k4, k5, k6, k7, k8, k9, k10, k11, k12, k13, k14, k15, k16, k17, k18, k19, k20, k21, k22, k23, k24, k25, k26, k27, k28, k29, k30, k31], _ => exact run_build_stamp32 k0 k1 k2 k3 k4 k5 k6 k7 k8 k9 k10 k11 k12 k13 k14 k15 k16 k17 k18 k19 k20 k21 k22 k23 k24 k25 k26 k27 k28 k29 k30 k31
theorem bld_stamp {ops : Array Oper} {rest : List Oper} {op : Oper} {a : Act} {w : World} {Q : Exit → Act → World → Prop} (hgd : op.guard = none) (x : Operand) (ho : op.op = .build 82 #[(0, x)]) (key : List UInt8) (hk : key.length = 32) (hx : a.eval x = .agg (dV key))
    (h : wpList Tryz.prog ops Q rest (a.put op.dst (.agg (sV key (.slice none 0 0) 0))) w) : wpList Tryz.prog ops Q (op :: rest) a w := by
  refine wpList_plain hgd fun K hK => ?_
  unfold Oper.wp execOp
  simp only [ho, List.map_toArray, List.map_cons, List.map_nil, hx, Sem.run_bind, run_build_stamp key hk w, Result.andThen_ok, Sem.run_pure]
  exact hK _ _ h
/-- a stamp that is made: k leaves yet -/
structure NewI (w : World) (S P : Nat) (seed : List UInt8) (k : Nat) (v : Value) (wr : World) : Prop where
  p : wr.heap[P]? = some (.cells (sV seed v 0) 82 (0, 0))
  own : wr.ownsRow (P + 1) 23 32 v k ((leavesK seed k).flatten.map vB)
  s : wr.heap[S]? = some (.cells (dV seed) 23 (0, 0))
  bel : Below w.heap.size w wr
/-- a stamp with n keys, of which nx are used -/
def StampAt (w : World) (P : Nat) (seed : List UInt8) (n nx : Nat) : Prop := ∃ la cap, w.heap[P]? = some (.cells (sV seed (.slice la n cap) nx) 82 (0, 0)) ∧ n ≤ cap ∧ cap ≤ 9223372036854775807 ∧ Rd w la 23 ((leavesK seed n).flatten.map vB) ∧ ∀ x, la = some x → x.block ≠ P
theorem StampAt.lt {w : World} {P : Nat} {seed : List UInt8} {n nx : Nat} (h : StampAt w P seed n nx) : P < w.heap.size := by
  obtain ⟨_, _, h, _⟩ := h; exact lt_of_heap h
theorem StampAt.below {w w' : World} {P : Nat} {seed : List UInt8} {n nx : Nat} (h : StampAt w P seed n nx) (hb : Below w.heap.size w w') : StampAt w' P seed n nx := by
  obtain ⟨la, cap, h1, h2, h3, h4, h5⟩ := h
  exact ⟨la, cap, (hb.block _ (lt_of_heap h1)).trans h1, h2, h3, h4.below hb, h5⟩
def NewPostS (w : World) (seed : List UInt8) (n : Nat) (e : Ending) (w' : World) : Prop :=
  ∃ P, e = .returned (.tuple #[.pointer (some ⟨P, 0, none⟩), .nilIface]) ∧ w.heap.size ≤ P ∧ StampAt w' P seed n 0 ∧ Below w.heap.size w w'
def F13 : Nat → Bool := fun j => j == 13
theorem F13_in : ∀ j, F13 j = true → j ∈ [13] := fun j h => by unfold F13 at h; simpa using h
theorem StampNew_bad (seed : List UInt8) (h : Int) (hh : h < 0 ∨ 4 < h) (w : World) : Calls Tryz.prog 27 #[.agg (dV seed), .int .i64 h] w fun e w' => e = .returned (.tuple #[.pointer none, .iface 29 (.int .i64 2)]) ∧ Below w.heap.size w w' := by
  rcases hh with h1 | h1
  · go_enter Tryz.func27, Tryz.ntmps27
    go_wp2_with fail
    go_ret2
    exact ⟨rfl, (Below.refl _ _).alloc (Nat.le_refl _) _⟩
  · have h2 : ¬ h < 0 := by omega
    go_enter Tryz.func27, Tryz.ntmps27
    go_wp2_with fail
    go_ret2
    exact ⟨rfl, (Below.refl _ _).alloc (Nat.le_refl _) _⟩
theorem own_setCell_otherS {w : World} {base : Nat} {e : TypeId} {size : Nat} {g n cap : Nat} {xs : List Value} (h : w.ownsRow base e size (.slice (some ⟨g, 0, none⟩) n cap) n xs) {p : Addr} (hp : p.block ≠ g) {u : Value} : (w.setCell p u).ownsRow base e size (.slice (some ⟨g, 0, none⟩) n cap) n xs := by
  refine ⟨h.1, ?_⟩
  rcases h.2 with h | ⟨g', cap', cur, h1, h2, h3, h4⟩
  · exact .inl h
  · simp only [Value.slice.injEq, Option.some.injEq, Addr.mk.injEq] at h1
    obtain ⟨⟨rfl, _⟩, _, rfl⟩ := h1
    exact .inr ⟨g, cap, cur, rfl, h2, (Below.heap_setCell _ _ _ _ (fun e => hp e.symm)).trans h3, h4⟩
set_option maxRecDepth 20000 in
set_option maxHeartbeats 4000000 in
theorem StampNew_ok (seed : List UInt8) (hs : seed.length = 32) (h : Nat) (hh : h ≤ 4) (w : World) (hro : RoundsAt w) : Calls Tryz.prog 27 #[.agg (dV seed), .int .i64 (h : Int)] w (NewPostS w seed (2 ^ h)) := by
  have SL := Lib.hid hs
  have RO := Lib.hid hro
  have HIS := Lib.hid (show (Tryz.prog.info? 23).map (·.size) = some (seed.map vB).length by rw [List.length_map, hs]; exact dig_size)
  have e3 : IntKind.i64.wrap ((2 : Int) ^ h) = ((2 ^ h : Nat) : Int) := by
    rw [IntKind.wrap_i64]
    obtain rfl | rfl | rfl | rfl | rfl : h = 0 ∨ h = 1 ∨ h = 2 ∨ h = 3 ∨ h = 4 := by omega
    all_goals rfl
  obtain ⟨n, hn⟩ : ∃ n, n = 2 ^ h := ⟨_, rfl⟩
  have hn16 : n ≤ 16 := by rw [hn]; exact Nat.le_trans (Nat.pow_le_pow_right (by omega) hh) (by decide)
  have E5 := Lib.hid (show (2 : Int) ^ h = (n : Int) by rw [hn, Int.natCast_pow]; rfl)
  rw [← hn] at e3 ⊢
  have q1 : decide ((h : Int) < 0) = false := decide_eq_false (by omega)
  have q2 : decide ((4 : Int) < (h : Int)) = false := decide_eq_false (by omega)
  have q3 : decide (4 < h) = false := decide_eq_false (by omega)
  have h0 : (0 : Int) ≤ (h : Int) := by omega
  clear hs hro hn
  obtain ⟨S, hS⟩ : ∃ z, z = w.heap.size := ⟨_, rfl⟩
  obtain ⟨w1, hw1⟩ : ∃ z, z = w.alloc (.cells (dV seed) 23) := ⟨_, rfl⟩
  have st1 : Below w.heap.size w w1 := by rw [hw1]; exact (Below.refl _ _).alloc (Nat.le_refl _) _
  have B1 := Lib.hid (show Below w.heap.size w w1 from Below.trans (Below.refl w.heap.size w) (Below.mono st1 (Below.size (Below.refl w.heap.size w))))
  have GS_1 := Lib.hid (show w1.heap[S]? = some (.cells (dV seed) 23 (0, 0)) by rw [hw1, hS]; exact heap_alloc_new _ _)
  have LS_1 := Lib.hid (lt_of_heap GS_1.out)
  have HS := Lib.hid hS
  have Hw1 := Lib.hid hw1
  clear hS hw1 st1
  have SZS := Lib.hid (show S = w.heap.size from HS.out)
  go_enter Tryz.func27, Tryz.ntmps27
  go_upto_region 1 with fail
  rw [← SZS.out, ← Hw1.out]
  obtain ⟨P, hP⟩ : ∃ z, z = w1.heap.size := ⟨_, rfl⟩
  obtain ⟨w2, hw2⟩ : ∃ z, z = w1.alloc (.cells (sV seed (.slice none 0 0) 0) 82) := ⟨_, rfl⟩
  have st2 : Below w1.heap.size w1 w2 := by rw [hw2]; exact (Below.refl _ _).alloc (Nat.le_refl _) _
  have B2 := Lib.hid (show Below w.heap.size w w2 from Below.trans B1.out (Below.mono st2 (Below.size B1.out)))
  have GS_2 := Lib.hid ((Below.block st2 S LS_1.out).trans GS_1.out)
  have LS_2 := Lib.hid (Nat.lt_of_lt_of_le LS_1.out (Below.size st2))
  have GP_2 := Lib.hid (show w2.heap[P]? = some (.cells (sV seed (.slice none 0 0) 0) 82 (0, 0)) by rw [hw2, hP]; exact heap_alloc_new _ _)
  have LP_2 := Lib.hid (lt_of_heap GP_2.out)
  have HP := Lib.hid hP
  have Hw2 := Lib.hid hw2
  clear hP hw2 st2
  go_wp2_with (first
    | (refine at_ld 23 (.tmp 2) rfl ?_; (refine ld_digG rfl (.tmp 2) rfl (S) 0 (by rfl) seed SL.out (range_of_row GS_1.out) ?_); simp only [Act.put, List.setIfInBounds_toArray, List.set_cons_zero, List.set_cons_succ])
    | (refine bld_stamp rfl (.tmp 15) rfl seed SL.out (by rfl) ?_))
  rw [← HP.out, ← Hw2.out]
  have hSw : w.heap.size ≤ S := by rw [SZS.out]; exact Nat.le_refl _
  have hSP : S < P := by rw [HP.out]; exact LS_1.out
  have N0 := Lib.hid (show NewI w S P seed 0 (.slice none 0 0) w2 from ⟨GP_2.out, World.ownsRow_nil _ _ _ _, GS_2.out, B2.out⟩)
  go_loopw [7, 20] (fun i q wr => ∃ (k : Nat) (v : Value), k ≤ n ∧ q = .int .i64 k ∧ Hid (NewI w S P seed k v wr)) (fun _ q _ => n - (intOf q).toNat)
  case atStart => exact ⟨0, _, Nat.zero_le _, rfl, N0⟩
  case round =>
    obtain ⟨k, v, hk, rfl, HI⟩ := hrel
    by_cases hlt : k < n
    · obtain ⟨va, vc, hv⟩ := own_slice HI.out.own
      subst hv
      obtain ⟨wd, hwd⟩ : ∃ z, z = wr.drew := ⟨_, rfl⟩
      have GP := Lib.hid (show wd.heap[P]? = some (.cells (sV seed (.slice va k vc) 0) 82 (0, 0)) by rw [hwd]; exact HI.out.p)
      have GS := Lib.hid (show wd.heap[S]? = some (.cells (dV seed) 23 (0, 0)) by rw [hwd]; exact HI.out.s)
      have HO := Lib.hid (show wd.ownsRow (P + 1) 23 32 (.slice va k vc) k ((leavesK seed k).flatten.map vB) by rw [hwd]; exact own_drew HI.out.own)
      have HB := Lib.hid (show Below w.heap.size w wd by rw [hwd]; exact HI.out.bel.drew)
      have ROd := Lib.hid (RO.out.at_ HB.out)
      have hPd : P < wd.heap.size := lt_of_heap GP.out
      have hSd : S < wd.heap.size := lt_of_heap GS.out
      have KS : ∀ w', Below wd.heap.size wd w' → (w'.heap[P]? = some (.cells (sV seed (.slice va k vc) 0) 82 (0, 0)) ∧ w'.heap[S]? = some (.cells (dV seed) 23 (0, 0))) := fun w' hb => ⟨(hb.block P hPd).trans GP.out, (hb.block S hSd).trans GS.out⟩
      have HKS := Lib.hid KS
      have kl : k < 256 := by omega
      have C7 := Lib.hid (StampKey_calls seed SL.out (UInt8.ofNat k) wd ROd.out)
      rw [ofNat_k k kl] at C7
      have hFs := F13_in
      clear HI KS
      go_wp2_with fail
      rw [show (macOf seed [11, UInt8.ofNat k]) = skey seed k from rfl] at C7
      refine wp_region_final_drew F13 (fun w' => w'.heap[P]? = some (.cells (sV seed (.slice va k vc) 0) 82 (0, 0)) ∧ w'.heap[S]? = some (.cells (dV seed) 23 (0, 0))) (by kernel_rfl) (by rw [← hwd]; exact ⟨GP.out, GS.out⟩) (fun hHeld => ?_)
      rw [← hwd] at hHeld ⊢
      clear hwd
      refine wpAnyF_take (fs := [13]) (i := 0) (oi := _) (v := .pointer (some ⟨P, 0, none⟩)) rfl (by kernel_rfl) (by kernel_rfl) (by kernel_rfl) hFs rfl (by kernel_rfl) (fun _ _ _ h => h) (Or.inl ⟨by rfl, fun w hw => by go_simp⟩) hHeld ?_
      simp only [Act.put, List.getElem_toArray, List.getElem_cons_zero, List.getElem_cons_succ, List.setIfInBounds_toArray, List.set_cons_zero, List.set_cons_succ]
      refine wpAnyF_take (fs := [13]) (i := 1) (oi := _) (v := .pointer (some ⟨P, 0, none⟩)) rfl (by kernel_rfl) (by kernel_rfl) (by kernel_rfl) hFs rfl (by kernel_rfl) (fun _ _ _ h => h) (Or.inl ⟨by rfl, fun w hw => by go_simp⟩) hHeld ?_
      simp only [Act.put, List.getElem_toArray, List.getElem_cons_zero, List.getElem_cons_succ, List.setIfInBounds_toArray, List.set_cons_zero, List.set_cons_succ]
      refine wpAnyF_take (fs := [13]) (i := 2) (oi := _) (v := .pointer (some ⟨P, 0, none⟩)) rfl (by kernel_rfl) (by kernel_rfl) (by kernel_rfl) hFs rfl (by kernel_rfl) (fun _ _ _ h => h) (Or.inl ⟨by rfl, fun w hw => by go_simp⟩) hHeld ?_
      simp only [Act.put, List.getElem_toArray, List.getElem_cons_zero, List.getElem_cons_succ, List.setIfInBounds_toArray, List.set_cons_zero, List.set_cons_succ]
      refine wpAnyF_take (fs := [13]) (i := 3) (oi := _) (v := .pointer (some ⟨P, 32, none⟩)) rfl (by kernel_rfl) (by kernel_rfl) (by kernel_rfl) hFs rfl (by kernel_rfl) (fun _ _ _ h => h) (Or.inl ⟨by rfl, fun w hw => by go_simp⟩) hHeld ?_
      simp only [Act.put, List.getElem_toArray, List.getElem_cons_zero, List.getElem_cons_succ, List.setIfInBounds_toArray, List.set_cons_zero, List.set_cons_succ]
      refine wpAnyF_take (fs := [13]) (i := 4) (oi := _) (v := .slice va k vc) rfl (by kernel_rfl) (by kernel_rfl) (by kernel_rfl) hFs rfl (by kernel_rfl) (fun _ _ _ h => h) (Or.inl ⟨by rfl, fun w hw => by have hcc := cell_of_row _ P 32 _ _ _ hw.1; rw [sV_32 SL.out] at hcc; go_simp⟩) hHeld ?_
      simp only [Act.put, List.getElem_toArray, List.getElem_cons_zero, List.getElem_cons_succ, List.setIfInBounds_toArray, List.set_cons_zero, List.set_cons_succ]
      refine wpAnyF_take (fs := [13]) (i := 5) (oi := _) (v := _) rfl (by kernel_rfl) (by kernel_rfl) (by kernel_rfl) hFs rfl (by kernel_rfl) (fun _ _ _ h => h) (yieldsIf_load_mid (by rfl) _ _ rfl _ _ rfl (seed.map vB) _ (fun w hw => range_of_row hw.2) Tryz.underlying23 rfl HIS.out) hHeld ?_
      simp only [Act.put, List.getElem_toArray, List.getElem_cons_zero, List.getElem_cons_succ, List.setIfInBounds_toArray, List.set_cons_zero, List.set_cons_succ]
      refine wpAnyF_take (fs := [13]) (i := 6) (oi := _) (v := .int .i64 (k : Int)) rfl (by kernel_rfl) (by kernel_rfl) (by kernel_rfl) hFs rfl (by kernel_rfl) (fun _ _ _ h => h) (Or.inl ⟨by rfl, fun w hw => by go_simp⟩) hHeld ?_
      simp only [Act.put, List.getElem_toArray, List.getElem_cons_zero, List.getElem_cons_succ, List.setIfInBounds_toArray, List.set_cons_zero, List.set_cons_succ]
      refine wpAnyF_ready (rs := [7]) (by kernel_rfl) (by simp) ?_
      refine AllReadyF.cons (o := _) rfl (fun K hK => ?_) AllReadyF.nil
      have HK := Lib.hid hK
      clear hK
      go_simp
      go_at_call 50
      refine C7.out.mono ?_
      rintro e w1 ⟨rfl, hb1⟩
      have B1 := Lib.hid hb1
      clear hb1
      dsimp only
      refine HK.out _ _ (fun _ => (HKS.out w1 B1.out)) ?_
      clear HK K hHeld
      try simp only [Act.put, List.getElem_toArray, List.getElem_cons_zero, List.getElem_cons_succ, List.setIfInBounds_toArray, List.set_cons_zero, List.set_cons_succ]
      have hHeld := (HKS.out w1 B1.out)
      refine wpAnyF_ready (rs := [8]) (by kernel_rfl) (by simp) ?_
      refine AllReadyF.cons (o := _) rfl (fun K hK => ?_) AllReadyF.nil
      have HK := Lib.hid hK
      clear hK
      go_simp
      go_at_call 49
      refine (WPublic_calls (skey seed k) (skey_length seed k) w1 (ROd.out.at_ B1.out)).mono ?_
      rintro e w2 ⟨rfl, hb2⟩
      have B2 := Lib.hid (B1.out.trans (hb2.mono B1.out.size))
      clear hb2
      dsimp only
      refine HK.out _ _ (fun _ => (HKS.out w2 B2.out)) ?_
      clear HK K hHeld
      try simp only [Act.put, List.getElem_toArray, List.getElem_cons_zero, List.getElem_cons_succ, List.setIfInBounds_toArray, List.set_cons_zero, List.set_cons_succ]
      have hHeld := (HKS.out w2 B2.out)
      obtain ⟨R, hR⟩ : ∃ R, R = wpub (skey seed k) := ⟨_, rfl⟩
      rw [← hR]
      have RL := Lib.hid (show R.length = 32 by rw [hR]; exact wpub_length _)
      have HFL := Lib.hid (show (leavesK seed (k + 1)).flatten.map vB = (leavesK seed k).flatten.map vB ++ R.map vB by rw [hR, leavesK_succ]; exact flat_snoc _ _)
      clear hR
      obtain ⟨X, hX⟩ : ∃ z, z = w2.heap.size := ⟨_, rfl⟩
      obtain ⟨w3, hw3⟩ : ∃ z, z = w2.alloc (.cells (dV R) 23) := ⟨_, rfl⟩
      have B3 := Lib.hid (show Below wd.heap.size wd w3 by rw [hw3]; exact B2.out.alloc B2.out.size _)
      have GX := Lib.hid (show w3.heap[X]? = some (.cells (dV R) 23 (0, 0)) by rw [hw3, hX]; exact heap_alloc_new _ _)
      have HX := Lib.hid hX
      have HW3 := Lib.hid hw3
      clear hX hw3
      refine wpAnyF_ready (rs := [9]) (by kernel_rfl) (by simp) ?_
      refine AllReadyF.cons (o := _) rfl (fun K hK => ?_) AllReadyF.nil
      have HK := Lib.hid hK
      clear hK
      refine stepBuild1 24 23 _ 32 32 Tryz.underlying24 info_digz2 (by omega) (by omega) rfl _ rfl (dV R) (by rfl) (dV_size RL.out) ?_
      rw [← HX.out, ← HW3.out]
      refine HK.out _ _ (fun _ => (HKS.out w3 B3.out)) ?_
      clear HK K hHeld
      try simp only [Act.put, List.getElem_toArray, List.getElem_cons_zero, List.getElem_cons_succ, List.setIfInBounds_toArray, List.set_cons_zero, List.set_cons_succ]
      have hHeld := (HKS.out w3 B3.out)
      have O3 := Lib.hid (own_below HO.out B3.out)
      have hs3 : P + 1 ≤ w3.heap.size := Nat.le_trans hPd B3.out.size
      refine wpAnyF_ready (rs := [10]) (by kernel_rfl) (by simp) ?_
      refine AllReadyF.cons (o := _) rfl (fun K hK => ?_) AllReadyF.nil
      have HK := Lib.hid hK
      clear hK
      refine stepAppRdR 24 23 (.agg (dV nz)) 32 32 Tryz.underlying24 info_digz2 (dV_size rfl) (by omega) rfl (.tmp 27) (.tmp 32) rfl (P + 1) _ k _ (by rfl) O3.out ⟨X, 0, none⟩ 1 1 (R.map vB) (by rfl) _ (rd_of_row GX.out) (by rw [List.length_map, RL.out]) (one_bytes R) (by omega) (by omega) (by omega) hs3 _ rfl ?_
      intro g cp w9 hown9 hgrow9 _ _
      rw [← HFL.out] at hown9
      have hg9 : P < g := (hown9.lt g rfl).1
      have b39 : Below (P + 1) w3 w9 := below_grow (Below.refl _ _) O3.out hgrow9 hs3
      have G9P := Lib.hid ((b39.block P (Nat.lt_succ_self P)).trans (HKS.out w3 B3.out).1)
      have G9S := Lib.hid ((b39.block S (Nat.lt_succ_of_lt hSP)).trans (HKS.out w3 B3.out).2)
      have B9 := Lib.hid (show Below w.heap.size w w9 from (HB.out.trans (B3.out.mono HB.out.size)).trans (b39.mono (by omega)))
      have O9 := Lib.hid hown9
      clear hown9 hgrow9 b39
      refine HK.out _ _ (fun _ => (show _ ∧ _ from ⟨G9P.out, G9S.out⟩)) ?_
      clear HK K hHeld
      try simp only [Act.put, List.getElem_toArray, List.getElem_cons_zero, List.getElem_cons_succ, List.setIfInBounds_toArray, List.set_cons_zero, List.set_cons_succ]
      have hHeld := (show _ ∧ _ from ⟨G9P.out, G9S.out⟩)
      refine wpAnyF_take (fs := [13]) (i := 11) (oi := _) (v := .pointer (some ⟨P, 0, none⟩)) rfl (by kernel_rfl) (by kernel_rfl) (by kernel_rfl) hFs rfl (by kernel_rfl) (fun _ _ _ h => h) (Or.inl ⟨by rfl, fun w hw => by go_simp⟩) hHeld ?_
      simp only [Act.put, List.getElem_toArray, List.getElem_cons_zero, List.getElem_cons_succ, List.setIfInBounds_toArray, List.set_cons_zero, List.set_cons_succ]
      refine wpAnyF_take (fs := [13]) (i := 12) (oi := _) (v := .pointer (some ⟨P, 32, none⟩)) rfl (by kernel_rfl) (by kernel_rfl) (by kernel_rfl) hFs rfl (by kernel_rfl) (fun _ _ _ h => h) (Or.inl ⟨by rfl, fun w hw => by go_simp⟩) hHeld ?_
      simp only [Act.put, List.getElem_toArray, List.getElem_cons_zero, List.getElem_cons_succ, List.setIfInBounds_toArray, List.set_cons_zero, List.set_cons_succ]
      have c32 := cell_of_row _ P 32 _ _ _ G9P.out
      rw [sV_32 SL.out] at c32
      have f32 := frozen_of_row w9 P 32 _ _ G9P.out
      refine wpAnyF_ready (rs := [13]) (by kernel_rfl) (by simp) ?_
      refine AllReadyF.cons (o := _) rfl (fun K hK => ?_) AllReadyF.nil
      have HK := Lib.hid hK
      clear hK
      go_simp
      refine HK.out _ _ (fun hcl => by have := hcl 13 rfl; exact absurd this (by decide)) ?_
      clear HK K hHeld
      try simp only [Act.put, List.getElem_toArray, List.getElem_cons_zero, List.getElem_cons_succ, List.setIfInBounds_toArray, List.set_cons_zero, List.set_cons_succ]
      refine wpAnyF_done (by kernel_rfl) ?_ _
      have N9 := Lib.hid (show NewI w S P seed (k + 1) (.slice (some ⟨g, 0, none⟩) (k + 1) cp) (w9.setCell ⟨P, 32, none⟩ (.slice (some ⟨g, 0, none⟩) (k + 1) cp)) from ⟨by rw [setCell_rowS G9P.out, sV_set32 SL.out], own_setCell_otherS O9.out (by show P ≠ g; omega), (Below.heap_setCell _ _ _ _ (by show S ≠ P; omega)).trans G9S.out, B9.out.setCell (p := ⟨P, 32, none⟩) (by show w.heap.size ≤ P; omega) _⟩)
      clear c32 f32
      go_wp2_with fail
      go_roundw
      case rel => exact ⟨k + 1, _, by omega, by go_num, N9⟩
      case measure => simp [intOf]; omega
    · obtain rfl : k = n := by omega
      obtain ⟨va, vc, hv⟩ := own_slice HI.out.own
      subst hv
      have hcp := own_cappW HI.out.own
      have SA := Lib.hid (show StampAt wr P seed k 0 from ⟨va, vc, HI.out.p, hcp.1, hcp.2, Rd.of_own HI.out.own, fun x hx => by subst hx; have := (HI.out.own.lt x.block rfl).1; omega⟩)
      clear hcp
      go_wp2_with fail
      go_ret2
      exact ⟨P, rfl, by omega, SA.out, HI.out.bel⟩
end Go.Proofs.YtkioddmhjbaleaaGreatDoor
