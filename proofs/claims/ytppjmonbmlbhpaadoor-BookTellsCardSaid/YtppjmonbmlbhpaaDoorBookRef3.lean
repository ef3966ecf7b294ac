/- Walks: the document's One. -/
import Derived.Test.YtppjmonbmlbhpaaDoorBookRef1
import Derived.Test.YtppjmonbmlbhpaaDoorScanLaw
import Derived.Test.YtppjmonbmlbhpaaDoorBoth
import Derived.Test.YtppjmonbmlbhpaaDoorBookRef2
namespace Go.Proofs.YtppjmonbmlbhpaaDoor
open Go.RowKit
set_option linter.unusedVariables false
set_option linter.unusedSimpArgs false
set_option maxRecDepth 20000 in
set_option maxHeartbeats 4000000 in
theorem One_calls (c d : Ct) (hc : CtW c) (hd : CtW d) (hn : c.name = d.name) (hc1 : 1 ≤ c.lvl ∧ c.lvl ≤ 4) (hd1 : 1 ≤ d.lvl ∧ d.lvl ≤ 4) (w : World) :
    Calls Tryd.prog 18 #[.agg (cV c), .agg (cV d)] w fun e w' => e = .returned (.agg (cV (bothC c d))) ∧ Below w.heap.size w w' := by
  have hboth := both_W hc hd hc1.1 hc1.2
  have hone := one_both hn hc1 hd1
  rw [← hone] at hboth ⊢
  have HB := Lib.hid hboth
  have HC := Lib.hid hc
  have HD := Lib.hid hd
  obtain ⟨x, hx⟩ : ∃ x, x = c.lvl := ⟨_, rfl⟩
  obtain ⟨y, hy⟩ : ∃ y, y = d.lvl := ⟨_, rfl⟩
  have HX := Lib.hid hx
  have HY := Lib.hid hy
  obtain ⟨kz, hkz⟩ : ∃ kz, (c.key == d.key) = kz := ⟨_, rfl⟩
  have HKZ := Lib.hid hkz
  clear hx hy hboth hone hn hc1 hd1 hkz
  have hC := heap_alloc_new w (.cells (cV c) 37)
  obtain ⟨V, hV⟩ : ∃ V : Array Value, V = #[.string ⟨#[]⟩, .int .u8 0, .int .u8 0, .int .u8 0, .int .u8 0, .int .u8 0, .int .u8 0, .int .u8 0, .int .u8 0, .int .u8 0, .int .u8 0, .int .u8 0, .int .u8 0, .int .u8 0, .int .u8 0, .int .u8 0, .int .u8 0, .int .u8 0, .int .u8 0, .int .u8 0, .int .u8 0, .int .u8 0, .int .u8 0, .int .u8 0, .int .u8 0, .int .u8 0, .int .u8 0, .int .u8 0, .int .u8 0, .int .u8 0, .int .u8 0, .int .u8 0, .int .u8 0, .int .i64 0] := ⟨_, rfl⟩
  have hVs : V.size = 34 := by rw [hV]; rfl
  have HV := Lib.hid hV
  obtain ⟨H, hH⟩ : ∃ H, H = w.heap.size := ⟨_, rfl⟩
  obtain ⟨w3, hw3⟩ : ∃ w3, w3 = (((w.alloc (.cells (cV c) 37)).alloc (.cells (cV d) 37)).alloc (.cells V 37)) := ⟨_, rfl⟩
  have s1 : (w.alloc (.cells (cV c) 37)).heap.size = H + 1 := by rw [hH]; exact World.size_alloc _ _
  have s2 : ((w.alloc (.cells (cV c) 37)).alloc (.cells (cV d) 37)).heap.size = H + 2 := by rw [World.size_alloc, s1]
  have s3 : w3.heap.size = H + 3 := by rw [hw3, World.size_alloc, s2]
  have b1 : Below H w (w.alloc (.cells (cV c) 37)) := (Below.refl _ _).alloc (by omega) _
  have b2 : Below H w ((w.alloc (.cells (cV c) 37)).alloc (.cells (cV d) 37)) := b1.alloc (by omega) _
  have b3 : Below H w w3 := by rw [hw3]; exact b2.alloc (by omega) _
  have f1 : w3.heap[H]? = some (.cells (cV c) 37 (0, 0)) := by
    rw [hw3]
    refine (Below.heap_alloc _ _ _ (by omega)).trans ((Below.heap_alloc _ _ _ (by omega)).trans ?_)
    rw [hH]; exact heap_alloc_new w _
  have f2 : w3.heap[H + 1]? = some (.cells (cV d) 37 (0, 0)) := by
    rw [hw3]
    refine (Below.heap_alloc _ _ _ (by omega)).trans ?_
    rw [← s1]; exact heap_alloc_new _ _
  have f3 : w3.heap[H + 2]? = some (.cells V 37 (0, 0)) := by
    rw [hw3, ← s2]; exact heap_alloc_new _ _
  have F1 := Lib.hid f1
  have F2 := Lib.hid f2
  have F3 := Lib.hid f3
  have B3 := Lib.hid b3
  have c1 := range_lvl hc (range_rec f1)
  have c2 := range_lvl hd (range_rec f2)
  have cn := range_name (range_rec f1)
  simp only [Nat.zero_add] at c1 c2
  have HW3 := Lib.hid hw3
  have HH := Lib.hid hH
  rw [← HX.out] at c1
  rw [← HY.out] at c2
  clear b1 b2 b3 f1 f2 f3 s1 s2 hC hc hd hV hw3
  go_enter Tryd.func18, Tryd.ntmps18
  go_upto_region 1 with fail
  rw [← HV.out, ← HW3.out, ← HH.out]
  clear HW3 HV hH
  by_cases hx3 : 3 ≤ x
  · have p1 : decide (3 ≤ x) = true := decide_eq_true hx3
    have p2 : decide (x < 3) = false := by rw [decide_eq_false]; omega
    by_cases hy3 : 3 ≤ y
    · have p3 : decide (3 ≤ y) = true := decide_eq_true hy3
      have p4 : decide (y < 3) = false := by rw [decide_eq_false]; omega
      cases kz with
      | true =>
        by_cases hxy : x = y
        · have hbb : oneC c d = c := by unfold oneC; rw [← HX.out, ← HY.out, if_neg (by omega), if_neg (by omega), if_pos ⟨by simpa using HKZ.out, hxy⟩]
          have HBB := Lib.hid hbb
          have q : decide (x = y) = true := decide_eq_true hxy
          have q' : (x == y) = true := by simpa using hxy
          clear hbb hx3 hy3
          go_wp2_with (first
            | (refine ld_recMG contT (by rfl) (.tmp 2) rfl H 0 (by rfl) c HC.out (range_rec F1.out) ?_)
            | (refine ld_recMG contT (by rfl) (.tmp 3) rfl (H + 1) 0 (by rfl) d HD.out (range_rec F2.out) ?_)
            | ((refine ld_digG rfl (.tmp 23) rfl H 1 (by rfl) c.key HC.out.1 (range_key HC.out (range_rec F1.out)) ?_); simp only [Act.put, List.setIfInBounds_toArray, List.set_cons_zero, List.set_cons_succ])
            | ((refine ld_digG rfl (.tmp 25) rfl (H + 1) 1 (by rfl) d.key HD.out.1 (range_key HD.out (range_rec F2.out)) ?_); simp only [Act.put, List.setIfInBounds_toArray, List.set_cons_zero, List.set_cons_succ])
            | ((refine eq_digG rfl (.tmp 24) (.tmp 26) _ rfl c.key d.key (by rfl) (by rfl) HC.out.1 HD.out.1 ?_); rw [HKZ.out]; simp only [Act.put, List.setIfInBounds_toArray, List.set_cons_zero, List.set_cons_succ])
            | (refine st_rec contT rfl (.tmp 4) (.tmp 35) rfl (H + 2) c HC.out (by rfl) (by rfl) V hVs _ F3.out ?_))
          try simp only [Exit.inBlock, Exit.then]
          refine bodyPost_ret (v := .agg (cV c)) (results_cell rfl _ _ _ ⟨H + 2, 0, none⟩ _ rfl ?_) rfl ?_
          · exact cont_load HC.out (range_rec (setRow_heap _ _ _ _ _ _ F3.out))
          · exact ⟨by rw [HBB.out], by rw [← HH.out]; exact below_setRow B3.out (by omega) _⟩
        · have hbb : oneC c d = ⟨c.name, noKey, 4⟩ := by unfold oneC; rw [← HX.out, ← HY.out, if_neg (by omega), if_neg (by omega), if_neg (fun e => hxy e.2), if_pos hx3]
          have hbw : CtW ⟨c.name, noKey, 4⟩ := by rw [← hbb]; exact HB.out
          have HBB := Lib.hid hbb
          have HBW := Lib.hid hbw
          have q : decide (x = y) = false := decide_eq_false hxy
          have q' : (x == y) = false := by simpa using hxy
          clear hbb hx3 hy3 hbw
          go_wp2_with (first
            | (refine ld_recMG contT (by rfl) (.tmp 2) rfl H 0 (by rfl) c HC.out (range_rec F1.out) ?_)
            | (refine ld_recMG contT (by rfl) (.tmp 3) rfl (H + 1) 0 (by rfl) d HD.out (range_rec F2.out) ?_)
            | ((refine ld_digG rfl (.tmp 23) rfl H 1 (by rfl) c.key HC.out.1 (range_key HC.out (range_rec F1.out)) ?_); simp only [Act.put, List.setIfInBounds_toArray, List.set_cons_zero, List.set_cons_succ])
            | ((refine ld_digG rfl (.tmp 25) rfl (H + 1) 1 (by rfl) d.key HD.out.1 (range_key HD.out (range_rec F2.out)) ?_); simp only [Act.put, List.setIfInBounds_toArray, List.set_cons_zero, List.set_cons_succ])
            | ((refine eq_digG rfl (.tmp 24) (.tmp 26) _ rfl c.key d.key (by rfl) (by rfl) HC.out.1 HD.out.1 ?_); rw [HKZ.out]; simp only [Act.put, List.setIfInBounds_toArray, List.set_cons_zero, List.set_cons_succ])
            | (refine st_rec contT rfl (.tmp 4) (.tmp 41) rfl (H + 2) ⟨c.name, noKey, 4⟩ HBW.out (by rfl) (by rfl) V hVs _ F3.out ?_))
          try simp only [Exit.inBlock, Exit.then]
          refine bodyPost_ret (v := .agg (cV ⟨c.name, noKey, 4⟩)) (results_cell rfl _ _ _ ⟨H + 2, 0, none⟩ _ rfl ?_) rfl ?_
          · exact cont_load HBW.out (range_rec (setRow_heap _ _ _ _ _ _ F3.out))
          · exact ⟨by rw [HBB.out], by rw [← HH.out]; exact below_setRow B3.out (by omega) _⟩
      | false =>
        have hne : ¬ c.key = d.key := by simpa using HKZ.out
        have hbb : oneC c d = ⟨c.name, noKey, 4⟩ := by unfold oneC; rw [← HX.out, ← HY.out, if_neg (by omega), if_neg (by omega), if_neg (fun e => hne e.1), if_pos hx3]
        have hbw : CtW ⟨c.name, noKey, 4⟩ := by rw [← hbb]; exact HB.out
        have HBB := Lib.hid hbb
        have HBW := Lib.hid hbw
        clear hbb hx3 hy3 hbw hne
        go_wp2_with (first
          | (refine ld_recMG contT (by rfl) (.tmp 2) rfl H 0 (by rfl) c HC.out (range_rec F1.out) ?_)
          | (refine ld_recMG contT (by rfl) (.tmp 3) rfl (H + 1) 0 (by rfl) d HD.out (range_rec F2.out) ?_)
          | ((refine ld_digG rfl (.tmp 23) rfl H 1 (by rfl) c.key HC.out.1 (range_key HC.out (range_rec F1.out)) ?_); simp only [Act.put, List.setIfInBounds_toArray, List.set_cons_zero, List.set_cons_succ])
          | ((refine ld_digG rfl (.tmp 25) rfl (H + 1) 1 (by rfl) d.key HD.out.1 (range_key HD.out (range_rec F2.out)) ?_); simp only [Act.put, List.setIfInBounds_toArray, List.set_cons_zero, List.set_cons_succ])
          | ((refine eq_digG rfl (.tmp 24) (.tmp 26) _ rfl c.key d.key (by rfl) (by rfl) HC.out.1 HD.out.1 ?_); rw [HKZ.out]; simp only [Act.put, List.setIfInBounds_toArray, List.set_cons_zero, List.set_cons_succ])
          | (refine st_rec contT rfl (.tmp 4) (.tmp 41) rfl (H + 2) ⟨c.name, noKey, 4⟩ HBW.out (by rfl) (by rfl) V hVs _ F3.out ?_))
        try simp only [Exit.inBlock, Exit.then]
        refine bodyPost_ret (v := .agg (cV ⟨c.name, noKey, 4⟩)) (results_cell rfl _ _ _ ⟨H + 2, 0, none⟩ _ rfl ?_) rfl ?_
        · exact cont_load HBW.out (range_rec (setRow_heap _ _ _ _ _ _ F3.out))
        · exact ⟨by rw [HBB.out], by rw [← HH.out]; exact below_setRow B3.out (by omega) _⟩
    · have p3 : decide (3 ≤ y) = false := decide_eq_false hy3
      have p4 : decide (y < 3) = true := by rw [decide_eq_true_eq]; omega
      have hbb : oneC c d = c := by unfold oneC; rw [← HX.out, ← HY.out, if_pos (by omega)]
      have HBB := Lib.hid hbb
      clear hbb hx3 hy3
      go_wp2_with (first
        | (refine ld_recMG contT (by rfl) (.tmp 2) rfl H 0 (by rfl) c HC.out (range_rec F1.out) ?_)
        | (refine ld_recMG contT (by rfl) (.tmp 3) rfl (H + 1) 0 (by rfl) d HD.out (range_rec F2.out) ?_)
        | ((refine ld_digG rfl (.tmp 23) rfl H 1 (by rfl) c.key HC.out.1 (range_key HC.out (range_rec F1.out)) ?_); simp only [Act.put, List.setIfInBounds_toArray, List.set_cons_zero, List.set_cons_succ])
        | ((refine ld_digG rfl (.tmp 25) rfl (H + 1) 1 (by rfl) d.key HD.out.1 (range_key HD.out (range_rec F2.out)) ?_); simp only [Act.put, List.setIfInBounds_toArray, List.set_cons_zero, List.set_cons_succ])
        | ((refine eq_digG rfl (.tmp 24) (.tmp 26) _ rfl c.key d.key (by rfl) (by rfl) HC.out.1 HD.out.1 ?_); rw [HKZ.out]; simp only [Act.put, List.setIfInBounds_toArray, List.set_cons_zero, List.set_cons_succ])
        | (refine st_rec contT rfl (.tmp 4) (.tmp 13) rfl (H + 2) c HC.out (by rfl) (by rfl) V hVs _ F3.out ?_))
      try simp only [Exit.inBlock, Exit.then]
      refine bodyPost_ret (v := .agg (cV c)) (results_cell rfl _ _ _ ⟨H + 2, 0, none⟩ _ rfl ?_) rfl ?_
      · exact cont_load HC.out (range_rec (setRow_heap _ _ _ _ _ _ F3.out))
      · exact ⟨by rw [HBB.out], by rw [← HH.out]; exact below_setRow B3.out (by omega) _⟩
  · have p1 : decide (3 ≤ x) = false := decide_eq_false hx3
    have p2 : decide (x < 3) = true := by rw [decide_eq_true_eq]; omega
    by_cases hy3 : 3 ≤ y
    · have p3 : decide (3 ≤ y) = true := decide_eq_true hy3
      have p4 : decide (y < 3) = false := by rw [decide_eq_false]; omega
      have hbb : oneC c d = d := by unfold oneC; rw [← HX.out, ← HY.out, if_neg (by omega), if_pos (by omega)]
      have HBB := Lib.hid hbb
      clear hbb hx3 hy3
      go_wp2_with (first
        | (refine ld_recMG contT (by rfl) (.tmp 2) rfl H 0 (by rfl) c HC.out (range_rec F1.out) ?_)
        | (refine ld_recMG contT (by rfl) (.tmp 3) rfl (H + 1) 0 (by rfl) d HD.out (range_rec F2.out) ?_)
        | ((refine ld_digG rfl (.tmp 23) rfl H 1 (by rfl) c.key HC.out.1 (range_key HC.out (range_rec F1.out)) ?_); simp only [Act.put, List.setIfInBounds_toArray, List.set_cons_zero, List.set_cons_succ])
        | ((refine ld_digG rfl (.tmp 25) rfl (H + 1) 1 (by rfl) d.key HD.out.1 (range_key HD.out (range_rec F2.out)) ?_); simp only [Act.put, List.setIfInBounds_toArray, List.set_cons_zero, List.set_cons_succ])
        | ((refine eq_digG rfl (.tmp 24) (.tmp 26) _ rfl c.key d.key (by rfl) (by rfl) HC.out.1 HD.out.1 ?_); rw [HKZ.out]; simp only [Act.put, List.setIfInBounds_toArray, List.set_cons_zero, List.set_cons_succ])
        | (refine st_rec contT rfl (.tmp 4) (.tmp 22) rfl (H + 2) d HD.out (by rfl) (by rfl) V hVs _ F3.out ?_))
      try simp only [Exit.inBlock, Exit.then]
      refine bodyPost_ret (v := .agg (cV d)) (results_cell rfl _ _ _ ⟨H + 2, 0, none⟩ _ rfl ?_) rfl ?_
      · exact cont_load HD.out (range_rec (setRow_heap _ _ _ _ _ _ F3.out))
      · exact ⟨by rw [HBB.out], by rw [← HH.out]; exact below_setRow B3.out (by omega) _⟩
    · have p3 : decide (3 ≤ y) = false := decide_eq_false hy3
      have p4 : decide (y < 3) = true := by rw [decide_eq_true_eq]; omega
      cases kz with
      | true =>
        by_cases hxy : x = y
        · have hbb : oneC c d = c := by unfold oneC; rw [← HX.out, ← HY.out, if_neg (by omega), if_neg (by omega), if_pos ⟨by simpa using HKZ.out, hxy⟩]
          have HBB := Lib.hid hbb
          have q : decide (x = y) = true := decide_eq_true hxy
          have q' : (x == y) = true := by simpa using hxy
          clear hbb hx3 hy3
          go_wp2_with (first
            | (refine ld_recMG contT (by rfl) (.tmp 2) rfl H 0 (by rfl) c HC.out (range_rec F1.out) ?_)
            | (refine ld_recMG contT (by rfl) (.tmp 3) rfl (H + 1) 0 (by rfl) d HD.out (range_rec F2.out) ?_)
            | ((refine ld_digG rfl (.tmp 23) rfl H 1 (by rfl) c.key HC.out.1 (range_key HC.out (range_rec F1.out)) ?_); simp only [Act.put, List.setIfInBounds_toArray, List.set_cons_zero, List.set_cons_succ])
            | ((refine ld_digG rfl (.tmp 25) rfl (H + 1) 1 (by rfl) d.key HD.out.1 (range_key HD.out (range_rec F2.out)) ?_); simp only [Act.put, List.setIfInBounds_toArray, List.set_cons_zero, List.set_cons_succ])
            | ((refine eq_digG rfl (.tmp 24) (.tmp 26) _ rfl c.key d.key (by rfl) (by rfl) HC.out.1 HD.out.1 ?_); rw [HKZ.out]; simp only [Act.put, List.setIfInBounds_toArray, List.set_cons_zero, List.set_cons_succ])
            | (refine st_rec contT rfl (.tmp 4) (.tmp 35) rfl (H + 2) c HC.out (by rfl) (by rfl) V hVs _ F3.out ?_))
          try simp only [Exit.inBlock, Exit.then]
          refine bodyPost_ret (v := .agg (cV c)) (results_cell rfl _ _ _ ⟨H + 2, 0, none⟩ _ rfl ?_) rfl ?_
          · exact cont_load HC.out (range_rec (setRow_heap _ _ _ _ _ _ F3.out))
          · exact ⟨by rw [HBB.out], by rw [← HH.out]; exact below_setRow B3.out (by omega) _⟩
        · have hbb : oneC c d = ⟨c.name, noKey, 2⟩ := by unfold oneC; rw [← HX.out, ← HY.out, if_neg (by omega), if_neg (by omega), if_neg (fun e => hxy e.2), if_neg hx3]
          have hbw : CtW ⟨c.name, noKey, 2⟩ := by rw [← hbb]; exact HB.out
          have HBB := Lib.hid hbb
          have HBW := Lib.hid hbw
          have q : decide (x = y) = false := decide_eq_false hxy
          have q' : (x == y) = false := by simpa using hxy
          clear hbb hx3 hy3 hbw
          go_wp2_with (first
            | (refine ld_recMG contT (by rfl) (.tmp 2) rfl H 0 (by rfl) c HC.out (range_rec F1.out) ?_)
            | (refine ld_recMG contT (by rfl) (.tmp 3) rfl (H + 1) 0 (by rfl) d HD.out (range_rec F2.out) ?_)
            | ((refine ld_digG rfl (.tmp 23) rfl H 1 (by rfl) c.key HC.out.1 (range_key HC.out (range_rec F1.out)) ?_); simp only [Act.put, List.setIfInBounds_toArray, List.set_cons_zero, List.set_cons_succ])
            | ((refine ld_digG rfl (.tmp 25) rfl (H + 1) 1 (by rfl) d.key HD.out.1 (range_key HD.out (range_rec F2.out)) ?_); simp only [Act.put, List.setIfInBounds_toArray, List.set_cons_zero, List.set_cons_succ])
            | ((refine eq_digG rfl (.tmp 24) (.tmp 26) _ rfl c.key d.key (by rfl) (by rfl) HC.out.1 HD.out.1 ?_); rw [HKZ.out]; simp only [Act.put, List.setIfInBounds_toArray, List.set_cons_zero, List.set_cons_succ])
            | (refine st_rec contT rfl (.tmp 4) (.tmp 44) rfl (H + 2) ⟨c.name, noKey, 2⟩ HBW.out (by rfl) (by rfl) V hVs _ F3.out ?_))
          try simp only [Exit.inBlock, Exit.then]
          refine bodyPost_ret (v := .agg (cV ⟨c.name, noKey, 2⟩)) (results_cell rfl _ _ _ ⟨H + 2, 0, none⟩ _ rfl ?_) rfl ?_
          · exact cont_load HBW.out (range_rec (setRow_heap _ _ _ _ _ _ F3.out))
          · exact ⟨by rw [HBB.out], by rw [← HH.out]; exact below_setRow B3.out (by omega) _⟩
      | false =>
        have hne : ¬ c.key = d.key := by simpa using HKZ.out
        have hbb : oneC c d = ⟨c.name, noKey, 2⟩ := by unfold oneC; rw [← HX.out, ← HY.out, if_neg (by omega), if_neg (by omega), if_neg (fun e => hne e.1), if_neg hx3]
        have hbw : CtW ⟨c.name, noKey, 2⟩ := by rw [← hbb]; exact HB.out
        have HBB := Lib.hid hbb
        have HBW := Lib.hid hbw
        clear hbb hx3 hy3 hbw hne
        go_wp2_with (first
          | (refine ld_recMG contT (by rfl) (.tmp 2) rfl H 0 (by rfl) c HC.out (range_rec F1.out) ?_)
          | (refine ld_recMG contT (by rfl) (.tmp 3) rfl (H + 1) 0 (by rfl) d HD.out (range_rec F2.out) ?_)
          | ((refine ld_digG rfl (.tmp 23) rfl H 1 (by rfl) c.key HC.out.1 (range_key HC.out (range_rec F1.out)) ?_); simp only [Act.put, List.setIfInBounds_toArray, List.set_cons_zero, List.set_cons_succ])
          | ((refine ld_digG rfl (.tmp 25) rfl (H + 1) 1 (by rfl) d.key HD.out.1 (range_key HD.out (range_rec F2.out)) ?_); simp only [Act.put, List.setIfInBounds_toArray, List.set_cons_zero, List.set_cons_succ])
          | ((refine eq_digG rfl (.tmp 24) (.tmp 26) _ rfl c.key d.key (by rfl) (by rfl) HC.out.1 HD.out.1 ?_); rw [HKZ.out]; simp only [Act.put, List.setIfInBounds_toArray, List.set_cons_zero, List.set_cons_succ])
          | (refine st_rec contT rfl (.tmp 4) (.tmp 44) rfl (H + 2) ⟨c.name, noKey, 2⟩ HBW.out (by rfl) (by rfl) V hVs _ F3.out ?_))
        try simp only [Exit.inBlock, Exit.then]
        refine bodyPost_ret (v := .agg (cV ⟨c.name, noKey, 2⟩)) (results_cell rfl _ _ _ ⟨H + 2, 0, none⟩ _ rfl ?_) rfl ?_
        · exact cont_load HBW.out (range_rec (setRow_heap _ _ _ _ _ _ F3.out))
        · exact ⟨by rw [HBB.out], by rw [← HH.out]; exact below_setRow B3.out (by omega) _⟩
end Go.Proofs.YtppjmonbmlbhpaaDoor
