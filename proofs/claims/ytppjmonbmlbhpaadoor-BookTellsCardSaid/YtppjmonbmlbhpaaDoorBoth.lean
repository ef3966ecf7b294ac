/- Walk: book.both tells two contacts of one name as one. -/
import Derived.Test.YtppjmonbmlbhpaaDoorBookMem
import Derived.Test.YtppjmonbmlbhpaaDoorArrA
import Derived.Test.YtppjmonbmlbhpaaDoorSame0
import Derived.Deep.QuietTactic
import Derived.BigQuiet
import Derived.WalkSmall
import Derived.WalkKit
import Derived.ProofKit
import Derived.Lib.Hide
namespace Go.Proofs.YtppjmonbmlbhpaaDoor
open Go.RowKit
set_option linter.unusedVariables false
set_option linter.unusedSimpArgs false

theorem cont_load {c : Ct} (hc : CtW c) {w : World} {b o : Nat} (hr : w.rangeAt b o (cL c)) : (loadVar 37 ⟨b, o, none⟩).run Tryd.prog w = .ok (.agg (cV c)) w := by
  obtain ⟨f0, f1, f2, ht, _, _, _, _, _, _, _, hi⟩ := contT
  exact run_loadVar_mid w b o _ (cL c) _ hr ht rfl (by rw [cL_length hc]; exact hi)
set_option maxRecDepth 20000 in
set_option maxHeartbeats 4000000 in
theorem both_calls (c d : Ct) (hc : CtW c) (hd : CtW d) (hc1 : 1 ≤ c.lvl ∧ c.lvl ≤ 4) (hd1 : 1 ≤ d.lvl ∧ d.lvl ≤ 4) (w : World) :
    Calls Tryd.prog 20 #[.agg (cV c), .agg (cV d)] w fun e w' => e = .returned (.agg (cV (bothC c d))) ∧ Below w.heap.size w w' := by
  have hboth := both_W hc hd hc1.1 hc1.2
  have HB := Lib.hid hboth
  have HC := Lib.hid hc
  have HD := Lib.hid hd
  have kx : (c.lvl + 1).tdiv 2 = rk c := by unfold rk; rw [Int.tdiv_eq_ediv_of_nonneg (by omega)]
  have ky : (d.lvl + 1).tdiv 2 = rk d := by unfold rk; rw [Int.tdiv_eq_ediv_of_nonneg (by omega)]
  have wx : IntKind.i64.wrap (c.lvl + 1) = c.lvl + 1 := IntWalk.i64_in _ (by omega)
  have wy : IntKind.i64.wrap (d.lvl + 1) = d.lvl + 1 := IntWalk.i64_in _ (by omega)
  have rx0 : 1 ≤ rk c ∧ rk c ≤ 2 := by unfold rk; omega
  have ry0 : 1 ≤ rk d ∧ rk d ≤ 2 := by unfold rk; omega
  obtain ⟨x, hx⟩ : ∃ x, x = rk c := ⟨_, rfl⟩
  obtain ⟨y, hy⟩ : ∃ y, y = rk d := ⟨_, rfl⟩
  rw [← hx] at kx rx0
  rw [← hy] at ky ry0
  have HX := Lib.hid hx
  have HY := Lib.hid hy
  have wxx : IntKind.i64.wrap x = x := IntWalk.i64_in _ (by omega)
  have wyy : IntKind.i64.wrap y = y := IntWalk.i64_in _ (by omega)
  clear hx hy hboth
  have CE := fun w => cont_eq contT hc hd w
  have hC := heap_alloc_new w (.cells (cV c) 37)
  obtain ⟨V, hV⟩ : ∃ V : Array Value, V = #[.string ⟨#[]⟩, .int .u8 0, .int .u8 0, .int .u8 0, .int .u8 0, .int .u8 0, .int .u8 0, .int .u8 0, .int .u8 0, .int .u8 0, .int .u8 0, .int .u8 0, .int .u8 0, .int .u8 0, .int .u8 0, .int .u8 0, .int .u8 0, .int .u8 0, .int .u8 0, .int .u8 0, .int .u8 0, .int .u8 0, .int .u8 0, .int .u8 0, .int .u8 0, .int .u8 0, .int .u8 0, .int .u8 0, .int .u8 0, .int .u8 0, .int .u8 0, .int .u8 0, .int .u8 0, .int .i64 0] := ⟨_, rfl⟩
  have hVs : V.size = 34 := by rw [hV]; rfl
  have HV := Lib.hid hV
  obtain ⟨H, hH⟩ : ∃ H, H = w.heap.size := ⟨_, rfl⟩
  obtain ⟨w3, hw3⟩ : ∃ w3, w3 = (((w.alloc (.cells (cV c) 37)).alloc (.cells (cV d) 37)).alloc (.cells V 37)) := ⟨_, rfl⟩
  have s1 : (w.alloc (.cells (cV c) 37)).heap.size = H + 1 := by rw [hH]; exact World.size_alloc _ _
  have s2 : ((w.alloc (.cells (cV c) 37)).alloc (.cells (cV d) 37)).heap.size = H + 2 := by rw [World.size_alloc, s1]
  have s3 : w3.heap.size = H + 3 := by rw [hw3, World.size_alloc, s2]
  have b1 : Below H w (w.alloc (.cells (cV c) 37)) := (Below.refl _ _).alloc (by omega) _
  have b2 : Below H w ((w.alloc (.cells (cV c) 37)).alloc (.cells (cV d) 37)) := b1.alloc (by omega) _
  have b3 : Below H w w3 := by rw [hw3]; exact b2.alloc (by omega) _
  have f1 : w3.heap[H]? = some (.cells (cV c) 37 (0, 0)) := by
    rw [hw3]
    refine (Below.heap_alloc _ _ _ (by omega)).trans ((Below.heap_alloc _ _ _ (by omega)).trans ?_)
    rw [hH]; exact heap_alloc_new w _
  have f2 : w3.heap[H + 1]? = some (.cells (cV d) 37 (0, 0)) := by
    rw [hw3]
    refine (Below.heap_alloc _ _ _ (by omega)).trans ?_
    rw [← s1]; exact heap_alloc_new _ _
  have f3 : w3.heap[H + 2]? = some (.cells V 37 (0, 0)) := by
    rw [hw3, ← s2]; exact heap_alloc_new _ _
  have F1 := Lib.hid f1
  have F2 := Lib.hid f2
  have F3 := Lib.hid f3
  have B3 := Lib.hid b3
  have c1 := range_lvl hc (range_rec f1)
  have c2 := range_lvl hd (range_rec f2)
  have cn := range_name (range_rec f1)
  simp only [Nat.zero_add] at c1 c2
  have HW3 := Lib.hid hw3
  have HH := Lib.hid hH
  clear b1 b2 b3 f1 f2 f3 s1 s2 hC hc hd hV hw3
  go_enter Tryd.func20, Tryd.ntmps20
  go_wp2_with fail
  rw [← HV.out, ← HW3.out, ← HH.out]
  clear HW3 HV hH
  go_quiet (fail)
  by_cases hlt : y < x
  · have q1 : decide (y < x) = true := decide_eq_true hlt
    have hbb : bothC c d = c := both_gt (by rw [← HX.out, ← HY.out]; exact hlt)
    have HBB := Lib.hid hbb
    clear hbb hlt CE
    go_wp2_with (first
      | (refine ld_rec contT rfl (.tmp 2) rfl H (by rfl) c.name c.key c.lvl HC.out.1 _ _ F1.out ?_)
      | (refine st_rec contT rfl (.tmp 4) (.tmp 24) rfl (H + 2) c HC.out (by rfl) (by rfl) V hVs _ F3.out ?_))
    try simp only [Exit.inBlock, Exit.then]
    refine bodyPost_ret (v := .agg (cV c)) (results_cell rfl _ _ _ ⟨H + 2, 0, none⟩ _ rfl ?_) rfl ?_
    · exact cont_load HC.out (range_rec (setRow_heap _ _ _ _ _ _ F3.out))
    · exact ⟨by rw [HBB.out], by rw [← HH.out]; exact below_setRow (below_drewN B3.out nq) (by omega) _⟩
  · have hxy : x ≤ y := by omega
    have q1 : decide (y < x) = false := decide_eq_false hlt
    by_cases hcd : c = d
    · subst hcd
      have hbb : bothC c c = c := both_same c
      have HBB := Lib.hid hbb
      have CE2 : ∀ w, (Op.equalIn 10000 37 (.agg (cV c)) (.agg (cV c))).run Tryd.prog w = .ok true w := fun w => by rw [CE w]; simp
      clear hbb hlt CE
      go_wp2_with (first
        | (refine ld_recMG contT (by rfl) (.tmp 2) rfl H 0 (by rfl) c HC.out (range_rec F1.out) ?_)
        | (refine ld_recMG contT (by rfl) (.tmp 3) rfl (H + 1) 0 (by rfl) c HC.out (range_rec F2.out) ?_)
        | (refine st_rec contT rfl (.tmp 4) (.tmp 24) rfl (H + 2) c HC.out (by rfl) (by rfl) V hVs _ F3.out ?_))
      try simp only [Exit.inBlock, Exit.then]
      refine bodyPost_ret (v := .agg (cV c)) (results_cell rfl _ _ _ ⟨H + 2, 0, none⟩ _ rfl ?_) rfl ?_
      · exact cont_load HC.out (range_rec (setRow_heap _ _ _ _ _ _ F3.out))
      · exact ⟨by rw [HBB.out], by rw [← HH.out]; exact below_setRow (below_drewN B3.out nq) (by omega) _⟩
    · have CE2 : ∀ w, (Op.equalIn 10000 37 (.agg (cV c)) (.agg (cV d))).run Tryd.prog w = .ok false w := fun w => by rw [CE w, decide_eq_false hcd]
      by_cases hlt2 : x < y
      · have q2 : decide (x < y) = true := decide_eq_true hlt2
        have hbb : bothC c d = d := both_lt (by rw [← HX.out, ← HY.out]; exact hlt2)
        have HBB := Lib.hid hbb
        clear hbb hlt hlt2 CE hcd
        go_wp2_with (first
          | (refine ld_recMG contT (by rfl) (.tmp 2) rfl H 0 (by rfl) c HC.out (range_rec F1.out) ?_)
          | (refine ld_recMG contT (by rfl) (.tmp 3) rfl (H + 1) 0 (by rfl) d HD.out (range_rec F2.out) ?_)
          | (refine st_rec contT rfl (.tmp 4) (.tmp 29) rfl (H + 2) d HD.out (by rfl) (by rfl) V hVs _ F3.out ?_))
        try simp only [Exit.inBlock, Exit.then]
        refine bodyPost_ret (v := .agg (cV d)) (results_cell rfl _ _ _ ⟨H + 2, 0, none⟩ _ rfl ?_) rfl ?_
        · exact cont_load HD.out (range_rec (setRow_heap _ _ _ _ _ _ F3.out))
        · exact ⟨by rw [HBB.out], by rw [← HH.out]; exact below_setRow (below_drewN B3.out nq) (by omega) _⟩
      · have q2 : decide (x < y) = false := decide_eq_false hlt2
        have hbb : bothC c d = forkC c.name x := by rw [HX.out]; exact both_eq (by rw [← HX.out, ← HY.out]; omega) hcd
        have hbw : CtW (forkC c.name x) := by rw [← hbb]; exact HB.out
        have HBB := Lib.hid hbb
        have HBW := Lib.hid hbw
        have w2 : IntKind.i64.wrap (2 * x) = 2 * x := IntWalk.i64_in _ (by omega)
        clear hbb hlt hlt2 CE hcd hbw
        go_wp2_with (first
          | (refine ld_recMG contT (by rfl) (.tmp 2) rfl H 0 (by rfl) c HC.out (range_rec F1.out) ?_)
          | (refine ld_recMG contT (by rfl) (.tmp 3) rfl (H + 1) 0 (by rfl) d HD.out (range_rec F2.out) ?_)
          | (refine st_rec contT rfl (.tmp 4) (.tmp 34) rfl (H + 2) (forkC c.name x) HBW.out (by rfl) (by rfl) V hVs _ F3.out ?_))
        try simp only [Exit.inBlock, Exit.then]
        refine bodyPost_ret (v := .agg (cV (forkC c.name x))) (results_cell rfl _ _ _ ⟨H + 2, 0, none⟩ _ rfl ?_) rfl ?_
        · exact cont_load HBW.out (range_rec (setRow_heap _ _ _ _ _ _ F3.out))
        · exact ⟨by rw [HBB.out], by rw [← HH.out]; exact below_setRow (below_drewN B3.out nq) (by omega) _⟩
end Go.Proofs.YtppjmonbmlbhpaaDoor
