/- Walks: stamp.Public, Left and Sign. -/
import Derived.Test.YtkioddmhjbaleaaGreatDoorStampNew
namespace Go.Proofs.YtkioddmhjbaleaaGreatDoor
open Go.RowKit
set_option linter.unusedVariables false
set_option linter.unusedSimpArgs false

/-- a stamp's block alone has turned -/
def Save (w w' : World) (P : Nat) : Prop := Below P w w' ∧ w.heap.size ≤ w'.heap.size ∧ ∀ b, b ≠ P → b < w.heap.size → w'.heap[b]? = w.heap[b]?
theorem Save.rd {w w' : World} {P : Nat} (h : Save w w' P) {cs : Array Value} {fr : Nat × Nat} (hp : w.heap[P]? = some (.cells cs 82 fr)) {a : Option Addr} {vs : List Value} (hr : Rd w a 23 vs) : Rd w' a 23 vs := by
  rcases hr with h0 | ⟨b, o, cur, fr', rfl, hc, hi⟩
  · exact .inl h0
  · refine .inr ⟨b, o, cur, fr', rfl, (h.2.2 b (fun e => ?_) (lt_of_heap hc)).trans hc, hi⟩
    subst e
    rw [hc] at hp
    simp only [Option.some.injEq, Obj.cells.injEq] at hp
    exact absurd hp.2.1 (by decide)
theorem Save.below {w w' : World} {P : Nat} (h : Save w w' P) {w0 : World} {B : Nat} (hb : Below B w0 w) (hB : B ≤ P) : Below B w0 w' := hb.trans (h.1.mono hB)
theorem Left_calls (seed : List UInt8) (hs : seed.length = 32) (P n nx : Nat) (hn : n ≤ 256) (hx : nx ≤ n) (w : World) (h : StampAt w P seed n nx) : Calls Tryz.prog 31 #[.pointer (some ⟨P, 0, none⟩)] w fun e w' => e = .returned (.int .i64 ((n - nx : Nat) : Int)) ∧ Below w.heap.size w w' := by
  obtain ⟨la, cap, hg, _, _, _, _⟩ := h
  have c32 := cell_of_row w P 32 _ _ _ hg
  have c33 := cell_of_row w P 33 _ _ _ hg
  rw [sV_32 hs] at c32
  rw [sV_33 hs] at c33
  obtain ⟨d, hd⟩ : ∃ d, d = n - nx := ⟨_, rfl⟩
  have e1 : IntKind.i64.wrap ((n : Int) - (nx : Int)) = (d : Int) := by rw [IntWalk.i64_in _ (by omega)]; omega
  rw [← hd]
  clear hd hg
  go_enter Tryz.func31, Tryz.ntmps31
  go_wp2_with fail
  go_quiet (fail)
  go_wp2_with fail
  go_ret
  exact ⟨rfl, below_drewN (Below.refl _ _) _⟩
set_option maxRecDepth 20000 in
set_option maxHeartbeats 2000000 in
theorem SPublic_ok (seed : List UInt8) (hs : seed.length = 32) (h : Nat) (hh : h ≤ 4) (w : World) (hro : RoundsAt w) :
    Calls Tryz.prog 24 #[.agg (dV seed), .int .i64 (h : Int)] w fun e w' => e = .returned (.tuple #[.agg (dV (troot (leavesK seed (2 ^ h)))), .nilIface]) ∧ Below w.heap.size w w' := by
  have hz : nz.length = 32 := rfl
  have ZL := Lib.hid hz
  clear hz
  have SL := Lib.hid hs
  have RO := Lib.hid hro
  obtain ⟨n, hn⟩ : ∃ n, n = 2 ^ h := ⟨_, rfl⟩
  have hn16 : n ≤ 16 := by rw [hn]; exact Nat.le_trans (Nat.pow_le_pow_right (by omega) hh) (by decide)
  rw [← hn]
  have HN := Lib.hid hn
  clear hs hro hn
  obtain ⟨S, hS⟩ : ∃ z, z = w.heap.size := ⟨_, rfl⟩
  obtain ⟨w1, hw1⟩ : ∃ z, z = w.alloc (.cells (dV seed) 23) := ⟨_, rfl⟩
  have st1 : Below w.heap.size w w1 := by rw [hw1]; exact (Below.refl _ _).alloc (Nat.le_refl _) _
  have B1 := Lib.hid (show Below w.heap.size w w1 from Below.trans (Below.refl w.heap.size w) (Below.mono st1 (Below.size (Below.refl w.heap.size w))))
  have GS_1 := Lib.hid (show w1.heap[S]? = some (.cells (dV seed) 23 (0, 0)) by rw [hw1, hS]; exact heap_alloc_new _ _)
  have LS_1 := Lib.hid (lt_of_heap GS_1.out)
  have HS := Lib.hid hS
  have Hw1 := Lib.hid hw1
  clear hS hw1 st1
  have SZS := Lib.hid (show S = w.heap.size from HS.out)
  obtain ⟨R, hR⟩ : ∃ z, z = w1.heap.size := ⟨_, rfl⟩
  obtain ⟨w2, hw2⟩ : ∃ z, z = w1.alloc (.cells (dV nz) 23) := ⟨_, rfl⟩
  have st2 : Below w1.heap.size w1 w2 := by rw [hw2]; exact (Below.refl _ _).alloc (Nat.le_refl _) _
  have B2 := Lib.hid (show Below w.heap.size w w2 from Below.trans B1.out (Below.mono st2 (Below.size B1.out)))
  have GS_2 := Lib.hid ((Below.block st2 S LS_1.out).trans GS_1.out)
  have LS_2 := Lib.hid (Nat.lt_of_lt_of_le LS_1.out (Below.size st2))
  have GR_2 := Lib.hid (show w2.heap[R]? = some (.cells (dV nz) 23 (0, 0)) by rw [hw2, hR]; exact heap_alloc_new _ _)
  have LR_2 := Lib.hid (lt_of_heap GR_2.out)
  have HR := Lib.hid hR
  have Hw2 := Lib.hid hw2
  clear hR hw2 st2
  have SZR := Lib.hid (show R = w.heap.size + 1 by rw [HR.out, Hw1.out, World.size_alloc, ← HS.out, SZS.out])
  go_enter Tryz.func24, Tryz.ntmps24
  go_upto_region 1 with fail
  rw [zdig]
  rw [← SZR.out, ← SZS.out, ← Hw1.out, ← Hw2.out]
  have HNEW := Lib.hid (StampNew_ok seed SL.out h hh w2 (RO.out.at_ B2.out))
  rw [← HN.out] at HNEW
  go_wp2_with (first
    | (refine at_ld 23 (.tmp 2) rfl ?_; (refine ld_digG rfl (.tmp 2) rfl (S) 0 (by rfl) seed SL.out (range_of_row GS_2.out) ?_); simp only [Act.put, List.setIfInBounds_toArray, List.set_cons_zero, List.set_cons_succ]))
  refine (HNEW.out).mono ?_
  rintro e w3 ⟨P, rfl, hP, hSA, hb3⟩
  have B3 := Lib.hid (show Below w.heap.size w w3 from Below.trans B2.out (Below.mono hb3 (Below.size B2.out)))
  have GS_3 := Lib.hid ((Below.block hb3 S LS_2.out).trans GS_2.out)
  have LS_3 := Lib.hid (Nat.lt_of_lt_of_le LS_2.out (Below.size hb3))
  have GR_3 := Lib.hid ((Below.block hb3 R LR_2.out).trans GR_2.out)
  have LR_3 := Lib.hid (Nat.lt_of_lt_of_le LR_2.out (Below.size hb3))
  obtain ⟨la, lc, hgP, hc1, hc2, hrd, _⟩ := hSA
  have GP_3 := Lib.hid hgP
  have LP_3 := Lib.hid (lt_of_heap hgP)
  have HPA := Lib.hid hP
  have RL_3 := Lib.hid hrd
  clear hgP hP hrd HNEW
  clear hb3
  have c32 := cell_of_row _ P 32 _ _ _ GP_3.out
  rw [sV_32 SL.out] at c32
  have HROOT := Lib.hid (TRootD_calls (leavesK seed n) (by rw [leavesK_length]; omega) (leavesK_dig seed n) la lc _ (by rw [leavesK_length]; exact hc1) hc2 w3 RL_3.out (RO.out.at_ B3.out))
  rw [leavesK_length] at HROOT
  have TL := Lib.hid (troot_length _ (leavesK_dig seed n))
  go_wp2_with fail
  refine (HROOT.out).mono ?_
  rintro e w4 ⟨rfl, hb4⟩
  have B4 := Lib.hid (show Below w.heap.size w w4 from Below.trans B3.out (Below.mono hb4 (Below.size B3.out)))
  have GS_4 := Lib.hid ((Below.block hb4 S LS_3.out).trans GS_3.out)
  have LS_4 := Lib.hid (Nat.lt_of_lt_of_le LS_3.out (Below.size hb4))
  have GR_4 := Lib.hid ((Below.block hb4 R LR_3.out).trans GR_3.out)
  have LR_4 := Lib.hid (Nat.lt_of_lt_of_le LR_3.out (Below.size hb4))
  have GP_4 := Lib.hid ((Below.block hb4 P LP_3.out).trans GP_3.out)
  have LP_4 := Lib.hid (Nat.lt_of_lt_of_le LP_3.out (Below.size hb4))
  have RL_4 := Lib.hid (RL_3.out.below hb4)
  clear HROOT c32
  clear hb4
  obtain ⟨w5, hw5⟩ : ∃ z, z = w4.setRow R (dV (troot (leavesK seed n))) := ⟨_, rfl⟩
  have B5 := Lib.hid (show Below w.heap.size w w5 by rw [hw5]; exact below_setRowW B4.out (by rw [HR.out]; exact Below.size B1.out) _)
  have sz5 : w5.heap.size = w4.heap.size := by rw [hw5]; exact setRow_size _ _ _
  have GS_5 := Lib.hid (show w5.heap[S]? = some (.cells (dV seed) 23 (0, 0)) by rw [hw5]; exact (_root_.Go.setRow_other _ _ _ _ (by rw [HR.out]; exact Nat.ne_of_lt LS_1.out)).trans GS_4.out)
  have LS_5 := Lib.hid (show S < w5.heap.size by rw [sz5]; exact LS_4.out)
  have GR_5 := Lib.hid (show w5.heap[R]? = some (.cells (dV (troot (leavesK seed n))) 23 (0, 0)) by rw [hw5]; exact setRow_heap _ _ _ _ _ _ GR_4.out)
  have LR_5 := Lib.hid (show R < w5.heap.size by rw [sz5]; exact LR_4.out)
  have GP_5 := Lib.hid (show w5.heap[P]? = some (.cells (sV seed (.slice la n lc) 0) 82 (0, 0)) by rw [hw5]; exact (_root_.Go.setRow_other _ _ _ _ (by have h1 := LR_2.out; have h2 := HPA.out; omega)).trans GP_4.out)
  have LP_5 := Lib.hid (show P < w5.heap.size by rw [sz5]; exact LP_4.out)
  have Hw5 := Lib.hid hw5
  clear hw5 sz5
  go_wp2_with (first
    | (refine at_st 23 (.tmp 4) (.tmp 23) rfl ?_; (refine st_row rfl (.tmp 4) (.tmp 23) rfl R (troot (leavesK seed n)) TL.out (by rfl) (by rfl) (dV nz) (dV_size ZL.out) _ GR_4.out ?_); rw [← Hw5.out]))
  try simp only [Exit.inBlock, Exit.then]
  refine bodyPost_ret (results_cell_tmp rfl _ _ _ ⟨R, 0, none⟩ (.agg (dV (troot (leavesK seed n)))) rfl ?_) rfl ⟨rfl, B5.out⟩
  exact dig_load TL.out (range_of_row GR_5.out)
set_option maxRecDepth 20000 in
set_option maxHeartbeats 1000000 in
theorem SPublic_bad (seed : List UInt8) (hs : seed.length = 32) (h : Int) (hh : h < 0 ∨ 4 < h) (w : World) :
    Calls Tryz.prog 24 #[.agg (dV seed), .int .i64 h] w fun e w' => e = .returned (.tuple #[.agg (dV nz), .iface 29 (.int .i64 2)]) ∧ Below w.heap.size w w' := by
  obtain ⟨Z, hZ⟩ : ∃ Z, Z = nz := ⟨_, rfl⟩
  have ZL := Lib.hid (show Z.length = 32 by rw [hZ]; rfl)
  have ZT := Lib.hid (show (#[.int .u8 0, .int .u8 0, .int .u8 0, .int .u8 0, .int .u8 0, .int .u8 0, .int .u8 0, .int .u8 0, .int .u8 0, .int .u8 0, .int .u8 0, .int .u8 0, .int .u8 0, .int .u8 0, .int .u8 0, .int .u8 0, .int .u8 0, .int .u8 0, .int .u8 0, .int .u8 0, .int .u8 0, .int .u8 0, .int .u8 0, .int .u8 0, .int .u8 0, .int .u8 0, .int .u8 0, .int .u8 0, .int .u8 0, .int .u8 0, .int .u8 0, .int .u8 0] : Array Value) = dV Z by rw [hZ]; exact zdig)
  have HZ := Lib.hid hZ
  rw [← hZ]
  clear hZ
  have SL := Lib.hid hs
  clear hs
  obtain ⟨S, hS⟩ : ∃ z, z = w.heap.size := ⟨_, rfl⟩
  obtain ⟨w1, hw1⟩ : ∃ z, z = w.alloc (.cells (dV seed) 23) := ⟨_, rfl⟩
  have st1 : Below w.heap.size w w1 := by rw [hw1]; exact (Below.refl _ _).alloc (Nat.le_refl _) _
  have B1 := Lib.hid (show Below w.heap.size w w1 from Below.trans (Below.refl w.heap.size w) (Below.mono st1 (Below.size (Below.refl w.heap.size w))))
  have GS_1 := Lib.hid (show w1.heap[S]? = some (.cells (dV seed) 23 (0, 0)) by rw [hw1, hS]; exact heap_alloc_new _ _)
  have LS_1 := Lib.hid (lt_of_heap GS_1.out)
  have HS := Lib.hid hS
  have Hw1 := Lib.hid hw1
  clear hS hw1 st1
  have SZS := Lib.hid (show S = w.heap.size from HS.out)
  obtain ⟨R, hR⟩ : ∃ z, z = w1.heap.size := ⟨_, rfl⟩
  obtain ⟨w2, hw2⟩ : ∃ z, z = w1.alloc (.cells (dV Z) 23) := ⟨_, rfl⟩
  have st2 : Below w1.heap.size w1 w2 := by rw [hw2]; exact (Below.refl _ _).alloc (Nat.le_refl _) _
  have B2 := Lib.hid (show Below w.heap.size w w2 from Below.trans B1.out (Below.mono st2 (Below.size B1.out)))
  have GS_2 := Lib.hid ((Below.block st2 S LS_1.out).trans GS_1.out)
  have LS_2 := Lib.hid (Nat.lt_of_lt_of_le LS_1.out (Below.size st2))
  have GR_2 := Lib.hid (show w2.heap[R]? = some (.cells (dV Z) 23 (0, 0)) by rw [hw2, hR]; exact heap_alloc_new _ _)
  have LR_2 := Lib.hid (lt_of_heap GR_2.out)
  have HR := Lib.hid hR
  have Hw2 := Lib.hid hw2
  clear hR hw2 st2
  have SZR := Lib.hid (show R = w.heap.size + 1 by rw [HR.out, Hw1.out, World.size_alloc, ← HS.out, SZS.out])
  go_enter Tryz.func24, Tryz.ntmps24
  go_upto_region 1 with fail
  rw [ZT.out]
  rw [← SZR.out, ← SZS.out, ← Hw1.out, ← Hw2.out]
  go_wp2_with (first
    | (refine at_ld 23 (.tmp 2) rfl ?_; (refine ld_digG rfl (.tmp 2) rfl (S) 0 (by rfl) seed SL.out (range_of_row GS_2.out) ?_); simp only [Act.put, List.setIfInBounds_toArray, List.set_cons_zero, List.set_cons_succ]))
  refine (StampNew_bad seed h hh w2).mono ?_
  rintro e w3 ⟨rfl, hb3⟩
  have B3 := Lib.hid (show Below w.heap.size w w3 from Below.trans B2.out (Below.mono hb3 (Below.size B2.out)))
  have GS_3 := Lib.hid ((Below.block hb3 S LS_2.out).trans GS_2.out)
  have LS_3 := Lib.hid (Nat.lt_of_lt_of_le LS_2.out (Below.size hb3))
  have GR_3 := Lib.hid ((Below.block hb3 R LR_2.out).trans GR_2.out)
  have LR_3 := Lib.hid (Nat.lt_of_lt_of_le LR_2.out (Below.size hb3))
  clear hb3
  obtain ⟨w4, hw4⟩ : ∃ z, z = w3.setRow R (dV Z) := ⟨_, rfl⟩
  have B4 := Lib.hid (show Below w.heap.size w w4 by rw [hw4]; exact below_setRowW B3.out (by rw [HR.out]; exact Below.size B1.out) _)
  have sz4 : w4.heap.size = w3.heap.size := by rw [hw4]; exact setRow_size _ _ _
  have GS_4 := Lib.hid (show w4.heap[S]? = some (.cells (dV seed) 23 (0, 0)) by rw [hw4]; exact (_root_.Go.setRow_other _ _ _ _ (by rw [HR.out]; exact Nat.ne_of_lt LS_1.out)).trans GS_3.out)
  have LS_4 := Lib.hid (show S < w4.heap.size by rw [sz4]; exact LS_3.out)
  have GR_4 := Lib.hid (show w4.heap[R]? = some (.cells (dV Z) 23 (0, 0)) by rw [hw4]; exact setRow_heap _ _ _ _ _ _ GR_3.out)
  have LR_4 := Lib.hid (show R < w4.heap.size by rw [sz4]; exact LR_3.out)
  have Hw4 := Lib.hid hw4
  clear hw4 sz4
  go_wp2_with (first
    | (refine wpl_zero rfl rfl Z HZ.out ?_)
    | (refine at_st 23 (.tmp 4) (.tmp 16) rfl ?_; (refine st_row rfl (.tmp 4) (.tmp 16) rfl R Z ZL.out (by rfl) (by rfl) (dV Z) (dV_size ZL.out) _ GR_3.out ?_); rw [← Hw4.out]))
  try simp only [Exit.inBlock, Exit.then]
  refine bodyPost_ret (results_cell_tmp rfl _ _ _ ⟨R, 0, none⟩ (.agg (dV Z)) rfl ?_) rfl ⟨rfl, B4.out⟩
  exact dig_load ZL.out (range_of_row GR_4.out)
theorem info_sig (a b c : Value) : (Tryz.prog.info? 26).map (·.size) = some (#[a, b, c] : Array Value).size := by kernel_rfl
theorem st_sig {ops : Array Oper} {rest : List Oper} {op : Oper} {a : Act} {w : World} {Q : Exit → Act → World → Prop} (hgd : op.guard = none) (x y : Operand) (ho : op.op = .store 26 x y) (g : Nat) (u v z : Value) (hx : a.eval x = .pointer (some ⟨g, 0, none⟩)) (hy : a.eval y = .agg #[u, v, z]) (old : Array Value) (hold : old.size = 3) (t : TypeId) (hg : w.heap[g]? = some (.cells old t (0, 0))) (h1 : (#[u, v, z] : Array Value).all (·.oneCell') = true)
    (h : wpList Tryz.prog ops Q rest (a.put op.dst undef) (w.setRow g #[u, v, z])) : wpList Tryz.prog ops Q (op :: rest) a w :=
  wpList_store_row hgd _ x y ho g #[u, v, z] hx hy t old hg (info_sig u v z) hold h1 h
theorem run_build_sig (i : Nat) (sa : Option Addr) (sn sc : Nat) (pa : Option Addr) (pn pc : Nat) (w : World) : (Instr.build 26 #[(0, .int .i64 (i : Int)), (1, .slice sa sn sc), (2, .slice pa pn pc)]).run Tryz.prog w = .ok (.agg #[.int .i64 (i : Int), .slice sa sn sc, .slice pa pn pc]) w := by kernel_rfl
theorem built_zsig : Tryz.prog.built 26 [] = some #[.int .i64 0, .slice none 0 0, .slice none 0 0] := by kernel_rfl
theorem wpl_zsig {w : World} {ops : Array Oper} {rest : List Oper} {o : Oper} {a : Act} {Q : Exit → Act → World → Prop} (hg : o.guard = none) (ho : o.op = .build 26 #[]) (h : wpList Tryz.prog ops Q rest (a.put o.dst (.agg #[.int .i64 0, .slice none 0 0, .slice none 0 0])) w) : wpList Tryz.prog ops Q (o :: rest) a w := by
  refine wpList_plain hg fun _ hK => ?_
  unfold Oper.wp execOp
  simp only [ho, Sem.run_bind]
  have := run_build (P := Tryz.prog) w 26 #[] #[.int .i64 0, .slice none 0 0, .slice none 0 0] built_zsig
  simp only [List.map_toArray, List.map_nil, this, Result.andThen_ok]
  exact hK _ _ h
theorem sig_one (i : Int) (sa : Option Addr) (sn sc : Nat) (pa : Option Addr) (pn pc : Nat) : (#[.int .i64 i, .slice sa sn sc, .slice pa pn pc] : Array Value).all (·.oneCell') = true := by simp [Value.oneCell']
theorem zero_sig_lit : (#[.int .i64 0, .slice none 0 0, .slice none 0 0] : Array Value) = #[.int .i64 0, .slice none 0 0, .slice none 0 0] := rfl
/-- what Sign tells, and what it leaves -/
def SignPost (w : World) (P : Nat) (seed : List UInt8) (n nx : Nat) (m : List UInt8) (e : Ending) (w' : World) : Prop :=
  ∃ sa sc pa pc, e = .returned (.tuple #[.agg #[.int .i64 (nx : Int), .slice sa 67 sc, .slice pa (tlong nx n) pc], .nilIface]) ∧ Rd w' sa 23 ((wsig (skey seed nx) m).flatten.map vB) ∧ Rd w' pa 23 ((tpath (leavesK seed n) nx).flatten.map vB) ∧ StampAt w' P seed n (nx + 1) ∧ Save w w' P
theorem load_sig {w : World} {R : Nat} {a b c : Value} {t : TypeId} {fr : Nat × Nat} (h : w.heap[R]? = some (.cells #[a, b, c] t fr)) : (loadVar 26 ⟨R, 0, none⟩).run Tryz.prog w = .ok (.agg #[a, b, c]) w := by
  refine run_loadVar_mid w R 0 _ [a, b, c] _ (fun j v hj => ?_) Tryz.underlying26 rfl (info_sig a b c)
  rw [Nat.zero_add, cell_of_row w R j _ t fr h]
  simpa using hj
set_option maxRecDepth 20000 in
set_option maxHeartbeats 1000000 in
theorem Sign_spent (seed m : List UInt8) (hs : seed.length = 32) (hm : m.length = 32) (P n : Nat) (hn : n ≤ 256) (w : World) (hsa : StampAt w P seed n n) :
    Calls Tryz.prog 33 #[.pointer (some ⟨P, 0, none⟩), .agg (dV m)] w fun e w' => e = .returned (.tuple #[.agg #[.int .i64 0, .slice none 0 0, .slice none 0 0], .iface 29 (.int .i64 6)]) ∧ Below w.heap.size w w' := by
  have ML := Lib.hid hm
  have SL := Lib.hid hs
  have SA := Lib.hid hsa
  clear hm hs hsa
  obtain ⟨M, hM⟩ : ∃ z, z = w.heap.size := ⟨_, rfl⟩
  obtain ⟨w1, hw1⟩ : ∃ z, z = w.alloc (.cells (dV m) 23) := ⟨_, rfl⟩
  have st1 : Below w.heap.size w w1 := by rw [hw1]; exact (Below.refl _ _).alloc (Nat.le_refl _) _
  have B1 := Lib.hid (show Below w.heap.size w w1 from Below.trans (Below.refl w.heap.size w) (Below.mono st1 (Below.size (Below.refl w.heap.size w))))
  have GM_1 := Lib.hid (show w1.heap[M]? = some (.cells (dV m) 23 (0, 0)) by rw [hw1, hM]; exact heap_alloc_new _ _)
  have LM_1 := Lib.hid (lt_of_heap GM_1.out)
  have HM := Lib.hid hM
  have Hw1 := Lib.hid hw1
  clear hM hw1 st1
  have SZM := Lib.hid (show M = w.heap.size from HM.out)
  obtain ⟨R, hR⟩ : ∃ z, z = w1.heap.size := ⟨_, rfl⟩
  obtain ⟨w2, hw2⟩ : ∃ z, z = w1.alloc (.cells #[.int .i64 0, .slice none 0 0, .slice none 0 0] 26) := ⟨_, rfl⟩
  have st2 : Below w1.heap.size w1 w2 := by rw [hw2]; exact (Below.refl _ _).alloc (Nat.le_refl _) _
  have B2 := Lib.hid (show Below w.heap.size w w2 from Below.trans B1.out (Below.mono st2 (Below.size B1.out)))
  have GM_2 := Lib.hid ((Below.block st2 M LM_1.out).trans GM_1.out)
  have LM_2 := Lib.hid (Nat.lt_of_lt_of_le LM_1.out (Below.size st2))
  have GR_2 := Lib.hid (show w2.heap[R]? = some (.cells #[.int .i64 0, .slice none 0 0, .slice none 0 0] 26 (0, 0)) by rw [hw2, hR]; exact heap_alloc_new _ _)
  have LR_2 := Lib.hid (lt_of_heap GR_2.out)
  have HR := Lib.hid hR
  have Hw2 := Lib.hid hw2
  clear hR hw2 st2
  have SZR := Lib.hid (show R = w.heap.size + 1 by rw [HR.out, Hw1.out, World.size_alloc, ← HM.out, SZM.out])
  have HLE := Lib.hid (Left_calls seed SL.out P n n hn (Nat.le_refl _) w2 (SA.out.below B2.out))
  rw [Nat.sub_self] at HLE
  go_enter Tryz.func33, Tryz.ntmps33
  go_upto_region 1 with fail
  rw [← SZR.out, ← SZM.out, ← Hw1.out, ← Hw2.out]
  go_wp2_with fail
  refine (HLE.out).mono ?_
  rintro e w3 ⟨rfl, hb3⟩
  have B3 := Lib.hid (show Below w.heap.size w w3 from Below.trans B2.out (Below.mono hb3 (Below.size B2.out)))
  have GM_3 := Lib.hid ((Below.block hb3 M LM_2.out).trans GM_2.out)
  have LM_3 := Lib.hid (Nat.lt_of_lt_of_le LM_2.out (Below.size hb3))
  have GR_3 := Lib.hid ((Below.block hb3 R LR_2.out).trans GR_2.out)
  have LR_3 := Lib.hid (Nat.lt_of_lt_of_le LR_2.out (Below.size hb3))
  clear HLE
  clear hb3
  have GRR := GR_3
  have f0 := frozen_of_row _ R 0 _ _ GRR.out
  have f1 := frozen_of_row _ R 1 _ _ GRR.out
  have f2 := frozen_of_row _ R 2 _ _ GRR.out
  have BF := Lib.hid (below_setRowW B3.out (show w.heap.size ≤ R by rw [SZR.out]; omega) #[.int .i64 0, .slice none 0 0, .slice none 0 0])
  have hii := info_sig (.int .i64 0) (.slice none 0 0) (.slice none 0 0)
  go_wp2_with (first
    | (refine wpl_zsig rfl rfl ?_)
    | (refine st_sig rfl (.tmp 4) (.tmp 12) rfl R (.int .i64 0) (.slice none 0 0) (.slice none 0 0) (by rfl) (by rfl) #[.int .i64 0, .slice none 0 0, .slice none 0 0] rfl _ GRR.out (sig_one _ _ _ _ _ _ _) ?_))
  try simp only [Exit.inBlock, Exit.then]
  refine bodyPost_ret (results_cell_tmp rfl _ _ _ ⟨R, 0, none⟩ (.agg #[.int .i64 0, .slice none 0 0, .slice none 0 0]) rfl ?_) rfl ⟨rfl, BF.out⟩
  exact load_sig (setRow_heap _ _ _ _ _ _ GRR.out)
set_option maxRecDepth 20000 in
set_option maxHeartbeats 4000000 in
theorem Sign_ok (seed m : List UInt8) (hs : seed.length = 32) (hm : m.length = 32) (P n nx : Nat) (hn : n ≤ 256) (hlt : nx < n) (w : World) (hsa : StampAt w P seed n nx) (hro : RoundsAt w) :
    Calls Tryz.prog 33 #[.pointer (some ⟨P, 0, none⟩), .agg (dV m)] w (SignPost w P seed n nx m) := by
  have ML := Lib.hid hm
  have SL := Lib.hid hs
  have RO := Lib.hid hro
  have HLT0 := Lib.hid hsa.lt
  have SA := Lib.hid hsa
  obtain ⟨la, lc, hgP, hc1, hc2, hrd, hla⟩ := hsa
  have GP_0 := Lib.hid hgP
  have LP_0 := Lib.hid (lt_of_heap hgP)
  have RL_0 := Lib.hid hrd
  have HLA := Lib.hid hla
  have HIM := Lib.hid (show (Tryz.prog.info? 23).map (·.size) = some (m.map vB).length by rw [List.length_map, hm]; exact dig_size)
  have HIS := Lib.hid (show (Tryz.prog.info? 23).map (·.size) = some (seed.map vB).length by rw [List.length_map, hs]; exact dig_size)
  clear hm hs hro hgP hrd hla
  obtain ⟨M, hM⟩ : ∃ z, z = w.heap.size := ⟨_, rfl⟩
  obtain ⟨w1, hw1⟩ : ∃ z, z = w.alloc (.cells (dV m) 23) := ⟨_, rfl⟩
  have st1 : Below w.heap.size w w1 := by rw [hw1]; exact (Below.refl _ _).alloc (Nat.le_refl _) _
  have B1 := Lib.hid (show Below w.heap.size w w1 from Below.trans (Below.refl w.heap.size w) (Below.mono st1 (Below.size (Below.refl w.heap.size w))))
  have GP_1 := Lib.hid ((Below.block st1 P LP_0.out).trans GP_0.out)
  have LP_1 := Lib.hid (Nat.lt_of_lt_of_le LP_0.out (Below.size st1))
  have RL_1 := Lib.hid (RL_0.out.below st1)
  have GM_1 := Lib.hid (show w1.heap[M]? = some (.cells (dV m) 23 (0, 0)) by rw [hw1, hM]; exact heap_alloc_new _ _)
  have LM_1 := Lib.hid (lt_of_heap GM_1.out)
  have HM := Lib.hid hM
  have Hw1 := Lib.hid hw1
  clear hM hw1 st1
  have SZM := Lib.hid (show M = w.heap.size from HM.out)
  obtain ⟨R, hR⟩ : ∃ z, z = w1.heap.size := ⟨_, rfl⟩
  obtain ⟨w2, hw2⟩ : ∃ z, z = w1.alloc (.cells #[.int .i64 0, .slice none 0 0, .slice none 0 0] 26) := ⟨_, rfl⟩
  have st2 : Below w1.heap.size w1 w2 := by rw [hw2]; exact (Below.refl _ _).alloc (Nat.le_refl _) _
  have B2 := Lib.hid (show Below w.heap.size w w2 from Below.trans B1.out (Below.mono st2 (Below.size B1.out)))
  have GP_2 := Lib.hid ((Below.block st2 P LP_1.out).trans GP_1.out)
  have LP_2 := Lib.hid (Nat.lt_of_lt_of_le LP_1.out (Below.size st2))
  have GM_2 := Lib.hid ((Below.block st2 M LM_1.out).trans GM_1.out)
  have LM_2 := Lib.hid (Nat.lt_of_lt_of_le LM_1.out (Below.size st2))
  have RL_2 := Lib.hid (RL_1.out.below st2)
  have GR_2 := Lib.hid (show w2.heap[R]? = some (.cells #[.int .i64 0, .slice none 0 0, .slice none 0 0] 26 (0, 0)) by rw [hw2, hR]; exact heap_alloc_new _ _)
  have LR_2 := Lib.hid (lt_of_heap GR_2.out)
  have HR := Lib.hid hR
  have Hw2 := Lib.hid hw2
  clear hR hw2 st2
  have SZR := Lib.hid (show R = w.heap.size + 1 by rw [HR.out, Hw1.out, World.size_alloc, ← HM.out, SZM.out])
  obtain ⟨d, hd⟩ : ∃ d, d = n - nx := ⟨_, rfl⟩
  have HLE := Lib.hid (Left_calls seed SL.out P n nx hn (by omega) w2 (SA.out.below B2.out))
  rw [← hd] at HLE
  have q0 : ((d : Int) == 0) = false := by rw [beq_eq_false_iff_ne]; omega
  clear hd
  go_enter Tryz.func33, Tryz.ntmps33
  go_upto_region 1 with fail
  rw [← SZR.out, ← SZM.out, ← Hw1.out, ← Hw2.out]
  go_wp2_with fail
  refine (HLE.out).mono ?_
  rintro e w3 ⟨rfl, hb3⟩
  have B3 := Lib.hid (show Below w.heap.size w w3 from Below.trans B2.out (Below.mono hb3 (Below.size B2.out)))
  have GP_3 := Lib.hid ((Below.block hb3 P LP_2.out).trans GP_2.out)
  have LP_3 := Lib.hid (Nat.lt_of_lt_of_le LP_2.out (Below.size hb3))
  have GM_3 := Lib.hid ((Below.block hb3 M LM_2.out).trans GM_2.out)
  have LM_3 := Lib.hid (Nat.lt_of_lt_of_le LM_2.out (Below.size hb3))
  have GR_3 := Lib.hid ((Below.block hb3 R LR_2.out).trans GR_2.out)
  have LR_3 := Lib.hid (Nat.lt_of_lt_of_le LR_2.out (Below.size hb3))
  have RL_3 := Lib.hid (RL_2.out.below hb3)
  clear HLE
  clear hb3
  have c33 := cell_of_row _ P 33 _ _ _ GP_3.out
  rw [sV_33 SL.out] at c33
  have f33 := frozen_of_row _ P 33 _ _ GP_3.out
  have e4 : IntKind.i64.wrap ((nx : Int) + 1) = (nx : Int) + 1 := IntWalk.i64_in _ (by omega)
  obtain ⟨ws, hws⟩ : ∃ z, z = w3.setCell ⟨P, 33, none⟩ (.int .i64 ((nx : Int) + 1)) := ⟨_, rfl⟩
  have HWS := Lib.hid hws
  have hPM : P ≠ M := by rw [HM.out]; exact Nat.ne_of_lt LP_0.out
  have hPR : P ≠ R := by rw [HR.out]; exact Nat.ne_of_lt LP_1.out
  have gsP : ws.heap[P]? = some (.cells (sV seed (.slice la n lc) (nx + 1)) 82 (0, 0)) := by
    rw [hws, setCell_rowS GP_3.out]
    have := sV_set33 SL.out (.slice la n lc) nx (nx + 1)
    rw [Int.natCast_add] at this
    rw [← this]; rfl
  have gsM : ws.heap[M]? = some (.cells (dV m) 23 (0, 0)) := by rw [hws]; exact (Below.heap_setCell _ _ _ _ (by show M ≠ P; exact hPM.symm)).trans GM_3.out
  have gsR : ws.heap[R]? = some (.cells #[.int .i64 0, .slice none 0 0, .slice none 0 0] 26 (0, 0)) := by rw [hws]; exact (Below.heap_setCell _ _ _ _ (by show R ≠ P; exact hPR.symm)).trans GR_3.out
  have rsL : Rd ws la 23 ((leavesK seed n).flatten.map vB) := by rw [hws]; exact RL_3.out.setCell _ _ (fun x hx => HLA.out x hx)
  have bs : Below P w3 ws := by rw [hws]; exact (Below.refl _ _).setCell (p := ⟨P, 33, none⟩) (Nat.le_refl _) _
  have ros : RoundsAt ws := by
    obtain ⟨t, fr, hq⟩ := (RO.out.at_ B3.out)
    refine ⟨t, fr, ?_⟩
    rw [hws, Below.heap_setCell _ _ _ _ (by show 1 ≠ P; intro e; rw [e, GP_3.out] at hq; simp only [Option.some.injEq, Obj.cells.injEq] at hq; have h2 := congrArg Array.size hq.1; rw [sV_size SL.out, rW_size] at h2; exact absurd h2 (by decide))]
    exact hq
  have hsz : ws.heap.size = w3.heap.size := by rw [hws]; simp [World.setCell]
  have svb : ∀ b, b ≠ P → b < w.heap.size → ws.heap[b]? = w.heap[b]? := fun b hb hlt => by rw [hws]; exact (Below.heap_setCell _ _ _ _ (by show b ≠ P; exact hb)).trans (Below.block B3.out b hlt)
  have GsP := Lib.hid gsP
  have GsM := Lib.hid gsM
  have GsR := Lib.hid gsR
  have RsL := Lib.hid rsL
  have BS1 := Lib.hid (show Below P w ws from (Below.mono B3.out (Nat.le_of_lt HLT0.out)).trans bs)
  have ROs := Lib.hid ros
  have SVB := Lib.hid svb
  have hszw : w.heap.size ≤ ws.heap.size := by rw [hsz]; exact Below.size B3.out
  have HPR := Lib.hid hPR
  have hRw : w.heap.size ≤ R := by rw [SZR.out]; omega
  clear gsP gsM gsR rsL bs ros hsz svb hws hPM hPR
  go_upto_region 5 with fail
  rw [← HWS.out]
  clear c33 f33 e4
  have c32 := cell_of_row _ P 32 _ _ _ GsP.out
  rw [sV_32 SL.out] at c32
  have HP := Lib.hid (TPath_calls (leavesK seed n) nx (by rw [leavesK_length]; exact hn) (by rw [leavesK_length]; exact hlt) (leavesK_dig seed n) la lc _ (by rw [leavesK_length]; exact hc1) hc2 ws RsL.out ROs.out)
  rw [leavesK_length] at HP
  go_wp2_with fail
  refine HP.out.mono ?_
  rintro e wp ⟨pa, pc, rfl, hrp, hbp⟩
  have BP := Lib.hid hbp
  have RP := Lib.hid hrp
  have GpP := Lib.hid ((hbp.block P (lt_of_heap GsP.out)).trans GsP.out)
  have GpM := Lib.hid ((hbp.block M (lt_of_heap GsM.out)).trans GsM.out)
  have GpR := Lib.hid ((hbp.block R (lt_of_heap GsR.out)).trans GsR.out)
  have ROp := Lib.hid (ROs.out.at_ hbp)
  clear hbp hrp HP c32
  go_wp2_with fail
  have kl : nx < 256 := by omega
  obtain ⟨wd, hwd⟩ : ∃ z, z = wp.drew := ⟨_, rfl⟩
  have KS : ∀ w', Below wd.heap.size wd w' → (w'.heap[P]? = some (.cells (sV seed (.slice la n lc) (nx + 1)) 82 (0, 0)) ∧ w'.heap[M]? = some (.cells (dV m) 23 (0, 0))) := fun w' hb => by
    rw [hwd] at hb
    exact ⟨(hb.block P (lt_of_heap GpP.out)).trans GpP.out, (hb.block M (lt_of_heap GpM.out)).trans GpM.out⟩
  have HKS := Lib.hid KS
  have ROd := Lib.hid (show RoundsAt wd by rw [hwd]; exact ROp.out)
  have GdR := Lib.hid (show wd.heap[R]? = some (.cells #[.int .i64 0, .slice none 0 0, .slice none 0 0] 26 (0, 0)) by rw [hwd]; exact GpR.out)
  have BD := Lib.hid (show Below ws.heap.size ws wd by rw [hwd]; exact BP.out.drew)
  have RPd := Lib.hid (show Rd wd pa 23 ((tpath (leavesK seed n) nx).flatten.map vB) by rw [hwd]; exact RP.out.drew)
  have C7 := Lib.hid (StampKey_calls seed SL.out (UInt8.ofNat nx) wd ROd.out)
  rw [ofNat_k nx kl] at C7
  rw [show (macOf seed [11, UInt8.ofNat nx]) = skey seed nx from rfl] at C7
  refine wp_region_held_drew (S := fun w' => w'.heap[P]? = some (.cells (sV seed (.slice la n lc) (nx + 1)) 82 (0, 0)) ∧ w'.heap[M]? = some (.cells (dV m) 23 (0, 0))) (by kernel_rfl) (by rw [← hwd]; exact KS wd (Below.refl _ _)) (fun hHeld => ?_)
  rw [← hwd] at hHeld ⊢
  clear hwd KS
  refine wpAnyH_take (i := 0) (oi := _) (v := .int .i64 (nx : Int)) rfl (by kernel_rfl) (by kernel_rfl) (by kernel_rfl) (fun _ _ _ h => h) (Or.inl ⟨by rfl, fun w hw => by go_simp⟩) hHeld ?_
  simp only [Act.put, List.getElem_toArray, List.getElem_cons_zero, List.getElem_cons_succ, List.setIfInBounds_toArray, List.set_cons_zero, List.set_cons_succ]
  refine wpAnyH_take (i := 1) (oi := _) (v := .pointer (some ⟨P, 0, none⟩)) rfl (by kernel_rfl) (by kernel_rfl) (by kernel_rfl) (fun _ _ _ h => h) (Or.inl ⟨by rfl, fun w hw => by go_simp⟩) hHeld ?_
  simp only [Act.put, List.getElem_toArray, List.getElem_cons_zero, List.getElem_cons_succ, List.setIfInBounds_toArray, List.set_cons_zero, List.set_cons_succ]
  refine wpAnyH_take (i := 2) (oi := _) (v := .pointer (some ⟨P, 0, none⟩)) rfl (by kernel_rfl) (by kernel_rfl) (by kernel_rfl) (fun _ _ _ h => h) (Or.inl ⟨by rfl, fun w hw => by go_simp⟩) hHeld ?_
  simp only [Act.put, List.getElem_toArray, List.getElem_cons_zero, List.getElem_cons_succ, List.setIfInBounds_toArray, List.set_cons_zero, List.set_cons_succ]
  refine wpAnyH_take (i := 3) (oi := _) (v := .pointer (some ⟨P, 0, none⟩)) rfl (by kernel_rfl) (by kernel_rfl) (by kernel_rfl) (fun _ _ _ h => h) (Or.inl ⟨by rfl, fun w hw => by go_simp⟩) hHeld ?_
  simp only [Act.put, List.getElem_toArray, List.getElem_cons_zero, List.getElem_cons_succ, List.setIfInBounds_toArray, List.set_cons_zero, List.set_cons_succ]
  refine wpAnyH_take (i := 4) (oi := _) (v := _) rfl (by kernel_rfl) (by kernel_rfl) (by kernel_rfl) (fun _ _ _ h => h) (yieldsIf_load_mid (by rfl) _ _ rfl _ _ rfl (seed.map vB) _ (fun w hw => sV_seed SL.out _ _ hw.1) Tryz.underlying23 rfl HIS.out) hHeld ?_
  simp only [Act.put, List.getElem_toArray, List.getElem_cons_zero, List.getElem_cons_succ, List.setIfInBounds_toArray, List.set_cons_zero, List.set_cons_succ]
  refine wpAnyH_take (i := 5) (oi := _) (v := .int .i64 (nx : Int)) rfl (by kernel_rfl) (by kernel_rfl) (by kernel_rfl) (fun _ _ _ h => h) (Or.inl ⟨by rfl, fun w hw => by go_simp⟩) hHeld ?_
  simp only [Act.put, List.getElem_toArray, List.getElem_cons_zero, List.getElem_cons_succ, List.setIfInBounds_toArray, List.set_cons_zero, List.set_cons_succ]
  refine wpAnyH_take (i := 7) (oi := _) (v := _) rfl (by kernel_rfl) (by kernel_rfl) (by kernel_rfl) (fun _ _ _ h => h) (yieldsIf_load_mid (by rfl) _ _ rfl _ _ rfl (m.map vB) _ (fun w hw => range_of_row hw.2) Tryz.underlying23 rfl HIM.out) hHeld ?_
  simp only [Act.put, List.getElem_toArray, List.getElem_cons_zero, List.getElem_cons_succ, List.setIfInBounds_toArray, List.set_cons_zero, List.set_cons_succ]
  refine wpAnyH_take (i := 9) (oi := _) (v := .slice pa (tlong nx n) pc) rfl (by kernel_rfl) (by kernel_rfl) (by kernel_rfl) (fun _ _ _ h => h) (Or.inl ⟨by rfl, fun w hw => by go_simp⟩) hHeld ?_
  simp only [Act.put, List.getElem_toArray, List.getElem_cons_zero, List.getElem_cons_succ, List.setIfInBounds_toArray, List.set_cons_zero, List.set_cons_succ]
  refine wpAnyH_take (i := 11) (oi := _) (v := .nilIface) rfl (by kernel_rfl) (by kernel_rfl) (by kernel_rfl) (fun _ _ _ h => h) (Or.inl ⟨by rfl, fun w hw => by go_simp⟩) hHeld ?_
  simp only [Act.put, List.getElem_toArray, List.getElem_cons_zero, List.getElem_cons_succ, List.setIfInBounds_toArray, List.set_cons_zero, List.set_cons_succ]
  refine wpAnyH_ready (rs := [6]) (by kernel_rfl) (by simp) ?_
  refine AllReadyH.cons (o := _) rfl (fun K hK => ?_) AllReadyH.nil
  have HK := Lib.hid hK
  clear hK
  go_simp
  go_at_call 50
  refine C7.out.mono ?_
  rintro e w81 ⟨rfl, hb1⟩
  have B1 := Lib.hid hb1
  clear hb1
  dsimp only
  refine HK.out _ _ (HKS.out w81 B1.out) ?_
  clear HK K hHeld
  try simp only [Act.put, List.getElem_toArray, List.getElem_cons_zero, List.getElem_cons_succ, List.setIfInBounds_toArray, List.set_cons_zero, List.set_cons_succ]
  intro hHeld
  refine wpAnyH_ready (rs := [8]) (by kernel_rfl) (by simp) ?_
  refine AllReadyH.cons (o := _) rfl (fun K hK => ?_) AllReadyH.nil
  have HK := Lib.hid hK
  clear hK
  go_simp
  go_at_call 54
  refine (WSign_calls (skey seed nx) m (skey_length seed nx) ML.out w81 (ROd.out.at_ B1.out)).mono ?_
  rintro e w82 ⟨sa, sc, rfl, hown, hb2⟩
  have B2 := Lib.hid (B1.out.trans (hb2.mono B1.out.size))
  have RSG := Lib.hid (Rd.of_own hown)
  clear hb2 hown
  dsimp only
  refine HK.out _ _ (HKS.out w82 B2.out) ?_
  clear HK K hHeld
  try simp only [Act.put, List.getElem_toArray, List.getElem_cons_zero, List.getElem_cons_succ, List.setIfInBounds_toArray, List.set_cons_zero, List.set_cons_succ]
  intro hHeld
  refine wpAnyH_take (i := 10) (oi := _) (v := .agg #[.int .i64 (nx : Int), .slice sa 67 sc, .slice pa (tlong nx n) pc]) rfl (by kernel_rfl) (by kernel_rfl) (by kernel_rfl) (fun _ _ _ h => h) (Or.inl ⟨by rfl, fun w hw => by have hcc := run_build_sig nx sa 67 sc pa (tlong nx n) pc w; go_simp⟩) hHeld ?_
  simp only [Act.put, List.getElem_toArray, List.getElem_cons_zero, List.getElem_cons_succ, List.setIfInBounds_toArray, List.set_cons_zero, List.set_cons_succ]
  have G2R := Lib.hid ((B2.out.block R (lt_of_heap GdR.out)).trans GdR.out)
  refine wpAnyH_ready (rs := [12]) (by kernel_rfl) (by simp) ?_
  refine AllReadyH.cons (o := _) rfl (fun K hK => ?_) AllReadyH.nil
  have HK := Lib.hid hK
  clear hK
  rw [if_pos (by rfl)]
  refine wp_store_row _ _ _ rfl R #[.int .i64 (nx : Int), .slice sa 67 sc, .slice pa (tlong nx n) pc] (by rfl) (by rfl) _ #[.int .i64 0, .slice none 0 0, .slice none 0 0] G2R.out (info_sig _ _ _) rfl (sig_one _ _ _ _ _ _ _) ?_
  have hMR : M ≠ R := by rw [SZR.out, SZM.out]; omega
  have S3 := Lib.hid (show (w82.setRow R #[.int .i64 (nx : Int), .slice sa 67 sc, .slice pa (tlong nx n) pc]).heap[P]? = some (.cells (sV seed (.slice la n lc) (nx + 1)) 82 (0, 0)) ∧ (w82.setRow R #[.int .i64 (nx : Int), .slice sa 67 sc, .slice pa (tlong nx n) pc]).heap[M]? = some (.cells (dV m) 23 (0, 0)) from ⟨(_root_.Go.setRow_other _ _ _ _ HPR.out).trans (HKS.out w82 B2.out).1, (_root_.Go.setRow_other _ _ _ _ hMR).trans (HKS.out w82 B2.out).2⟩)
  refine HK.out _ _ S3.out ?_
  clear HK K hHeld
  try simp only [Act.put, List.getElem_toArray, List.getElem_cons_zero, List.getElem_cons_succ, List.setIfInBounds_toArray, List.set_cons_zero, List.set_cons_succ]
  intro hHeld
  refine wpAnyH_take (i := 13) (oi := _) (v := .nilIface) rfl (by kernel_rfl) (by kernel_rfl) (by kernel_rfl) (fun _ _ _ h => h) (Or.inl ⟨by rfl, fun w hw => by go_simp⟩) hHeld ?_
  simp only [Act.put, List.getElem_toArray, List.getElem_cons_zero, List.getElem_cons_succ, List.setIfInBounds_toArray, List.set_cons_zero, List.set_cons_succ]
  refine wpAnyH_done (by kernel_rfl) ?_ _
  clear hHeld
  have BF := Lib.hid (BD.out.trans (B2.out.mono BD.out.size))
  have hRs : R < ws.heap.size := lt_of_heap GsR.out
  have FIN := Lib.hid (show SignPost w P seed n nx m (.returned (.tuple #[.agg #[.int .i64 (nx : Int), .slice sa 67 sc, .slice pa (tlong nx n) pc], .nilIface])) (w82.setRow R #[.int .i64 (nx : Int), .slice sa 67 sc, .slice pa (tlong nx n) pc]) from by
    have hne : ∀ vs e', (e' : TypeId) ≠ 26 → ∀ a, Rd w82 a e' vs → Rd (w82.setRow R #[.int .i64 (nx : Int), .slice sa 67 sc, .slice pa (tlong nx n) pc]) a e' vs := fun vs e' he a hr => by
      rcases hr with h0 | ⟨b, o, cur, fr, rfl, hc, hi⟩
      · exact .inl h0
      · refine .inr ⟨b, o, cur, fr, rfl, (_root_.Go.setRow_other _ _ _ _ (fun eq => ?_)).trans hc, hi⟩
        subst eq
        rw [G2R.out] at hc
        simp only [Option.some.injEq, Obj.cells.injEq] at hc
        exact he hc.2.1.symm
    refine ⟨sa, sc, pa, pc, rfl, hne _ _ (by decide) _ RSG.out, hne _ _ (by decide) _ (RPd.out.below B2.out), ⟨la, lc, S3.out.1, hc1, hc2, hne _ _ (by decide) _ (RsL.out.below BF.out), HLA.out⟩, ?_, ?_, ?_⟩
    · exact below_setRowW (BS1.out.trans (BF.out.mono (Nat.le_of_lt (lt_of_heap GsP.out)))) (by have := HLT0.out; omega) _
    · rw [setRow_size]; exact Nat.le_trans hszw BF.out.size
    · intro b hb hlt'
      rw [_root_.Go.setRow_other _ _ _ _ (by omega), BF.out.block b (by omega)]
      exact SVB.out b hb hlt')
  go_wp2_with fail
  try simp only [Exit.inBlock, Exit.then]
  refine bodyPost_ret (results_cell_tmp rfl _ _ _ ⟨R, 0, none⟩ (.agg #[.int .i64 (nx : Int), .slice sa 67 sc, .slice pa (tlong nx n) pc]) rfl ?_) rfl ?_
  · exact load_sig (setRow_heap _ _ _ _ _ _ G2R.out)
  · exact FIN.out
end Go.Proofs.YtkioddmhjbaleaaGreatDoor
