/- Walks: slices.Clone of digests, and hyper.Sign. -/
import Derived.Test.YtkioddmhjbaleaaGreatDoorHyp2
namespace Go.Proofs.YtkioddmhjbaleaaGreatDoor
open Go.RowKit
set_option linter.unusedVariables false
set_option linter.unusedSimpArgs false
theorem info_dbl (a b c d e f : Value) : (Tryz.prog.info? 28).map (·.size) = some (#[a, b, c, d, e, f] : Array Value).size := by kernel_rfl
theorem run_build_dbl (i j : Int) (sa ua pa va : Option Addr) (sn sc un uc pn pc vn vc : Nat) (w : World) : (Instr.build 28 #[(0, .agg #[.int .i64 i, .slice ua un uc, .slice va vn vc]), (1, .agg #[.int .i64 j, .slice sa sn sc, .slice pa pn pc])]).run Tryz.prog w = .ok (.agg #[.int .i64 i, .slice ua un uc, .slice va vn vc, .int .i64 j, .slice sa sn sc, .slice pa pn pc]) w := by kernel_rfl
theorem bld_dbl {ops : Array Oper} {rest : List Oper} {op : Oper} {a : Act} {w : World} {Q : Exit → Act → World → Prop} (hgd : op.guard = none) (x y : Operand) (ho : op.op = .build 28 #[(0, x), (1, y)]) (i j : Int) (sa ua pa va : Option Addr) (sn sc un uc pn pc vn vc : Nat) (hx : a.eval x = .agg #[.int .i64 i, .slice ua un uc, .slice va vn vc]) (hy : a.eval y = .agg #[.int .i64 j, .slice sa sn sc, .slice pa pn pc])
    (hw : wpList Tryz.prog ops Q rest (a.put op.dst (.agg #[.int .i64 i, .slice ua un uc, .slice va vn vc, .int .i64 j, .slice sa sn sc, .slice pa pn pc])) w) : wpList Tryz.prog ops Q (op :: rest) a w := by
  refine wpList_plain hgd fun K hK => ?_
  unfold Oper.wp execOp
  simp only [ho, List.map_toArray, List.map_cons, List.map_nil, hx, hy, Sem.run_bind, run_build_dbl, Result.andThen_ok, Sem.run_pure]
  exact hK _ _ hw
theorem dbl_one (i j : Int) (sa ua pa va : Option Addr) (sn sc un uc pn pc vn vc : Nat) : (#[.int .i64 i, .slice ua un uc, .slice va vn vc, .int .i64 j, .slice sa sn sc, .slice pa pn pc] : Array Value).all (·.oneCell') = true := by simp [Value.oneCell']
theorem st_dbl {ops : Array Oper} {rest : List Oper} {op : Oper} {a : Act} {w : World} {Q : Exit → Act → World → Prop} (hgd : op.guard = none) (x y : Operand) (ho : op.op = .store 28 x y) (g : Nat) (b0 b1 b2 b3 b4 b5 : Value) (hx : a.eval x = .pointer (some ⟨g, 0, none⟩)) (hy : a.eval y = .agg #[b0, b1, b2, b3, b4, b5]) (old : Array Value) (hold : old.size = 6) (t : TypeId) (hg : w.heap[g]? = some (.cells old t (0, 0))) (h1 : (#[b0, b1, b2, b3, b4, b5] : Array Value).all (·.oneCell') = true)
    (h : wpList Tryz.prog ops Q rest (a.put op.dst undef) (w.setRow g #[b0, b1, b2, b3, b4, b5])) : wpList Tryz.prog ops Q (op :: rest) a w :=
  wpList_store_row hgd _ x y ho g #[b0, b1, b2, b3, b4, b5] hx hy t old hg (info_dbl _ _ _ _ _ _) hold h1 h
theorem load_dbl {w : World} {R : Nat} {a b c d e f : Value} {t : TypeId} {fr : Nat × Nat} (h : w.heap[R]? = some (.cells #[a, b, c, d, e, f] t fr)) : (loadVar 28 ⟨R, 0, none⟩).run Tryz.prog w = .ok (.agg #[a, b, c, d, e, f]) w := by
  refine run_loadVar_mid w R 0 _ [a, b, c, d, e, f] _ (fun j v hj => ?_) Tryz.underlying28 rfl (info_dbl a b c d e f)
  rw [Nat.zero_add, cell_of_row w R j _ t fr h]
  simpa using hj
theorem ld_sigM {ops : Array Oper} {rest : List Oper} {op : Oper} {a : Act} {w : World} {Q : Exit → Act → World → Prop} (hgd : op.guard = none) (x : Operand) (ho : op.op = .load 26 x) (g o : Nat) (hx : a.eval x = .pointer (some ⟨g, o, none⟩)) (u v z : Value) (hc : w.rangeAt g o [u, v, z])
    (h : wpList Tryz.prog ops Q rest (a.put op.dst (.agg #[u, v, z])) w) : wpList Tryz.prog ops Q (op :: rest) a w :=
  wpList_load_mid hgd _ x ho g o hx [u, v, z] _ hc Tryz.underlying26 rfl (info_sig u v z) h
def RetD (w : World) (vs : List Value) (n : Nat) (e : Ending) (w' : World) : Prop := ∃ a c, e = .returned (.slice a n c) ∧ Rd w' a 23 vs ∧ Below w.heap.size w w'
theorem flat32 : ∀ (ds : List (List UInt8)), (∀ d ∈ ds, d.length = 32) → ds.flatten.length = ds.length * 32
  | [], _ => rfl
  | d :: ds, h => by
    rw [List.flatten_cons, List.length_append, h d (List.mem_cons_self ..), flat32 ds (fun x hx => h x (List.mem_cons_of_mem _ hx)), List.length_cons]
    omega
theorem CloneD_calls (ds : List (List UInt8)) (hd : ∀ d ∈ ds, d.length = 32) (n : Nat) (hn : ds.length = n) (hx : n ≤ 1000000000) (a : Option Addr) (ca ea : Nat) (w : World) (ha : Rd w a ea (ds.flatten.map vB)) :
    Calls Tryz.prog 34 #[.slice a n ca] w (RetD w (ds.flatten.map vB) n) := by
  have hnil := fun (w : World) (a : Option Addr) (n c : Nat) => Lib.run_eql_slice_nil (P := Tryz.prog) w 24 23 a n c 0 0 Tryz.underlying24
  have hcl : (ds.flatten.map vB).length = n * 32 := by rw [List.length_map, flat32 ds hd, hn]
  obtain ⟨vs, hvs⟩ : ∃ z, z = ds.flatten.map vB := ⟨_, rfl⟩
  have h1 : ∀ u ∈ vs, u.oneCell' = true := by rw [hvs]; exact one_bytes _
  rw [← hvs] at ha hcl ⊢
  clear hvs hd hn
  cases a with
  | none =>
    have h0 : vs = [] := by
      rcases ha with h | ⟨b, o, cur, fr, h, _⟩
      · exact h
      · cases h
    subst h0
    have h00 : n = 0 := by simp at hcl; omega
    subst h00
    go_enter Tryz.func34, Tryz.ntmps34
    go_wp2
    go_ret
    exact ⟨none, 0, rfl, Rd.nil, Below.refl _ _⟩
  | some ad =>
    by_cases h0 : n = 0
    · subst h0
      have hv : vs = [] := List.length_eq_zero_iff.1 (by omega)
      subst hv
      go_enter Tryz.func34, Tryz.ntmps34
      go_wp2
      go_ret
      exact ⟨_, 0, rfl, Rd.nil, (Below.refl _ w).alloc (Nat.le_refl _) _⟩
    · have hl : 0 < n := by omega
      obtain ⟨b, o, he, _, hc⟩ := ha.cell (k := 0) (by omega)
      simp only [Option.some.injEq] at he
      subst he
      have H0 := Lib.hid h0
      have HA := Lib.hid ha
      have HCL := Lib.hid hcl
      have H1 := Lib.hid h1
      clear h0 ha hc hcl h1
      go_enter Tryz.func34, Tryz.ntmps34
      go_wp2_with (at_builtin; refine appRd 24 23 _ 32 32 Tryz.underlying24 info_dig rfl (by omega) (by omega) rfl _ _ rfl w.heap.size _ 0 [] rfl (World.ownsRow_made w #[] 0 (Nat.le_refl _) (Nat.zero_le _) rfl) ⟨b, o, none⟩ n _ vs rfl ea (HA.out.alloc _) HCL.out H1.out hl (by omega) (by rw [World.size_alloc]; omega) _ rfl ?_; intro g cap w1 hown hgrow hat hlt)
      have hb1 : Below w.heap.size w w1 := ((Below.refl _ w).alloc (Nat.le_refl _) _).grown hgrow (by simp) (fun k hk => by have : w.heap.size = k := Option.some.inj hk; omega)
      have hown2 : w1.ownsRow w.heap.size 23 32 (.slice (some ⟨g, 0, none⟩) n cap) n vs := by simpa using hown
      clear hgrow hown
      go_wp2
      go_ret
      exact ⟨_, cap, by first | rfl | simp, Rd.of_own hown2, hb1⟩
/-- blocks of stamps, hypers and digests are as they were -/
def Kp (w w' : World) : Prop := ∀ (b : Nat) (c : Array Value) (t : TypeId) (fr : Nat × Nat), w.heap[b]? = some (.cells c t fr) → (t = 82 ∨ t = 62 ∨ t = 23) → w'.heap[b]? = some (.cells c t fr)
theorem Kp.of_below {w w' : World} (h : Below w.heap.size w w') : Kp w w' := fun b c t fr hb _ => (h.block b (lt_of_heap hb)).trans hb
theorem Kp.trans {a b c : World} (h : Kp a b) (k : Kp b c) : Kp a c := fun x d t fr hx ht => k x d t fr (h x d t fr hx ht) ht
theorem Kp.of_only {w w' : World} {X : Nat} (h : Only w w' X) {c : Array Value} {t : TypeId} {fr : Nat × Nat} (hX : w.heap[X]? = some (.cells c t fr)) (h1 : t ≠ 82) (h2 : t ≠ 62) (h3 : t ≠ 23) : Kp w w' := fun b c' t' fr' hb ht =>
  h.blk hX hb (fun e => by subst e; rcases ht with h | h | h; exact h1 h; exact h2 h; exact h3 h)
theorem Kp.rd {w w' : World} (h : Kp w w') {a : Option Addr} {vs : List Value} (hr : Rd w a 23 vs) : Rd w' a 23 vs := by
  rcases hr with h0 | ⟨b, o, cur, fr', rfl, hc, hi⟩
  · exact .inl h0
  · exact .inr ⟨b, o, cur, fr', rfl, h b _ _ _ hc (.inr (.inr rfl)), hi⟩
theorem Kp.stamp {w w' : World} (h : Kp w w') {P n nx : Nat} {s : List UInt8} (hs : StampAt w P s n nx) : StampAt w' P s n nx := by
  obtain ⟨la, cap, a1, a2, a3, a4, a5⟩ := hs
  exact ⟨la, cap, h P _ _ _ a1 (.inl rfl), a2, a3, h.rd a4, a5⟩
theorem Kp.key {w w' : World} (h : Kp w w') {up low : List UInt8} {N t : Nat} {x0 x1 x2 : Value} (hk : KeyAt w up low N t x0 x1 x2) : KeyAt w' up low N t x0 x1 x2 := by
  obtain ⟨sa, sc, pa, pc, h1, h2, h3, h4, h5⟩ := hk
  exact ⟨sa, sc, pa, pc, h1, h2, h3, h.rd h4, h.rd h5⟩
theorem HyR.kp {w w' : World} (k : Kp w w') {X B : Nat} {seed : List UInt8} {h : Int} {N t nx : Nat} (hy : HyR w X B seed h N t nx) : HyR w' X B seed h N t nx := by
  obtain ⟨P, Q, x0, x1, x2, h1, h2, h3, h4, h5, h6, h7, h8, h9, h10, h11⟩ := hy
  exact ⟨P, Q, x0, x1, x2, k X _ _ _ h1 (.inr (.inl rfl)), h2, h3, h4, h5, h6, h7, k.stamp h8, k.stamp h9, k.key h10, h11⟩
theorem HyAt.kp {w w' : World} (k : Kp w w') {X B : Nat} {seed : List UInt8} {h : Int} {N i : Nat} (hy : HyAt w X B seed h N i) : HyAt w' X B seed h N i := by
  obtain ⟨P, turn, low, x0, x1, x2, h1, h2, h3, h4, h5, h6, h7⟩ := hy
  refine ⟨P, turn, low, x0, x1, x2, k X _ _ _ h1 (.inr (.inl rfl)), h2, h3, k.stamp h4, h5, h6, ?_⟩
  rcases h7 with h7 | ⟨t, Q, nx, e1, e2, e3, e4, e5, e6, e7, e8, e9⟩
  · exact .inl h7
  · exact .inr ⟨t, Q, nx, e1, e2, e3, e4, e5, e6, e7, k.stamp e8, fun hl => k.key (e9 hl)⟩
theorem HyR.hyAt {w : World} {X B : Nat} {seed : List UInt8} {h : Int} {N t nx : Nat} (hy : HyR w X B seed h N t nx) : HyAt w X B seed h N (t * N + nx) := by
  obtain ⟨P, Q, x0, x1, x2, h1, h2, h3, h4, h5, h6, h7, h8, h9, h10, h11⟩ := hy
  exact ⟨P, t + 1, _, x0, x1, x2, h1, h2, h3, h8, h6, h11, .inr ⟨t, Q, nx, rfl, h6, rfl, h4, h5, h7, rfl, h9, fun _ => h10⟩⟩
theorem Ho.setRowNew {B : Nat} {w w' : World} (h : Ho B w w') {R : Nat} (hB : B ≤ R) (hR : w.heap.size ≤ R) (cs : Array Value) : Ho B w (w'.setRow R cs) :=
  ⟨below_setRowW h.1 hB cs, fun b c t fr hb h1 h2 => (_root_.Go.setRow_other _ _ _ _ (by have := lt_of_heap hb; omega)).trans (h.2 b c t fr hb h1 h2)⟩
theorem Ho.below {B : Nat} {w w1 w2 : World} (h : Ho B w w1) (hb : Below w1.heap.size w1 w2) (hB : B ≤ w1.heap.size) : Ho B w w2 := h.trans (Ho.of_below hb hB)
def F79 : Nat → Bool := fun j => j == 7 || j == 9
theorem F79_in : ∀ j, F79 j = true → j ∈ [7, 9] := fun j h => by unfold F79 at h; simpa using h
/-- what Sign tells, and what it leaves -/
def SignH (w : World) (X B : Nat) (seed : List UInt8) (h : Int) (N t nx : Nat) (m : List UInt8) (e : Ending) (w' : World) : Prop :=
  ∃ ua uc va vc sa sc pa pc, e = .returned (.tuple #[.agg #[.int .i64 (t : Int), .slice ua 67 uc, .slice va (tlong t N) vc, .int .i64 (nx : Int), .slice sa 67 sc, .slice pa (tlong nx N) pc], .nilIface]) ∧
    Rd w' ua 23 ((wsig (skey (hup seed) t) (troot (leavesK (hlow seed t) N))).flatten.map vB) ∧ Rd w' va 23 ((tpath (leavesK (hup seed) N) t).flatten.map vB) ∧
    Rd w' sa 23 ((wsig (skey (hlow seed t) nx) m).flatten.map vB) ∧ Rd w' pa 23 ((tpath (leavesK (hlow seed t) N) nx).flatten.map vB) ∧ HyR w' X B seed h N t (nx + 1) ∧ Ho B w w'
set_option maxRecDepth 20000 in
set_option maxHeartbeats 8000000 in
theorem HSign_core (seed m : List UInt8) (hs : seed.length = 32) (hm : m.length = 32) (h : Int) (N : Nat) (hg : High3 h N) (X B P turn t nx : Nat) (b : Bool) (low x0 x1 x2 : Value) (w : World) (hX : w.heap[X]? = some (.cells (hV (.pointer (some ⟨P, 0, none⟩)) seed h (turn : Int) low x0 x1 x2) 62 (0, 0))) (hgB : 1 < B) (hBX : B ≤ X) (ht : t < N) (hnx : nx < N)
    (hL : (b = true ∧ low = .pointer none) ∨ ∃ Q s nq, low = .pointer (some ⟨Q, 0, none⟩) ∧ s.length = 32 ∧ nq ≤ N ∧ StampAt w Q s N nq ∧ b = decide (nq = N))
    (hA : b = true → nx = 0 ∧ turn = t ∧ StampAt w P (hup seed) N t ∧ B ≤ P) (hC : b = false → HyR w X B seed h N t nx) (hro : RoundsAt w) :
    Calls Tryz.prog 12 #[.pointer (some ⟨X, 0, none⟩), .agg (dV m)] w (SignH w X B seed h N t nx m) := by
  have ML := Lib.hid hm
  have SL := Lib.hid hs
  have RO := Lib.hid hro
  have HX0 := Lib.hid hX
  have HLL := Lib.hid hL
  have HAA := Lib.hid hA
  have HCC := Lib.hid hC
  have hN := hg.bounds
  have hN256 : N ≤ 256 := by omega
  have hBw : B ≤ w.heap.size := Nat.le_trans hBX (Nat.le_of_lt (lt_of_heap hX))
  have HIM := Lib.hid (show (Tryz.prog.info? 23).map (·.size) = some (m.map vB).length by rw [List.length_map, hm]; exact dig_size)
  have HTL := Lib.hid (tpath_long N (leavesK (hup seed) N) t (by rw [leavesK_length]; exact Nat.le_refl _))
  have HTLB := Lib.hid (show tlong t N ≤ 1000000000 from Nat.le_trans (tlong_le 300 t N (by omega)) (by omega))
  rw [leavesK_length] at HTL
  clear hm hs hro hX hL hA hC
  obtain ⟨M, hM⟩ : ∃ z, z = w.heap.size := ⟨_, rfl⟩
  obtain ⟨w1, hw1⟩ : ∃ z, z = w.alloc (.cells (dV m) 23) := ⟨_, rfl⟩
  have st1 : Below w.heap.size w w1 := by rw [hw1]; exact (Below.refl _ _).alloc (Nat.le_refl _) _
  have B1 := Lib.hid (show Below w.heap.size w w1 from Below.trans (Below.refl w.heap.size w) (Below.mono st1 (Below.size (Below.refl w.heap.size w))))
  have GM_1 := Lib.hid (show w1.heap[M]? = some (.cells (dV m) 23 (0, 0)) by rw [hw1, hM]; exact heap_alloc_new _ _)
  have LM_1 := Lib.hid (lt_of_heap GM_1.out)
  have HM := Lib.hid hM
  have Hw1 := Lib.hid hw1
  clear hM hw1 st1
  have SZM := Lib.hid (show M = w.heap.size from HM.out)
  obtain ⟨R, hR⟩ : ∃ z, z = w1.heap.size := ⟨_, rfl⟩
  obtain ⟨w2, hw2⟩ : ∃ z, z = w1.alloc (.cells #[.int .i64 0, .slice none 0 0, .slice none 0 0, .int .i64 0, .slice none 0 0, .slice none 0 0] 28) := ⟨_, rfl⟩
  have st2 : Below w1.heap.size w1 w2 := by rw [hw2]; exact (Below.refl _ _).alloc (Nat.le_refl _) _
  have B2 := Lib.hid (show Below w.heap.size w w2 from Below.trans B1.out (Below.mono st2 (Below.size B1.out)))
  have GM_2 := Lib.hid ((Below.block st2 M LM_1.out).trans GM_1.out)
  have LM_2 := Lib.hid (Nat.lt_of_lt_of_le LM_1.out (Below.size st2))
  have GR_2 := Lib.hid (show w2.heap[R]? = some (.cells #[.int .i64 0, .slice none 0 0, .slice none 0 0, .int .i64 0, .slice none 0 0, .slice none 0 0] 28 (0, 0)) by rw [hw2, hR]; exact heap_alloc_new _ _)
  have LR_2 := Lib.hid (lt_of_heap GR_2.out)
  have HR := Lib.hid hR
  have Hw2 := Lib.hid hw2
  clear hR hw2 st2
  have SZR := Lib.hid (show R = w.heap.size + 1 by rw [HR.out, Hw1.out, World.size_alloc, ← HM.out, SZM.out])
  go_enter Tryz.func12, Tryz.ntmps12
  go_upto_region 1 with fail
  rw [← SZR.out, ← SZM.out, ← Hw1.out, ← Hw2.out]
  have GX2 := Lib.hid ((Below.block B2.out X (lt_of_heap HX0.out)).trans HX0.out)
  have c35 := cell_of_row _ X 35 _ _ _ GX2.out
  rw [hV_35 SL.out] at c35
  go_cut [22] from 10 (fun v wx => v = .bool b ∧ Below w2.heap.size w2 wx)
  case first =>
    rcases HLL.out with ⟨hb, hlw⟩ | ⟨Q, s, nq, hlw, hsl, hq, hSQ, hb⟩
    · subst hlw
      have HB := Lib.hid hb
      clear hb
      go_wp2_with fail
      go_meet
      exact ⟨by rw [HB.out], Below.refl _ _⟩
    · subst hlw
      obtain ⟨d, hd⟩ : ∃ d, d = N - nq := ⟨_, rfl⟩
      have CQ := Lib.hid (Left_calls s hsl Q N nq hN256 hq w2 (hSQ.below B2.out))
      rw [← hd] at CQ
      have q0 : ((d : Int) == 0) = b := by
        rw [hb]
        by_cases h0 : nq = N
        · rw [decide_eq_true h0]; simp; omega
        · rw [decide_eq_false h0]; simp; omega
      clear hb hd hq hsl hSQ
      go_wp2_with fail
      refine CQ.out.mono ?_
      rintro e wq ⟨rfl, hbq⟩
      clear CQ
      go_wp2_with fail
      go_meet
      exact ⟨rfl, hbq⟩
  case rest =>
  obtain ⟨rfl, hbc⟩ := hcut
  obtain ⟨wA, rfl⟩ : ∃ z, z = wc := ⟨_, rfl⟩
  have BA := Lib.hid (Below.trans B2.out (hbc.mono (Below.size B2.out)))
  have GMA := Lib.hid ((hbc.block M (lt_of_heap GM_2.out)).trans GM_2.out)
  have GRA := Lib.hid ((hbc.block R (lt_of_heap GR_2.out)).trans GR_2.out)
  have GXA := Lib.hid ((BA.out.block X (lt_of_heap HX0.out)).trans HX0.out)
  clear hbc c35 GX2
  go_upto_if 22 with fail
  go_cut [] from 10 (fun wx => HyR wx X B seed h N t nx ∧ Ho B w wx ∧ wx.heap[M]? = some (.cells (dV m) 23 (0, 0)) ∧ wx.heap[R]? = some (.cells #[.int .i64 0, .slice none 0 0, .slice none 0 0, .int .i64 0, .slice none 0 0, .slice none 0 0] 28 (0, 0)))
  case first =>
    cases b with
    | false =>
      have HR := Lib.hid ((HCC.out rfl).kp (Kp.of_below BA.out))
      have HO := Lib.hid (Ho.of_below BA.out hBw)
      go_wp2_with fail
      go_meet
      exact ⟨HR.out, HO.out, GMA.out, GRA.out⟩
    | true =>
      obtain ⟨rfl, rfl, hSt, hBP⟩ := HAA.out rfl
      have NX := Lib.hid (Next_ok seed SL.out h N hg X B P turn low x0 x1 x2 wA GXA.out hgB hBX hBP (hSt.below BA.out) ht (RO.out.at_ BA.out))
      clear hSt
      go_wp2_with fail
      refine NX.out.mono ?_
      rintro e wB ⟨rfl, hho, hhr⟩
      have HO := Lib.hid ((Ho.of_below BA.out hBw).trans hho)
      have HR := Lib.hid hhr
      have GMB := Lib.hid (hho.2 M _ _ _ GMA.out (by decide) (by decide))
      have GRB := Lib.hid (hho.2 R _ _ _ GRA.out (by decide) (by decide))
      clear hho hhr NX
      go_wp2_with fail
      go_meet
      exact ⟨HR.out, HO.out, GMB.out, GRB.out⟩
  case rest =>
  obtain ⟨hhr, hho, hgm, hgr⟩ := hcut
  obtain ⟨wC, rfl⟩ : ∃ z, z = wc := ⟨_, rfl⟩
  have HRC := Lib.hid hhr
  have HOC := Lib.hid hho
  have GMC := Lib.hid hgm
  have GRC := Lib.hid hgr
  have ROC := Lib.hid (hho.rounds hgB RO.out)
  have hBC : B ≤ wC.heap.size := Nat.le_trans hBw hho.size
  clear hhr hho hgm hgr GMA GRA GXA HCC HAA HLL
  go_upto_region 5 with fail
  go_cut [7, 8] from 10 (fun v7 v8 wx => ∃ D sa sc pa pc, v7 = .pointer (some ⟨D, 0, none⟩) ∧ v8 = .nilIface ∧ wx.heap[D]? = some (.cells #[.int .i64 (nx : Int), .slice sa 67 sc, .slice pa (tlong nx N) pc] 26 (0, 0)) ∧ Rd wx sa 23 ((wsig (skey (hlow seed t) nx) m).flatten.map vB) ∧ Rd wx pa 23 ((tpath (leavesK (hlow seed t) N) nx).flatten.map vB) ∧ HyR wx X B seed h N t (nx + 1) ∧ Ho B w wx ∧ wx.heap[R]? = some (.cells #[.int .i64 0, .slice none 0 0, .slice none 0 0, .int .i64 0, .slice none 0 0, .slice none 0 0] 28 (0, 0)))
  case first =>
    obtain ⟨P, Q, x0, x1, x2, h1, h2, h3, h4, h5, h6, h7, h8, h9, h10, h11⟩ := HRC.out
    have GX := Lib.hid h1
    have SQ := Lib.hid h9
    have SP := Lib.hid h8
    have KY := Lib.hid h10
    have KS : ∀ w' : World, (∀ (b : Nat) (c : Array Value) (ty : TypeId) (fr : Nat × Nat), wC.heap[b]? = some (.cells c ty fr) → ty ≠ 82 → w'.heap[b]? = some (.cells c ty fr)) → (w'.cell? ⟨X, 35, none⟩ = some (.pointer (some ⟨Q, 0, none⟩)) ∧ w'.rangeAt M 0 (m.map vB)) := fun w' hb => by
      refine ⟨?_, range_of_row (hb M _ _ _ GMC.out (by decide))⟩
      rw [cell_of_row w' X 35 _ _ _ (hb X _ _ _ GX.out (by decide)), hV_35 SL.out]
    have HKS := Lib.hid KS
    obtain ⟨wd, hwd⟩ : ∃ z, z = wC.drew := ⟨_, rfl⟩
    refine wp_region_held_drew (S := fun w' => w'.cell? ⟨X, 35, none⟩ = some (.pointer (some ⟨Q, 0, none⟩)) ∧ w'.rangeAt M 0 (m.map vB)) (by kernel_rfl) (by rw [← hwd]; exact KS wd (fun b c ty fr h _ => by rw [hwd]; exact h)) (fun hHeld => ?_)
    rw [← hwd] at hHeld ⊢
    have BD_wd := Lib.hid (show Below wC.heap.size wC wd by rw [hwd]; exact (Below.refl _ _).drew)
    clear h1 h8 h9 h10 KS hwd
    refine wpAnyH_take (i := 0) (oi := _) (v := .pointer (some ⟨X, 0, none⟩)) rfl (by kernel_rfl) (by kernel_rfl) (by kernel_rfl) (fun _ _ _ h => h) (Or.inl ⟨by rfl, fun w hw => by go_simp⟩) hHeld ?_
    simp only [Act.put, List.getElem_toArray, List.getElem_cons_zero, List.getElem_cons_succ, List.setIfInBounds_toArray, List.set_cons_zero, List.set_cons_succ]
    refine wpAnyH_take (i := 1) (oi := _) (v := .pointer (some ⟨X, 0, none⟩)) rfl (by kernel_rfl) (by kernel_rfl) (by kernel_rfl) (fun _ _ _ h => h) (Or.inl ⟨by rfl, fun w hw => by go_simp⟩) hHeld ?_
    simp only [Act.put, List.getElem_toArray, List.getElem_cons_zero, List.getElem_cons_succ, List.setIfInBounds_toArray, List.set_cons_zero, List.set_cons_succ]
    refine wpAnyH_take (i := 2) (oi := _) (v := .pointer (some ⟨X, 35, none⟩)) rfl (by kernel_rfl) (by kernel_rfl) (by kernel_rfl) (fun _ _ _ h => h) (Or.inl ⟨by rfl, fun w hw => by go_simp⟩) hHeld ?_
    simp only [Act.put, List.getElem_toArray, List.getElem_cons_zero, List.getElem_cons_succ, List.setIfInBounds_toArray, List.set_cons_zero, List.set_cons_succ]
    refine wpAnyH_take (i := 3) (oi := _) (v := .pointer (some ⟨Q, 0, none⟩)) rfl (by kernel_rfl) (by kernel_rfl) (by kernel_rfl) (fun _ _ _ h => h) (Or.inl ⟨by rfl, fun w hw => by have hcc := hw.1; go_simp⟩) hHeld ?_
    simp only [Act.put, List.getElem_toArray, List.getElem_cons_zero, List.getElem_cons_succ, List.setIfInBounds_toArray, List.set_cons_zero, List.set_cons_succ]
    refine wpAnyH_take (i := 4) (oi := _) (v := _) rfl (by kernel_rfl) (by kernel_rfl) (by kernel_rfl) (fun _ _ _ h => h) (yieldsIf_load_mid (by rfl) _ _ rfl _ _ rfl (m.map vB) _ (fun w hw => hw.2) Tryz.underlying23 rfl HIM.out) hHeld ?_
    simp only [Act.put, List.getElem_toArray, List.getElem_cons_zero, List.getElem_cons_succ, List.setIfInBounds_toArray, List.set_cons_zero, List.set_cons_succ]
    refine wpAnyH_ready (rs := [5, 9]) (by kernel_rfl) (by simp) ?_
    refine AllReadyH.cons (o := _) rfl (fun K hK => ?_) (AllReadyH.cons (o := _) rfl (fun K hK => ?_) AllReadyH.nil)
    · have HK := Lib.hid hK
      clear hK
      go_simp
      go_at_call 33
      refine (Sign_ok (hlow seed t) m (hlow_length _ _) ML.out Q N nx hN256 hnx wd (SQ.out.below BD_wd.out) (ROC.out.at_ BD_wd.out)).mono ?_
      rintro e we ⟨sa, sc, pa, pc, rfl, hsg, hpt, hst, hsv⟩
      have SV := Lib.hid hsv
      have SQ0 := Lib.hid (SQ.out.below BD_wd.out)
      have S2 := Lib.hid (HKS.out we (fun b c ty fr hb g1 => hsv.blk SQ0.out ((BD_wd.out.block b (lt_of_heap hb)).trans hb) g1))
      have RSG := Lib.hid hsg
      have RPT := Lib.hid hpt
      have HOE := Lib.hid ((HOC.out.below BD_wd.out hBC).trans (Ho.of_save hsv SQ0.out h4))
      have HRE := Lib.hid (show HyR we X B seed h N t (nx + 1) from ⟨P, Q, x0, x1, x2, hsv.blk SQ0.out ((BD_wd.out.block X (lt_of_heap GX.out)).trans GX.out) (by decide), h2, h3, h4, h5, h6, (by omega), hsv.stamp SQ0.out (Ne.symm h5) (SP.out.below BD_wd.out), hst, KY.out.ho ((Ho.of_below BD_wd.out hBC).trans (Ho.of_save hsv SQ0.out h4)), h11⟩)
      have GRE := Lib.hid (hsv.blk SQ0.out ((BD_wd.out.block R (lt_of_heap GRC.out)).trans GRC.out) (by decide))
      have GXE := Lib.hid (hsv.blk SQ0.out ((BD_wd.out.block X (lt_of_heap GX.out)).trans GX.out) (by decide))
      have GME := Lib.hid (hsv.blk SQ0.out ((BD_wd.out.block M (lt_of_heap GMC.out)).trans GMC.out) (by decide))
      clear hsg hpt hst hsv
      dsimp only
      refine HK.out _ _ S2.out ?_
      clear HK K hHeld
      try simp only [Act.put, List.getElem_toArray, List.getElem_cons_zero, List.getElem_cons_succ, List.setIfInBounds_toArray, List.set_cons_zero, List.set_cons_succ]
      intro hHeld
      refine wpAnyH_take (i := 6) (oi := _) (v := .tuple #[.agg #[.int .i64 (nx : Int), .slice sa 67 sc, .slice pa (tlong nx N) pc], .nilIface]) rfl (by kernel_rfl) (by kernel_rfl) (by kernel_rfl) (fun _ _ _ h => h) (Or.inl ⟨by rfl, fun w hw => by go_simp⟩) hHeld ?_
      simp only [Act.put, List.getElem_toArray, List.getElem_cons_zero, List.getElem_cons_succ, List.setIfInBounds_toArray, List.set_cons_zero, List.set_cons_succ]
      refine wpAnyH_take (i := 7) (oi := _) (v := .agg #[.int .i64 (nx : Int), .slice sa 67 sc, .slice pa (tlong nx N) pc]) rfl (by kernel_rfl) (by kernel_rfl) (by kernel_rfl) (fun _ _ _ h => h) (Or.inl ⟨by rfl, fun w hw => by go_simp⟩) hHeld ?_
      simp only [Act.put, List.getElem_toArray, List.getElem_cons_zero, List.getElem_cons_succ, List.setIfInBounds_toArray, List.set_cons_zero, List.set_cons_succ]
      refine wpAnyH_take (i := 8) (oi := _) (v := .nilIface) rfl (by kernel_rfl) (by kernel_rfl) (by kernel_rfl) (fun _ _ _ h => h) (Or.inl ⟨by rfl, fun w hw => by go_simp⟩) hHeld ?_
      simp only [Act.put, List.getElem_toArray, List.getElem_cons_zero, List.getElem_cons_succ, List.setIfInBounds_toArray, List.set_cons_zero, List.set_cons_succ]
      refine wpAnyH_ready (rs := [9]) (by kernel_rfl) (by simp) ?_
      refine AllReadyH.cons (o := _) rfl (fun K hK => ?_) AllReadyH.nil
      have HK := Lib.hid hK
      clear hK
      go_simp
      obtain ⟨D, hD⟩ : ∃ z, z = we.heap.size := ⟨_, rfl⟩
      obtain ⟨wf, hw1⟩ : ∃ z, z = we.alloc (.cells #[.int .i64 0, .slice none 0 0, .slice none 0 0] 26) := ⟨_, rfl⟩
      have hba : Below we.heap.size we wf := by rw [hw1]; exact (Below.refl _ _).alloc (Nat.le_refl _) _
      have GT_wf := Lib.hid (show wf.heap[D]? = some (.cells #[.int .i64 0, .slice none 0 0, .slice none 0 0] 26 (0, 0)) by rw [hw1, hD]; exact heap_alloc_new _ _)
      have LT := Lib.hid (show w.heap.size ≤ D by rw [hD]; exact HOE.out.size)
      have HO_wf := Lib.hid (HOE.out.below hba (Nat.le_trans hBw HOE.out.size))
      have HR_wf := Lib.hid (HRE.out.kp (Kp.of_below hba))
      have RS_wf := Lib.hid (RSG.out.below hba)
      have RP_wf := Lib.hid (RPT.out.below hba)
      have GR_wf := Lib.hid ((hba.block R (lt_of_heap GRE.out)).trans GRE.out)
      have GX_wf := Lib.hid ((hba.block X (lt_of_heap GXE.out)).trans GXE.out)
      have GM_wf := Lib.hid ((hba.block M (lt_of_heap GME.out)).trans GME.out)
      have S3 := Lib.hid (show wf.cell? ⟨X, 35, none⟩ = some (.pointer (some ⟨Q, 0, none⟩)) ∧ wf.rangeAt M 0 (m.map vB) from ⟨(cell_of_row wf X 35 _ _ _ GX_wf.out).trans (hV_35 SL.out _ _ _ _ _ _ _), range_of_row GM_wf.out⟩)
      rw [← hD, ← hw1]
      clear hD hw1 hba
      refine HK.out _ _ S3.out ?_
      clear HK K hHeld
      try simp only [Act.put, List.getElem_toArray, List.getElem_cons_zero, List.getElem_cons_succ, List.setIfInBounds_toArray, List.set_cons_zero, List.set_cons_succ]
      intro hHeld
      refine wpAnyH_ready (rs := [10]) (by kernel_rfl) (by simp) ?_
      refine AllReadyH.cons (o := _) rfl (fun K hK => ?_) AllReadyH.nil
      have HK := Lib.hid hK
      clear hK
      rw [if_pos (by rfl)]
      refine wp_store_row _ _ _ rfl D #[.int .i64 (nx : Int), .slice sa 67 sc, .slice pa (tlong nx N) pc] (by rfl) (by rfl) _ #[.int .i64 0, .slice none 0 0, .slice none 0 0] GT_wf.out (info_sig _ _ _) rfl (sig_one _ _ _ _ _ _ _) ?_
      obtain ⟨wg, hw2⟩ : ∃ z, z = wf.setRow D #[.int .i64 (nx : Int), .slice sa 67 sc, .slice pa (tlong nx N) pc] := ⟨_, rfl⟩
      have hon : Only wf wg D := by rw [hw2]; exact Only.setRow _ _ _
      have hkp : Kp wf wg := Kp.of_only hon GT_wf.out (by decide) (by decide) (by decide)
      have GF := Lib.hid (show wg.heap[D]? = some (.cells #[.int .i64 (nx : Int), .slice sa 67 sc, .slice pa (tlong nx N) pc] 26 (0, 0)) by rw [hw2]; exact setRow_heap _ _ _ _ _ _ GT_wf.out)
      have HOF := Lib.hid (show Ho B w wg by rw [hw2]; exact HO_wf.out.setRowNew (Nat.le_trans hBw LT.out) LT.out _)
      have HRF := Lib.hid (HR_wf.out.kp hkp)
      have RSF := Lib.hid (hkp.rd RS_wf.out)
      have RPF := Lib.hid (hkp.rd RP_wf.out)
      have GRF := Lib.hid (hon.blk GT_wf.out GR_wf.out (by decide))
      have S4 := Lib.hid (show wg.cell? ⟨X, 35, none⟩ = some (.pointer (some ⟨Q, 0, none⟩)) ∧ wg.rangeAt M 0 (m.map vB) from ⟨(cell_of_row wg X 35 _ _ _ (hon.blk GT_wf.out GX_wf.out (by decide))).trans (hV_35 SL.out _ _ _ _ _ _ _), range_of_row (hkp M _ _ _ GM_wf.out (.inr (.inr rfl)))⟩)
      rw [← hw2]
      clear hw2 hon hkp
      refine HK.out _ _ S4.out ?_
      clear HK K hHeld
      try simp only [Act.put, List.getElem_toArray, List.getElem_cons_zero, List.getElem_cons_succ, List.setIfInBounds_toArray, List.set_cons_zero, List.set_cons_succ]
      intro hHeld
      refine wpAnyH_take (i := 11) (oi := _) (v := .nilIface) rfl (by kernel_rfl) (by kernel_rfl) (by kernel_rfl) (fun _ _ _ h => h) (Or.inl ⟨by rfl, fun w hw => by go_simp⟩) hHeld ?_
      simp only [Act.put, List.getElem_toArray, List.getElem_cons_zero, List.getElem_cons_succ, List.setIfInBounds_toArray, List.set_cons_zero, List.set_cons_succ]
      refine wpAnyH_done (by kernel_rfl) ?_ _
      clear hHeld
      go_wp2_with fail
      go_meet
      exact ⟨D, sa, sc, pa, pc, rfl, rfl, GF.out, RSF.out, RPF.out, HRF.out, HOF.out, GRF.out⟩
    · have HK := Lib.hid hK
      clear hK
      go_simp
      obtain ⟨D, hD⟩ : ∃ z, z = wd.heap.size := ⟨_, rfl⟩
      obtain ⟨we, hw1⟩ : ∃ z, z = wd.alloc (.cells #[.int .i64 0, .slice none 0 0, .slice none 0 0] 26) := ⟨_, rfl⟩
      have hba : Below wd.heap.size wd we := by rw [hw1]; exact (Below.refl _ _).alloc (Nat.le_refl _) _
      have GT_we := Lib.hid (show we.heap[D]? = some (.cells #[.int .i64 0, .slice none 0 0, .slice none 0 0] 26 (0, 0)) by rw [hw1, hD]; exact heap_alloc_new _ _)
      have BD_we := Lib.hid (BD_wd.out.trans (hba.mono BD_wd.out.size))
      have LT := Lib.hid (show w.heap.size ≤ D by rw [hD]; exact Nat.le_trans HOC.out.size BD_wd.out.size)
      have S1 := Lib.hid (HKS.out we (fun b c ty fr hb _ => (BD_we.out.block b (lt_of_heap hb)).trans hb))
      rw [← hD, ← hw1]
      clear hD hw1 hba
      refine HK.out _ _ S1.out ?_
      clear HK K hHeld
      try simp only [Act.put, List.getElem_toArray, List.getElem_cons_zero, List.getElem_cons_succ, List.setIfInBounds_toArray, List.set_cons_zero, List.set_cons_succ]
      intro hHeld
      refine wpAnyH_ready (rs := [5]) (by kernel_rfl) (by simp) ?_
      refine AllReadyH.cons (o := _) rfl (fun K hK => ?_) AllReadyH.nil
      have HK := Lib.hid hK
      clear hK
      go_simp
      go_at_call 33
      refine (Sign_ok (hlow seed t) m (hlow_length _ _) ML.out Q N nx hN256 hnx we (SQ.out.below BD_we.out) (ROC.out.at_ BD_we.out)).mono ?_
      rintro e wf ⟨sa, sc, pa, pc, rfl, hsg, hpt, hst, hsv⟩
      have SV := Lib.hid hsv
      have SQ0 := Lib.hid (SQ.out.below BD_we.out)
      have S2 := Lib.hid (HKS.out wf (fun b c ty fr hb g1 => hsv.blk SQ0.out ((BD_we.out.block b (lt_of_heap hb)).trans hb) g1))
      have RSG := Lib.hid hsg
      have RPT := Lib.hid hpt
      have HOE := Lib.hid ((HOC.out.below BD_we.out hBC).trans (Ho.of_save hsv SQ0.out h4))
      have HRE := Lib.hid (show HyR wf X B seed h N t (nx + 1) from ⟨P, Q, x0, x1, x2, hsv.blk SQ0.out ((BD_we.out.block X (lt_of_heap GX.out)).trans GX.out) (by decide), h2, h3, h4, h5, h6, (by omega), hsv.stamp SQ0.out (Ne.symm h5) (SP.out.below BD_we.out), hst, KY.out.ho ((Ho.of_below BD_we.out hBC).trans (Ho.of_save hsv SQ0.out h4)), h11⟩)
      have GRE := Lib.hid (hsv.blk SQ0.out ((BD_we.out.block R (lt_of_heap GRC.out)).trans GRC.out) (by decide))
      have GT_wf := Lib.hid (hsv.blk SQ0.out GT_we.out (by decide))
      have GX_wf := Lib.hid (hsv.blk SQ0.out ((BD_we.out.block X (lt_of_heap GX.out)).trans GX.out) (by decide))
      have GM_wf := Lib.hid (hsv.blk SQ0.out ((BD_we.out.block M (lt_of_heap GMC.out)).trans GMC.out) (by decide))
      have HO_wf := HOE
      have HR_wf := HRE
      have RS_wf := RSG
      have RP_wf := RPT
      have GR_wf := GRE
      clear hsg hpt hst hsv
      dsimp only
      refine HK.out _ _ S2.out ?_
      clear HK K hHeld
      try simp only [Act.put, List.getElem_toArray, List.getElem_cons_zero, List.getElem_cons_succ, List.setIfInBounds_toArray, List.set_cons_zero, List.set_cons_succ]
      intro hHeld
      refine wpAnyH_take (i := 6) (oi := _) (v := .tuple #[.agg #[.int .i64 (nx : Int), .slice sa 67 sc, .slice pa (tlong nx N) pc], .nilIface]) rfl (by kernel_rfl) (by kernel_rfl) (by kernel_rfl) (fun _ _ _ h => h) (Or.inl ⟨by rfl, fun w hw => by go_simp⟩) hHeld ?_
      simp only [Act.put, List.getElem_toArray, List.getElem_cons_zero, List.getElem_cons_succ, List.setIfInBounds_toArray, List.set_cons_zero, List.set_cons_succ]
      refine wpAnyH_take (i := 7) (oi := _) (v := .agg #[.int .i64 (nx : Int), .slice sa 67 sc, .slice pa (tlong nx N) pc]) rfl (by kernel_rfl) (by kernel_rfl) (by kernel_rfl) (fun _ _ _ h => h) (Or.inl ⟨by rfl, fun w hw => by go_simp⟩) hHeld ?_
      simp only [Act.put, List.getElem_toArray, List.getElem_cons_zero, List.getElem_cons_succ, List.setIfInBounds_toArray, List.set_cons_zero, List.set_cons_succ]
      refine wpAnyH_take (i := 8) (oi := _) (v := .nilIface) rfl (by kernel_rfl) (by kernel_rfl) (by kernel_rfl) (fun _ _ _ h => h) (Or.inl ⟨by rfl, fun w hw => by go_simp⟩) hHeld ?_
      simp only [Act.put, List.getElem_toArray, List.getElem_cons_zero, List.getElem_cons_succ, List.setIfInBounds_toArray, List.set_cons_zero, List.set_cons_succ]
      refine wpAnyH_ready (rs := [10]) (by kernel_rfl) (by simp) ?_
      refine AllReadyH.cons (o := _) rfl (fun K hK => ?_) AllReadyH.nil
      have HK := Lib.hid hK
      clear hK
      rw [if_pos (by rfl)]
      refine wp_store_row _ _ _ rfl D #[.int .i64 (nx : Int), .slice sa 67 sc, .slice pa (tlong nx N) pc] (by rfl) (by rfl) _ #[.int .i64 0, .slice none 0 0, .slice none 0 0] GT_wf.out (info_sig _ _ _) rfl (sig_one _ _ _ _ _ _ _) ?_
      obtain ⟨wg, hw2⟩ : ∃ z, z = wf.setRow D #[.int .i64 (nx : Int), .slice sa 67 sc, .slice pa (tlong nx N) pc] := ⟨_, rfl⟩
      have hon : Only wf wg D := by rw [hw2]; exact Only.setRow _ _ _
      have hkp : Kp wf wg := Kp.of_only hon GT_wf.out (by decide) (by decide) (by decide)
      have GF := Lib.hid (show wg.heap[D]? = some (.cells #[.int .i64 (nx : Int), .slice sa 67 sc, .slice pa (tlong nx N) pc] 26 (0, 0)) by rw [hw2]; exact setRow_heap _ _ _ _ _ _ GT_wf.out)
      have HOF := Lib.hid (show Ho B w wg by rw [hw2]; exact HO_wf.out.setRowNew (Nat.le_trans hBw LT.out) LT.out _)
      have HRF := Lib.hid (HR_wf.out.kp hkp)
      have RSF := Lib.hid (hkp.rd RS_wf.out)
      have RPF := Lib.hid (hkp.rd RP_wf.out)
      have GRF := Lib.hid (hon.blk GT_wf.out GR_wf.out (by decide))
      have S4 := Lib.hid (show wg.cell? ⟨X, 35, none⟩ = some (.pointer (some ⟨Q, 0, none⟩)) ∧ wg.rangeAt M 0 (m.map vB) from ⟨(cell_of_row wg X 35 _ _ _ (hon.blk GT_wf.out GX_wf.out (by decide))).trans (hV_35 SL.out _ _ _ _ _ _ _), range_of_row (hkp M _ _ _ GM_wf.out (.inr (.inr rfl)))⟩)
      rw [← hw2]
      clear hw2 hon hkp
      refine HK.out _ _ S4.out ?_
      clear HK K hHeld
      try simp only [Act.put, List.getElem_toArray, List.getElem_cons_zero, List.getElem_cons_succ, List.setIfInBounds_toArray, List.set_cons_zero, List.set_cons_succ]
      intro hHeld
      refine wpAnyH_take (i := 11) (oi := _) (v := .nilIface) rfl (by kernel_rfl) (by kernel_rfl) (by kernel_rfl) (fun _ _ _ h => h) (Or.inl ⟨by rfl, fun w hw => by go_simp⟩) hHeld ?_
      simp only [Act.put, List.getElem_toArray, List.getElem_cons_zero, List.getElem_cons_succ, List.setIfInBounds_toArray, List.set_cons_zero, List.set_cons_succ]
      refine wpAnyH_done (by kernel_rfl) ?_ _
      clear hHeld
      go_wp2_with fail
      go_meet
      exact ⟨D, sa, sc, pa, pc, rfl, rfl, GF.out, RSF.out, RPF.out, HRF.out, HOF.out, GRF.out⟩
  case rest =>
  obtain ⟨D, sa, sc, pa, pc, rfl, rfl, hgD, hrs, hrp, hhr, hho, hgR⟩ := hcut
  obtain ⟨wD, rfl⟩ : ∃ z, z = wc := ⟨_, rfl⟩
  have GD := Lib.hid hgD
  have RSD := Lib.hid hrs
  have RPD := Lib.hid hrp
  have HRD := Lib.hid hhr
  have HOD := Lib.hid hho
  have GRD := Lib.hid hgR
  clear hgD hrs hrp hhr hho hgR HRC HOC GMC GRC ROC hBC
  have hBD : B ≤ wD.heap.size := Nat.le_trans hBw HOD.out.size
  obtain ⟨P, Q, x0, x1, x2, h1, h2, h3, h4, h5, h6, h7, h8, h9, h10, h11⟩ := HRD.out
  obtain ⟨ua, uc, va, vc, rfl, rfl, rfl, hku, hkv⟩ := h10
  have KXD := Lib.hid (hV_key SL.out h1)
  have RUD := Lib.hid hku
  have RVD := Lib.hid hkv
  clear h1 h2 h3 h4 h5 h6 h7 h8 h9 h11 hku hkv
  obtain ⟨E, hE⟩ : ∃ z, z = wD.heap.size := ⟨_, rfl⟩
  obtain ⟨wE, hwE⟩ : ∃ z, z = wD.alloc (.cells #[.int .i64 (t : Int), .slice ua 67 uc, .slice va (tlong t N) vc] 26) := ⟨_, rfl⟩
  have hbE : Below wD.heap.size wD wE := by rw [hwE]; exact (Below.refl _ _).alloc (Nat.le_refl _) _
  have GEE := Lib.hid (show wE.heap[E]? = some (.cells #[.int .i64 (t : Int), .slice ua 67 uc, .slice va (tlong t N) vc] 26 (0, 0)) by rw [hwE, hE]; exact heap_alloc_new _ _)
  have BE := Lib.hid hbE
  have HE := Lib.hid hE
  have HWE := Lib.hid hwE
  clear hE hwE hbE
  go_upto_region 7 with (first
    | (refine ld_sigM rfl (.tmp 40) rfl X 36 (by rfl) (.int .i64 (t : Int)) (.slice ua 67 uc) (.slice va (tlong t N) vc) KXD.out ?_)
    | (refine at_st 26 (.tmp 9) (.tmp 41) rfl ?_; (refine st_sigNew rfl (.tmp 9) (.tmp 41) rfl (.int .i64 (t : Int)) (.slice ua 67 uc) (.slice va (tlong t N) vc) (by rfl) _ _ (by rfl) (by rfl) (sig_one _ _ _ _ _ _ _) ?_); rw [← HE.out, ← HWE.out]))
  obtain ⟨wX0, hwX⟩ : ∃ z, z = wE.drew := ⟨_, rfl⟩
  refine wp_region_final_drew F79 (fun w' => w'.heap[E]? = some (.cells #[.int .i64 (t : Int), .slice ua 67 uc, .slice va (tlong t N) vc] 26 (0, 0))) (by kernel_rfl) GEE.out (fun hHeld => ?_)
  rw [← hwX] at hHeld ⊢
  have BX := Lib.hid (show Below wD.heap.size wD wX0 by rw [hwX]; exact BE.out.drew)
  clear hwX HWE
  refine wpAnyF_take (fs := [7, 9]) (i := 0) (oi := _) (v := .pointer (some ⟨E, 1, none⟩)) rfl (by kernel_rfl) (by kernel_rfl) (by kernel_rfl) F79_in rfl (by kernel_rfl) (fun _ _ _ h => h) (Or.inl ⟨by rfl, fun w hw => by go_simp⟩) hHeld ?_
  simp only [Act.put, List.getElem_toArray, List.getElem_cons_zero, List.getElem_cons_succ, List.setIfInBounds_toArray, List.set_cons_zero, List.set_cons_succ]
  refine wpAnyF_take (fs := [7, 9]) (i := 1) (oi := _) (v := .slice ua 67 uc) rfl (by kernel_rfl) (by kernel_rfl) (by kernel_rfl) F79_in rfl (by kernel_rfl) (fun _ _ _ h => h) (Or.inl ⟨by rfl, fun w hw => by have hcc := (cellQ hw).2.1; go_simp⟩) hHeld ?_
  simp only [Act.put, List.getElem_toArray, List.getElem_cons_zero, List.getElem_cons_succ, List.setIfInBounds_toArray, List.set_cons_zero, List.set_cons_succ]
  refine wpAnyF_take (fs := [7, 9]) (i := 3) (oi := _) (v := .pointer (some ⟨E, 2, none⟩)) rfl (by kernel_rfl) (by kernel_rfl) (by kernel_rfl) F79_in rfl (by kernel_rfl) (fun _ _ _ h => h) (Or.inl ⟨by rfl, fun w hw => by go_simp⟩) hHeld ?_
  simp only [Act.put, List.getElem_toArray, List.getElem_cons_zero, List.getElem_cons_succ, List.setIfInBounds_toArray, List.set_cons_zero, List.set_cons_succ]
  refine wpAnyF_take (fs := [7, 9]) (i := 4) (oi := _) (v := .slice va (tlong t N) vc) rfl (by kernel_rfl) (by kernel_rfl) (by kernel_rfl) F79_in rfl (by kernel_rfl) (fun _ _ _ h => h) (Or.inl ⟨by rfl, fun w hw => by have hcc := (cellQ hw).2.2; go_simp⟩) hHeld ?_
  simp only [Act.put, List.getElem_toArray, List.getElem_cons_zero, List.getElem_cons_succ, List.setIfInBounds_toArray, List.set_cons_zero, List.set_cons_succ]
  refine wpAnyF_ready (rs := [2]) (by kernel_rfl) (by simp) ?_
  refine AllReadyF.cons (o := _) rfl (fun K hK => ?_) AllReadyF.nil
  have HK := Lib.hid hK
  clear hK
  go_simp
  go_at_call 34
  refine (CloneD_calls (wsig (skey (hup seed) t) (troot (leavesK (hlow seed t) N))) (wsig_dig _ _) 67 (wsig_length _ _) (by omega) ua uc _ wX0 (RUD.out.below BX.out)).mono ?_
  rintro e wY ⟨ca, cc, rfl, hrc, hb⟩
  have RC := Lib.hid hrc
  have BY := Lib.hid (BX.out.trans (hb.mono BX.out.size))
  have GEY := Lib.hid ((hb.block E (lt_of_heap hHeld)).trans hHeld)
  clear hrc hb
  dsimp only
  refine HK.out _ _ (fun _ => GEY.out) ?_
  clear HK K hHeld
  try simp only [Act.put, List.getElem_toArray, List.getElem_cons_zero, List.getElem_cons_succ, List.setIfInBounds_toArray, List.set_cons_zero, List.set_cons_succ]
  have hHeld := GEY.out
  refine wpAnyF_take (fs := [7, 9]) (i := 6) (oi := _) (v := .pointer (some ⟨E, 1, none⟩)) rfl (by kernel_rfl) (by kernel_rfl) (by kernel_rfl) F79_in rfl (by kernel_rfl) (fun _ _ _ h => h) (Or.inl ⟨by rfl, fun w hw => by go_simp⟩) hHeld ?_
  simp only [Act.put, List.getElem_toArray, List.getElem_cons_zero, List.getElem_cons_succ, List.setIfInBounds_toArray, List.set_cons_zero, List.set_cons_succ]
  refine wpAnyF_ready (rs := [5]) (by kernel_rfl) (by simp) ?_
  refine AllReadyF.cons (o := _) rfl (fun K hK => ?_) AllReadyF.nil
  have HK := Lib.hid hK
  clear hK
  go_simp
  go_at_call 34
  refine (CloneD_calls (tpath (leavesK (hup seed) N) t) (tpath_dig N _ _ (by rw [leavesK_length]; exact Nat.le_refl _) (leavesK_dig _ _)) (tlong t N) HTL.out HTLB.out va vc _ wY (RVD.out.below BY.out)).mono ?_
  rintro e wZ ⟨da, dc, rfl, hrd, hb⟩
  have RDD := Lib.hid hrd
  have RCZ := Lib.hid (RC.out.below hb)
  have BZ := Lib.hid (BY.out.trans (hb.mono BY.out.size))
  have GEZ := Lib.hid ((hb.block E (lt_of_heap GEY.out)).trans GEY.out)
  clear hrd hb
  dsimp only
  refine HK.out _ _ (fun _ => GEZ.out) ?_
  clear HK K hHeld
  try simp only [Act.put, List.getElem_toArray, List.getElem_cons_zero, List.getElem_cons_succ, List.setIfInBounds_toArray, List.set_cons_zero, List.set_cons_succ]
  have hHeld := GEZ.out
  refine wpAnyF_ready (rs := [7]) (by kernel_rfl) (by simp) ?_
  refine AllReadyF.cons (o := _) rfl (fun K hK => ?_) AllReadyF.nil
  have HK := Lib.hid hK
  clear hK
  have e1 := (cellQ GEZ.out).2.1
  have f1 := frozen_of_row _ E 1 _ _ GEZ.out
  go_simp
  obtain ⟨w1, hw1⟩ : ∃ z, z = wZ.setCell ⟨E, 1, none⟩ (.slice ca 67 cc) := ⟨_, rfl⟩
  have GE1 := Lib.hid (show w1.heap[E]? = some (.cells #[.int .i64 (t : Int), .slice ca 67 cc, .slice va (tlong t N) vc] 26 (0, 0)) by rw [hw1, setCell_rowS GEZ.out]; rfl)
  have hon1 : Only wZ w1 E := by rw [hw1]; exact Only.setCell _ _ _ _
  have hEw : wD.heap.size ≤ E := by rw [HE.out]; exact Nat.le_refl _
  have BB1 := Lib.hid (show Below wD.heap.size wD w1 by rw [hw1]; exact BZ.out.setCell (p := ⟨E, 1, none⟩) hEw _)
  have ON1 := Lib.hid hon1
  rw [← hw1]
  clear e1 f1 hw1 hon1 hHeld
  refine HK.out _ _ (fun hcl => by have := hcl 7 rfl; exact absurd this (by decide)) ?_
  clear HK K
  try simp only [Act.put, List.getElem_toArray, List.getElem_cons_zero, List.getElem_cons_succ, List.setIfInBounds_toArray, List.set_cons_zero, List.set_cons_succ]
  refine wpAnyF_ready (rs := [8]) (by kernel_rfl) (by simp) ?_
  refine AllReadyF.cons (o := _) rfl (fun K hK => ?_) AllReadyF.nil
  have HK := Lib.hid hK
  clear hK
  go_simp
  refine HK.out _ _ (fun hcl => by have := hcl 7 rfl; exact absurd this (by decide)) ?_
  clear HK K
  try simp only [Act.put, List.getElem_toArray, List.getElem_cons_zero, List.getElem_cons_succ, List.setIfInBounds_toArray, List.set_cons_zero, List.set_cons_succ]
  refine wpAnyF_ready (rs := [9]) (by kernel_rfl) (by simp) ?_
  refine AllReadyF.cons (o := _) rfl (fun K hK => ?_) AllReadyF.nil
  have HK := Lib.hid hK
  clear hK
  have e2 := (cellQ GE1.out).2.2
  have f2 := frozen_of_row _ E 2 _ _ GE1.out
  go_simp
  obtain ⟨w2, hw2⟩ : ∃ z, z = w1.setCell ⟨E, 2, none⟩ (.slice da (tlong t N) dc) := ⟨_, rfl⟩
  have GE2 := Lib.hid (show w2.heap[E]? = some (.cells #[.int .i64 (t : Int), .slice ca 67 cc, .slice da (tlong t N) dc] 26 (0, 0)) by rw [hw2, setCell_rowS GE1.out]; rfl)
  have hon2 : Only w1 w2 E := by rw [hw2]; exact Only.setCell _ _ _ _
  have BB2 := Lib.hid (show Below wD.heap.size wD w2 by rw [hw2]; exact BB1.out.setCell (p := ⟨E, 2, none⟩) hEw _)
  have RC2 := Lib.hid (hon2.rd GE1.out (by decide) (ON1.out.rd GEZ.out (by decide) RCZ.out))
  have RD2 := Lib.hid (hon2.rd GE1.out (by decide) (ON1.out.rd GEZ.out (by decide) RDD.out))
  rw [← hw2]
  clear e2 f2 hw2 hon2
  refine HK.out _ _ (fun hcl => by have := hcl 7 rfl; exact absurd this (by decide)) ?_
  clear HK K
  try simp only [Act.put, List.getElem_toArray, List.getElem_cons_zero, List.getElem_cons_succ, List.setIfInBounds_toArray, List.set_cons_zero, List.set_cons_succ]
  refine wpAnyF_done (by kernel_rfl) ?_ _
  have GD2 := Lib.hid ((BB2.out.block D (lt_of_heap GD.out)).trans GD.out)
  have GR2 := Lib.hid ((BB2.out.block R (lt_of_heap GRD.out)).trans GRD.out)
  have hRw : w.heap.size ≤ R := by rw [SZR.out]; omega
  have FIN := Lib.hid (show SignH w X B seed h N t nx m (.returned (.tuple #[.agg #[.int .i64 (t : Int), .slice ca 67 cc, .slice da (tlong t N) dc, .int .i64 (nx : Int), .slice sa 67 sc, .slice pa (tlong nx N) pc], .nilIface])) (w2.setRow R #[.int .i64 (t : Int), .slice ca 67 cc, .slice da (tlong t N) dc, .int .i64 (nx : Int), .slice sa 67 sc, .slice pa (tlong nx N) pc]) from by
    have hon := Only.setRow w2 R #[.int .i64 (t : Int), .slice ca 67 cc, .slice da (tlong t N) dc, .int .i64 (nx : Int), .slice sa 67 sc, .slice pa (tlong nx N) pc]
    have hkp := Kp.of_only hon GR2.out (by decide) (by decide) (by decide)
    exact ⟨ca, cc, da, dc, sa, sc, pa, pc, rfl, hkp.rd RC2.out, hkp.rd RD2.out, hkp.rd (RSD.out.below BB2.out), hkp.rd (RPD.out.below BB2.out), (HRD.out.kp (Kp.of_below BB2.out)).kp hkp, (HOD.out.below BB2.out hBD).setRowNew (Nat.le_trans hBw hRw) hRw _⟩)
  clear GE1 BB1 BZ GEZ GEY BX BY GEE BE ON1
  go_wp2_with (first
    | (refine ld_sig rfl (.tmp 9) rfl E (by rfl) (.int .i64 (t : Int)) (.slice ca 67 cc) (.slice da (tlong t N) dc) _ _ GE2.out ?_)
    | (refine ld_sig rfl (.tmp 7) rfl D (by rfl) (.int .i64 (nx : Int)) (.slice sa 67 sc) (.slice pa (tlong nx N) pc) _ _ GD2.out ?_)
    | (refine bld_dbl rfl (.tmp 50) (.tmp 51) rfl (t : Int) (nx : Int) sa ca pa da 67 sc 67 cc (tlong nx N) pc (tlong t N) dc (by rfl) (by rfl) ?_)
    | (refine st_dbl rfl (.tmp 4) (.tmp 52) rfl R _ _ _ _ _ _ (by rfl) (by rfl) #[.int .i64 0, .slice none 0 0, .slice none 0 0, .int .i64 0, .slice none 0 0, .slice none 0 0] rfl _ GR2.out (dbl_one _ _ _ _ _ _ _ _ _ _ _ _ _ _) ?_))
  try simp only [Exit.inBlock, Exit.then]
  refine bodyPost_ret (results_cell_tmp rfl _ _ _ ⟨R, 0, none⟩ (.agg #[.int .i64 (t : Int), .slice ca 67 cc, .slice da (tlong t N) dc, .int .i64 (nx : Int), .slice sa 67 sc, .slice pa (tlong nx N) pc]) rfl ?_) rfl ?_
  · exact load_dbl (setRow_heap _ _ _ _ _ _ GR2.out)
  · exact FIN.out
end Go.Proofs.YtkioddmhjbaleaaGreatDoor
