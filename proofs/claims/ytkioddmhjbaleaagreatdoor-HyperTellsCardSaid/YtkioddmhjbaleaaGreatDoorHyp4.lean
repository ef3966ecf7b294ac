/- Walks: hyper.Sign of a Hyper that has signed some; of one that is spent; hyper.Recover. -/
import Derived.Test.YtkioddmhjbaleaaGreatDoorHyp3
import Derived.Test.YtkioddmhjbaleaaGreatDoorHyp2s
namespace Go.Proofs.YtkioddmhjbaleaaGreatDoor
open Go.RowKit
set_option linter.unusedVariables false
set_option linter.unusedSimpArgs false
theorem High3.div {h : Int} {N : Nat} (g : High3 h N) {t nx t0 nx0 : Nat} (e : t * N + nx = t0 * N + nx0) (h1 : nx < N) (h2 : nx0 ≤ N) : (nx0 = N ∧ t = t0 + 1 ∧ nx = 0) ∨ (nx0 < N ∧ t = t0 ∧ nx = nx0) := by
  rcases g with ⟨_, rfl⟩ | ⟨_, rfl⟩ | ⟨_, rfl⟩ <;> omega
theorem High3.full {h : Int} {N : Nat} (g : High3 h N) {t nx : Nat} (e : N * N = t * N + nx) (h1 : t < N) (h2 : nx ≤ N) : t + 1 = N ∧ nx = N := by
  rcases g with ⟨_, rfl⟩ | ⟨_, rfl⟩ | ⟨_, rfl⟩ <;> omega
theorem High3.split {h : Int} {N : Nat} (g : High3 h N) {i : Nat} (hi : i < N * N) : i / N < N ∧ i % N < N ∧ i = i / N * N + i % N := by
  rcases g with ⟨_, rfl⟩ | ⟨_, rfl⟩ | ⟨_, rfl⟩ <;> omega
theorem HSign_ok (seed m : List UInt8) (hs : seed.length = 32) (hm : m.length = 32) (h : Int) (N : Nat) (hg : High3 h N) (X B i t nx : Nat) (hi : i = t * N + nx) (ht : t < N) (hnx : nx < N) (w : World) (hgB : 1 < B) (hy : HyAt w X B seed h N i) (hro : RoundsAt w) :
    Calls Tryz.prog 12 #[.pointer (some ⟨X, 0, none⟩), .agg (dV m)] w (SignH w X B seed h N t nx m) := by
  obtain ⟨P, turn, low, x0, x1, x2, h1, h2, h3, h4, h5, h6, h7⟩ := hy
  rcases h7 with ⟨g1, g2, g3⟩ | ⟨t0, Q, nx0, e1, e2, e3, e4, e5, e6, e7, e8, e9⟩
  · have hN := hg.bounds
    have h00 : t = 0 ∧ nx = 0 := by rcases hg with ⟨_, rfl⟩ | ⟨_, rfl⟩ | ⟨_, rfl⟩ <;> omega
    obtain ⟨rfl, rfl⟩ := h00
    refine HSign_core seed m hs hm h N hg X B P turn 0 0 true low x0 x1 x2 w h1 hgB h2 ht hnx (.inl ⟨rfl, g3⟩) (fun _ => ⟨rfl, g1, by rw [← g1]; exact h4, h3⟩) (fun e => by cases e) hro
  · rcases hg.div (by rw [← hi]; exact e7) hnx e6 with ⟨r1, r2, r3⟩ | ⟨r1, r2, r3⟩
    · refine HSign_core seed m hs hm h N hg X B P turn t nx true low x0 x1 x2 w h1 hgB h2 ht hnx (.inr ⟨Q, hlow seed t0, nx0, e3, hlow_length _ _, e6, e8, by rw [r1]; simp⟩) (fun _ => ⟨r3, by rw [e1, r2], by rw [r2, ← e1]; exact h4, h3⟩) (fun e => by cases e) hro
    · refine HSign_core seed m hs hm h N hg X B P turn t nx false low x0 x1 x2 w h1 hgB h2 ht hnx (.inr ⟨Q, hlow seed t0, nx0, e3, hlow_length _ _, e6, e8, by rw [decide_eq_false (by omega)]⟩) (fun e => by cases e) (fun _ => ?_) hro
      subst r2 r3
      refine ⟨P, Q, x0, x1, x2, ?_, h2, h3, e4, e5, ht, e6, by rw [← e1]; exact h4, e8, e9 r1, h6⟩
      rw [e1, e3] at h1
      exact h1
theorem built_zdbl : Tryz.prog.built 28 [] = some #[.int .i64 0, .slice none 0 0, .slice none 0 0, .int .i64 0, .slice none 0 0, .slice none 0 0] := by kernel_rfl
theorem wpl_zdbl {w : World} {ops : Array Oper} {rest : List Oper} {o : Oper} {a : Act} {Q : Exit → Act → World → Prop} (hg : o.guard = none) (ho : o.op = .build 28 #[]) (h : wpList Tryz.prog ops Q rest (a.put o.dst (.agg #[.int .i64 0, .slice none 0 0, .slice none 0 0, .int .i64 0, .slice none 0 0, .slice none 0 0])) w) : wpList Tryz.prog ops Q (o :: rest) a w := by
  refine wpList_plain hg fun _ hK => ?_
  unfold Oper.wp execOp
  simp only [ho, Sem.run_bind]
  have := run_build (P := Tryz.prog) w 28 #[] #[.int .i64 0, .slice none 0 0, .slice none 0 0, .int .i64 0, .slice none 0 0, .slice none 0 0] built_zdbl
  simp only [List.map_toArray, List.map_nil, this, Result.andThen_ok]
  exact hK _ _ h
set_option maxRecDepth 20000 in
set_option maxHeartbeats 4000000 in
theorem HSign_spent (seed m : List UInt8) (hs : seed.length = 32) (h : Int) (N : Nat) (hg : High3 h N) (X B : Nat) (w : World) (hgB : 1 < B) (hy : HyAt w X B seed h N (N * N)) (hro : RoundsAt w) :
    Calls Tryz.prog 12 #[.pointer (some ⟨X, 0, none⟩), .agg (dV m)] w fun e w' => e = .returned (.tuple #[.agg #[.int .i64 0, .slice none 0 0, .slice none 0 0, .int .i64 0, .slice none 0 0, .slice none 0 0], .iface 29 (.int .i64 6)]) ∧ HyAt w' X B seed h N (N * N) ∧ Ho B w w' := by
  obtain ⟨P, turn, low, x0, x1, x2, h1, h2, h3, h4, h5, h6, h7⟩ := hy
  have hN := hg.bounds
  have hfree : ∃ t0 Q, turn = N ∧ N = t0 + 1 ∧ low = .pointer (some ⟨Q, 0, none⟩) ∧ B ≤ Q ∧ Q ≠ P ∧ StampAt w Q (hlow seed t0) N N := by
    rcases h7 with ⟨g1, g2, g3⟩ | ⟨t0, Q, nx0, e1, e2, e3, e4, e5, e6, e7, e8, e9⟩
    · exfalso; rcases hg with ⟨_, rfl⟩ | ⟨_, rfl⟩ | ⟨_, rfl⟩ <;> omega
    · obtain ⟨r1, r2⟩ := hg.full e7 e2 e6
      exact ⟨t0, Q, by omega, r1.symm, e3, e4, e5, by rw [r2] at e8; exact e8⟩
  obtain ⟨t0, Q, g1, g2, g3, g4, g5, g6⟩ := hfree
  subst g1 g3
  have SL := Lib.hid hs
  have RO := Lib.hid hro
  have HX0 := Lib.hid h1
  have SP := Lib.hid h4
  have SQ := Lib.hid g6
  have HG2 := Lib.hid g2
  have hN256 : turn ≤ 256 := by omega
  have hBw : B ≤ w.heap.size := Nat.le_trans h2 (Nat.le_of_lt (lt_of_heap h1))
  clear hs hro h1 h4 g6 g2 h5 h6 h7
  obtain ⟨M, hM⟩ : ∃ z, z = w.heap.size := ⟨_, rfl⟩
  obtain ⟨w1, hw1⟩ : ∃ z, z = w.alloc (.cells (dV m) 23) := ⟨_, rfl⟩
  have st1 : Below w.heap.size w w1 := by rw [hw1]; exact (Below.refl _ _).alloc (Nat.le_refl _) _
  have B1 := Lib.hid (show Below w.heap.size w w1 from Below.trans (Below.refl w.heap.size w) (Below.mono st1 (Below.size (Below.refl w.heap.size w))))
  have GM_1 := Lib.hid (show w1.heap[M]? = some (.cells (dV m) 23 (0, 0)) by rw [hw1, hM]; exact heap_alloc_new _ _)
  have LM_1 := Lib.hid (lt_of_heap GM_1.out)
  have HM := Lib.hid hM
  have Hw1 := Lib.hid hw1
  clear hM hw1 st1
  have SZM := Lib.hid (show M = w.heap.size from HM.out)
  obtain ⟨R, hR⟩ : ∃ z, z = w1.heap.size := ⟨_, rfl⟩
  obtain ⟨w2, hw2⟩ : ∃ z, z = w1.alloc (.cells #[.int .i64 0, .slice none 0 0, .slice none 0 0, .int .i64 0, .slice none 0 0, .slice none 0 0] 28) := ⟨_, rfl⟩
  have st2 : Below w1.heap.size w1 w2 := by rw [hw2]; exact (Below.refl _ _).alloc (Nat.le_refl _) _
  have B2 := Lib.hid (show Below w.heap.size w w2 from Below.trans B1.out (Below.mono st2 (Below.size B1.out)))
  have GM_2 := Lib.hid ((Below.block st2 M LM_1.out).trans GM_1.out)
  have LM_2 := Lib.hid (Nat.lt_of_lt_of_le LM_1.out (Below.size st2))
  have GR_2 := Lib.hid (show w2.heap[R]? = some (.cells #[.int .i64 0, .slice none 0 0, .slice none 0 0, .int .i64 0, .slice none 0 0, .slice none 0 0] 28 (0, 0)) by rw [hw2, hR]; exact heap_alloc_new _ _)
  have LR_2 := Lib.hid (lt_of_heap GR_2.out)
  have HR := Lib.hid hR
  have Hw2 := Lib.hid hw2
  clear hR hw2 st2
  have SZR := Lib.hid (show R = w.heap.size + 1 by rw [HR.out, Hw1.out, World.size_alloc, ← HM.out, SZM.out])
  go_enter Tryz.func12, Tryz.ntmps12
  go_upto_region 1 with fail
  rw [← SZR.out, ← SZM.out, ← Hw1.out, ← Hw2.out]
  have GX2 := Lib.hid ((Below.block B2.out X (lt_of_heap HX0.out)).trans HX0.out)
  have c35 := cell_of_row _ X 35 _ _ _ GX2.out
  rw [hV_35 SL.out] at c35
  have CQ := Lib.hid (Left_calls (hlow seed t0) (hlow_length _ _) Q turn turn hN256 (Nat.le_refl _) w2 (SQ.out.below B2.out))
  rw [Nat.sub_self] at CQ
  go_wp2_with fail
  refine (CQ.out).mono ?_
  rintro e w3 ⟨rfl, hb3⟩
  have B3 := Lib.hid (show Below w.heap.size w w3 from Below.trans B2.out (Below.mono hb3 (Below.size B2.out)))
  have GM_3 := Lib.hid ((Below.block hb3 M LM_2.out).trans GM_2.out)
  have LM_3 := Lib.hid (Nat.lt_of_lt_of_le LM_2.out (Below.size hb3))
  have GR_3 := Lib.hid ((Below.block hb3 R LR_2.out).trans GR_2.out)
  have LR_3 := Lib.hid (Nat.lt_of_lt_of_le LR_2.out (Below.size hb3))
  clear CQ c35
  clear hb3
  have NX := Lib.hid (Next_spent seed SL.out h turn hg X B P Q t0 (.pointer (some ⟨Q, 0, none⟩)) x0 x1 x2 w3 ((Below.block B3.out X (lt_of_heap HX0.out)).trans HX0.out) hgB h2 h3 (SP.out.below B3.out) HG2.out rfl g4 g5 (SQ.out.below B3.out) (RO.out.at_ B3.out))
  go_wp2_with fail
  refine NX.out.mono ?_
  rintro e wB ⟨rfl, hho, hya⟩
  have HO := Lib.hid ((Ho.of_below B3.out hBw).trans hho)
  have HA := Lib.hid hya
  have GRB := Lib.hid (hho.2 R _ _ _ GR_3.out (by decide) (by decide))
  have hRw : w.heap.size ≤ R := by rw [SZR.out]; omega
  clear hho hya NX
  have hon := Only.setRow wB R #[.int .i64 0, .slice none 0 0, .slice none 0 0, .int .i64 0, .slice none 0 0, .slice none 0 0]
  have hkp := Kp.of_only hon GRB.out (by decide) (by decide) (by decide)
  have FA := Lib.hid (HA.out.kp hkp)
  have FO := Lib.hid (HO.out.setRowNew (Nat.le_trans hBw hRw) hRw #[.int .i64 0, .slice none 0 0, .slice none 0 0, .int .i64 0, .slice none 0 0, .slice none 0 0])
  clear hon hkp
  go_wp2_with (first
    | (refine wpl_zdbl rfl rfl ?_)
    | (refine st_dbl rfl (.tmp 4) (.tmp 27) rfl R _ _ _ _ _ _ (by rfl) (by rfl) #[.int .i64 0, .slice none 0 0, .slice none 0 0, .int .i64 0, .slice none 0 0, .slice none 0 0] rfl _ GRB.out (dbl_one _ _ _ _ _ _ _ _ _ _ _ _ _ _) ?_))
  try simp only [Exit.inBlock, Exit.then]
  refine bodyPost_ret (results_cell_tmp rfl _ _ _ ⟨R, 0, none⟩ (.agg #[.int .i64 0, .slice none 0 0, .slice none 0 0, .int .i64 0, .slice none 0 0, .slice none 0 0]) rfl ?_) rfl ?_
  · exact load_dbl (setRow_heap _ _ _ _ _ _ GRB.out)
  · exact ⟨rfl, FA.out, FO.out⟩
/-- what is wrong with a signature of a tree with N leaves; and what it tells -/
def sfault (N sl : Nat) (i : Int) (pl : Nat) : Int := if sl ≠ 67 then 3 else if i < 0 ∨ (N : Int) ≤ i then 2 else if pl ≠ tlong i.toNat N then 3 else 0
def errS (f : Int) : Value := if f = 0 then .nilIface else .iface 29 (.int .i64 f)
def sroot (N : Nat) (m : List UInt8) (sig : List (List UInt8)) (i : Int) (ps : List (List UInt8)) : List UInt8 := if sfault N sig.length i ps.length = 0 then tfold (wkey m sig) i.toNat N ps else nz
theorem sroot_length (N : Nat) (m : List UInt8) (sig : List (List UInt8)) (i : Int) (ps : List (List UInt8)) : (sroot N m sig i ps).length = 32 := by
  unfold sroot
  split
  · exact tfold_length _ _ _ _ (wkey_length _ _)
  · rfl
theorem SRec_any (m : List UInt8) (hm : m.length = 32) (sig : List (List UInt8)) (hd : ∀ d ∈ sig, d.length = 32) (h : Int) (N : Nat) (hg : High3 h N) (i : Int) (hi : -9223372036854775808 ≤ i ∧ i ≤ 9223372036854775807) (ps : List (List UInt8)) (hp : ∀ p ∈ ps, p.length = 32) (sga pa : Option Addr) (sl sgc pl pc e0 e1 : Nat) (hsl : sl = sig.length) (hpl : pl = ps.length) (w : World) (hr : Rd w sga e0 (sig.flatten.map vB)) (hrp : Rd w pa e1 (ps.flatten.map vB)) (hro : RoundsAt w) :
    Calls Tryz.prog 39 #[.agg (dV m), .int .i64 h, .agg #[.int .i64 i, .slice sga sl sgc, .slice pa pl pc]] w fun e w' => e = .returned (.tuple #[.agg (dV (sroot N m sig i ps)), errS (sfault N sl i pl)]) ∧ Below w.heap.size w w' := by
  obtain ⟨k, rfl, hk, rfl⟩ := hg.pow
  subst hsl hpl
  unfold sroot
  by_cases h67 : sig.length = 67
  · by_cases hr2 : i < 0 ∨ ((2 ^ k : Nat) : Int) ≤ i
    · have hf : sfault (2 ^ k) sig.length i ps.length = 2 := by unfold sfault; rw [if_neg (by simpa using h67), if_pos hr2]
      rw [hf, if_neg (by decide)]
      exact SRecover_range m hm sig h67 hd k hk i hi hr2 sga pa sgc _ pc e0 w hr hro
    · obtain ⟨n, rfl⟩ : ∃ n : Nat, i = (n : Int) := ⟨i.toNat, by omega⟩
      have hn : n < 2 ^ k := by omega
      by_cases hpl : ps.length = tlong n (2 ^ k)
      · have hf : sfault (2 ^ k) sig.length (n : Int) ps.length = 0 := by unfold sfault; rw [if_neg (by simpa using h67), if_neg hr2, if_neg (by rw [Int.toNat_natCast]; simpa using hpl)]
        rw [hf, if_pos rfl, Int.toNat_natCast]
        exact SRecover_ok m hm sig h67 hd k hk n hn sga pa sgc pc e0 e1 ps hp hpl w hr hrp hro
      · have hf : sfault (2 ^ k) sig.length (n : Int) ps.length = 3 := by unfold sfault; rw [if_neg (by simpa using h67), if_neg hr2, if_pos (by rw [Int.toNat_natCast]; simpa using hpl)]
        rw [hf, if_neg (by decide)]
        exact SRecover_path m hm sig h67 hd k hk n hn sga pa sgc _ pc e0 hpl w hr hro
  · have hf : sfault (2 ^ k) sig.length i ps.length = 3 := by unfold sfault; rw [if_pos (by simpa using h67)]
    rw [hf, if_neg (by decide)]
    exact SRecover_len m hm sig h67 k hk i sga pa sgc _ pc w hro
theorem dbl_up {w : World} {V : Nat} {a b c d e f : Value} {t : TypeId} {fr : Nat × Nat} (h : w.heap[V]? = some (.cells #[a, b, c, d, e, f] t fr)) : w.rangeAt V 0 [a, b, c] := by
  intro j v hj
  rw [Nat.zero_add, cell_of_row w V j _ t fr h]
  match j with
  | 0 => simpa using hj
  | 1 => simpa using hj
  | 2 => simpa using hj
  | j + 3 => simp at hj
theorem dbl_low {w : World} {V : Nat} {a b c d e f : Value} {t : TypeId} {fr : Nat × Nat} (h : w.heap[V]? = some (.cells #[a, b, c, d, e, f] t fr)) : w.rangeAt V 3 [d, e, f] := by
  intro j v hj
  rw [cell_of_row w V (3 + j) _ t fr h]
  match j with
  | 0 => simpa using hj
  | 1 => simpa using hj
  | 2 => simpa using hj
  | j + 3 => simp at hj
def hfault (N ul : Nat) (iu : Int) (vl : Nat) (sl : Nat) (il : Int) (pl : Nat) : Int := if sfault N sl il pl ≠ 0 then sfault N sl il pl else sfault N ul iu vl
def hroot (N : Nat) (m : List UInt8) (us : List (List UInt8)) (iu : Int) (vs : List (List UInt8)) (ss : List (List UInt8)) (il : Int) (ps : List (List UInt8)) : List UInt8 := if sfault N ss.length il ps.length ≠ 0 then nz else sroot N (sroot N m ss il ps) us iu vs
theorem hroot_length (N : Nat) (m : List UInt8) (us : List (List UInt8)) (iu : Int) (vs : List (List UInt8)) (ss : List (List UInt8)) (il : Int) (ps : List (List UInt8)) : (hroot N m us iu vs ss il ps).length = 32 := by
  unfold hroot
  split
  · rfl
  · exact sroot_length _ _ _ _ _
set_option maxRecDepth 20000 in
set_option maxHeartbeats 4000000 in
theorem HRec_low (m : List UInt8) (hm : m.length = 32) (h : Int) (N : Nat) (hg : High3 h N) (iu il : Int) (us vs ss ps : List (List UInt8)) (ua va sa pa : Option Addr) (ul uc vl vc sl sc pl pc ue ve se pe : Nat) (hiu : -9223372036854775808 ≤ iu ∧ iu ≤ 9223372036854775807) (hil : -9223372036854775808 ≤ il ∧ il ≤ 9223372036854775807) (hud : ∀ d ∈ us, d.length = 32) (hvd : ∀ d ∈ vs, d.length = 32) (hsd : ∀ d ∈ ss, d.length = 32) (hpd : ∀ d ∈ ps, d.length = 32) (hul : ul = us.length) (hvl : vl = vs.length) (hsl : sl = ss.length) (hpl : pl = ps.length) (hf0 : sfault N sl il pl ≠ 0) (w : World) (hru : Rd w ua ue (us.flatten.map vB)) (hrv : Rd w va ve (vs.flatten.map vB)) (hrs : Rd w sa se (ss.flatten.map vB)) (hrp : Rd w pa pe (ps.flatten.map vB)) (hro : RoundsAt w) :
    Calls Tryz.prog 16 #[.agg (dV m), .int .i64 h, .agg #[.int .i64 iu, .slice ua ul uc, .slice va vl vc, .int .i64 il, .slice sa sl sc, .slice pa pl pc]] w fun e w' => e = .returned (.tuple #[.agg (dV nz), errS (sfault N sl il pl)]) ∧ Below w.heap.size w w' := by
  obtain ⟨Z, hZ⟩ : ∃ Z, Z = nz := ⟨_, rfl⟩
  have ZL := Lib.hid (show Z.length = 32 by rw [hZ]; rfl)
  have ZT := Lib.hid (show (#[.int .u8 0, .int .u8 0, .int .u8 0, .int .u8 0, .int .u8 0, .int .u8 0, .int .u8 0, .int .u8 0, .int .u8 0, .int .u8 0, .int .u8 0, .int .u8 0, .int .u8 0, .int .u8 0, .int .u8 0, .int .u8 0, .int .u8 0, .int .u8 0, .int .u8 0, .int .u8 0, .int .u8 0, .int .u8 0, .int .u8 0, .int .u8 0, .int .u8 0, .int .u8 0, .int .u8 0, .int .u8 0, .int .u8 0, .int .u8 0, .int .u8 0, .int .u8 0] : Array Value) = dV Z by rw [hZ]; exact zdig)
  have HZ := Lib.hid hZ
  try rw [← hZ]
  clear hZ
  have ML := Lib.hid hm
  have RO := Lib.hid hro
  have RU_0 := Lib.hid hru
  have RV_0 := Lib.hid hrv
  have RS_0 := Lib.hid hrs
  have RP_0 := Lib.hid hrp
  have HUD := Lib.hid hud
  have HVD := Lib.hid hvd
  have HSD := Lib.hid hsd
  have HPD := Lib.hid hpd
  have HG := Lib.hid hg
  have HUV := Lib.hid (And.intro hul hvl)
  have HSP := Lib.hid (And.intro hsl hpl)
  have HIU := Lib.hid hiu
  have HIL := Lib.hid hil
  obtain ⟨P1, hP1⟩ : ∃ z, z = sroot N m ss il ps := ⟨_, rfl⟩
  have HP1 := Lib.hid hP1
  have P1L := Lib.hid (show P1.length = 32 by rw [hP1]; exact sroot_length _ _ _ _ _)
  have HF0 := Lib.hid hf0
  clear hm hro hru hrv hrs hrp hud hvd hsd hpd hg hul hvl hsl hpl hiu hil hP1 hf0
  obtain ⟨S, hS⟩ : ∃ z, z = w.heap.size := ⟨_, rfl⟩
  obtain ⟨w1, hw1⟩ : ∃ z, z = w.alloc (.cells (dV m) 23) := ⟨_, rfl⟩
  have st1 : Below w.heap.size w w1 := by rw [hw1]; exact (Below.refl _ _).alloc (Nat.le_refl _) _
  have B1 := Lib.hid (show Below w.heap.size w w1 from Below.trans (Below.refl w.heap.size w) (Below.mono st1 (Below.size (Below.refl w.heap.size w))))
  have RU_1 := Lib.hid (RU_0.out.below st1)
  have RV_1 := Lib.hid (RV_0.out.below st1)
  have RS_1 := Lib.hid (RS_0.out.below st1)
  have RP_1 := Lib.hid (RP_0.out.below st1)
  have GS_1 := Lib.hid (show w1.heap[S]? = some (.cells (dV m) 23 (0, 0)) by rw [hw1, hS]; exact heap_alloc_new _ _)
  have LS_1 := Lib.hid (lt_of_heap GS_1.out)
  have HS := Lib.hid hS
  have Hw1 := Lib.hid hw1
  clear hS hw1 st1
  have SZS := Lib.hid (show S = w.heap.size from HS.out)
  obtain ⟨V, hV⟩ : ∃ z, z = w1.heap.size := ⟨_, rfl⟩
  obtain ⟨w2, hw2⟩ : ∃ z, z = w1.alloc (.cells #[.int .i64 iu, .slice ua ul uc, .slice va vl vc, .int .i64 il, .slice sa sl sc, .slice pa pl pc] 28) := ⟨_, rfl⟩
  have st2 : Below w1.heap.size w1 w2 := by rw [hw2]; exact (Below.refl _ _).alloc (Nat.le_refl _) _
  have B2 := Lib.hid (show Below w.heap.size w w2 from Below.trans B1.out (Below.mono st2 (Below.size B1.out)))
  have GS_2 := Lib.hid ((Below.block st2 S LS_1.out).trans GS_1.out)
  have LS_2 := Lib.hid (Nat.lt_of_lt_of_le LS_1.out (Below.size st2))
  have RU_2 := Lib.hid (RU_1.out.below st2)
  have RV_2 := Lib.hid (RV_1.out.below st2)
  have RS_2 := Lib.hid (RS_1.out.below st2)
  have RP_2 := Lib.hid (RP_1.out.below st2)
  have GV_2 := Lib.hid (show w2.heap[V]? = some (.cells #[.int .i64 iu, .slice ua ul uc, .slice va vl vc, .int .i64 il, .slice sa sl sc, .slice pa pl pc] 28 (0, 0)) by rw [hw2, hV]; exact heap_alloc_new _ _)
  have LV_2 := Lib.hid (lt_of_heap GV_2.out)
  have HV := Lib.hid hV
  have Hw2 := Lib.hid hw2
  clear hV hw2 st2
  have SZV := Lib.hid (show V = w.heap.size + 1 by rw [HV.out, Hw1.out, World.size_alloc, ← HS.out, SZS.out])
  obtain ⟨R, hR⟩ : ∃ z, z = w2.heap.size := ⟨_, rfl⟩
  obtain ⟨w3, hw3⟩ : ∃ z, z = w2.alloc (.cells (dV Z) 23) := ⟨_, rfl⟩
  have st3 : Below w2.heap.size w2 w3 := by rw [hw3]; exact (Below.refl _ _).alloc (Nat.le_refl _) _
  have B3 := Lib.hid (show Below w.heap.size w w3 from Below.trans B2.out (Below.mono st3 (Below.size B2.out)))
  have GS_3 := Lib.hid ((Below.block st3 S LS_2.out).trans GS_2.out)
  have LS_3 := Lib.hid (Nat.lt_of_lt_of_le LS_2.out (Below.size st3))
  have GV_3 := Lib.hid ((Below.block st3 V LV_2.out).trans GV_2.out)
  have LV_3 := Lib.hid (Nat.lt_of_lt_of_le LV_2.out (Below.size st3))
  have RU_3 := Lib.hid (RU_2.out.below st3)
  have RV_3 := Lib.hid (RV_2.out.below st3)
  have RS_3 := Lib.hid (RS_2.out.below st3)
  have RP_3 := Lib.hid (RP_2.out.below st3)
  have GR_3 := Lib.hid (show w3.heap[R]? = some (.cells (dV Z) 23 (0, 0)) by rw [hw3, hR]; exact heap_alloc_new _ _)
  have LR_3 := Lib.hid (lt_of_heap GR_3.out)
  have HR := Lib.hid hR
  have Hw3 := Lib.hid hw3
  clear hR hw3 st3
  have SZR := Lib.hid (show R = w.heap.size + 1 + 1 by rw [HR.out, Hw2.out, World.size_alloc, ← HV.out, SZV.out])
  go_enter Tryz.func16, Tryz.ntmps16
  go_upto_region 1 with fail
  rw [ZT.out]
  rw [← SZR.out, ← SZV.out, ← SZS.out, ← Hw1.out, ← Hw2.out, ← Hw3.out]
  go_wp2_with fail
  refine (HighB h true HG.out.ok w3).mono ?_
  rintro e w4 ⟨rfl, hb4⟩
  have B4 := Lib.hid (show Below w.heap.size w w4 from Below.trans B3.out (Below.mono hb4 (Below.size B3.out)))
  have GS_4 := Lib.hid ((Below.block hb4 S LS_3.out).trans GS_3.out)
  have LS_4 := Lib.hid (Nat.lt_of_lt_of_le LS_3.out (Below.size hb4))
  have GV_4 := Lib.hid ((Below.block hb4 V LV_3.out).trans GV_3.out)
  have LV_4 := Lib.hid (Nat.lt_of_lt_of_le LV_3.out (Below.size hb4))
  have GR_4 := Lib.hid ((Below.block hb4 R LR_3.out).trans GR_3.out)
  have LR_4 := Lib.hid (Nat.lt_of_lt_of_le LR_3.out (Below.size hb4))
  have RU_4 := Lib.hid (RU_3.out.below hb4)
  have RV_4 := Lib.hid (RV_3.out.below hb4)
  have RS_4 := Lib.hid (RS_3.out.below hb4)
  have RP_4 := Lib.hid (RP_3.out.below hb4)
  clear hb4
  have HR1 := Lib.hid (SRec_any m ML.out ss HSD.out h N HG.out il HIL.out ps HPD.out sa pa sl sc pl pc _ _ HSP.out.1 HSP.out.2 w4 RS_4.out RP_4.out (RO.out.at_ B4.out))
  rw [← HP1.out] at HR1
  obtain ⟨f, hf⟩ : ∃ z, z = sfault N sl il pl := ⟨_, rfl⟩
  rw [← hf] at HR1
  have HF := Lib.hid hf
  rw [show errS f = .iface 29 (.int .i64 f) from if_neg (by rw [hf]; exact HF0.out)] at HR1
  clear hf
  go_wp2_with (first
    | (refine at_ld 23 (.tmp 3) rfl ?_; (refine ld_digG rfl (.tmp 3) rfl (S) 0 (by rfl) m ML.out (range_of_row GS_4.out) ?_); simp only [Act.put, List.setIfInBounds_toArray, List.set_cons_zero, List.set_cons_succ])
    | (refine ld_sigM rfl (.tmp 18) rfl V 3 (by rfl) (.int .i64 il) (.slice sa sl sc) (.slice pa pl pc) (dbl_low GV_4.out) ?_))
  refine (HR1.out).mono ?_
  rintro e w5 ⟨rfl, hb5⟩
  have B5 := Lib.hid (show Below w.heap.size w w5 from Below.trans B4.out (Below.mono hb5 (Below.size B4.out)))
  have GS_5 := Lib.hid ((Below.block hb5 S LS_4.out).trans GS_4.out)
  have LS_5 := Lib.hid (Nat.lt_of_lt_of_le LS_4.out (Below.size hb5))
  have GV_5 := Lib.hid ((Below.block hb5 V LV_4.out).trans GV_4.out)
  have LV_5 := Lib.hid (Nat.lt_of_lt_of_le LV_4.out (Below.size hb5))
  have GR_5 := Lib.hid ((Below.block hb5 R LR_4.out).trans GR_4.out)
  have LR_5 := Lib.hid (Nat.lt_of_lt_of_le LR_4.out (Below.size hb5))
  have RU_5 := Lib.hid (RU_4.out.below hb5)
  have RV_5 := Lib.hid (RV_4.out.below hb5)
  have RS_5 := Lib.hid (RS_4.out.below hb5)
  have RP_5 := Lib.hid (RP_4.out.below hb5)
  clear HR1
  clear hb5
  obtain ⟨W, hW⟩ : ∃ z, z = w5.heap.size := ⟨_, rfl⟩
  obtain ⟨w6, hw6⟩ : ∃ z, z = w5.alloc (.cells (dV P1) 23) := ⟨_, rfl⟩
  have st6 : Below w5.heap.size w5 w6 := by rw [hw6]; exact (Below.refl _ _).alloc (Nat.le_refl _) _
  have B6 := Lib.hid (show Below w.heap.size w w6 from Below.trans B5.out (Below.mono st6 (Below.size B5.out)))
  have GS_6 := Lib.hid ((Below.block st6 S LS_5.out).trans GS_5.out)
  have LS_6 := Lib.hid (Nat.lt_of_lt_of_le LS_5.out (Below.size st6))
  have GV_6 := Lib.hid ((Below.block st6 V LV_5.out).trans GV_5.out)
  have LV_6 := Lib.hid (Nat.lt_of_lt_of_le LV_5.out (Below.size st6))
  have GR_6 := Lib.hid ((Below.block st6 R LR_5.out).trans GR_5.out)
  have LR_6 := Lib.hid (Nat.lt_of_lt_of_le LR_5.out (Below.size st6))
  have RU_6 := Lib.hid (RU_5.out.below st6)
  have RV_6 := Lib.hid (RV_5.out.below st6)
  have RS_6 := Lib.hid (RS_5.out.below st6)
  have RP_6 := Lib.hid (RP_5.out.below st6)
  have GW_6 := Lib.hid (show w6.heap[W]? = some (.cells (dV P1) 23 (0, 0)) by rw [hw6, hW]; exact heap_alloc_new _ _)
  have LW_6 := Lib.hid (lt_of_heap GW_6.out)
  have HW := Lib.hid hW
  have Hw6 := Lib.hid hw6
  clear hW hw6 st6
  obtain ⟨w7, hw7⟩ : ∃ z, z = w6.setRow R (dV Z) := ⟨_, rfl⟩
  have B7 := Lib.hid (show Below w.heap.size w w7 by rw [hw7]; exact below_setRowW B6.out (by rw [HR.out]; exact Below.size B2.out) _)
  have sz7 : w7.heap.size = w6.heap.size := by rw [hw7]; exact setRow_size _ _ _
  have GS_7 := Lib.hid (show w7.heap[S]? = some (.cells (dV m) 23 (0, 0)) by rw [hw7]; exact (_root_.Go.setRow_other _ _ _ _ (by rw [HR.out]; exact Nat.ne_of_lt LS_2.out)).trans GS_6.out)
  have LS_7 := Lib.hid (show S < w7.heap.size by rw [sz7]; exact LS_6.out)
  have GV_7 := Lib.hid (show w7.heap[V]? = some (.cells #[.int .i64 iu, .slice ua ul uc, .slice va vl vc, .int .i64 il, .slice sa sl sc, .slice pa pl pc] 28 (0, 0)) by rw [hw7]; exact (_root_.Go.setRow_other _ _ _ _ (by rw [HR.out]; exact Nat.ne_of_lt LV_2.out)).trans GV_6.out)
  have LV_7 := Lib.hid (show V < w7.heap.size by rw [sz7]; exact LV_6.out)
  have GR_7 := Lib.hid (show w7.heap[R]? = some (.cells (dV Z) 23 (0, 0)) by rw [hw7]; exact setRow_heap _ _ _ _ _ _ GR_6.out)
  have LR_7 := Lib.hid (show R < w7.heap.size by rw [sz7]; exact LR_6.out)
  have GW_7 := Lib.hid (show w7.heap[W]? = some (.cells (dV P1) 23 (0, 0)) by rw [hw7]; exact (_root_.Go.setRow_other _ _ _ _ (by rw [HW.out]; exact (Nat.ne_of_lt LR_5.out).symm)).trans GW_6.out)
  have LW_7 := Lib.hid (show W < w7.heap.size by rw [sz7]; exact LW_6.out)
  have Hw7 := Lib.hid hw7
  clear hw7 sz7
  go_wp2_with (first
    | (refine at_st 23 (.tmp 8) (.tmp 21) rfl ?_; (refine st_new rfl (.tmp 8) (.tmp 21) rfl P1 P1L.out (by rfl) _ _ (by rfl) (by rfl) ?_); rw [← HW.out, ← Hw6.out])
    | (refine wpl_zero rfl rfl Z HZ.out ?_)
    | (refine at_st 23 (.tmp 6) (.tmp 25) rfl ?_; (refine st_row rfl (.tmp 6) (.tmp 25) rfl R Z ZL.out (by rfl) (by rfl) (dV Z) (dV_size ZL.out) _ GR_6.out ?_); rw [← Hw7.out]))
  try simp only [Exit.inBlock, Exit.then]
  refine bodyPost_ret (results_cell_tmp rfl _ _ _ ⟨R, 0, none⟩ (.agg (dV Z)) rfl ?_) rfl ?_
  · exact dig_load ZL.out (range_of_row GR_7.out)
  · exact ⟨by rw [HF.out, HZ.out]; unfold errS; rw [if_neg HF0.out]; rfl, B7.out⟩
set_option maxRecDepth 20000 in
set_option maxHeartbeats 4000000 in
theorem HRec_up (m : List UInt8) (hm : m.length = 32) (h : Int) (N : Nat) (hg : High3 h N) (iu il : Int) (us vs ss ps : List (List UInt8)) (ua va sa pa : Option Addr) (ul uc vl vc sl sc pl pc ue ve se pe : Nat) (hiu : -9223372036854775808 ≤ iu ∧ iu ≤ 9223372036854775807) (hil : -9223372036854775808 ≤ il ∧ il ≤ 9223372036854775807) (hud : ∀ d ∈ us, d.length = 32) (hvd : ∀ d ∈ vs, d.length = 32) (hsd : ∀ d ∈ ss, d.length = 32) (hpd : ∀ d ∈ ps, d.length = 32) (hul : ul = us.length) (hvl : vl = vs.length) (hsl : sl = ss.length) (hpl : pl = ps.length) (hf0 : sfault N sl il pl = 0) (w : World) (hru : Rd w ua ue (us.flatten.map vB)) (hrv : Rd w va ve (vs.flatten.map vB)) (hrs : Rd w sa se (ss.flatten.map vB)) (hrp : Rd w pa pe (ps.flatten.map vB)) (hro : RoundsAt w) :
    Calls Tryz.prog 16 #[.agg (dV m), .int .i64 h, .agg #[.int .i64 iu, .slice ua ul uc, .slice va vl vc, .int .i64 il, .slice sa sl sc, .slice pa pl pc]] w fun e w' => e = .returned (.tuple #[.agg (dV (sroot N (sroot N m ss il ps) us iu vs)), errS (sfault N ul iu vl)]) ∧ Below w.heap.size w w' := by
  obtain ⟨Z, hZ⟩ : ∃ Z, Z = nz := ⟨_, rfl⟩
  have ZL := Lib.hid (show Z.length = 32 by rw [hZ]; rfl)
  have ZT := Lib.hid (show (#[.int .u8 0, .int .u8 0, .int .u8 0, .int .u8 0, .int .u8 0, .int .u8 0, .int .u8 0, .int .u8 0, .int .u8 0, .int .u8 0, .int .u8 0, .int .u8 0, .int .u8 0, .int .u8 0, .int .u8 0, .int .u8 0, .int .u8 0, .int .u8 0, .int .u8 0, .int .u8 0, .int .u8 0, .int .u8 0, .int .u8 0, .int .u8 0, .int .u8 0, .int .u8 0, .int .u8 0, .int .u8 0, .int .u8 0, .int .u8 0, .int .u8 0, .int .u8 0] : Array Value) = dV Z by rw [hZ]; exact zdig)
  have HZ := Lib.hid hZ
  try rw [← hZ]
  clear hZ
  have ML := Lib.hid hm
  have RO := Lib.hid hro
  have RU_0 := Lib.hid hru
  have RV_0 := Lib.hid hrv
  have RS_0 := Lib.hid hrs
  have RP_0 := Lib.hid hrp
  have HUD := Lib.hid hud
  have HVD := Lib.hid hvd
  have HSD := Lib.hid hsd
  have HPD := Lib.hid hpd
  have HG := Lib.hid hg
  have HUV := Lib.hid (And.intro hul hvl)
  have HSP := Lib.hid (And.intro hsl hpl)
  have HIU := Lib.hid hiu
  have HIL := Lib.hid hil
  obtain ⟨P1, hP1⟩ : ∃ z, z = sroot N m ss il ps := ⟨_, rfl⟩
  have HP1 := Lib.hid hP1
  have P1L := Lib.hid (show P1.length = 32 by rw [hP1]; exact sroot_length _ _ _ _ _)
  have HF0 := Lib.hid hf0
  clear hm hro hru hrv hrs hrp hud hvd hsd hpd hg hul hvl hsl hpl hiu hil hP1 hf0
  obtain ⟨S, hS⟩ : ∃ z, z = w.heap.size := ⟨_, rfl⟩
  obtain ⟨w1, hw1⟩ : ∃ z, z = w.alloc (.cells (dV m) 23) := ⟨_, rfl⟩
  have st1 : Below w.heap.size w w1 := by rw [hw1]; exact (Below.refl _ _).alloc (Nat.le_refl _) _
  have B1 := Lib.hid (show Below w.heap.size w w1 from Below.trans (Below.refl w.heap.size w) (Below.mono st1 (Below.size (Below.refl w.heap.size w))))
  have RU_1 := Lib.hid (RU_0.out.below st1)
  have RV_1 := Lib.hid (RV_0.out.below st1)
  have RS_1 := Lib.hid (RS_0.out.below st1)
  have RP_1 := Lib.hid (RP_0.out.below st1)
  have GS_1 := Lib.hid (show w1.heap[S]? = some (.cells (dV m) 23 (0, 0)) by rw [hw1, hS]; exact heap_alloc_new _ _)
  have LS_1 := Lib.hid (lt_of_heap GS_1.out)
  have HS := Lib.hid hS
  have Hw1 := Lib.hid hw1
  clear hS hw1 st1
  have SZS := Lib.hid (show S = w.heap.size from HS.out)
  obtain ⟨V, hV⟩ : ∃ z, z = w1.heap.size := ⟨_, rfl⟩
  obtain ⟨w2, hw2⟩ : ∃ z, z = w1.alloc (.cells #[.int .i64 iu, .slice ua ul uc, .slice va vl vc, .int .i64 il, .slice sa sl sc, .slice pa pl pc] 28) := ⟨_, rfl⟩
  have st2 : Below w1.heap.size w1 w2 := by rw [hw2]; exact (Below.refl _ _).alloc (Nat.le_refl _) _
  have B2 := Lib.hid (show Below w.heap.size w w2 from Below.trans B1.out (Below.mono st2 (Below.size B1.out)))
  have GS_2 := Lib.hid ((Below.block st2 S LS_1.out).trans GS_1.out)
  have LS_2 := Lib.hid (Nat.lt_of_lt_of_le LS_1.out (Below.size st2))
  have RU_2 := Lib.hid (RU_1.out.below st2)
  have RV_2 := Lib.hid (RV_1.out.below st2)
  have RS_2 := Lib.hid (RS_1.out.below st2)
  have RP_2 := Lib.hid (RP_1.out.below st2)
  have GV_2 := Lib.hid (show w2.heap[V]? = some (.cells #[.int .i64 iu, .slice ua ul uc, .slice va vl vc, .int .i64 il, .slice sa sl sc, .slice pa pl pc] 28 (0, 0)) by rw [hw2, hV]; exact heap_alloc_new _ _)
  have LV_2 := Lib.hid (lt_of_heap GV_2.out)
  have HV := Lib.hid hV
  have Hw2 := Lib.hid hw2
  clear hV hw2 st2
  have SZV := Lib.hid (show V = w.heap.size + 1 by rw [HV.out, Hw1.out, World.size_alloc, ← HS.out, SZS.out])
  obtain ⟨R, hR⟩ : ∃ z, z = w2.heap.size := ⟨_, rfl⟩
  obtain ⟨w3, hw3⟩ : ∃ z, z = w2.alloc (.cells (dV Z) 23) := ⟨_, rfl⟩
  have st3 : Below w2.heap.size w2 w3 := by rw [hw3]; exact (Below.refl _ _).alloc (Nat.le_refl _) _
  have B3 := Lib.hid (show Below w.heap.size w w3 from Below.trans B2.out (Below.mono st3 (Below.size B2.out)))
  have GS_3 := Lib.hid ((Below.block st3 S LS_2.out).trans GS_2.out)
  have LS_3 := Lib.hid (Nat.lt_of_lt_of_le LS_2.out (Below.size st3))
  have GV_3 := Lib.hid ((Below.block st3 V LV_2.out).trans GV_2.out)
  have LV_3 := Lib.hid (Nat.lt_of_lt_of_le LV_2.out (Below.size st3))
  have RU_3 := Lib.hid (RU_2.out.below st3)
  have RV_3 := Lib.hid (RV_2.out.below st3)
  have RS_3 := Lib.hid (RS_2.out.below st3)
  have RP_3 := Lib.hid (RP_2.out.below st3)
  have GR_3 := Lib.hid (show w3.heap[R]? = some (.cells (dV Z) 23 (0, 0)) by rw [hw3, hR]; exact heap_alloc_new _ _)
  have LR_3 := Lib.hid (lt_of_heap GR_3.out)
  have HR := Lib.hid hR
  have Hw3 := Lib.hid hw3
  clear hR hw3 st3
  have SZR := Lib.hid (show R = w.heap.size + 1 + 1 by rw [HR.out, Hw2.out, World.size_alloc, ← HV.out, SZV.out])
  go_enter Tryz.func16, Tryz.ntmps16
  go_upto_region 1 with fail
  rw [ZT.out]
  rw [← SZR.out, ← SZV.out, ← SZS.out, ← Hw1.out, ← Hw2.out, ← Hw3.out]
  go_wp2_with fail
  refine (HighB h true HG.out.ok w3).mono ?_
  rintro e w4 ⟨rfl, hb4⟩
  have B4 := Lib.hid (show Below w.heap.size w w4 from Below.trans B3.out (Below.mono hb4 (Below.size B3.out)))
  have GS_4 := Lib.hid ((Below.block hb4 S LS_3.out).trans GS_3.out)
  have LS_4 := Lib.hid (Nat.lt_of_lt_of_le LS_3.out (Below.size hb4))
  have GV_4 := Lib.hid ((Below.block hb4 V LV_3.out).trans GV_3.out)
  have LV_4 := Lib.hid (Nat.lt_of_lt_of_le LV_3.out (Below.size hb4))
  have GR_4 := Lib.hid ((Below.block hb4 R LR_3.out).trans GR_3.out)
  have LR_4 := Lib.hid (Nat.lt_of_lt_of_le LR_3.out (Below.size hb4))
  have RU_4 := Lib.hid (RU_3.out.below hb4)
  have RV_4 := Lib.hid (RV_3.out.below hb4)
  have RS_4 := Lib.hid (RS_3.out.below hb4)
  have RP_4 := Lib.hid (RP_3.out.below hb4)
  clear hb4
  have HR1 := Lib.hid (SRec_any m ML.out ss HSD.out h N HG.out il HIL.out ps HPD.out sa pa sl sc pl pc _ _ HSP.out.1 HSP.out.2 w4 RS_4.out RP_4.out (RO.out.at_ B4.out))
  rw [← HP1.out] at HR1
  rw [HF0.out, show errS 0 = .nilIface from rfl] at HR1
  go_wp2_with (first
    | (refine at_ld 23 (.tmp 3) rfl ?_; (refine ld_digG rfl (.tmp 3) rfl (S) 0 (by rfl) m ML.out (range_of_row GS_4.out) ?_); simp only [Act.put, List.setIfInBounds_toArray, List.set_cons_zero, List.set_cons_succ])
    | (refine ld_sigM rfl (.tmp 18) rfl V 3 (by rfl) (.int .i64 il) (.slice sa sl sc) (.slice pa pl pc) (dbl_low GV_4.out) ?_))
  refine (HR1.out).mono ?_
  rintro e w5 ⟨rfl, hb5⟩
  have B5 := Lib.hid (show Below w.heap.size w w5 from Below.trans B4.out (Below.mono hb5 (Below.size B4.out)))
  have GS_5 := Lib.hid ((Below.block hb5 S LS_4.out).trans GS_4.out)
  have LS_5 := Lib.hid (Nat.lt_of_lt_of_le LS_4.out (Below.size hb5))
  have GV_5 := Lib.hid ((Below.block hb5 V LV_4.out).trans GV_4.out)
  have LV_5 := Lib.hid (Nat.lt_of_lt_of_le LV_4.out (Below.size hb5))
  have GR_5 := Lib.hid ((Below.block hb5 R LR_4.out).trans GR_4.out)
  have LR_5 := Lib.hid (Nat.lt_of_lt_of_le LR_4.out (Below.size hb5))
  have RU_5 := Lib.hid (RU_4.out.below hb5)
  have RV_5 := Lib.hid (RV_4.out.below hb5)
  have RS_5 := Lib.hid (RS_4.out.below hb5)
  have RP_5 := Lib.hid (RP_4.out.below hb5)
  clear HR1
  clear hb5
  obtain ⟨W, hW⟩ : ∃ z, z = w5.heap.size := ⟨_, rfl⟩
  obtain ⟨w6, hw6⟩ : ∃ z, z = w5.alloc (.cells (dV P1) 23) := ⟨_, rfl⟩
  have st6 : Below w5.heap.size w5 w6 := by rw [hw6]; exact (Below.refl _ _).alloc (Nat.le_refl _) _
  have B6 := Lib.hid (show Below w.heap.size w w6 from Below.trans B5.out (Below.mono st6 (Below.size B5.out)))
  have GS_6 := Lib.hid ((Below.block st6 S LS_5.out).trans GS_5.out)
  have LS_6 := Lib.hid (Nat.lt_of_lt_of_le LS_5.out (Below.size st6))
  have GV_6 := Lib.hid ((Below.block st6 V LV_5.out).trans GV_5.out)
  have LV_6 := Lib.hid (Nat.lt_of_lt_of_le LV_5.out (Below.size st6))
  have GR_6 := Lib.hid ((Below.block st6 R LR_5.out).trans GR_5.out)
  have LR_6 := Lib.hid (Nat.lt_of_lt_of_le LR_5.out (Below.size st6))
  have RU_6 := Lib.hid (RU_5.out.below st6)
  have RV_6 := Lib.hid (RV_5.out.below st6)
  have RS_6 := Lib.hid (RS_5.out.below st6)
  have RP_6 := Lib.hid (RP_5.out.below st6)
  have GW_6 := Lib.hid (show w6.heap[W]? = some (.cells (dV P1) 23 (0, 0)) by rw [hw6, hW]; exact heap_alloc_new _ _)
  have LW_6 := Lib.hid (lt_of_heap GW_6.out)
  have HW := Lib.hid hW
  have Hw6 := Lib.hid hw6
  clear hW hw6 st6
  have HR2 := Lib.hid (SRec_any P1 P1L.out us HUD.out h N HG.out iu HIU.out vs HVD.out ua va ul uc vl vc _ _ HUV.out.1 HUV.out.2 w6 RU_6.out RV_6.out (RO.out.at_ B6.out))
  obtain ⟨D2, hD2⟩ : ∃ z, z = sroot N P1 us iu vs := ⟨_, rfl⟩
  rw [← hD2] at HR2
  have HD2 := Lib.hid hD2
  have D2L := Lib.hid (show D2.length = 32 by rw [hD2]; exact sroot_length _ _ _ _ _)
  obtain ⟨ev, hev⟩ : ∃ z, z = errS (sfault N ul iu vl) := ⟨_, rfl⟩
  rw [← hev] at HR2
  have HEV := Lib.hid hev
  clear hD2 hev
  go_wp2_with (first
    | (refine at_st 23 (.tmp 8) (.tmp 21) rfl ?_; (refine st_new rfl (.tmp 8) (.tmp 21) rfl P1 P1L.out (by rfl) _ _ (by rfl) (by rfl) ?_); rw [← HW.out, ← Hw6.out])
    | (refine at_ld 23 (.tmp 8) rfl ?_; (refine ld_digG rfl (.tmp 8) rfl (W) 0 (by rfl) P1 P1L.out (range_of_row GW_6.out) ?_); simp only [Act.put, List.setIfInBounds_toArray, List.set_cons_zero, List.set_cons_succ])
    | (refine ld_sigM rfl (.tmp 29) rfl V 0 (by rfl) (.int .i64 iu) (.slice ua ul uc) (.slice va vl vc) (dbl_up GV_6.out) ?_))
  refine (HR2.out).mono ?_
  rintro e w7 ⟨rfl, hb7⟩
  have B7 := Lib.hid (show Below w.heap.size w w7 from Below.trans B6.out (Below.mono hb7 (Below.size B6.out)))
  have GS_7 := Lib.hid ((Below.block hb7 S LS_6.out).trans GS_6.out)
  have LS_7 := Lib.hid (Nat.lt_of_lt_of_le LS_6.out (Below.size hb7))
  have GV_7 := Lib.hid ((Below.block hb7 V LV_6.out).trans GV_6.out)
  have LV_7 := Lib.hid (Nat.lt_of_lt_of_le LV_6.out (Below.size hb7))
  have GR_7 := Lib.hid ((Below.block hb7 R LR_6.out).trans GR_6.out)
  have LR_7 := Lib.hid (Nat.lt_of_lt_of_le LR_6.out (Below.size hb7))
  have GW_7 := Lib.hid ((Below.block hb7 W LW_6.out).trans GW_6.out)
  have LW_7 := Lib.hid (Nat.lt_of_lt_of_le LW_6.out (Below.size hb7))
  have RU_7 := Lib.hid (RU_6.out.below hb7)
  have RV_7 := Lib.hid (RV_6.out.below hb7)
  have RS_7 := Lib.hid (RS_6.out.below hb7)
  have RP_7 := Lib.hid (RP_6.out.below hb7)
  clear HR2
  clear hb7
  obtain ⟨w8, hw8⟩ : ∃ z, z = w7.setRow R (dV D2) := ⟨_, rfl⟩
  have B8 := Lib.hid (show Below w.heap.size w w8 by rw [hw8]; exact below_setRowW B7.out (by rw [HR.out]; exact Below.size B2.out) _)
  have sz8 : w8.heap.size = w7.heap.size := by rw [hw8]; exact setRow_size _ _ _
  have GS_8 := Lib.hid (show w8.heap[S]? = some (.cells (dV m) 23 (0, 0)) by rw [hw8]; exact (_root_.Go.setRow_other _ _ _ _ (by rw [HR.out]; exact Nat.ne_of_lt LS_2.out)).trans GS_7.out)
  have LS_8 := Lib.hid (show S < w8.heap.size by rw [sz8]; exact LS_7.out)
  have GV_8 := Lib.hid (show w8.heap[V]? = some (.cells #[.int .i64 iu, .slice ua ul uc, .slice va vl vc, .int .i64 il, .slice sa sl sc, .slice pa pl pc] 28 (0, 0)) by rw [hw8]; exact (_root_.Go.setRow_other _ _ _ _ (by rw [HR.out]; exact Nat.ne_of_lt LV_2.out)).trans GV_7.out)
  have LV_8 := Lib.hid (show V < w8.heap.size by rw [sz8]; exact LV_7.out)
  have GR_8 := Lib.hid (show w8.heap[R]? = some (.cells (dV D2) 23 (0, 0)) by rw [hw8]; exact setRow_heap _ _ _ _ _ _ GR_7.out)
  have LR_8 := Lib.hid (show R < w8.heap.size by rw [sz8]; exact LR_7.out)
  have GW_8 := Lib.hid (show w8.heap[W]? = some (.cells (dV P1) 23 (0, 0)) by rw [hw8]; exact (_root_.Go.setRow_other _ _ _ _ (by rw [HW.out]; exact (Nat.ne_of_lt LR_5.out).symm)).trans GW_7.out)
  have LW_8 := Lib.hid (show W < w8.heap.size by rw [sz8]; exact LW_7.out)
  have Hw8 := Lib.hid hw8
  clear hw8 sz8
  go_wp2_with (first
    | (refine at_st 23 (.tmp 6) (.tmp 32) rfl ?_; (refine st_row rfl (.tmp 6) (.tmp 32) rfl R D2 D2L.out (by rfl) (by rfl) (dV Z) (dV_size ZL.out) _ GR_7.out ?_); rw [← Hw8.out]))
  try simp only [Exit.inBlock, Exit.then]
  refine bodyPost_ret (results_cell_tmp rfl _ _ _ ⟨R, 0, none⟩ (.agg (dV D2)) rfl ?_) rfl ?_
  · exact dig_load D2L.out (range_of_row GR_8.out)
  · exact ⟨by rw [← HP1.out, ← HD2.out, ← HEV.out]; rfl, B8.out⟩
theorem HRec_any (m : List UInt8) (hm : m.length = 32) (h : Int) (N : Nat) (hg : High3 h N) (iu il : Int) (us vs ss ps : List (List UInt8)) (ua va sa pa : Option Addr) (ul uc vl vc sl sc pl pc ue ve se pe : Nat) (hiu : -9223372036854775808 ≤ iu ∧ iu ≤ 9223372036854775807) (hil : -9223372036854775808 ≤ il ∧ il ≤ 9223372036854775807) (hud : ∀ d ∈ us, d.length = 32) (hvd : ∀ d ∈ vs, d.length = 32) (hsd : ∀ d ∈ ss, d.length = 32) (hpd : ∀ d ∈ ps, d.length = 32) (hul : ul = us.length) (hvl : vl = vs.length) (hsl : sl = ss.length) (hpl : pl = ps.length) (w : World) (hru : Rd w ua ue (us.flatten.map vB)) (hrv : Rd w va ve (vs.flatten.map vB)) (hrs : Rd w sa se (ss.flatten.map vB)) (hrp : Rd w pa pe (ps.flatten.map vB)) (hro : RoundsAt w) :
    Calls Tryz.prog 16 #[.agg (dV m), .int .i64 h, .agg #[.int .i64 iu, .slice ua ul uc, .slice va vl vc, .int .i64 il, .slice sa sl sc, .slice pa pl pc]] w fun e w' => e = .returned (.tuple #[.agg (dV (hroot N m us iu vs ss il ps)), errS (hfault N ul iu vl sl il pl)]) ∧ Below w.heap.size w w' := by
  unfold hroot hfault
  by_cases hf : sfault N sl il pl = 0
  · rw [if_neg (by rw [← hsl, ← hpl, hf]; simp), if_neg (by rw [hf]; simp)]
    exact HRec_up m hm h N hg iu il us vs ss ps ua va sa pa ul uc vl vc sl sc pl pc ue ve se pe hiu hil hud hvd hsd hpd hul hvl hsl hpl hf w hru hrv hrs hrp hro
  · rw [if_pos (by rw [← hsl, ← hpl]; exact hf), if_pos hf]
    exact HRec_low m hm h N hg iu il us vs ss ps ua va sa pa ul uc vl vc sl sc pl pc ue ve se pe hiu hil hud hvd hsd hpd hul hvl hsl hpl hf w hru hrv hrs hrp hro
set_option maxRecDepth 20000 in
set_option maxHeartbeats 1000000 in
theorem HRec_bad (m : List UInt8) (h : Int) (hh : h < 0 ∨ 2 < h) (iu il : Int) (ua va sa pa : Option Addr) (ul uc vl vc sl sc pl pc : Nat) (w : World) :
    Calls Tryz.prog 16 #[.agg (dV m), .int .i64 h, .agg #[.int .i64 iu, .slice ua ul uc, .slice va vl vc, .int .i64 il, .slice sa sl sc, .slice pa pl pc]] w fun e w' => e = .returned (.tuple #[.agg (dV nz), .iface 29 (.int .i64 2)]) ∧ Below w.heap.size w w' := by
  obtain ⟨Z, hZ⟩ : ∃ Z, Z = nz := ⟨_, rfl⟩
  have ZL := Lib.hid (show Z.length = 32 by rw [hZ]; rfl)
  have ZT := Lib.hid (show (#[.int .u8 0, .int .u8 0, .int .u8 0, .int .u8 0, .int .u8 0, .int .u8 0, .int .u8 0, .int .u8 0, .int .u8 0, .int .u8 0, .int .u8 0, .int .u8 0, .int .u8 0, .int .u8 0, .int .u8 0, .int .u8 0, .int .u8 0, .int .u8 0, .int .u8 0, .int .u8 0, .int .u8 0, .int .u8 0, .int .u8 0, .int .u8 0, .int .u8 0, .int .u8 0, .int .u8 0, .int .u8 0, .int .u8 0, .int .u8 0, .int .u8 0, .int .u8 0] : Array Value) = dV Z by rw [hZ]; exact zdig)
  have HZ := Lib.hid hZ
  rw [← hZ]
  clear hZ
  obtain ⟨S, hS⟩ : ∃ z, z = w.heap.size := ⟨_, rfl⟩
  obtain ⟨w1, hw1⟩ : ∃ z, z = w.alloc (.cells (dV m) 23) := ⟨_, rfl⟩
  have st1 : Below w.heap.size w w1 := by rw [hw1]; exact (Below.refl _ _).alloc (Nat.le_refl _) _
  have B1 := Lib.hid (show Below w.heap.size w w1 from Below.trans (Below.refl w.heap.size w) (Below.mono st1 (Below.size (Below.refl w.heap.size w))))
  have GS_1 := Lib.hid (show w1.heap[S]? = some (.cells (dV m) 23 (0, 0)) by rw [hw1, hS]; exact heap_alloc_new _ _)
  have LS_1 := Lib.hid (lt_of_heap GS_1.out)
  have HS := Lib.hid hS
  have Hw1 := Lib.hid hw1
  clear hS hw1 st1
  have SZS := Lib.hid (show S = w.heap.size from HS.out)
  obtain ⟨V, hV⟩ : ∃ z, z = w1.heap.size := ⟨_, rfl⟩
  obtain ⟨w2, hw2⟩ : ∃ z, z = w1.alloc (.cells #[.int .i64 iu, .slice ua ul uc, .slice va vl vc, .int .i64 il, .slice sa sl sc, .slice pa pl pc] 28) := ⟨_, rfl⟩
  have st2 : Below w1.heap.size w1 w2 := by rw [hw2]; exact (Below.refl _ _).alloc (Nat.le_refl _) _
  have B2 := Lib.hid (show Below w.heap.size w w2 from Below.trans B1.out (Below.mono st2 (Below.size B1.out)))
  have GS_2 := Lib.hid ((Below.block st2 S LS_1.out).trans GS_1.out)
  have LS_2 := Lib.hid (Nat.lt_of_lt_of_le LS_1.out (Below.size st2))
  have GV_2 := Lib.hid (show w2.heap[V]? = some (.cells #[.int .i64 iu, .slice ua ul uc, .slice va vl vc, .int .i64 il, .slice sa sl sc, .slice pa pl pc] 28 (0, 0)) by rw [hw2, hV]; exact heap_alloc_new _ _)
  have LV_2 := Lib.hid (lt_of_heap GV_2.out)
  have HV := Lib.hid hV
  have Hw2 := Lib.hid hw2
  clear hV hw2 st2
  have SZV := Lib.hid (show V = w.heap.size + 1 by rw [HV.out, Hw1.out, World.size_alloc, ← HS.out, SZS.out])
  obtain ⟨R, hR⟩ : ∃ z, z = w2.heap.size := ⟨_, rfl⟩
  obtain ⟨w3, hw3⟩ : ∃ z, z = w2.alloc (.cells (dV Z) 23) := ⟨_, rfl⟩
  have st3 : Below w2.heap.size w2 w3 := by rw [hw3]; exact (Below.refl _ _).alloc (Nat.le_refl _) _
  have B3 := Lib.hid (show Below w.heap.size w w3 from Below.trans B2.out (Below.mono st3 (Below.size B2.out)))
  have GS_3 := Lib.hid ((Below.block st3 S LS_2.out).trans GS_2.out)
  have LS_3 := Lib.hid (Nat.lt_of_lt_of_le LS_2.out (Below.size st3))
  have GV_3 := Lib.hid ((Below.block st3 V LV_2.out).trans GV_2.out)
  have LV_3 := Lib.hid (Nat.lt_of_lt_of_le LV_2.out (Below.size st3))
  have GR_3 := Lib.hid (show w3.heap[R]? = some (.cells (dV Z) 23 (0, 0)) by rw [hw3, hR]; exact heap_alloc_new _ _)
  have LR_3 := Lib.hid (lt_of_heap GR_3.out)
  have HR := Lib.hid hR
  have Hw3 := Lib.hid hw3
  clear hR hw3 st3
  have SZR := Lib.hid (show R = w.heap.size + 1 + 1 by rw [HR.out, Hw2.out, World.size_alloc, ← HV.out, SZV.out])
  go_enter Tryz.func16, Tryz.ntmps16
  go_upto_region 1 with fail
  rw [ZT.out]
  rw [← SZR.out, ← SZV.out, ← SZS.out, ← Hw1.out, ← Hw2.out, ← Hw3.out]
  go_wp2_with fail
  refine (HighB h false (decide_eq_false (by omega)) w3).mono ?_
  rintro e w4 ⟨rfl, hb4⟩
  have B4 := Lib.hid (show Below w.heap.size w w4 from Below.trans B3.out (Below.mono hb4 (Below.size B3.out)))
  have GS_4 := Lib.hid ((Below.block hb4 S LS_3.out).trans GS_3.out)
  have LS_4 := Lib.hid (Nat.lt_of_lt_of_le LS_3.out (Below.size hb4))
  have GV_4 := Lib.hid ((Below.block hb4 V LV_3.out).trans GV_3.out)
  have LV_4 := Lib.hid (Nat.lt_of_lt_of_le LV_3.out (Below.size hb4))
  have GR_4 := Lib.hid ((Below.block hb4 R LR_3.out).trans GR_3.out)
  have LR_4 := Lib.hid (Nat.lt_of_lt_of_le LR_3.out (Below.size hb4))
  clear hb4
  obtain ⟨w5, hw5⟩ : ∃ z, z = w4.setRow R (dV Z) := ⟨_, rfl⟩
  have B5 := Lib.hid (show Below w.heap.size w w5 by rw [hw5]; exact below_setRowW B4.out (by rw [HR.out]; exact Below.size B2.out) _)
  have sz5 : w5.heap.size = w4.heap.size := by rw [hw5]; exact setRow_size _ _ _
  have GS_5 := Lib.hid (show w5.heap[S]? = some (.cells (dV m) 23 (0, 0)) by rw [hw5]; exact (_root_.Go.setRow_other _ _ _ _ (by rw [HR.out]; exact Nat.ne_of_lt LS_2.out)).trans GS_4.out)
  have LS_5 := Lib.hid (show S < w5.heap.size by rw [sz5]; exact LS_4.out)
  have GV_5 := Lib.hid (show w5.heap[V]? = some (.cells #[.int .i64 iu, .slice ua ul uc, .slice va vl vc, .int .i64 il, .slice sa sl sc, .slice pa pl pc] 28 (0, 0)) by rw [hw5]; exact (_root_.Go.setRow_other _ _ _ _ (by rw [HR.out]; exact Nat.ne_of_lt LV_2.out)).trans GV_4.out)
  have LV_5 := Lib.hid (show V < w5.heap.size by rw [sz5]; exact LV_4.out)
  have GR_5 := Lib.hid (show w5.heap[R]? = some (.cells (dV Z) 23 (0, 0)) by rw [hw5]; exact setRow_heap _ _ _ _ _ _ GR_4.out)
  have LR_5 := Lib.hid (show R < w5.heap.size by rw [sz5]; exact LR_4.out)
  have Hw5 := Lib.hid hw5
  clear hw5 sz5
  go_wp2_with (first
    | (refine wpl_zero rfl rfl Z HZ.out ?_)
    | (refine at_st 23 (.tmp 6) (.tmp 13) rfl ?_; (refine st_row rfl (.tmp 6) (.tmp 13) rfl R Z ZL.out (by rfl) (by rfl) (dV Z) (dV_size ZL.out) _ GR_4.out ?_); rw [← Hw5.out]))
  try simp only [Exit.inBlock, Exit.then]
  refine bodyPost_ret (results_cell_tmp rfl _ _ _ ⟨R, 0, none⟩ (.agg (dV Z)) rfl ?_) rfl ⟨rfl, B5.out⟩
  exact dig_load ZL.out (range_of_row GR_5.out)
end Go.Proofs.YtkioddmhjbaleaaGreatDoor
