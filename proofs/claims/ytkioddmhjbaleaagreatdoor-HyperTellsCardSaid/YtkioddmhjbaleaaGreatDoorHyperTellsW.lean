/- The walk of HyperTells: what the statement's function answers. -/
import Derived.Test.YtkioddmhjbaleaaGreatDoorRHypB
import Derived.Test.YtkioddmhjbaleaaGreatDoorSigEq
import Derived.Test.YtkioddmhjbaleaaGreatDoorLaidRH
import Derived.WalkKit
import Derived.StillTailTactics
import Derived.Deep.RegionHeld3
import Derived.Laws.OwnMore
import Derived.BigQuiet
import Derived.Below
namespace Go.Proofs.YtkioddmhjbaleaaGreatDoor
open Go.RowKit
set_option linter.unusedVariables false
set_option linter.unusedSimpArgs false
namespace hyperTells
-- HOLE: the walk
theorem PubBadH (Z : List UInt8) (hZ : Z = nz) (seed : List UInt8) (h : Int) (hh : h < 0 ∨ 2 < h) (w : World) :
    Calls Tryz.prog 7 #[.agg (dV seed), .int .i64 h] w fun e w' => e = .returned (.tuple #[.agg (dV Z), .iface 29 (.int .i64 2)]) ∧ Below w.heap.size w w' := by
  subst hZ; exact HPublic_bad seed h hh w
theorem LeftH (seed : List UInt8) (hs : seed.length = 32) (h : Int) (N : Nat) (hg : High3 h N) (X B i d : Nat) (hd : d + i = N * N) (w : World) (hy : HyAt w X B seed h N i) : Calls Tryz.prog 11 #[.pointer (some ⟨X, 0, none⟩)] w fun e w' => e = .returned (.int .i64 (d : Int)) ∧ Below w.heap.size w w' := by
  have := HLeft_calls seed hs h N hg X B i (by omega) w hy
  rw [show N * N - i = d by omega] at this
  exact this
theorem own_ho {B : Nat} {w w' : World} (h : Ho B w w') {base size n : Nat} {e : TypeId} {v : Value} {xs : List Value} (ho : w.ownsRow base e size v n xs) (h1 : e ≠ 82) (h2 : e ≠ 62) : w'.ownsRow base e size v n xs := by
  refine ⟨ho.1, ?_⟩
  rcases ho.2 with h3 | ⟨g, cap, cur, hv, hg, hh, r⟩
  · exact .inl h3
  · exact .inr ⟨g, cap, cur, hv, hg, h.2 g _ _ _ hh h1 h2, r⟩
theorem Kp.grown {w w' : World} {base size n : Nat} {eo : TypeId} {v : Value} {xs : List Value} (ho : w.ownsRow base eo size v n xs) (hg : w.grownBy w' v.ownBlock) (h1 : eo ≠ 82) (h2 : eo ≠ 62) (h3 : eo ≠ 23) : Kp w w' := fun b c t fr hb ht => by
  refine (hg.block b (lt_of_heap hb) (fun e => ?_)).trans hb
  obtain ⟨cur, e', fr', hh, rfl⟩ := own_block ho b e.symm
  rw [hb] at hh
  simp only [Option.some.injEq, Obj.cells.injEq] at hh
  obtain ⟨_, rfl, _⟩ := hh
  rcases ht with h | h | h
  · exact h1 h
  · exact h2 h
  · exact h3 h
theorem Ho.grow {B : Nat} {w w1 w2 : World} (h : Ho B w w1) (hb : Below w.heap.size w1 w2) (hB : B ≤ w.heap.size) : Ho B w w2 :=
  ⟨h.1.trans (hb.mono hB), fun b c t fr hb1 h1 h2 => (hb.block b (lt_of_heap hb1)).trans (h.2 b c t fr hb1 h1 h2)⟩
theorem ErrVar.ho {B : Nat} {w w' : World} (h : Ho B w w') (hB : 0 < B) (hg : ErrVar w) : ErrVar w' := hg.below h.1 hB
def placesK (N j : Nat) : List Int := (List.range j).map fun k => ((k / N * 100 + k % N : Nat) : Int)
theorem placesK_length (N j : Nat) : (placesK N j).length = j := by simp [placesK]
theorem placesK_get (N j l : Nat) (h : l < j) : (placesK N j)[l]'(by rw [placesK_length]; exact h) = ((l / N * 100 + l % N : Nat) : Int) := by simp [placesK]
theorem placesK_succ (N j : Nat) : placesK N (j + 1) = placesK N j ++ [((j / N * 100 + j % N : Nat) : Int)] := by
  unfold placesK; rw [List.range_succ, List.map_append]; rfl
theorem place_ne {h : Int} {N : Nat} (g : High3 h N) {l k : Nat} (hl : l < k) : l / N * 100 + l % N ≠ k / N * 100 + k % N := by
  rcases g with ⟨_, rfl⟩ | ⟨_, rfl⟩ | ⟨_, rfl⟩ <;> omega
theorem one_ints (xs : List Int) : ∀ u ∈ xs.map vI, u.oneCell' = true := by intro u hu; obtain ⟨z, _, rfl⟩ := List.mem_map.1 hu; rfl
theorem tpathK (seed : List UInt8) (N t : Nat) : (tpath (leavesK seed N) t).length = tlong t N := by
  have := tpath_long _ (leavesK seed N) t (Nat.le_refl _)
  rwa [leavesK_length] at this
theorem tfoldK (seed : List UInt8) (N t : Nat) (ht : t < N) : tfold (wpub (skey seed t)) t N (tpath (leavesK seed N) t) = troot (leavesK seed N) := by
  have := tfold_path _ (leavesK seed N) t _ (leavesK_get seed N t ht) (Nat.le_refl _)
  rwa [leavesK_length] at this
theorem sfaultK (N t pl : Nat) (ht : t < N) (hp : pl = tlong t N) : sfault N 67 (t : Int) pl = 0 := by
  unfold sfault
  rw [if_neg (by simp), if_neg (by omega), if_neg (by rw [Int.toNat_natCast]; simpa using hp)]
theorem srootK (seed m : List UInt8) (N t : Nat) (ht : t < N) : sroot N m (wsig (skey seed t) m) (t : Int) (tpath (leavesK seed N) t) = troot (leavesK seed N) := by
  unfold sroot
  rw [wsig_length, sfaultK N t _ ht (tpathK _ _ _), if_pos rfl, wkey_sig, Int.toNat_natCast, tfoldK seed N t ht]
theorem st_dblNew {ops : Array Oper} {rest : List Oper} {op : Oper} {a : Act} {w : World} {Q : Exit → Act → World → Prop} (hgd : op.guard = none) (x y : Operand) (ho : op.op = .store 28 x y) (b0 b1 b2 b3 b4 b5 : Value) (hy : a.eval y = .agg #[b0, b1, b2, b3, b4, b5]) (Z : Array Value) (t : TypeId) (hZ : Z.size = 6) (hx : a.eval x = .pointer (some ⟨w.heap.size, 0, none⟩)) (h1 : (#[b0, b1, b2, b3, b4, b5] : Array Value).all (·.oneCell') = true)
    (h : wpList Tryz.prog ops Q rest (a.put op.dst undef) (w.alloc (.cells #[b0, b1, b2, b3, b4, b5] t))) : wpList Tryz.prog ops Q (op :: rest) a (w.alloc (.cells Z t)) :=
  st_dbl hgd x y ho w.heap.size b0 b1 b2 b3 b4 b5 hx hy Z hZ t (heap_alloc_new w _) h1 (by rw [World.setRow_alloc_new]; exact h)
theorem dbl_all {w : World} {V : Nat} {a b c d e f : Value} {t : TypeId} {fr : Nat × Nat} (h : w.heap[V]? = some (.cells #[a, b, c, d, e, f] t fr)) : w.rangeAt V 0 [a, b, c, d, e, f] := by
  intro j v hj
  rw [Nat.zero_add, cell_of_row w V j _ t fr h]
  simpa using hj
theorem ErrS_same (f : Int) (w : World) (hg : ErrVar w) : Calls Tryz.prog 8 #[errS f, .int .i64 f] w fun r w' => r = .returned (.bool true) ∧ Below w.heap.size w w' := by
  unfold errS
  split
  · rename_i h
    subst h
    exact (Error_nil 0 true rfl w).mono fun e w' ⟨h1, h2⟩ => ⟨h1, by rw [← h2]; exact Below.refl _ _⟩
  · exact Error_err f f true (by simp) w hg
theorem SigSame (i : Int) (gs ps : List (List UInt8)) (hg : ∀ c ∈ gs, c.length = 32) (hp : ∀ c ∈ ps, c.length = 32) (gl t : Nat) (hgl : gs.length = gl) (ht : ps.length = t) (ga ha pa qa : Option Addr) (gc hc pc qc e1 e2 e3 e4 : Nat) (w : World)
    (rg : Rd w ga e1 (gs.flatten.map vB)) (rh : Rd w ha e2 (gs.flatten.map vB)) (rp : Rd w pa e3 (ps.flatten.map vB)) (rq : Rd w qa e4 (ps.flatten.map vB)) (hg2 : gl ≤ 9223372036854775807) (ht2 : t ≤ 9223372036854775807) :
    Calls Tryz.prog 13 #[.agg #[.int .i64 i, .slice ga gl gc, .slice pa t pc], .agg #[.int .i64 i, .slice ha gl hc, .slice qa t qc]] w fun e w' => e = .returned (.bool true) ∧ Below w.heap.size w w' := by
  subst ht hgl
  exact Signature_calls i i gs gs ps ps hg hg hp hp ga ha pa qa gc hc pc qc e1 e2 e3 e4 w rg rh rp rq hg2 ht2 true (by simp)
theorem HNewBadZ (seed : List UInt8) (h : Int) (hh : h < 0 ∨ 2 < h) (w : World) : Calls Tryz.prog 9 #[.agg (dV seed), .int .i64 h] w fun e w' => e = .returned (.tuple #[.pointer none, .iface 29 (.int .i64 2)]) ∧ Below w.heap.size w w' := HNew_bad seed h hh w
theorem hroot_zero {N : Nat} {m : List UInt8} {us : List (List UInt8)} {iu : Int} {vs ss : List (List UInt8)} {il : Int} {ps : List (List UInt8)} (h : hfault N us.length iu vs.length ss.length il ps.length ≠ 0) : hroot N m us iu vs ss il ps = nz := by
  unfold hfault at h
  unfold hroot
  split
  · rfl
  · rename_i h1
    rw [if_neg h1] at h
    unfold sroot
    rw [if_neg h]
theorem hroot_ok {N : Nat} {m : List UInt8} {us : List (List UInt8)} {iu : Int} {vs ss : List (List UInt8)} {il : Int} {ps : List (List UInt8)} (h1 : sfault N ss.length il ps.length = 0) : hroot N m us iu vs ss il ps = sroot N (sroot N m ss il ps) us iu vs := by
  unfold hroot
  rw [if_neg (by rw [h1]; simp)]
theorem sfault_zero {N sl pl : Nat} {i : Int} (h : sfault N sl i pl = 0) : sl = 67 ∧ ∃ n : Nat, i = (n : Int) ∧ n < N ∧ pl = tlong n N := by
  unfold sfault at h
  by_cases h1 : sl = 67
  · rw [if_neg (by simpa using h1)] at h
    by_cases h2 : i < 0 ∨ (N : Int) ≤ i
    · rw [if_pos h2] at h; cases h
    · rw [if_neg h2] at h
      by_cases h3 : pl = tlong i.toNat N
      · exact ⟨h1, i.toNat, by omega, by omega, h3⟩
      · rw [if_pos h3] at h; cases h
  · rw [if_pos h1] at h; cases h
theorem SRootZ (m : List UInt8) (hm : m.length = 32) (N : Nat) (hN : N ≤ 4) (sig ps : List (List UInt8)) (hd : ∀ d ∈ sig, d.length = 32) (hp : ∀ p ∈ ps, p.length = 32) (i : Int) (sl pl : Nat) (hsl : sl = sig.length) (hpl : pl = ps.length) (hf : sfault N sl i pl = 0) (R : List UInt8) (hR : R = sroot N m sig i ps) (sa pa : Option Addr) (sc pc se pe : Nat) (hpc : pl ≤ pc) (hpc2 : pc ≤ 9223372036854775807) (w : World) (hrs : Rd w sa se (sig.flatten.map vB)) (hrp : Rd w pa pe (ps.flatten.map vB)) :
    Calls Tryz.prog 15 #[.agg (dV m), .agg #[.int .i64 i, .slice sa sl sc, .slice pa pl pc], .int .i64 (N : Int)] w fun e w' => e = .returned (.agg (dV R)) ∧ Below w.heap.size w w' := by
  obtain ⟨h67, n, rfl, hn, htl⟩ := sfault_zero hf
  have hr : sroot N m sig (n : Int) ps = tfold (wkey m sig) n N ps := by unfold sroot; rw [← hsl, ← hpl, hf, if_pos rfl, Int.toNat_natCast]
  have := RSRoot_calls m hm N hN n hn sig ps (by rw [← hsl]; exact h67) hd hp (by rw [← hpl]; exact htl) sa pa sc pc se pe (by rw [← htl]; exact hpc) hpc2 w hrs hrp
  rw [hR, hr, h67, htl]
  exact this
set_option maxRecDepth 20000 in
set_option maxHeartbeats 32000000 in
theorem walk (x0 : List UInt8) (a1 : Int) (x2 : List (List UInt8)) (a2 : Option Addr) (c2 e2 : Nat) (x3 : List UInt8) (fu4 fl4 : Int) (us4 : List (List UInt8)) (usa4 : Option Addr) (usc4 use4 : Nat) (vs4 : List (List UInt8)) (vsa4 : Option Addr) (vsc4 vse4 : Nat) (ss4 : List (List UInt8)) (ssa4 : Option Addr) (ssc4 sse4 : Nat) (qs4 : List (List UInt8)) (qsa4 : Option Addr) (qsc4 qse4 : Nat) (w : World) (n0 : x0.length = 32) (h1 : -9223372036854775808 ≤ a1 ∧ a1 ≤ 9223372036854775807) (l2 : x2.length * 32 ≤ 140737488351232) (n2 : ∀ d ∈ x2, d.length = 32) (r2 : Rd w a2 e2 (x2.flatten.map vB)) (n3 : x3.length = 32) (hu4 : -9223372036854775808 ≤ fu4 ∧ fu4 ≤ 9223372036854775807) (hl4 : -9223372036854775808 ≤ fl4 ∧ fl4 ≤ 9223372036854775807) (usl4 : us4.length ≤ usc4 ∧ usc4 ≤ 9223372036854775807 ∧ (∀ d ∈ us4, d.length = 32) ∧ Rd w usa4 use4 (us4.flatten.map vB)) (vsl4 : vs4.length ≤ vsc4 ∧ vsc4 ≤ 9223372036854775807 ∧ (∀ d ∈ vs4, d.length = 32) ∧ Rd w vsa4 vse4 (vs4.flatten.map vB)) (ssl4 : ss4.length ≤ ssc4 ∧ ssc4 ≤ 9223372036854775807 ∧ (∀ d ∈ ss4, d.length = 32) ∧ Rd w ssa4 sse4 (ss4.flatten.map vB)) (qsl4 : qs4.length ≤ qsc4 ∧ qsc4 ≤ 9223372036854775807 ∧ (∀ d ∈ qs4, d.length = 32) ∧ Rd w qsa4 qse4 (qs4.flatten.map vB)) (hro : RoundsAt w) (hg : ErrVar w) :
    Calls Tryz.prog 3 #[.agg (dV x0), .int .i64 a1, .slice a2 x2.length c2, .agg (dV x3), .agg #[.int .i64 fu4, .slice usa4 us4.length usc4, .slice vsa4 vs4.length vsc4, .int .i64 fl4, .slice ssa4 ss4.length ssc4, .slice qsa4 qs4.length qsc4]] w fun e w' => e = .returned (.bool true) ∧ Below w.heap.size w w' := by
  have SL := Lib.hid n0
  have ML := Lib.hid n3
  have RO := Lib.hid hro
  have HG := Lib.hid hg
  have N2 := Lib.hid n2
  have R2 := Lib.hid r2
  have hgB1 := hro.lt
  have hgB2 := hg.lt
  have HFU := Lib.hid hu4
  have HFL := Lib.hid hl4
  have US4 := Lib.hid usl4
  have VS4 := Lib.hid vsl4
  have SS4 := Lib.hid ssl4
  have QS4 := Lib.hid qsl4
  obtain ⟨ul, hul⟩ : ∃ z, z = us4.length := ⟨_, rfl⟩
  obtain ⟨vl, hvl⟩ : ∃ z, z = vs4.length := ⟨_, rfl⟩
  obtain ⟨sl, hsl⟩ : ∃ z, z = ss4.length := ⟨_, rfl⟩
  obtain ⟨ql, hql⟩ : ∃ z, z = qs4.length := ⟨_, rfl⟩
  rw [← hul, ← hvl, ← hsl, ← hql]
  have UL := Lib.hid hul
  have VL := Lib.hid hvl
  have SSL := Lib.hid hsl
  have QL := Lib.hid hql
  have hub : ul ≤ 9223372036854775807 := by rw [hul]; exact Nat.le_trans usl4.1 usl4.2.1
  have hvb : vl ≤ 9223372036854775807 := by rw [hvl]; exact Nat.le_trans vsl4.1 vsl4.2.1
  have hsb : sl ≤ 9223372036854775807 := by rw [hsl]; exact Nat.le_trans ssl4.1 ssl4.2.1
  have hqb : ql ≤ 9223372036854775807 := by rw [hql]; exact Nat.le_trans qsl4.1 qsl4.2.1
  clear n0 n3 hro hg n2 r2 hu4 hl4 usl4 vsl4 ssl4 qsl4 hul hvl hsl hql
  have HUB := Lib.hid hub
  have HVLB := Lib.hid hvb
  have HSB := Lib.hid hsb
  have HQB := Lib.hid hqb
  clear hub hvb hsb hqb
  obtain ⟨Z, hZ⟩ : ∃ Z, Z = nz := ⟨_, rfl⟩
  have ZL := Lib.hid (show Z.length = 32 by rw [hZ]; rfl)
  have HZ := Lib.hid hZ
  have ZT := Lib.hid (show (#[.int .u8 0, .int .u8 0, .int .u8 0, .int .u8 0, .int .u8 0, .int .u8 0, .int .u8 0, .int .u8 0, .int .u8 0, .int .u8 0, .int .u8 0, .int .u8 0, .int .u8 0, .int .u8 0, .int .u8 0, .int .u8 0, .int .u8 0, .int .u8 0, .int .u8 0, .int .u8 0, .int .u8 0, .int .u8 0, .int .u8 0, .int .u8 0, .int .u8 0, .int .u8 0, .int .u8 0, .int .u8 0, .int .u8 0, .int .u8 0, .int .u8 0, .int .u8 0] : Array Value) = dV Z by rw [hZ]; exact zdig)
  clear hZ
  obtain ⟨S, hS⟩ : ∃ z, z = w.heap.size := ⟨_, rfl⟩
  obtain ⟨w1, hw1⟩ : ∃ z, z = w.alloc (.cells (dV x0) 23) := ⟨_, rfl⟩
  have st1 : Below w.heap.size w w1 := by rw [hw1]; exact (Below.refl _ _).alloc (Nat.le_refl _) _
  have B1 := Lib.hid (show Below w.heap.size w w1 from Below.trans (Below.refl w.heap.size w) (Below.mono st1 (Below.size (Below.refl w.heap.size w))))
  have GS_1 := Lib.hid (show w1.heap[S]? = some (.cells (dV x0) 23 (0, 0)) by rw [hw1, hS]; exact heap_alloc_new _ _)
  have LS_1 := Lib.hid (lt_of_heap GS_1.out)
  have HS := Lib.hid hS
  have Hw1 := Lib.hid hw1
  clear hS hw1 st1
  have SZS := Lib.hid (show S = w.heap.size from HS.out)
  obtain ⟨M, hM⟩ : ∃ z, z = w1.heap.size := ⟨_, rfl⟩
  obtain ⟨w2, hw2⟩ : ∃ z, z = w1.alloc (.cells (dV x3) 23) := ⟨_, rfl⟩
  have st2 : Below w1.heap.size w1 w2 := by rw [hw2]; exact (Below.refl _ _).alloc (Nat.le_refl _) _
  have B2 := Lib.hid (show Below w.heap.size w w2 from Below.trans B1.out (Below.mono st2 (Below.size B1.out)))
  have GS_2 := Lib.hid ((Below.block st2 S LS_1.out).trans GS_1.out)
  have LS_2 := Lib.hid (Nat.lt_of_lt_of_le LS_1.out (Below.size st2))
  have GM_2 := Lib.hid (show w2.heap[M]? = some (.cells (dV x3) 23 (0, 0)) by rw [hw2, hM]; exact heap_alloc_new _ _)
  have LM_2 := Lib.hid (lt_of_heap GM_2.out)
  have HM := Lib.hid hM
  have Hw2 := Lib.hid hw2
  clear hM hw2 st2
  have SZM := Lib.hid (show M = w.heap.size + 1 by rw [HM.out, Hw1.out, World.size_alloc, ← HS.out, SZS.out])
  obtain ⟨DB, hDB⟩ : ∃ z, z = w2.heap.size := ⟨_, rfl⟩
  obtain ⟨w3, hw3⟩ : ∃ z, z = w2.alloc (.cells #[.int .i64 fu4, .slice usa4 ul usc4, .slice vsa4 vl vsc4, .int .i64 fl4, .slice ssa4 sl ssc4, .slice qsa4 ql qsc4] 28) := ⟨_, rfl⟩
  have st3 : Below w2.heap.size w2 w3 := by rw [hw3]; exact (Below.refl _ _).alloc (Nat.le_refl _) _
  have B3 := Lib.hid (show Below w.heap.size w w3 from Below.trans B2.out (Below.mono st3 (Below.size B2.out)))
  have GS_3 := Lib.hid ((Below.block st3 S LS_2.out).trans GS_2.out)
  have LS_3 := Lib.hid (Nat.lt_of_lt_of_le LS_2.out (Below.size st3))
  have GM_3 := Lib.hid ((Below.block st3 M LM_2.out).trans GM_2.out)
  have LM_3 := Lib.hid (Nat.lt_of_lt_of_le LM_2.out (Below.size st3))
  have GDB_3 := Lib.hid (show w3.heap[DB]? = some (.cells #[.int .i64 fu4, .slice usa4 ul usc4, .slice vsa4 vl vsc4, .int .i64 fl4, .slice ssa4 sl ssc4, .slice qsa4 ql qsc4] 28 (0, 0)) by rw [hw3, hDB]; exact heap_alloc_new _ _)
  have LDB_3 := Lib.hid (lt_of_heap GDB_3.out)
  have HDB := Lib.hid hDB
  have Hw3 := Lib.hid hw3
  clear hDB hw3 st3
  have SZDB := Lib.hid (show DB = w.heap.size + 1 + 1 by rw [HDB.out, Hw2.out, World.size_alloc, ← HM.out, SZM.out])
  go_enter Tryz.func3, Tryz.ntmps3
  go_upto_region 1 with fail
  rw [← SZDB.out, ← SZM.out, ← SZS.out, ← Hw1.out, ← Hw2.out, ← Hw3.out]
  by_cases hl6 : 6 < x2.length
  · have q4 : decide ((6 : Int) < (x2.length : Int)) = true := decide_eq_true (by omega)
    have q5 : decide (6 < x2.length) = true := decide_eq_true (by omega)
    go_wp2_with fail
    go_ret
    exact ⟨rfl, B3.out⟩
  have q4 : decide ((6 : Int) < (x2.length : Int)) = false := decide_eq_false (by omega)
  have q5 : decide (6 < x2.length) = false := decide_eq_false (by omega)
  by_cases hb2 : 1 < a1 ∧ 2 < x2.length
  · have q6 : decide (1 < a1) = true := decide_eq_true hb2.1
    have q7 : decide ((2 : Int) < (x2.length : Int)) = true := decide_eq_true (by omega)
    have q8 : decide (2 < x2.length) = true := decide_eq_true (by omega)
    clear hb2
    go_wp2_with fail
    go_ret
    exact ⟨rfl, B3.out⟩
  go_cut [38] from 27 to 38 (fun v wx => v = .bool false ∧ w3 = wx)
  case first =>
    by_cases hb3 : 1 < a1
    · have q6 : decide (1 < a1) = true := decide_eq_true hb3
      have q7 : decide ((2 : Int) < (x2.length : Int)) = false := decide_eq_false (by omega)
      have q8 : decide (2 < x2.length) = false := decide_eq_false (by omega)
      clear hb2 hb3
      go_wp2_with fail
      go_meet
      exact ⟨rfl, rfl⟩
    · have q6 : decide (1 < a1) = false := decide_eq_false hb3
      clear hb2 hb3
      go_wp2_with fail
      go_meet
      exact ⟨rfl, rfl⟩
  case rest =>
  obtain ⟨rfl, hw⟩ := hcut
  rw [← hw]
  clear hw hb2
  by_cases hbad : a1 < 0 ∨ 2 < a1
  · have HBD := Lib.hid hbad
    rcases hbad with h1 | h1
    · by_cases hz : 0 < x2.length
      · have z1 : decide ((0 : Int) < (x2.length : Int)) = true := decide_eq_true (by omega)
        have z2 : decide (0 < x2.length) = true := decide_eq_true hz
        go_upto_region 5 with fail
        obtain ⟨V, hV⟩ : ∃ z, z = w3.heap.size := ⟨_, rfl⟩
        obtain ⟨w4, hw4⟩ : ∃ z, z = w3.alloc (.cells (dV Z) 23) := ⟨_, rfl⟩
        have st4 : Below w3.heap.size w3 w4 := by rw [hw4]; exact (Below.refl _ _).alloc (Nat.le_refl _) _
        have B4 := Lib.hid (show Below w.heap.size w w4 from Below.trans B3.out (Below.mono st4 (Below.size B3.out)))
        have GS_4 := Lib.hid ((Below.block st4 S LS_3.out).trans GS_3.out)
        have LS_4 := Lib.hid (Nat.lt_of_lt_of_le LS_3.out (Below.size st4))
        have GM_4 := Lib.hid ((Below.block st4 M LM_3.out).trans GM_3.out)
        have LM_4 := Lib.hid (Nat.lt_of_lt_of_le LM_3.out (Below.size st4))
        have GDB_4 := Lib.hid ((Below.block st4 DB LDB_3.out).trans GDB_3.out)
        have LDB_4 := Lib.hid (Nat.lt_of_lt_of_le LDB_3.out (Below.size st4))
        have GV_4 := Lib.hid (show w4.heap[V]? = some (.cells (dV Z) 23 (0, 0)) by rw [hw4, hV]; exact heap_alloc_new _ _)
        have LV_4 := Lib.hid (lt_of_heap GV_4.out)
        have HV := Lib.hid hV
        have Hw4 := Lib.hid hw4
        clear hV hw4 st4
        go_upto_region 11 with fail
        rw [ZT.out, ← HV.out, ← Hw4.out]
        go_wp2_with (first
          | (refine at_ld 23 (.tmp 5) rfl ?_; (refine ld_digG rfl (.tmp 5) rfl (S) 0 (by rfl) x0 SL.out (range_of_row GS_4.out) ?_); simp only [Act.put, List.setIfInBounds_toArray, List.set_cons_zero, List.set_cons_succ]))
        refine (PubBadH Z HZ.out x0 a1 HBD.out w4).mono ?_
        rintro e w5 ⟨rfl, hb5⟩
        have B5 := Lib.hid (show Below w.heap.size w w5 from Below.trans B4.out (Below.mono hb5 (Below.size B4.out)))
        have GS_5 := Lib.hid ((Below.block hb5 S LS_4.out).trans GS_4.out)
        have LS_5 := Lib.hid (Nat.lt_of_lt_of_le LS_4.out (Below.size hb5))
        have GM_5 := Lib.hid ((Below.block hb5 M LM_4.out).trans GM_4.out)
        have LM_5 := Lib.hid (Nat.lt_of_lt_of_le LM_4.out (Below.size hb5))
        have GDB_5 := Lib.hid ((Below.block hb5 DB LDB_4.out).trans GDB_4.out)
        have LDB_5 := Lib.hid (Nat.lt_of_lt_of_le LDB_4.out (Below.size hb5))
        have GV_5 := Lib.hid ((Below.block hb5 V LV_4.out).trans GV_4.out)
        have LV_5 := Lib.hid (Nat.lt_of_lt_of_le LV_4.out (Below.size hb5))
        clear hb5
        obtain ⟨PK, hPK⟩ : ∃ z, z = w5.heap.size := ⟨_, rfl⟩
        obtain ⟨w6, hw6⟩ : ∃ z, z = w5.alloc (.cells (dV Z) 23) := ⟨_, rfl⟩
        have st6 : Below w5.heap.size w5 w6 := by rw [hw6]; exact (Below.refl _ _).alloc (Nat.le_refl _) _
        have B6 := Lib.hid (show Below w.heap.size w w6 from Below.trans B5.out (Below.mono st6 (Below.size B5.out)))
        have GS_6 := Lib.hid ((Below.block st6 S LS_5.out).trans GS_5.out)
        have LS_6 := Lib.hid (Nat.lt_of_lt_of_le LS_5.out (Below.size st6))
        have GM_6 := Lib.hid ((Below.block st6 M LM_5.out).trans GM_5.out)
        have LM_6 := Lib.hid (Nat.lt_of_lt_of_le LM_5.out (Below.size st6))
        have GDB_6 := Lib.hid ((Below.block st6 DB LDB_5.out).trans GDB_5.out)
        have LDB_6 := Lib.hid (Nat.lt_of_lt_of_le LDB_5.out (Below.size st6))
        have GV_6 := Lib.hid ((Below.block st6 V LV_5.out).trans GV_5.out)
        have LV_6 := Lib.hid (Nat.lt_of_lt_of_le LV_5.out (Below.size st6))
        have GPK_6 := Lib.hid (show w6.heap[PK]? = some (.cells (dV Z) 23 (0, 0)) by rw [hw6, hPK]; exact heap_alloc_new _ _)
        have LPK_6 := Lib.hid (lt_of_heap GPK_6.out)
        have HPK := Lib.hid hPK
        have Hw6 := Lib.hid hw6
        clear hPK hw6 st6
        go_wp2_with (first
          | (refine at_st 23 (.tmp 15) (.tmp 57) rfl ?_; (refine st_new rfl (.tmp 15) (.tmp 57) rfl Z ZL.out (by rfl) _ _ (by rfl) (by rfl) ?_); rw [← HPK.out, ← Hw6.out]))
        refine (Error_err 2 2 true (by decide) w6 (HG.out.at_ B6.out)).mono ?_
        rintro e w7 ⟨rfl, hb7⟩
        have B7 := Lib.hid (show Below w.heap.size w w7 from Below.trans B6.out (Below.mono hb7 (Below.size B6.out)))
        have GS_7 := Lib.hid ((Below.block hb7 S LS_6.out).trans GS_6.out)
        have LS_7 := Lib.hid (Nat.lt_of_lt_of_le LS_6.out (Below.size hb7))
        have GM_7 := Lib.hid ((Below.block hb7 M LM_6.out).trans GM_6.out)
        have LM_7 := Lib.hid (Nat.lt_of_lt_of_le LM_6.out (Below.size hb7))
        have GDB_7 := Lib.hid ((Below.block hb7 DB LDB_6.out).trans GDB_6.out)
        have LDB_7 := Lib.hid (Nat.lt_of_lt_of_le LDB_6.out (Below.size hb7))
        have GV_7 := Lib.hid ((Below.block hb7 V LV_6.out).trans GV_6.out)
        have LV_7 := Lib.hid (Nat.lt_of_lt_of_le LV_6.out (Below.size hb7))
        have GPK_7 := Lib.hid ((Below.block hb7 PK LPK_6.out).trans GPK_6.out)
        have LPK_7 := Lib.hid (Nat.lt_of_lt_of_le LPK_6.out (Below.size hb7))
        clear hb7
        go_wp2_with (first
          | (refine at_ld 23 (.tmp 15) rfl ?_; (refine ld_digG rfl (.tmp 15) rfl (PK) 0 (by rfl) Z ZL.out (range_of_row GPK_7.out) ?_); simp only [Act.put, List.setIfInBounds_toArray, List.set_cons_zero, List.set_cons_succ])
          | (refine at_ld 23 (.tmp 13) rfl ?_; (refine ld_digG rfl (.tmp 13) rfl (V) 0 (by rfl) Z ZL.out (range_of_row GV_7.out) ?_); simp only [Act.put, List.setIfInBounds_toArray, List.set_cons_zero, List.set_cons_succ])
          | (refine at_bin .neq 23 (.tmp 65) (.tmp 66) _ rfl ?_; (refine neq_digG rfl (.tmp 65) (.tmp 66) _ rfl Z Z (by rfl) (by rfl) ZL.out ZL.out ?_); rw [beq_self_eq_true]; simp only [Act.put, List.setIfInBounds_toArray, List.set_cons_zero, List.set_cons_succ])
          | (refine at_ld 23 (.tmp 5) rfl ?_; (refine ld_digG rfl (.tmp 5) rfl (S) 0 (by rfl) x0 SL.out (range_of_row GS_7.out) ?_); simp only [Act.put, List.setIfInBounds_toArray, List.set_cons_zero, List.set_cons_succ]))
        refine (HNewBadZ x0 a1 HBD.out w7).mono ?_
        rintro e w8 ⟨rfl, hb8⟩
        have B8 := Lib.hid (show Below w.heap.size w w8 from Below.trans B7.out (Below.mono hb8 (Below.size B7.out)))
        have GS_8 := Lib.hid ((Below.block hb8 S LS_7.out).trans GS_7.out)
        have LS_8 := Lib.hid (Nat.lt_of_lt_of_le LS_7.out (Below.size hb8))
        have GM_8 := Lib.hid ((Below.block hb8 M LM_7.out).trans GM_7.out)
        have LM_8 := Lib.hid (Nat.lt_of_lt_of_le LM_7.out (Below.size hb8))
        have GDB_8 := Lib.hid ((Below.block hb8 DB LDB_7.out).trans GDB_7.out)
        have LDB_8 := Lib.hid (Nat.lt_of_lt_of_le LDB_7.out (Below.size hb8))
        have GV_8 := Lib.hid ((Below.block hb8 V LV_7.out).trans GV_7.out)
        have LV_8 := Lib.hid (Nat.lt_of_lt_of_le LV_7.out (Below.size hb8))
        have GPK_8 := Lib.hid ((Below.block hb8 PK LPK_7.out).trans GPK_7.out)
        have LPK_8 := Lib.hid (Nat.lt_of_lt_of_le LPK_7.out (Below.size hb8))
        clear hb8
        go_wp2_with fail
        refine (Error_err 2 2 true (by decide) w8 (HG.out.at_ B8.out)).mono ?_
        rintro e w9 ⟨rfl, hb9⟩
        have B9 := Lib.hid (show Below w.heap.size w w9 from Below.trans B8.out (Below.mono hb9 (Below.size B8.out)))
        have GS_9 := Lib.hid ((Below.block hb9 S LS_8.out).trans GS_8.out)
        have LS_9 := Lib.hid (Nat.lt_of_lt_of_le LS_8.out (Below.size hb9))
        have GM_9 := Lib.hid ((Below.block hb9 M LM_8.out).trans GM_8.out)
        have LM_9 := Lib.hid (Nat.lt_of_lt_of_le LM_8.out (Below.size hb9))
        have GDB_9 := Lib.hid ((Below.block hb9 DB LDB_8.out).trans GDB_8.out)
        have LDB_9 := Lib.hid (Nat.lt_of_lt_of_le LDB_8.out (Below.size hb9))
        have GV_9 := Lib.hid ((Below.block hb9 V LV_8.out).trans GV_8.out)
        have LV_9 := Lib.hid (Nat.lt_of_lt_of_le LV_8.out (Below.size hb9))
        have GPK_9 := Lib.hid ((Below.block hb9 PK LPK_8.out).trans GPK_8.out)
        have LPK_9 := Lib.hid (Nat.lt_of_lt_of_le LPK_8.out (Below.size hb9))
        clear hb9
        go_wp2_with fail
        go_loopw [19] (fun i wr => i = .int .i64 0 ∧ wr = w9) (fun _ _ => 0)
        case atStart => exact ⟨rfl, rfl⟩
        case round =>
          obtain ⟨rfl, hwr⟩ := hrel
          rw [hwr]
          obtain ⟨w10, hw10⟩ : ∃ z, z = w9.setRow V (dV Z) := ⟨_, rfl⟩
          have B10 := Lib.hid (show Below w.heap.size w w10 by rw [hw10]; exact below_setRowW B9.out (by rw [HV.out]; exact Below.size B3.out) _)
          have sz10 : w10.heap.size = w9.heap.size := by rw [hw10]; exact setRow_size _ _ _
          have GS_10 := Lib.hid (show w10.heap[S]? = some (.cells (dV x0) 23 (0, 0)) by rw [hw10]; exact (_root_.Go.setRow_other _ _ _ _ (by rw [HV.out]; exact Nat.ne_of_lt LS_3.out)).trans GS_9.out)
          have LS_10 := Lib.hid (show S < w10.heap.size by rw [sz10]; exact LS_9.out)
          have GM_10 := Lib.hid (show w10.heap[M]? = some (.cells (dV x3) 23 (0, 0)) by rw [hw10]; exact (_root_.Go.setRow_other _ _ _ _ (by rw [HV.out]; exact Nat.ne_of_lt LM_3.out)).trans GM_9.out)
          have LM_10 := Lib.hid (show M < w10.heap.size by rw [sz10]; exact LM_9.out)
          have GDB_10 := Lib.hid (show w10.heap[DB]? = some (.cells #[.int .i64 fu4, .slice usa4 ul usc4, .slice vsa4 vl vsc4, .int .i64 fl4, .slice ssa4 sl ssc4, .slice qsa4 ql qsc4] 28 (0, 0)) by rw [hw10]; exact (_root_.Go.setRow_other _ _ _ _ (by rw [HV.out]; exact Nat.ne_of_lt LDB_3.out)).trans GDB_9.out)
          have LDB_10 := Lib.hid (show DB < w10.heap.size by rw [sz10]; exact LDB_9.out)
          have GV_10 := Lib.hid (show w10.heap[V]? = some (.cells (dV Z) 23 (0, 0)) by rw [hw10]; exact setRow_heap _ _ _ _ _ _ GV_9.out)
          have LV_10 := Lib.hid (show V < w10.heap.size by rw [sz10]; exact LV_9.out)
          have GPK_10 := Lib.hid (show w10.heap[PK]? = some (.cells (dV Z) 23 (0, 0)) by rw [hw10]; exact (_root_.Go.setRow_other _ _ _ _ (by rw [HPK.out]; exact (Nat.ne_of_lt LV_5.out).symm)).trans GPK_9.out)
          have LPK_10 := Lib.hid (show PK < w10.heap.size by rw [sz10]; exact LPK_9.out)
          have Hw10 := Lib.hid hw10
          clear hw10 sz10
          have HRC := Lib.hid (HRec_bad x3 a1 HBD.out fu4 fl4 usa4 vsa4 ssa4 qsa4 ul usc4 vl vsc4 sl ssc4 ql qsc4 w10)
          rw [← HZ.out] at HRC
          go_wp2_with (first
            | (refine wpl_zero rfl rfl Z HZ.out ?_)
            | (refine at_st 23 (.tmp 13) (.tmp 155) rfl ?_; (refine st_row rfl (.tmp 13) (.tmp 155) rfl V Z ZL.out (by rfl) (by rfl) (dV Z) (dV_size ZL.out) _ GV_9.out ?_); rw [← Hw10.out])
            | (refine at_ld 23 (.tmp 8) rfl ?_; (refine ld_digG rfl (.tmp 8) rfl (M) 0 (by rfl) x3 ML.out (range_of_row GM_10.out) ?_); simp only [Act.put, List.setIfInBounds_toArray, List.set_cons_zero, List.set_cons_succ])
            | (refine ld_dbl rfl (.tmp 9) rfl DB (by rfl) _ _ _ _ _ _ _ _ GDB_10.out ?_))
          refine (HRC.out).mono ?_
          rintro e w11 ⟨rfl, hb11⟩
          have B11 := Lib.hid (show Below w.heap.size w w11 from Below.trans B10.out (Below.mono hb11 (Below.size B10.out)))
          have GS_11 := Lib.hid ((Below.block hb11 S LS_10.out).trans GS_10.out)
          have LS_11 := Lib.hid (Nat.lt_of_lt_of_le LS_10.out (Below.size hb11))
          have GM_11 := Lib.hid ((Below.block hb11 M LM_10.out).trans GM_10.out)
          have LM_11 := Lib.hid (Nat.lt_of_lt_of_le LM_10.out (Below.size hb11))
          have GDB_11 := Lib.hid ((Below.block hb11 DB LDB_10.out).trans GDB_10.out)
          have LDB_11 := Lib.hid (Nat.lt_of_lt_of_le LDB_10.out (Below.size hb11))
          have GV_11 := Lib.hid ((Below.block hb11 V LV_10.out).trans GV_10.out)
          have LV_11 := Lib.hid (Nat.lt_of_lt_of_le LV_10.out (Below.size hb11))
          have GPK_11 := Lib.hid ((Below.block hb11 PK LPK_10.out).trans GPK_10.out)
          have LPK_11 := Lib.hid (Nat.lt_of_lt_of_le LPK_10.out (Below.size hb11))
          clear HRC
          clear hb11
          obtain ⟨Y, hY⟩ : ∃ z, z = w11.heap.size := ⟨_, rfl⟩
          obtain ⟨w12, hw12⟩ : ∃ z, z = w11.alloc (.cells (dV Z) 23) := ⟨_, rfl⟩
          have st12 : Below w11.heap.size w11 w12 := by rw [hw12]; exact (Below.refl _ _).alloc (Nat.le_refl _) _
          have B12 := Lib.hid (show Below w.heap.size w w12 from Below.trans B11.out (Below.mono st12 (Below.size B11.out)))
          have GS_12 := Lib.hid ((Below.block st12 S LS_11.out).trans GS_11.out)
          have LS_12 := Lib.hid (Nat.lt_of_lt_of_le LS_11.out (Below.size st12))
          have GM_12 := Lib.hid ((Below.block st12 M LM_11.out).trans GM_11.out)
          have LM_12 := Lib.hid (Nat.lt_of_lt_of_le LM_11.out (Below.size st12))
          have GDB_12 := Lib.hid ((Below.block st12 DB LDB_11.out).trans GDB_11.out)
          have LDB_12 := Lib.hid (Nat.lt_of_lt_of_le LDB_11.out (Below.size st12))
          have GV_12 := Lib.hid ((Below.block st12 V LV_11.out).trans GV_11.out)
          have LV_12 := Lib.hid (Nat.lt_of_lt_of_le LV_11.out (Below.size st12))
          have GPK_12 := Lib.hid ((Below.block st12 PK LPK_11.out).trans GPK_11.out)
          have LPK_12 := Lib.hid (Nat.lt_of_lt_of_le LPK_11.out (Below.size st12))
          have GY_12 := Lib.hid (show w12.heap[Y]? = some (.cells (dV Z) 23 (0, 0)) by rw [hw12, hY]; exact heap_alloc_new _ _)
          have LY_12 := Lib.hid (lt_of_heap GY_12.out)
          have HY := Lib.hid hY
          have Hw12 := Lib.hid hw12
          clear hY hw12 st12
          go_wp2_with (first
            | (refine at_st 23 (.tmp 26) (.tmp 184) rfl ?_; (refine st_new rfl (.tmp 26) (.tmp 184) rfl Z ZL.out (by rfl) _ _ (by rfl) (by rfl) ?_); rw [← HY.out, ← Hw12.out]))
          refine (Error_err 2 2 true (by decide) w12 (HG.out.at_ B12.out)).mono ?_
          rintro e w13 ⟨rfl, hb13⟩
          have B13 := Lib.hid (show Below w.heap.size w w13 from Below.trans B12.out (Below.mono hb13 (Below.size B12.out)))
          have GS_13 := Lib.hid ((Below.block hb13 S LS_12.out).trans GS_12.out)
          have LS_13 := Lib.hid (Nat.lt_of_lt_of_le LS_12.out (Below.size hb13))
          have GM_13 := Lib.hid ((Below.block hb13 M LM_12.out).trans GM_12.out)
          have LM_13 := Lib.hid (Nat.lt_of_lt_of_le LM_12.out (Below.size hb13))
          have GDB_13 := Lib.hid ((Below.block hb13 DB LDB_12.out).trans GDB_12.out)
          have LDB_13 := Lib.hid (Nat.lt_of_lt_of_le LDB_12.out (Below.size hb13))
          have GV_13 := Lib.hid ((Below.block hb13 V LV_12.out).trans GV_12.out)
          have LV_13 := Lib.hid (Nat.lt_of_lt_of_le LV_12.out (Below.size hb13))
          have GPK_13 := Lib.hid ((Below.block hb13 PK LPK_12.out).trans GPK_12.out)
          have LPK_13 := Lib.hid (Nat.lt_of_lt_of_le LPK_12.out (Below.size hb13))
          have GY_13 := Lib.hid ((Below.block hb13 Y LY_12.out).trans GY_12.out)
          have LY_13 := Lib.hid (Nat.lt_of_lt_of_le LY_12.out (Below.size hb13))
          clear hb13
          go_wp2_with (first
            | (refine at_ld 23 (.tmp 26) rfl ?_; (refine ld_digG rfl (.tmp 26) rfl (Y) 0 (by rfl) Z ZL.out (range_of_row GY_13.out) ?_); simp only [Act.put, List.setIfInBounds_toArray, List.set_cons_zero, List.set_cons_succ])
            | (refine at_ld 23 (.tmp 13) rfl ?_; (refine ld_digG rfl (.tmp 13) rfl (V) 0 (by rfl) Z ZL.out (range_of_row GV_13.out) ?_); simp only [Act.put, List.setIfInBounds_toArray, List.set_cons_zero, List.set_cons_succ])
            | (refine at_bin .eql 23 (.tmp 191) (.tmp 192) _ rfl ?_; (refine eq_digG rfl (.tmp 191) (.tmp 192) _ rfl Z Z (by rfl) (by rfl) ZL.out ZL.out ?_); rw [beq_self_eq_true]; simp only [Act.put, List.setIfInBounds_toArray, List.set_cons_zero, List.set_cons_succ]))
          go_ret
          exact ⟨rfl, B13.out⟩
      · have z1 : decide ((0 : Int) < (x2.length : Int)) = false := decide_eq_false (by omega)
        have z2 : decide (0 < x2.length) = false := decide_eq_false hz
        go_upto_region 5 with fail
        obtain ⟨V, hV⟩ : ∃ z, z = w3.heap.size := ⟨_, rfl⟩
        obtain ⟨w4, hw4⟩ : ∃ z, z = w3.alloc (.cells (dV Z) 23) := ⟨_, rfl⟩
        have st4 : Below w3.heap.size w3 w4 := by rw [hw4]; exact (Below.refl _ _).alloc (Nat.le_refl _) _
        have B4 := Lib.hid (show Below w.heap.size w w4 from Below.trans B3.out (Below.mono st4 (Below.size B3.out)))
        have GS_4 := Lib.hid ((Below.block st4 S LS_3.out).trans GS_3.out)
        have LS_4 := Lib.hid (Nat.lt_of_lt_of_le LS_3.out (Below.size st4))
        have GM_4 := Lib.hid ((Below.block st4 M LM_3.out).trans GM_3.out)
        have LM_4 := Lib.hid (Nat.lt_of_lt_of_le LM_3.out (Below.size st4))
        have GDB_4 := Lib.hid ((Below.block st4 DB LDB_3.out).trans GDB_3.out)
        have LDB_4 := Lib.hid (Nat.lt_of_lt_of_le LDB_3.out (Below.size st4))
        have GV_4 := Lib.hid (show w4.heap[V]? = some (.cells (dV Z) 23 (0, 0)) by rw [hw4, hV]; exact heap_alloc_new _ _)
        have LV_4 := Lib.hid (lt_of_heap GV_4.out)
        have HV := Lib.hid hV
        have Hw4 := Lib.hid hw4
        clear hV hw4 st4
        go_upto_region 11 with fail
        rw [ZT.out, ← HV.out, ← Hw4.out]
        go_wp2_with (first
          | (refine at_ld 23 (.tmp 5) rfl ?_; (refine ld_digG rfl (.tmp 5) rfl (S) 0 (by rfl) x0 SL.out (range_of_row GS_4.out) ?_); simp only [Act.put, List.setIfInBounds_toArray, List.set_cons_zero, List.set_cons_succ]))
        refine (PubBadH Z HZ.out x0 a1 HBD.out w4).mono ?_
        rintro e w5 ⟨rfl, hb5⟩
        have B5 := Lib.hid (show Below w.heap.size w w5 from Below.trans B4.out (Below.mono hb5 (Below.size B4.out)))
        have GS_5 := Lib.hid ((Below.block hb5 S LS_4.out).trans GS_4.out)
        have LS_5 := Lib.hid (Nat.lt_of_lt_of_le LS_4.out (Below.size hb5))
        have GM_5 := Lib.hid ((Below.block hb5 M LM_4.out).trans GM_4.out)
        have LM_5 := Lib.hid (Nat.lt_of_lt_of_le LM_4.out (Below.size hb5))
        have GDB_5 := Lib.hid ((Below.block hb5 DB LDB_4.out).trans GDB_4.out)
        have LDB_5 := Lib.hid (Nat.lt_of_lt_of_le LDB_4.out (Below.size hb5))
        have GV_5 := Lib.hid ((Below.block hb5 V LV_4.out).trans GV_4.out)
        have LV_5 := Lib.hid (Nat.lt_of_lt_of_le LV_4.out (Below.size hb5))
        clear hb5
        obtain ⟨PK, hPK⟩ : ∃ z, z = w5.heap.size := ⟨_, rfl⟩
        obtain ⟨w6, hw6⟩ : ∃ z, z = w5.alloc (.cells (dV Z) 23) := ⟨_, rfl⟩
        have st6 : Below w5.heap.size w5 w6 := by rw [hw6]; exact (Below.refl _ _).alloc (Nat.le_refl _) _
        have B6 := Lib.hid (show Below w.heap.size w w6 from Below.trans B5.out (Below.mono st6 (Below.size B5.out)))
        have GS_6 := Lib.hid ((Below.block st6 S LS_5.out).trans GS_5.out)
        have LS_6 := Lib.hid (Nat.lt_of_lt_of_le LS_5.out (Below.size st6))
        have GM_6 := Lib.hid ((Below.block st6 M LM_5.out).trans GM_5.out)
        have LM_6 := Lib.hid (Nat.lt_of_lt_of_le LM_5.out (Below.size st6))
        have GDB_6 := Lib.hid ((Below.block st6 DB LDB_5.out).trans GDB_5.out)
        have LDB_6 := Lib.hid (Nat.lt_of_lt_of_le LDB_5.out (Below.size st6))
        have GV_6 := Lib.hid ((Below.block st6 V LV_5.out).trans GV_5.out)
        have LV_6 := Lib.hid (Nat.lt_of_lt_of_le LV_5.out (Below.size st6))
        have GPK_6 := Lib.hid (show w6.heap[PK]? = some (.cells (dV Z) 23 (0, 0)) by rw [hw6, hPK]; exact heap_alloc_new _ _)
        have LPK_6 := Lib.hid (lt_of_heap GPK_6.out)
        have HPK := Lib.hid hPK
        have Hw6 := Lib.hid hw6
        clear hPK hw6 st6
        go_wp2_with (first
          | (refine at_st 23 (.tmp 15) (.tmp 57) rfl ?_; (refine st_new rfl (.tmp 15) (.tmp 57) rfl Z ZL.out (by rfl) _ _ (by rfl) (by rfl) ?_); rw [← HPK.out, ← Hw6.out]))
        refine (Error_err 2 2 true (by decide) w6 (HG.out.at_ B6.out)).mono ?_
        rintro e w7 ⟨rfl, hb7⟩
        have B7 := Lib.hid (show Below w.heap.size w w7 from Below.trans B6.out (Below.mono hb7 (Below.size B6.out)))
        have GS_7 := Lib.hid ((Below.block hb7 S LS_6.out).trans GS_6.out)
        have LS_7 := Lib.hid (Nat.lt_of_lt_of_le LS_6.out (Below.size hb7))
        have GM_7 := Lib.hid ((Below.block hb7 M LM_6.out).trans GM_6.out)
        have LM_7 := Lib.hid (Nat.lt_of_lt_of_le LM_6.out (Below.size hb7))
        have GDB_7 := Lib.hid ((Below.block hb7 DB LDB_6.out).trans GDB_6.out)
        have LDB_7 := Lib.hid (Nat.lt_of_lt_of_le LDB_6.out (Below.size hb7))
        have GV_7 := Lib.hid ((Below.block hb7 V LV_6.out).trans GV_6.out)
        have LV_7 := Lib.hid (Nat.lt_of_lt_of_le LV_6.out (Below.size hb7))
        have GPK_7 := Lib.hid ((Below.block hb7 PK LPK_6.out).trans GPK_6.out)
        have LPK_7 := Lib.hid (Nat.lt_of_lt_of_le LPK_6.out (Below.size hb7))
        clear hb7
        go_wp2_with (first
          | (refine at_ld 23 (.tmp 15) rfl ?_; (refine ld_digG rfl (.tmp 15) rfl (PK) 0 (by rfl) Z ZL.out (range_of_row GPK_7.out) ?_); simp only [Act.put, List.setIfInBounds_toArray, List.set_cons_zero, List.set_cons_succ])
          | (refine at_ld 23 (.tmp 13) rfl ?_; (refine ld_digG rfl (.tmp 13) rfl (V) 0 (by rfl) Z ZL.out (range_of_row GV_7.out) ?_); simp only [Act.put, List.setIfInBounds_toArray, List.set_cons_zero, List.set_cons_succ])
          | (refine at_bin .neq 23 (.tmp 65) (.tmp 66) _ rfl ?_; (refine neq_digG rfl (.tmp 65) (.tmp 66) _ rfl Z Z (by rfl) (by rfl) ZL.out ZL.out ?_); rw [beq_self_eq_true]; simp only [Act.put, List.setIfInBounds_toArray, List.set_cons_zero, List.set_cons_succ])
          | (refine at_ld 23 (.tmp 5) rfl ?_; (refine ld_digG rfl (.tmp 5) rfl (S) 0 (by rfl) x0 SL.out (range_of_row GS_7.out) ?_); simp only [Act.put, List.setIfInBounds_toArray, List.set_cons_zero, List.set_cons_succ]))
        refine (HNewBadZ x0 a1 HBD.out w7).mono ?_
        rintro e w8 ⟨rfl, hb8⟩
        have B8 := Lib.hid (show Below w.heap.size w w8 from Below.trans B7.out (Below.mono hb8 (Below.size B7.out)))
        have GS_8 := Lib.hid ((Below.block hb8 S LS_7.out).trans GS_7.out)
        have LS_8 := Lib.hid (Nat.lt_of_lt_of_le LS_7.out (Below.size hb8))
        have GM_8 := Lib.hid ((Below.block hb8 M LM_7.out).trans GM_7.out)
        have LM_8 := Lib.hid (Nat.lt_of_lt_of_le LM_7.out (Below.size hb8))
        have GDB_8 := Lib.hid ((Below.block hb8 DB LDB_7.out).trans GDB_7.out)
        have LDB_8 := Lib.hid (Nat.lt_of_lt_of_le LDB_7.out (Below.size hb8))
        have GV_8 := Lib.hid ((Below.block hb8 V LV_7.out).trans GV_7.out)
        have LV_8 := Lib.hid (Nat.lt_of_lt_of_le LV_7.out (Below.size hb8))
        have GPK_8 := Lib.hid ((Below.block hb8 PK LPK_7.out).trans GPK_7.out)
        have LPK_8 := Lib.hid (Nat.lt_of_lt_of_le LPK_7.out (Below.size hb8))
        clear hb8
        go_wp2_with fail
        refine (Error_err 2 2 true (by decide) w8 (HG.out.at_ B8.out)).mono ?_
        rintro e w9 ⟨rfl, hb9⟩
        have B9 := Lib.hid (show Below w.heap.size w w9 from Below.trans B8.out (Below.mono hb9 (Below.size B8.out)))
        have GS_9 := Lib.hid ((Below.block hb9 S LS_8.out).trans GS_8.out)
        have LS_9 := Lib.hid (Nat.lt_of_lt_of_le LS_8.out (Below.size hb9))
        have GM_9 := Lib.hid ((Below.block hb9 M LM_8.out).trans GM_8.out)
        have LM_9 := Lib.hid (Nat.lt_of_lt_of_le LM_8.out (Below.size hb9))
        have GDB_9 := Lib.hid ((Below.block hb9 DB LDB_8.out).trans GDB_8.out)
        have LDB_9 := Lib.hid (Nat.lt_of_lt_of_le LDB_8.out (Below.size hb9))
        have GV_9 := Lib.hid ((Below.block hb9 V LV_8.out).trans GV_8.out)
        have LV_9 := Lib.hid (Nat.lt_of_lt_of_le LV_8.out (Below.size hb9))
        have GPK_9 := Lib.hid ((Below.block hb9 PK LPK_8.out).trans GPK_8.out)
        have LPK_9 := Lib.hid (Nat.lt_of_lt_of_le LPK_8.out (Below.size hb9))
        clear hb9
        go_wp2_with fail
        go_loopw [19] (fun i wr => i = .int .i64 0 ∧ wr = w9) (fun _ _ => 0)
        case atStart => exact ⟨rfl, rfl⟩
        case round =>
          obtain ⟨rfl, hwr⟩ := hrel
          rw [hwr]
          obtain ⟨w10, hw10⟩ : ∃ z, z = w9.setRow V (dV Z) := ⟨_, rfl⟩
          have B10 := Lib.hid (show Below w.heap.size w w10 by rw [hw10]; exact below_setRowW B9.out (by rw [HV.out]; exact Below.size B3.out) _)
          have sz10 : w10.heap.size = w9.heap.size := by rw [hw10]; exact setRow_size _ _ _
          have GS_10 := Lib.hid (show w10.heap[S]? = some (.cells (dV x0) 23 (0, 0)) by rw [hw10]; exact (_root_.Go.setRow_other _ _ _ _ (by rw [HV.out]; exact Nat.ne_of_lt LS_3.out)).trans GS_9.out)
          have LS_10 := Lib.hid (show S < w10.heap.size by rw [sz10]; exact LS_9.out)
          have GM_10 := Lib.hid (show w10.heap[M]? = some (.cells (dV x3) 23 (0, 0)) by rw [hw10]; exact (_root_.Go.setRow_other _ _ _ _ (by rw [HV.out]; exact Nat.ne_of_lt LM_3.out)).trans GM_9.out)
          have LM_10 := Lib.hid (show M < w10.heap.size by rw [sz10]; exact LM_9.out)
          have GDB_10 := Lib.hid (show w10.heap[DB]? = some (.cells #[.int .i64 fu4, .slice usa4 ul usc4, .slice vsa4 vl vsc4, .int .i64 fl4, .slice ssa4 sl ssc4, .slice qsa4 ql qsc4] 28 (0, 0)) by rw [hw10]; exact (_root_.Go.setRow_other _ _ _ _ (by rw [HV.out]; exact Nat.ne_of_lt LDB_3.out)).trans GDB_9.out)
          have LDB_10 := Lib.hid (show DB < w10.heap.size by rw [sz10]; exact LDB_9.out)
          have GV_10 := Lib.hid (show w10.heap[V]? = some (.cells (dV Z) 23 (0, 0)) by rw [hw10]; exact setRow_heap _ _ _ _ _ _ GV_9.out)
          have LV_10 := Lib.hid (show V < w10.heap.size by rw [sz10]; exact LV_9.out)
          have GPK_10 := Lib.hid (show w10.heap[PK]? = some (.cells (dV Z) 23 (0, 0)) by rw [hw10]; exact (_root_.Go.setRow_other _ _ _ _ (by rw [HPK.out]; exact (Nat.ne_of_lt LV_5.out).symm)).trans GPK_9.out)
          have LPK_10 := Lib.hid (show PK < w10.heap.size by rw [sz10]; exact LPK_9.out)
          have Hw10 := Lib.hid hw10
          clear hw10 sz10
          have HRC := Lib.hid (HRec_bad x3 a1 HBD.out fu4 fl4 usa4 vsa4 ssa4 qsa4 ul usc4 vl vsc4 sl ssc4 ql qsc4 w10)
          rw [← HZ.out] at HRC
          go_wp2_with (first
            | (refine wpl_zero rfl rfl Z HZ.out ?_)
            | (refine at_st 23 (.tmp 13) (.tmp 155) rfl ?_; (refine st_row rfl (.tmp 13) (.tmp 155) rfl V Z ZL.out (by rfl) (by rfl) (dV Z) (dV_size ZL.out) _ GV_9.out ?_); rw [← Hw10.out])
            | (refine at_ld 23 (.tmp 8) rfl ?_; (refine ld_digG rfl (.tmp 8) rfl (M) 0 (by rfl) x3 ML.out (range_of_row GM_10.out) ?_); simp only [Act.put, List.setIfInBounds_toArray, List.set_cons_zero, List.set_cons_succ])
            | (refine ld_dbl rfl (.tmp 9) rfl DB (by rfl) _ _ _ _ _ _ _ _ GDB_10.out ?_))
          refine (HRC.out).mono ?_
          rintro e w11 ⟨rfl, hb11⟩
          have B11 := Lib.hid (show Below w.heap.size w w11 from Below.trans B10.out (Below.mono hb11 (Below.size B10.out)))
          have GS_11 := Lib.hid ((Below.block hb11 S LS_10.out).trans GS_10.out)
          have LS_11 := Lib.hid (Nat.lt_of_lt_of_le LS_10.out (Below.size hb11))
          have GM_11 := Lib.hid ((Below.block hb11 M LM_10.out).trans GM_10.out)
          have LM_11 := Lib.hid (Nat.lt_of_lt_of_le LM_10.out (Below.size hb11))
          have GDB_11 := Lib.hid ((Below.block hb11 DB LDB_10.out).trans GDB_10.out)
          have LDB_11 := Lib.hid (Nat.lt_of_lt_of_le LDB_10.out (Below.size hb11))
          have GV_11 := Lib.hid ((Below.block hb11 V LV_10.out).trans GV_10.out)
          have LV_11 := Lib.hid (Nat.lt_of_lt_of_le LV_10.out (Below.size hb11))
          have GPK_11 := Lib.hid ((Below.block hb11 PK LPK_10.out).trans GPK_10.out)
          have LPK_11 := Lib.hid (Nat.lt_of_lt_of_le LPK_10.out (Below.size hb11))
          clear HRC
          clear hb11
          obtain ⟨Y, hY⟩ : ∃ z, z = w11.heap.size := ⟨_, rfl⟩
          obtain ⟨w12, hw12⟩ : ∃ z, z = w11.alloc (.cells (dV Z) 23) := ⟨_, rfl⟩
          have st12 : Below w11.heap.size w11 w12 := by rw [hw12]; exact (Below.refl _ _).alloc (Nat.le_refl _) _
          have B12 := Lib.hid (show Below w.heap.size w w12 from Below.trans B11.out (Below.mono st12 (Below.size B11.out)))
          have GS_12 := Lib.hid ((Below.block st12 S LS_11.out).trans GS_11.out)
          have LS_12 := Lib.hid (Nat.lt_of_lt_of_le LS_11.out (Below.size st12))
          have GM_12 := Lib.hid ((Below.block st12 M LM_11.out).trans GM_11.out)
          have LM_12 := Lib.hid (Nat.lt_of_lt_of_le LM_11.out (Below.size st12))
          have GDB_12 := Lib.hid ((Below.block st12 DB LDB_11.out).trans GDB_11.out)
          have LDB_12 := Lib.hid (Nat.lt_of_lt_of_le LDB_11.out (Below.size st12))
          have GV_12 := Lib.hid ((Below.block st12 V LV_11.out).trans GV_11.out)
          have LV_12 := Lib.hid (Nat.lt_of_lt_of_le LV_11.out (Below.size st12))
          have GPK_12 := Lib.hid ((Below.block st12 PK LPK_11.out).trans GPK_11.out)
          have LPK_12 := Lib.hid (Nat.lt_of_lt_of_le LPK_11.out (Below.size st12))
          have GY_12 := Lib.hid (show w12.heap[Y]? = some (.cells (dV Z) 23 (0, 0)) by rw [hw12, hY]; exact heap_alloc_new _ _)
          have LY_12 := Lib.hid (lt_of_heap GY_12.out)
          have HY := Lib.hid hY
          have Hw12 := Lib.hid hw12
          clear hY hw12 st12
          go_wp2_with (first
            | (refine at_st 23 (.tmp 26) (.tmp 184) rfl ?_; (refine st_new rfl (.tmp 26) (.tmp 184) rfl Z ZL.out (by rfl) _ _ (by rfl) (by rfl) ?_); rw [← HY.out, ← Hw12.out]))
          refine (Error_err 2 2 true (by decide) w12 (HG.out.at_ B12.out)).mono ?_
          rintro e w13 ⟨rfl, hb13⟩
          have B13 := Lib.hid (show Below w.heap.size w w13 from Below.trans B12.out (Below.mono hb13 (Below.size B12.out)))
          have GS_13 := Lib.hid ((Below.block hb13 S LS_12.out).trans GS_12.out)
          have LS_13 := Lib.hid (Nat.lt_of_lt_of_le LS_12.out (Below.size hb13))
          have GM_13 := Lib.hid ((Below.block hb13 M LM_12.out).trans GM_12.out)
          have LM_13 := Lib.hid (Nat.lt_of_lt_of_le LM_12.out (Below.size hb13))
          have GDB_13 := Lib.hid ((Below.block hb13 DB LDB_12.out).trans GDB_12.out)
          have LDB_13 := Lib.hid (Nat.lt_of_lt_of_le LDB_12.out (Below.size hb13))
          have GV_13 := Lib.hid ((Below.block hb13 V LV_12.out).trans GV_12.out)
          have LV_13 := Lib.hid (Nat.lt_of_lt_of_le LV_12.out (Below.size hb13))
          have GPK_13 := Lib.hid ((Below.block hb13 PK LPK_12.out).trans GPK_12.out)
          have LPK_13 := Lib.hid (Nat.lt_of_lt_of_le LPK_12.out (Below.size hb13))
          have GY_13 := Lib.hid ((Below.block hb13 Y LY_12.out).trans GY_12.out)
          have LY_13 := Lib.hid (Nat.lt_of_lt_of_le LY_12.out (Below.size hb13))
          clear hb13
          go_wp2_with (first
            | (refine at_ld 23 (.tmp 26) rfl ?_; (refine ld_digG rfl (.tmp 26) rfl (Y) 0 (by rfl) Z ZL.out (range_of_row GY_13.out) ?_); simp only [Act.put, List.setIfInBounds_toArray, List.set_cons_zero, List.set_cons_succ])
            | (refine at_ld 23 (.tmp 13) rfl ?_; (refine ld_digG rfl (.tmp 13) rfl (V) 0 (by rfl) Z ZL.out (range_of_row GV_13.out) ?_); simp only [Act.put, List.setIfInBounds_toArray, List.set_cons_zero, List.set_cons_succ])
            | (refine at_bin .eql 23 (.tmp 191) (.tmp 192) _ rfl ?_; (refine eq_digG rfl (.tmp 191) (.tmp 192) _ rfl Z Z (by rfl) (by rfl) ZL.out ZL.out ?_); rw [beq_self_eq_true]; simp only [Act.put, List.setIfInBounds_toArray, List.set_cons_zero, List.set_cons_succ]))
          go_ret
          exact ⟨rfl, B13.out⟩
    · have h2 : ¬ a1 < 0 := by omega
      by_cases hz : 0 < x2.length
      · have z1 : decide ((0 : Int) < (x2.length : Int)) = true := decide_eq_true (by omega)
        have z2 : decide (0 < x2.length) = true := decide_eq_true hz
        go_upto_region 5 with fail
        obtain ⟨V, hV⟩ : ∃ z, z = w3.heap.size := ⟨_, rfl⟩
        obtain ⟨w4, hw4⟩ : ∃ z, z = w3.alloc (.cells (dV Z) 23) := ⟨_, rfl⟩
        have st4 : Below w3.heap.size w3 w4 := by rw [hw4]; exact (Below.refl _ _).alloc (Nat.le_refl _) _
        have B4 := Lib.hid (show Below w.heap.size w w4 from Below.trans B3.out (Below.mono st4 (Below.size B3.out)))
        have GS_4 := Lib.hid ((Below.block st4 S LS_3.out).trans GS_3.out)
        have LS_4 := Lib.hid (Nat.lt_of_lt_of_le LS_3.out (Below.size st4))
        have GM_4 := Lib.hid ((Below.block st4 M LM_3.out).trans GM_3.out)
        have LM_4 := Lib.hid (Nat.lt_of_lt_of_le LM_3.out (Below.size st4))
        have GDB_4 := Lib.hid ((Below.block st4 DB LDB_3.out).trans GDB_3.out)
        have LDB_4 := Lib.hid (Nat.lt_of_lt_of_le LDB_3.out (Below.size st4))
        have GV_4 := Lib.hid (show w4.heap[V]? = some (.cells (dV Z) 23 (0, 0)) by rw [hw4, hV]; exact heap_alloc_new _ _)
        have LV_4 := Lib.hid (lt_of_heap GV_4.out)
        have HV := Lib.hid hV
        have Hw4 := Lib.hid hw4
        clear hV hw4 st4
        go_upto_region 11 with fail
        rw [ZT.out, ← HV.out, ← Hw4.out]
        go_wp2_with (first
          | (refine at_ld 23 (.tmp 5) rfl ?_; (refine ld_digG rfl (.tmp 5) rfl (S) 0 (by rfl) x0 SL.out (range_of_row GS_4.out) ?_); simp only [Act.put, List.setIfInBounds_toArray, List.set_cons_zero, List.set_cons_succ]))
        refine (PubBadH Z HZ.out x0 a1 HBD.out w4).mono ?_
        rintro e w5 ⟨rfl, hb5⟩
        have B5 := Lib.hid (show Below w.heap.size w w5 from Below.trans B4.out (Below.mono hb5 (Below.size B4.out)))
        have GS_5 := Lib.hid ((Below.block hb5 S LS_4.out).trans GS_4.out)
        have LS_5 := Lib.hid (Nat.lt_of_lt_of_le LS_4.out (Below.size hb5))
        have GM_5 := Lib.hid ((Below.block hb5 M LM_4.out).trans GM_4.out)
        have LM_5 := Lib.hid (Nat.lt_of_lt_of_le LM_4.out (Below.size hb5))
        have GDB_5 := Lib.hid ((Below.block hb5 DB LDB_4.out).trans GDB_4.out)
        have LDB_5 := Lib.hid (Nat.lt_of_lt_of_le LDB_4.out (Below.size hb5))
        have GV_5 := Lib.hid ((Below.block hb5 V LV_4.out).trans GV_4.out)
        have LV_5 := Lib.hid (Nat.lt_of_lt_of_le LV_4.out (Below.size hb5))
        clear hb5
        obtain ⟨PK, hPK⟩ : ∃ z, z = w5.heap.size := ⟨_, rfl⟩
        obtain ⟨w6, hw6⟩ : ∃ z, z = w5.alloc (.cells (dV Z) 23) := ⟨_, rfl⟩
        have st6 : Below w5.heap.size w5 w6 := by rw [hw6]; exact (Below.refl _ _).alloc (Nat.le_refl _) _
        have B6 := Lib.hid (show Below w.heap.size w w6 from Below.trans B5.out (Below.mono st6 (Below.size B5.out)))
        have GS_6 := Lib.hid ((Below.block st6 S LS_5.out).trans GS_5.out)
        have LS_6 := Lib.hid (Nat.lt_of_lt_of_le LS_5.out (Below.size st6))
        have GM_6 := Lib.hid ((Below.block st6 M LM_5.out).trans GM_5.out)
        have LM_6 := Lib.hid (Nat.lt_of_lt_of_le LM_5.out (Below.size st6))
        have GDB_6 := Lib.hid ((Below.block st6 DB LDB_5.out).trans GDB_5.out)
        have LDB_6 := Lib.hid (Nat.lt_of_lt_of_le LDB_5.out (Below.size st6))
        have GV_6 := Lib.hid ((Below.block st6 V LV_5.out).trans GV_5.out)
        have LV_6 := Lib.hid (Nat.lt_of_lt_of_le LV_5.out (Below.size st6))
        have GPK_6 := Lib.hid (show w6.heap[PK]? = some (.cells (dV Z) 23 (0, 0)) by rw [hw6, hPK]; exact heap_alloc_new _ _)
        have LPK_6 := Lib.hid (lt_of_heap GPK_6.out)
        have HPK := Lib.hid hPK
        have Hw6 := Lib.hid hw6
        clear hPK hw6 st6
        go_wp2_with (first
          | (refine at_st 23 (.tmp 15) (.tmp 57) rfl ?_; (refine st_new rfl (.tmp 15) (.tmp 57) rfl Z ZL.out (by rfl) _ _ (by rfl) (by rfl) ?_); rw [← HPK.out, ← Hw6.out]))
        refine (Error_err 2 2 true (by decide) w6 (HG.out.at_ B6.out)).mono ?_
        rintro e w7 ⟨rfl, hb7⟩
        have B7 := Lib.hid (show Below w.heap.size w w7 from Below.trans B6.out (Below.mono hb7 (Below.size B6.out)))
        have GS_7 := Lib.hid ((Below.block hb7 S LS_6.out).trans GS_6.out)
        have LS_7 := Lib.hid (Nat.lt_of_lt_of_le LS_6.out (Below.size hb7))
        have GM_7 := Lib.hid ((Below.block hb7 M LM_6.out).trans GM_6.out)
        have LM_7 := Lib.hid (Nat.lt_of_lt_of_le LM_6.out (Below.size hb7))
        have GDB_7 := Lib.hid ((Below.block hb7 DB LDB_6.out).trans GDB_6.out)
        have LDB_7 := Lib.hid (Nat.lt_of_lt_of_le LDB_6.out (Below.size hb7))
        have GV_7 := Lib.hid ((Below.block hb7 V LV_6.out).trans GV_6.out)
        have LV_7 := Lib.hid (Nat.lt_of_lt_of_le LV_6.out (Below.size hb7))
        have GPK_7 := Lib.hid ((Below.block hb7 PK LPK_6.out).trans GPK_6.out)
        have LPK_7 := Lib.hid (Nat.lt_of_lt_of_le LPK_6.out (Below.size hb7))
        clear hb7
        go_wp2_with (first
          | (refine at_ld 23 (.tmp 15) rfl ?_; (refine ld_digG rfl (.tmp 15) rfl (PK) 0 (by rfl) Z ZL.out (range_of_row GPK_7.out) ?_); simp only [Act.put, List.setIfInBounds_toArray, List.set_cons_zero, List.set_cons_succ])
          | (refine at_ld 23 (.tmp 13) rfl ?_; (refine ld_digG rfl (.tmp 13) rfl (V) 0 (by rfl) Z ZL.out (range_of_row GV_7.out) ?_); simp only [Act.put, List.setIfInBounds_toArray, List.set_cons_zero, List.set_cons_succ])
          | (refine at_bin .neq 23 (.tmp 65) (.tmp 66) _ rfl ?_; (refine neq_digG rfl (.tmp 65) (.tmp 66) _ rfl Z Z (by rfl) (by rfl) ZL.out ZL.out ?_); rw [beq_self_eq_true]; simp only [Act.put, List.setIfInBounds_toArray, List.set_cons_zero, List.set_cons_succ])
          | (refine at_ld 23 (.tmp 5) rfl ?_; (refine ld_digG rfl (.tmp 5) rfl (S) 0 (by rfl) x0 SL.out (range_of_row GS_7.out) ?_); simp only [Act.put, List.setIfInBounds_toArray, List.set_cons_zero, List.set_cons_succ]))
        refine (HNewBadZ x0 a1 HBD.out w7).mono ?_
        rintro e w8 ⟨rfl, hb8⟩
        have B8 := Lib.hid (show Below w.heap.size w w8 from Below.trans B7.out (Below.mono hb8 (Below.size B7.out)))
        have GS_8 := Lib.hid ((Below.block hb8 S LS_7.out).trans GS_7.out)
        have LS_8 := Lib.hid (Nat.lt_of_lt_of_le LS_7.out (Below.size hb8))
        have GM_8 := Lib.hid ((Below.block hb8 M LM_7.out).trans GM_7.out)
        have LM_8 := Lib.hid (Nat.lt_of_lt_of_le LM_7.out (Below.size hb8))
        have GDB_8 := Lib.hid ((Below.block hb8 DB LDB_7.out).trans GDB_7.out)
        have LDB_8 := Lib.hid (Nat.lt_of_lt_of_le LDB_7.out (Below.size hb8))
        have GV_8 := Lib.hid ((Below.block hb8 V LV_7.out).trans GV_7.out)
        have LV_8 := Lib.hid (Nat.lt_of_lt_of_le LV_7.out (Below.size hb8))
        have GPK_8 := Lib.hid ((Below.block hb8 PK LPK_7.out).trans GPK_7.out)
        have LPK_8 := Lib.hid (Nat.lt_of_lt_of_le LPK_7.out (Below.size hb8))
        clear hb8
        go_wp2_with fail
        refine (Error_err 2 2 true (by decide) w8 (HG.out.at_ B8.out)).mono ?_
        rintro e w9 ⟨rfl, hb9⟩
        have B9 := Lib.hid (show Below w.heap.size w w9 from Below.trans B8.out (Below.mono hb9 (Below.size B8.out)))
        have GS_9 := Lib.hid ((Below.block hb9 S LS_8.out).trans GS_8.out)
        have LS_9 := Lib.hid (Nat.lt_of_lt_of_le LS_8.out (Below.size hb9))
        have GM_9 := Lib.hid ((Below.block hb9 M LM_8.out).trans GM_8.out)
        have LM_9 := Lib.hid (Nat.lt_of_lt_of_le LM_8.out (Below.size hb9))
        have GDB_9 := Lib.hid ((Below.block hb9 DB LDB_8.out).trans GDB_8.out)
        have LDB_9 := Lib.hid (Nat.lt_of_lt_of_le LDB_8.out (Below.size hb9))
        have GV_9 := Lib.hid ((Below.block hb9 V LV_8.out).trans GV_8.out)
        have LV_9 := Lib.hid (Nat.lt_of_lt_of_le LV_8.out (Below.size hb9))
        have GPK_9 := Lib.hid ((Below.block hb9 PK LPK_8.out).trans GPK_8.out)
        have LPK_9 := Lib.hid (Nat.lt_of_lt_of_le LPK_8.out (Below.size hb9))
        clear hb9
        go_wp2_with fail
        go_loopw [19] (fun i wr => i = .int .i64 0 ∧ wr = w9) (fun _ _ => 0)
        case atStart => exact ⟨rfl, rfl⟩
        case round =>
          obtain ⟨rfl, hwr⟩ := hrel
          rw [hwr]
          obtain ⟨w10, hw10⟩ : ∃ z, z = w9.setRow V (dV Z) := ⟨_, rfl⟩
          have B10 := Lib.hid (show Below w.heap.size w w10 by rw [hw10]; exact below_setRowW B9.out (by rw [HV.out]; exact Below.size B3.out) _)
          have sz10 : w10.heap.size = w9.heap.size := by rw [hw10]; exact setRow_size _ _ _
          have GS_10 := Lib.hid (show w10.heap[S]? = some (.cells (dV x0) 23 (0, 0)) by rw [hw10]; exact (_root_.Go.setRow_other _ _ _ _ (by rw [HV.out]; exact Nat.ne_of_lt LS_3.out)).trans GS_9.out)
          have LS_10 := Lib.hid (show S < w10.heap.size by rw [sz10]; exact LS_9.out)
          have GM_10 := Lib.hid (show w10.heap[M]? = some (.cells (dV x3) 23 (0, 0)) by rw [hw10]; exact (_root_.Go.setRow_other _ _ _ _ (by rw [HV.out]; exact Nat.ne_of_lt LM_3.out)).trans GM_9.out)
          have LM_10 := Lib.hid (show M < w10.heap.size by rw [sz10]; exact LM_9.out)
          have GDB_10 := Lib.hid (show w10.heap[DB]? = some (.cells #[.int .i64 fu4, .slice usa4 ul usc4, .slice vsa4 vl vsc4, .int .i64 fl4, .slice ssa4 sl ssc4, .slice qsa4 ql qsc4] 28 (0, 0)) by rw [hw10]; exact (_root_.Go.setRow_other _ _ _ _ (by rw [HV.out]; exact Nat.ne_of_lt LDB_3.out)).trans GDB_9.out)
          have LDB_10 := Lib.hid (show DB < w10.heap.size by rw [sz10]; exact LDB_9.out)
          have GV_10 := Lib.hid (show w10.heap[V]? = some (.cells (dV Z) 23 (0, 0)) by rw [hw10]; exact setRow_heap _ _ _ _ _ _ GV_9.out)
          have LV_10 := Lib.hid (show V < w10.heap.size by rw [sz10]; exact LV_9.out)
          have GPK_10 := Lib.hid (show w10.heap[PK]? = some (.cells (dV Z) 23 (0, 0)) by rw [hw10]; exact (_root_.Go.setRow_other _ _ _ _ (by rw [HPK.out]; exact (Nat.ne_of_lt LV_5.out).symm)).trans GPK_9.out)
          have LPK_10 := Lib.hid (show PK < w10.heap.size by rw [sz10]; exact LPK_9.out)
          have Hw10 := Lib.hid hw10
          clear hw10 sz10
          have HRC := Lib.hid (HRec_bad x3 a1 HBD.out fu4 fl4 usa4 vsa4 ssa4 qsa4 ul usc4 vl vsc4 sl ssc4 ql qsc4 w10)
          rw [← HZ.out] at HRC
          go_wp2_with (first
            | (refine wpl_zero rfl rfl Z HZ.out ?_)
            | (refine at_st 23 (.tmp 13) (.tmp 155) rfl ?_; (refine st_row rfl (.tmp 13) (.tmp 155) rfl V Z ZL.out (by rfl) (by rfl) (dV Z) (dV_size ZL.out) _ GV_9.out ?_); rw [← Hw10.out])
            | (refine at_ld 23 (.tmp 8) rfl ?_; (refine ld_digG rfl (.tmp 8) rfl (M) 0 (by rfl) x3 ML.out (range_of_row GM_10.out) ?_); simp only [Act.put, List.setIfInBounds_toArray, List.set_cons_zero, List.set_cons_succ])
            | (refine ld_dbl rfl (.tmp 9) rfl DB (by rfl) _ _ _ _ _ _ _ _ GDB_10.out ?_))
          refine (HRC.out).mono ?_
          rintro e w11 ⟨rfl, hb11⟩
          have B11 := Lib.hid (show Below w.heap.size w w11 from Below.trans B10.out (Below.mono hb11 (Below.size B10.out)))
          have GS_11 := Lib.hid ((Below.block hb11 S LS_10.out).trans GS_10.out)
          have LS_11 := Lib.hid (Nat.lt_of_lt_of_le LS_10.out (Below.size hb11))
          have GM_11 := Lib.hid ((Below.block hb11 M LM_10.out).trans GM_10.out)
          have LM_11 := Lib.hid (Nat.lt_of_lt_of_le LM_10.out (Below.size hb11))
          have GDB_11 := Lib.hid ((Below.block hb11 DB LDB_10.out).trans GDB_10.out)
          have LDB_11 := Lib.hid (Nat.lt_of_lt_of_le LDB_10.out (Below.size hb11))
          have GV_11 := Lib.hid ((Below.block hb11 V LV_10.out).trans GV_10.out)
          have LV_11 := Lib.hid (Nat.lt_of_lt_of_le LV_10.out (Below.size hb11))
          have GPK_11 := Lib.hid ((Below.block hb11 PK LPK_10.out).trans GPK_10.out)
          have LPK_11 := Lib.hid (Nat.lt_of_lt_of_le LPK_10.out (Below.size hb11))
          clear HRC
          clear hb11
          obtain ⟨Y, hY⟩ : ∃ z, z = w11.heap.size := ⟨_, rfl⟩
          obtain ⟨w12, hw12⟩ : ∃ z, z = w11.alloc (.cells (dV Z) 23) := ⟨_, rfl⟩
          have st12 : Below w11.heap.size w11 w12 := by rw [hw12]; exact (Below.refl _ _).alloc (Nat.le_refl _) _
          have B12 := Lib.hid (show Below w.heap.size w w12 from Below.trans B11.out (Below.mono st12 (Below.size B11.out)))
          have GS_12 := Lib.hid ((Below.block st12 S LS_11.out).trans GS_11.out)
          have LS_12 := Lib.hid (Nat.lt_of_lt_of_le LS_11.out (Below.size st12))
          have GM_12 := Lib.hid ((Below.block st12 M LM_11.out).trans GM_11.out)
          have LM_12 := Lib.hid (Nat.lt_of_lt_of_le LM_11.out (Below.size st12))
          have GDB_12 := Lib.hid ((Below.block st12 DB LDB_11.out).trans GDB_11.out)
          have LDB_12 := Lib.hid (Nat.lt_of_lt_of_le LDB_11.out (Below.size st12))
          have GV_12 := Lib.hid ((Below.block st12 V LV_11.out).trans GV_11.out)
          have LV_12 := Lib.hid (Nat.lt_of_lt_of_le LV_11.out (Below.size st12))
          have GPK_12 := Lib.hid ((Below.block st12 PK LPK_11.out).trans GPK_11.out)
          have LPK_12 := Lib.hid (Nat.lt_of_lt_of_le LPK_11.out (Below.size st12))
          have GY_12 := Lib.hid (show w12.heap[Y]? = some (.cells (dV Z) 23 (0, 0)) by rw [hw12, hY]; exact heap_alloc_new _ _)
          have LY_12 := Lib.hid (lt_of_heap GY_12.out)
          have HY := Lib.hid hY
          have Hw12 := Lib.hid hw12
          clear hY hw12 st12
          go_wp2_with (first
            | (refine at_st 23 (.tmp 26) (.tmp 184) rfl ?_; (refine st_new rfl (.tmp 26) (.tmp 184) rfl Z ZL.out (by rfl) _ _ (by rfl) (by rfl) ?_); rw [← HY.out, ← Hw12.out]))
          refine (Error_err 2 2 true (by decide) w12 (HG.out.at_ B12.out)).mono ?_
          rintro e w13 ⟨rfl, hb13⟩
          have B13 := Lib.hid (show Below w.heap.size w w13 from Below.trans B12.out (Below.mono hb13 (Below.size B12.out)))
          have GS_13 := Lib.hid ((Below.block hb13 S LS_12.out).trans GS_12.out)
          have LS_13 := Lib.hid (Nat.lt_of_lt_of_le LS_12.out (Below.size hb13))
          have GM_13 := Lib.hid ((Below.block hb13 M LM_12.out).trans GM_12.out)
          have LM_13 := Lib.hid (Nat.lt_of_lt_of_le LM_12.out (Below.size hb13))
          have GDB_13 := Lib.hid ((Below.block hb13 DB LDB_12.out).trans GDB_12.out)
          have LDB_13 := Lib.hid (Nat.lt_of_lt_of_le LDB_12.out (Below.size hb13))
          have GV_13 := Lib.hid ((Below.block hb13 V LV_12.out).trans GV_12.out)
          have LV_13 := Lib.hid (Nat.lt_of_lt_of_le LV_12.out (Below.size hb13))
          have GPK_13 := Lib.hid ((Below.block hb13 PK LPK_12.out).trans GPK_12.out)
          have LPK_13 := Lib.hid (Nat.lt_of_lt_of_le LPK_12.out (Below.size hb13))
          have GY_13 := Lib.hid ((Below.block hb13 Y LY_12.out).trans GY_12.out)
          have LY_13 := Lib.hid (Nat.lt_of_lt_of_le LY_12.out (Below.size hb13))
          clear hb13
          go_wp2_with (first
            | (refine at_ld 23 (.tmp 26) rfl ?_; (refine ld_digG rfl (.tmp 26) rfl (Y) 0 (by rfl) Z ZL.out (range_of_row GY_13.out) ?_); simp only [Act.put, List.setIfInBounds_toArray, List.set_cons_zero, List.set_cons_succ])
            | (refine at_ld 23 (.tmp 13) rfl ?_; (refine ld_digG rfl (.tmp 13) rfl (V) 0 (by rfl) Z ZL.out (range_of_row GV_13.out) ?_); simp only [Act.put, List.setIfInBounds_toArray, List.set_cons_zero, List.set_cons_succ])
            | (refine at_bin .eql 23 (.tmp 191) (.tmp 192) _ rfl ?_; (refine eq_digG rfl (.tmp 191) (.tmp 192) _ rfl Z Z (by rfl) (by rfl) ZL.out ZL.out ?_); rw [beq_self_eq_true]; simp only [Act.put, List.setIfInBounds_toArray, List.set_cons_zero, List.set_cons_succ]))
          go_ret
          exact ⟨rfl, B13.out⟩
      · have z1 : decide ((0 : Int) < (x2.length : Int)) = false := decide_eq_false (by omega)
        have z2 : decide (0 < x2.length) = false := decide_eq_false hz
        go_upto_region 5 with fail
        obtain ⟨V, hV⟩ : ∃ z, z = w3.heap.size := ⟨_, rfl⟩
        obtain ⟨w4, hw4⟩ : ∃ z, z = w3.alloc (.cells (dV Z) 23) := ⟨_, rfl⟩
        have st4 : Below w3.heap.size w3 w4 := by rw [hw4]; exact (Below.refl _ _).alloc (Nat.le_refl _) _
        have B4 := Lib.hid (show Below w.heap.size w w4 from Below.trans B3.out (Below.mono st4 (Below.size B3.out)))
        have GS_4 := Lib.hid ((Below.block st4 S LS_3.out).trans GS_3.out)
        have LS_4 := Lib.hid (Nat.lt_of_lt_of_le LS_3.out (Below.size st4))
        have GM_4 := Lib.hid ((Below.block st4 M LM_3.out).trans GM_3.out)
        have LM_4 := Lib.hid (Nat.lt_of_lt_of_le LM_3.out (Below.size st4))
        have GDB_4 := Lib.hid ((Below.block st4 DB LDB_3.out).trans GDB_3.out)
        have LDB_4 := Lib.hid (Nat.lt_of_lt_of_le LDB_3.out (Below.size st4))
        have GV_4 := Lib.hid (show w4.heap[V]? = some (.cells (dV Z) 23 (0, 0)) by rw [hw4, hV]; exact heap_alloc_new _ _)
        have LV_4 := Lib.hid (lt_of_heap GV_4.out)
        have HV := Lib.hid hV
        have Hw4 := Lib.hid hw4
        clear hV hw4 st4
        go_upto_region 11 with fail
        rw [ZT.out, ← HV.out, ← Hw4.out]
        go_wp2_with (first
          | (refine at_ld 23 (.tmp 5) rfl ?_; (refine ld_digG rfl (.tmp 5) rfl (S) 0 (by rfl) x0 SL.out (range_of_row GS_4.out) ?_); simp only [Act.put, List.setIfInBounds_toArray, List.set_cons_zero, List.set_cons_succ]))
        refine (PubBadH Z HZ.out x0 a1 HBD.out w4).mono ?_
        rintro e w5 ⟨rfl, hb5⟩
        have B5 := Lib.hid (show Below w.heap.size w w5 from Below.trans B4.out (Below.mono hb5 (Below.size B4.out)))
        have GS_5 := Lib.hid ((Below.block hb5 S LS_4.out).trans GS_4.out)
        have LS_5 := Lib.hid (Nat.lt_of_lt_of_le LS_4.out (Below.size hb5))
        have GM_5 := Lib.hid ((Below.block hb5 M LM_4.out).trans GM_4.out)
        have LM_5 := Lib.hid (Nat.lt_of_lt_of_le LM_4.out (Below.size hb5))
        have GDB_5 := Lib.hid ((Below.block hb5 DB LDB_4.out).trans GDB_4.out)
        have LDB_5 := Lib.hid (Nat.lt_of_lt_of_le LDB_4.out (Below.size hb5))
        have GV_5 := Lib.hid ((Below.block hb5 V LV_4.out).trans GV_4.out)
        have LV_5 := Lib.hid (Nat.lt_of_lt_of_le LV_4.out (Below.size hb5))
        clear hb5
        obtain ⟨PK, hPK⟩ : ∃ z, z = w5.heap.size := ⟨_, rfl⟩
        obtain ⟨w6, hw6⟩ : ∃ z, z = w5.alloc (.cells (dV Z) 23) := ⟨_, rfl⟩
        have st6 : Below w5.heap.size w5 w6 := by rw [hw6]; exact (Below.refl _ _).alloc (Nat.le_refl _) _
        have B6 := Lib.hid (show Below w.heap.size w w6 from Below.trans B5.out (Below.mono st6 (Below.size B5.out)))
        have GS_6 := Lib.hid ((Below.block st6 S LS_5.out).trans GS_5.out)
        have LS_6 := Lib.hid (Nat.lt_of_lt_of_le LS_5.out (Below.size st6))
        have GM_6 := Lib.hid ((Below.block st6 M LM_5.out).trans GM_5.out)
        have LM_6 := Lib.hid (Nat.lt_of_lt_of_le LM_5.out (Below.size st6))
        have GDB_6 := Lib.hid ((Below.block st6 DB LDB_5.out).trans GDB_5.out)
        have LDB_6 := Lib.hid (Nat.lt_of_lt_of_le LDB_5.out (Below.size st6))
        have GV_6 := Lib.hid ((Below.block st6 V LV_5.out).trans GV_5.out)
        have LV_6 := Lib.hid (Nat.lt_of_lt_of_le LV_5.out (Below.size st6))
        have GPK_6 := Lib.hid (show w6.heap[PK]? = some (.cells (dV Z) 23 (0, 0)) by rw [hw6, hPK]; exact heap_alloc_new _ _)
        have LPK_6 := Lib.hid (lt_of_heap GPK_6.out)
        have HPK := Lib.hid hPK
        have Hw6 := Lib.hid hw6
        clear hPK hw6 st6
        go_wp2_with (first
          | (refine at_st 23 (.tmp 15) (.tmp 57) rfl ?_; (refine st_new rfl (.tmp 15) (.tmp 57) rfl Z ZL.out (by rfl) _ _ (by rfl) (by rfl) ?_); rw [← HPK.out, ← Hw6.out]))
        refine (Error_err 2 2 true (by decide) w6 (HG.out.at_ B6.out)).mono ?_
        rintro e w7 ⟨rfl, hb7⟩
        have B7 := Lib.hid (show Below w.heap.size w w7 from Below.trans B6.out (Below.mono hb7 (Below.size B6.out)))
        have GS_7 := Lib.hid ((Below.block hb7 S LS_6.out).trans GS_6.out)
        have LS_7 := Lib.hid (Nat.lt_of_lt_of_le LS_6.out (Below.size hb7))
        have GM_7 := Lib.hid ((Below.block hb7 M LM_6.out).trans GM_6.out)
        have LM_7 := Lib.hid (Nat.lt_of_lt_of_le LM_6.out (Below.size hb7))
        have GDB_7 := Lib.hid ((Below.block hb7 DB LDB_6.out).trans GDB_6.out)
        have LDB_7 := Lib.hid (Nat.lt_of_lt_of_le LDB_6.out (Below.size hb7))
        have GV_7 := Lib.hid ((Below.block hb7 V LV_6.out).trans GV_6.out)
        have LV_7 := Lib.hid (Nat.lt_of_lt_of_le LV_6.out (Below.size hb7))
        have GPK_7 := Lib.hid ((Below.block hb7 PK LPK_6.out).trans GPK_6.out)
        have LPK_7 := Lib.hid (Nat.lt_of_lt_of_le LPK_6.out (Below.size hb7))
        clear hb7
        go_wp2_with (first
          | (refine at_ld 23 (.tmp 15) rfl ?_; (refine ld_digG rfl (.tmp 15) rfl (PK) 0 (by rfl) Z ZL.out (range_of_row GPK_7.out) ?_); simp only [Act.put, List.setIfInBounds_toArray, List.set_cons_zero, List.set_cons_succ])
          | (refine at_ld 23 (.tmp 13) rfl ?_; (refine ld_digG rfl (.tmp 13) rfl (V) 0 (by rfl) Z ZL.out (range_of_row GV_7.out) ?_); simp only [Act.put, List.setIfInBounds_toArray, List.set_cons_zero, List.set_cons_succ])
          | (refine at_bin .neq 23 (.tmp 65) (.tmp 66) _ rfl ?_; (refine neq_digG rfl (.tmp 65) (.tmp 66) _ rfl Z Z (by rfl) (by rfl) ZL.out ZL.out ?_); rw [beq_self_eq_true]; simp only [Act.put, List.setIfInBounds_toArray, List.set_cons_zero, List.set_cons_succ])
          | (refine at_ld 23 (.tmp 5) rfl ?_; (refine ld_digG rfl (.tmp 5) rfl (S) 0 (by rfl) x0 SL.out (range_of_row GS_7.out) ?_); simp only [Act.put, List.setIfInBounds_toArray, List.set_cons_zero, List.set_cons_succ]))
        refine (HNewBadZ x0 a1 HBD.out w7).mono ?_
        rintro e w8 ⟨rfl, hb8⟩
        have B8 := Lib.hid (show Below w.heap.size w w8 from Below.trans B7.out (Below.mono hb8 (Below.size B7.out)))
        have GS_8 := Lib.hid ((Below.block hb8 S LS_7.out).trans GS_7.out)
        have LS_8 := Lib.hid (Nat.lt_of_lt_of_le LS_7.out (Below.size hb8))
        have GM_8 := Lib.hid ((Below.block hb8 M LM_7.out).trans GM_7.out)
        have LM_8 := Lib.hid (Nat.lt_of_lt_of_le LM_7.out (Below.size hb8))
        have GDB_8 := Lib.hid ((Below.block hb8 DB LDB_7.out).trans GDB_7.out)
        have LDB_8 := Lib.hid (Nat.lt_of_lt_of_le LDB_7.out (Below.size hb8))
        have GV_8 := Lib.hid ((Below.block hb8 V LV_7.out).trans GV_7.out)
        have LV_8 := Lib.hid (Nat.lt_of_lt_of_le LV_7.out (Below.size hb8))
        have GPK_8 := Lib.hid ((Below.block hb8 PK LPK_7.out).trans GPK_7.out)
        have LPK_8 := Lib.hid (Nat.lt_of_lt_of_le LPK_7.out (Below.size hb8))
        clear hb8
        go_wp2_with fail
        refine (Error_err 2 2 true (by decide) w8 (HG.out.at_ B8.out)).mono ?_
        rintro e w9 ⟨rfl, hb9⟩
        have B9 := Lib.hid (show Below w.heap.size w w9 from Below.trans B8.out (Below.mono hb9 (Below.size B8.out)))
        have GS_9 := Lib.hid ((Below.block hb9 S LS_8.out).trans GS_8.out)
        have LS_9 := Lib.hid (Nat.lt_of_lt_of_le LS_8.out (Below.size hb9))
        have GM_9 := Lib.hid ((Below.block hb9 M LM_8.out).trans GM_8.out)
        have LM_9 := Lib.hid (Nat.lt_of_lt_of_le LM_8.out (Below.size hb9))
        have GDB_9 := Lib.hid ((Below.block hb9 DB LDB_8.out).trans GDB_8.out)
        have LDB_9 := Lib.hid (Nat.lt_of_lt_of_le LDB_8.out (Below.size hb9))
        have GV_9 := Lib.hid ((Below.block hb9 V LV_8.out).trans GV_8.out)
        have LV_9 := Lib.hid (Nat.lt_of_lt_of_le LV_8.out (Below.size hb9))
        have GPK_9 := Lib.hid ((Below.block hb9 PK LPK_8.out).trans GPK_8.out)
        have LPK_9 := Lib.hid (Nat.lt_of_lt_of_le LPK_8.out (Below.size hb9))
        clear hb9
        go_wp2_with fail
        go_loopw [19] (fun i wr => i = .int .i64 0 ∧ wr = w9) (fun _ _ => 0)
        case atStart => exact ⟨rfl, rfl⟩
        case round =>
          obtain ⟨rfl, hwr⟩ := hrel
          rw [hwr]
          obtain ⟨w10, hw10⟩ : ∃ z, z = w9.setRow V (dV Z) := ⟨_, rfl⟩
          have B10 := Lib.hid (show Below w.heap.size w w10 by rw [hw10]; exact below_setRowW B9.out (by rw [HV.out]; exact Below.size B3.out) _)
          have sz10 : w10.heap.size = w9.heap.size := by rw [hw10]; exact setRow_size _ _ _
          have GS_10 := Lib.hid (show w10.heap[S]? = some (.cells (dV x0) 23 (0, 0)) by rw [hw10]; exact (_root_.Go.setRow_other _ _ _ _ (by rw [HV.out]; exact Nat.ne_of_lt LS_3.out)).trans GS_9.out)
          have LS_10 := Lib.hid (show S < w10.heap.size by rw [sz10]; exact LS_9.out)
          have GM_10 := Lib.hid (show w10.heap[M]? = some (.cells (dV x3) 23 (0, 0)) by rw [hw10]; exact (_root_.Go.setRow_other _ _ _ _ (by rw [HV.out]; exact Nat.ne_of_lt LM_3.out)).trans GM_9.out)
          have LM_10 := Lib.hid (show M < w10.heap.size by rw [sz10]; exact LM_9.out)
          have GDB_10 := Lib.hid (show w10.heap[DB]? = some (.cells #[.int .i64 fu4, .slice usa4 ul usc4, .slice vsa4 vl vsc4, .int .i64 fl4, .slice ssa4 sl ssc4, .slice qsa4 ql qsc4] 28 (0, 0)) by rw [hw10]; exact (_root_.Go.setRow_other _ _ _ _ (by rw [HV.out]; exact Nat.ne_of_lt LDB_3.out)).trans GDB_9.out)
          have LDB_10 := Lib.hid (show DB < w10.heap.size by rw [sz10]; exact LDB_9.out)
          have GV_10 := Lib.hid (show w10.heap[V]? = some (.cells (dV Z) 23 (0, 0)) by rw [hw10]; exact setRow_heap _ _ _ _ _ _ GV_9.out)
          have LV_10 := Lib.hid (show V < w10.heap.size by rw [sz10]; exact LV_9.out)
          have GPK_10 := Lib.hid (show w10.heap[PK]? = some (.cells (dV Z) 23 (0, 0)) by rw [hw10]; exact (_root_.Go.setRow_other _ _ _ _ (by rw [HPK.out]; exact (Nat.ne_of_lt LV_5.out).symm)).trans GPK_9.out)
          have LPK_10 := Lib.hid (show PK < w10.heap.size by rw [sz10]; exact LPK_9.out)
          have Hw10 := Lib.hid hw10
          clear hw10 sz10
          have HRC := Lib.hid (HRec_bad x3 a1 HBD.out fu4 fl4 usa4 vsa4 ssa4 qsa4 ul usc4 vl vsc4 sl ssc4 ql qsc4 w10)
          rw [← HZ.out] at HRC
          go_wp2_with (first
            | (refine wpl_zero rfl rfl Z HZ.out ?_)
            | (refine at_st 23 (.tmp 13) (.tmp 155) rfl ?_; (refine st_row rfl (.tmp 13) (.tmp 155) rfl V Z ZL.out (by rfl) (by rfl) (dV Z) (dV_size ZL.out) _ GV_9.out ?_); rw [← Hw10.out])
            | (refine at_ld 23 (.tmp 8) rfl ?_; (refine ld_digG rfl (.tmp 8) rfl (M) 0 (by rfl) x3 ML.out (range_of_row GM_10.out) ?_); simp only [Act.put, List.setIfInBounds_toArray, List.set_cons_zero, List.set_cons_succ])
            | (refine ld_dbl rfl (.tmp 9) rfl DB (by rfl) _ _ _ _ _ _ _ _ GDB_10.out ?_))
          refine (HRC.out).mono ?_
          rintro e w11 ⟨rfl, hb11⟩
          have B11 := Lib.hid (show Below w.heap.size w w11 from Below.trans B10.out (Below.mono hb11 (Below.size B10.out)))
          have GS_11 := Lib.hid ((Below.block hb11 S LS_10.out).trans GS_10.out)
          have LS_11 := Lib.hid (Nat.lt_of_lt_of_le LS_10.out (Below.size hb11))
          have GM_11 := Lib.hid ((Below.block hb11 M LM_10.out).trans GM_10.out)
          have LM_11 := Lib.hid (Nat.lt_of_lt_of_le LM_10.out (Below.size hb11))
          have GDB_11 := Lib.hid ((Below.block hb11 DB LDB_10.out).trans GDB_10.out)
          have LDB_11 := Lib.hid (Nat.lt_of_lt_of_le LDB_10.out (Below.size hb11))
          have GV_11 := Lib.hid ((Below.block hb11 V LV_10.out).trans GV_10.out)
          have LV_11 := Lib.hid (Nat.lt_of_lt_of_le LV_10.out (Below.size hb11))
          have GPK_11 := Lib.hid ((Below.block hb11 PK LPK_10.out).trans GPK_10.out)
          have LPK_11 := Lib.hid (Nat.lt_of_lt_of_le LPK_10.out (Below.size hb11))
          clear HRC
          clear hb11
          obtain ⟨Y, hY⟩ : ∃ z, z = w11.heap.size := ⟨_, rfl⟩
          obtain ⟨w12, hw12⟩ : ∃ z, z = w11.alloc (.cells (dV Z) 23) := ⟨_, rfl⟩
          have st12 : Below w11.heap.size w11 w12 := by rw [hw12]; exact (Below.refl _ _).alloc (Nat.le_refl _) _
          have B12 := Lib.hid (show Below w.heap.size w w12 from Below.trans B11.out (Below.mono st12 (Below.size B11.out)))
          have GS_12 := Lib.hid ((Below.block st12 S LS_11.out).trans GS_11.out)
          have LS_12 := Lib.hid (Nat.lt_of_lt_of_le LS_11.out (Below.size st12))
          have GM_12 := Lib.hid ((Below.block st12 M LM_11.out).trans GM_11.out)
          have LM_12 := Lib.hid (Nat.lt_of_lt_of_le LM_11.out (Below.size st12))
          have GDB_12 := Lib.hid ((Below.block st12 DB LDB_11.out).trans GDB_11.out)
          have LDB_12 := Lib.hid (Nat.lt_of_lt_of_le LDB_11.out (Below.size st12))
          have GV_12 := Lib.hid ((Below.block st12 V LV_11.out).trans GV_11.out)
          have LV_12 := Lib.hid (Nat.lt_of_lt_of_le LV_11.out (Below.size st12))
          have GPK_12 := Lib.hid ((Below.block st12 PK LPK_11.out).trans GPK_11.out)
          have LPK_12 := Lib.hid (Nat.lt_of_lt_of_le LPK_11.out (Below.size st12))
          have GY_12 := Lib.hid (show w12.heap[Y]? = some (.cells (dV Z) 23 (0, 0)) by rw [hw12, hY]; exact heap_alloc_new _ _)
          have LY_12 := Lib.hid (lt_of_heap GY_12.out)
          have HY := Lib.hid hY
          have Hw12 := Lib.hid hw12
          clear hY hw12 st12
          go_wp2_with (first
            | (refine at_st 23 (.tmp 26) (.tmp 184) rfl ?_; (refine st_new rfl (.tmp 26) (.tmp 184) rfl Z ZL.out (by rfl) _ _ (by rfl) (by rfl) ?_); rw [← HY.out, ← Hw12.out]))
          refine (Error_err 2 2 true (by decide) w12 (HG.out.at_ B12.out)).mono ?_
          rintro e w13 ⟨rfl, hb13⟩
          have B13 := Lib.hid (show Below w.heap.size w w13 from Below.trans B12.out (Below.mono hb13 (Below.size B12.out)))
          have GS_13 := Lib.hid ((Below.block hb13 S LS_12.out).trans GS_12.out)
          have LS_13 := Lib.hid (Nat.lt_of_lt_of_le LS_12.out (Below.size hb13))
          have GM_13 := Lib.hid ((Below.block hb13 M LM_12.out).trans GM_12.out)
          have LM_13 := Lib.hid (Nat.lt_of_lt_of_le LM_12.out (Below.size hb13))
          have GDB_13 := Lib.hid ((Below.block hb13 DB LDB_12.out).trans GDB_12.out)
          have LDB_13 := Lib.hid (Nat.lt_of_lt_of_le LDB_12.out (Below.size hb13))
          have GV_13 := Lib.hid ((Below.block hb13 V LV_12.out).trans GV_12.out)
          have LV_13 := Lib.hid (Nat.lt_of_lt_of_le LV_12.out (Below.size hb13))
          have GPK_13 := Lib.hid ((Below.block hb13 PK LPK_12.out).trans GPK_12.out)
          have LPK_13 := Lib.hid (Nat.lt_of_lt_of_le LPK_12.out (Below.size hb13))
          have GY_13 := Lib.hid ((Below.block hb13 Y LY_12.out).trans GY_12.out)
          have LY_13 := Lib.hid (Nat.lt_of_lt_of_le LY_12.out (Below.size hb13))
          clear hb13
          go_wp2_with (first
            | (refine at_ld 23 (.tmp 26) rfl ?_; (refine ld_digG rfl (.tmp 26) rfl (Y) 0 (by rfl) Z ZL.out (range_of_row GY_13.out) ?_); simp only [Act.put, List.setIfInBounds_toArray, List.set_cons_zero, List.set_cons_succ])
            | (refine at_ld 23 (.tmp 13) rfl ?_; (refine ld_digG rfl (.tmp 13) rfl (V) 0 (by rfl) Z ZL.out (range_of_row GV_13.out) ?_); simp only [Act.put, List.setIfInBounds_toArray, List.set_cons_zero, List.set_cons_succ])
            | (refine at_bin .eql 23 (.tmp 191) (.tmp 192) _ rfl ?_; (refine eq_digG rfl (.tmp 191) (.tmp 192) _ rfl Z Z (by rfl) (by rfl) ZL.out ZL.out ?_); rw [beq_self_eq_true]; simp only [Act.put, List.setIfInBounds_toArray, List.set_cons_zero, List.set_cons_succ]))
          go_ret
          exact ⟨rfl, B13.out⟩
  · obtain ⟨h, hh⟩ : ∃ h : Int, h = a1 := ⟨_, rfl⟩
    subst hh
    obtain ⟨N, hN3⟩ := High3.of (h := h) (by omega) (by omega)
    have HP3 := Lib.hid hN3
    have hN4 := hN3.bounds
    obtain ⟨NN, hNN⟩ : ∃ z, z = N * N := ⟨_, rfl⟩
    have HNN := Lib.hid hNN
    have hNN16 : NN ≤ 16 := by rw [hNN]; rcases hN3 with ⟨_, rfl⟩ | ⟨_, rfl⟩ | ⟨_, rfl⟩ <;> omega
    have eNN : IntKind.i64.wrap ((N : Int) * (N : Int)) = (NN : Int) := by rw [show ((N : Int) * (N : Int)) = (NN : Int) by rw [hNN]; exact (Int.natCast_mul N N).symm]; exact IntWalk.i64_in _ (by omega)
    have q1 : decide (h < 0) = false := decide_eq_false (by omega)
    have q2 : decide (2 < h) = false := decide_eq_false (by omega)
    clear hbad hN3 hNN
    obtain ⟨R, hR⟩ : ∃ R, R = troot (leavesK (hup x0) N) := ⟨_, rfl⟩
    have RL := Lib.hid (show R.length = 32 by rw [hR]; exact troot_length _ (leavesK_dig _ _))
    have HR := Lib.hid hR
    clear hR
    go_upto_region 5 with fail
    obtain ⟨V, hV⟩ : ∃ z, z = w3.heap.size := ⟨_, rfl⟩
    obtain ⟨w4, hw4⟩ : ∃ z, z = w3.alloc (.cells (dV Z) 23) := ⟨_, rfl⟩
    have st4 : Below w3.heap.size w3 w4 := by rw [hw4]; exact (Below.refl _ _).alloc (Nat.le_refl _) _
    have B4 := Lib.hid (show Below w.heap.size w w4 from Below.trans B3.out (Below.mono st4 (Below.size B3.out)))
    have GS_4 := Lib.hid ((Below.block st4 S LS_3.out).trans GS_3.out)
    have LS_4 := Lib.hid (Nat.lt_of_lt_of_le LS_3.out (Below.size st4))
    have GM_4 := Lib.hid ((Below.block st4 M LM_3.out).trans GM_3.out)
    have LM_4 := Lib.hid (Nat.lt_of_lt_of_le LM_3.out (Below.size st4))
    have GDB_4 := Lib.hid ((Below.block st4 DB LDB_3.out).trans GDB_3.out)
    have LDB_4 := Lib.hid (Nat.lt_of_lt_of_le LDB_3.out (Below.size st4))
    have GV_4 := Lib.hid (show w4.heap[V]? = some (.cells (dV Z) 23 (0, 0)) by rw [hw4, hV]; exact heap_alloc_new _ _)
    have LV_4 := Lib.hid (lt_of_heap GV_4.out)
    have HV := Lib.hid hV
    have Hw4 := Lib.hid hw4
    clear hV hw4 st4
    go_upto_region 8 with fail
    rw [ZT.out, ← HV.out, ← Hw4.out]
    go_wp2_with (first
      | (refine at_ld 23 (.tmp 5) rfl ?_; (refine ld_digG rfl (.tmp 5) rfl (S) 0 (by rfl) x0 SL.out (range_of_row GS_4.out) ?_); simp only [Act.put, List.setIfInBounds_toArray, List.set_cons_zero, List.set_cons_succ]))
    refine (RHUp_calls x0 SL.out w4).mono ?_
    rintro e w5 ⟨rfl, hb5⟩
    have B5 := Lib.hid (show Below w.heap.size w w5 from Below.trans B4.out (Below.mono hb5 (Below.size B4.out)))
    have GS_5 := Lib.hid ((Below.block hb5 S LS_4.out).trans GS_4.out)
    have LS_5 := Lib.hid (Nat.lt_of_lt_of_le LS_4.out (Below.size hb5))
    have GM_5 := Lib.hid ((Below.block hb5 M LM_4.out).trans GM_4.out)
    have LM_5 := Lib.hid (Nat.lt_of_lt_of_le LM_4.out (Below.size hb5))
    have GDB_5 := Lib.hid ((Below.block hb5 DB LDB_4.out).trans GDB_4.out)
    have LDB_5 := Lib.hid (Nat.lt_of_lt_of_le LDB_4.out (Below.size hb5))
    have GV_5 := Lib.hid ((Below.block hb5 V LV_4.out).trans GV_4.out)
    have LV_5 := Lib.hid (Nat.lt_of_lt_of_le LV_4.out (Below.size hb5))
    clear hb5
    go_wp2_with fail
    refine (RLeavesH (hup x0) (hup_length _) h N HP3.out w5).mono ?_
    rintro e w6 ⟨la, lc, rfl, hlc1, hlc2, hlr, hb6⟩
    have B6 := Lib.hid (show Below w.heap.size w w6 from Below.trans B5.out (Below.mono hb6 (Below.size B5.out)))
    have GS_6 := Lib.hid ((Below.block hb6 S LS_5.out).trans GS_5.out)
    have LS_6 := Lib.hid (Nat.lt_of_lt_of_le LS_5.out (Below.size hb6))
    have GM_6 := Lib.hid ((Below.block hb6 M LM_5.out).trans GM_5.out)
    have LM_6 := Lib.hid (Nat.lt_of_lt_of_le LM_5.out (Below.size hb6))
    have GDB_6 := Lib.hid ((Below.block hb6 DB LDB_5.out).trans GDB_5.out)
    have LDB_6 := Lib.hid (Nat.lt_of_lt_of_le LDB_5.out (Below.size hb6))
    have GV_6 := Lib.hid ((Below.block hb6 V LV_5.out).trans GV_5.out)
    have LV_6 := Lib.hid (Nat.lt_of_lt_of_le LV_5.out (Below.size hb6))
    have LR_6 := Lib.hid hlr
    have LC1 := Lib.hid (And.intro hlc1 hlc2)
    clear hlr hlc1 hlc2
    clear hb6
    go_wp2_with fail
    refine (RRootH (hup x0) N (by omega) R HR.out la lc _ LC1.out.1 LC1.out.2 w6 LR_6.out).mono ?_
    rintro e w7 ⟨rfl, hb7⟩
    have B7 := Lib.hid (show Below w.heap.size w w7 from Below.trans B6.out (Below.mono hb7 (Below.size B6.out)))
    have GS_7 := Lib.hid ((Below.block hb7 S LS_6.out).trans GS_6.out)
    have LS_7 := Lib.hid (Nat.lt_of_lt_of_le LS_6.out (Below.size hb7))
    have GM_7 := Lib.hid ((Below.block hb7 M LM_6.out).trans GM_6.out)
    have LM_7 := Lib.hid (Nat.lt_of_lt_of_le LM_6.out (Below.size hb7))
    have GDB_7 := Lib.hid ((Below.block hb7 DB LDB_6.out).trans GDB_6.out)
    have LDB_7 := Lib.hid (Nat.lt_of_lt_of_le LDB_6.out (Below.size hb7))
    have GV_7 := Lib.hid ((Below.block hb7 V LV_6.out).trans GV_6.out)
    have LV_7 := Lib.hid (Nat.lt_of_lt_of_le LV_6.out (Below.size hb7))
    clear hb7
    obtain ⟨w8, hw8⟩ : ∃ z, z = w7.setRow V (dV R) := ⟨_, rfl⟩
    have B8 := Lib.hid (show Below w.heap.size w w8 by rw [hw8]; exact below_setRowW B7.out (by rw [HV.out]; exact Below.size B3.out) _)
    have sz8 : w8.heap.size = w7.heap.size := by rw [hw8]; exact setRow_size _ _ _
    have GS_8 := Lib.hid (show w8.heap[S]? = some (.cells (dV x0) 23 (0, 0)) by rw [hw8]; exact (_root_.Go.setRow_other _ _ _ _ (by rw [HV.out]; exact Nat.ne_of_lt LS_3.out)).trans GS_7.out)
    have LS_8 := Lib.hid (show S < w8.heap.size by rw [sz8]; exact LS_7.out)
    have GM_8 := Lib.hid (show w8.heap[M]? = some (.cells (dV x3) 23 (0, 0)) by rw [hw8]; exact (_root_.Go.setRow_other _ _ _ _ (by rw [HV.out]; exact Nat.ne_of_lt LM_3.out)).trans GM_7.out)
    have LM_8 := Lib.hid (show M < w8.heap.size by rw [sz8]; exact LM_7.out)
    have GDB_8 := Lib.hid (show w8.heap[DB]? = some (.cells #[.int .i64 fu4, .slice usa4 ul usc4, .slice vsa4 vl vsc4, .int .i64 fl4, .slice ssa4 sl ssc4, .slice qsa4 ql qsc4] 28 (0, 0)) by rw [hw8]; exact (_root_.Go.setRow_other _ _ _ _ (by rw [HV.out]; exact Nat.ne_of_lt LDB_3.out)).trans GDB_7.out)
    have LDB_8 := Lib.hid (show DB < w8.heap.size by rw [sz8]; exact LDB_7.out)
    have GV_8 := Lib.hid (show w8.heap[V]? = some (.cells (dV R) 23 (0, 0)) by rw [hw8]; exact setRow_heap _ _ _ _ _ _ GV_7.out)
    have LV_8 := Lib.hid (show V < w8.heap.size by rw [sz8]; exact LV_7.out)
    have Hw8 := Lib.hid hw8
    clear hw8 sz8
    go_wp2_with (first
      | (refine at_st 23 (.tmp 13) (.tmp 52) rfl ?_; (refine st_row rfl (.tmp 13) (.tmp 52) rfl V R RL.out (by rfl) (by rfl) (dV Z) (dV_size ZL.out) _ GV_7.out ?_); rw [← Hw8.out])
      | (refine at_ld 23 (.tmp 5) rfl ?_; (refine ld_digG rfl (.tmp 5) rfl (S) 0 (by rfl) x0 SL.out (range_of_row GS_8.out) ?_); simp only [Act.put, List.setIfInBounds_toArray, List.set_cons_zero, List.set_cons_succ]))
    refine (HPublic_ok x0 SL.out h N HP3.out w8 (RO.out.at_ B8.out)).mono ?_
    rintro e w9 ⟨rfl, hb9⟩
    have B9 := Lib.hid (show Below w.heap.size w w9 from Below.trans B8.out (Below.mono hb9 (Below.size B8.out)))
    have GS_9 := Lib.hid ((Below.block hb9 S LS_8.out).trans GS_8.out)
    have LS_9 := Lib.hid (Nat.lt_of_lt_of_le LS_8.out (Below.size hb9))
    have GM_9 := Lib.hid ((Below.block hb9 M LM_8.out).trans GM_8.out)
    have LM_9 := Lib.hid (Nat.lt_of_lt_of_le LM_8.out (Below.size hb9))
    have GDB_9 := Lib.hid ((Below.block hb9 DB LDB_8.out).trans GDB_8.out)
    have LDB_9 := Lib.hid (Nat.lt_of_lt_of_le LDB_8.out (Below.size hb9))
    have GV_9 := Lib.hid ((Below.block hb9 V LV_8.out).trans GV_8.out)
    have LV_9 := Lib.hid (Nat.lt_of_lt_of_le LV_8.out (Below.size hb9))
    clear hb9
    rw [← HR.out]
    obtain ⟨PK, hPK⟩ : ∃ z, z = w9.heap.size := ⟨_, rfl⟩
    obtain ⟨w10, hw10⟩ : ∃ z, z = w9.alloc (.cells (dV R) 23) := ⟨_, rfl⟩
    have st10 : Below w9.heap.size w9 w10 := by rw [hw10]; exact (Below.refl _ _).alloc (Nat.le_refl _) _
    have B10 := Lib.hid (show Below w.heap.size w w10 from Below.trans B9.out (Below.mono st10 (Below.size B9.out)))
    have GS_10 := Lib.hid ((Below.block st10 S LS_9.out).trans GS_9.out)
    have LS_10 := Lib.hid (Nat.lt_of_lt_of_le LS_9.out (Below.size st10))
    have GM_10 := Lib.hid ((Below.block st10 M LM_9.out).trans GM_9.out)
    have LM_10 := Lib.hid (Nat.lt_of_lt_of_le LM_9.out (Below.size st10))
    have GDB_10 := Lib.hid ((Below.block st10 DB LDB_9.out).trans GDB_9.out)
    have LDB_10 := Lib.hid (Nat.lt_of_lt_of_le LDB_9.out (Below.size st10))
    have GV_10 := Lib.hid ((Below.block st10 V LV_9.out).trans GV_9.out)
    have LV_10 := Lib.hid (Nat.lt_of_lt_of_le LV_9.out (Below.size st10))
    have GPK_10 := Lib.hid (show w10.heap[PK]? = some (.cells (dV R) 23 (0, 0)) by rw [hw10, hPK]; exact heap_alloc_new _ _)
    have LPK_10 := Lib.hid (lt_of_heap GPK_10.out)
    have HPK := Lib.hid hPK
    have Hw10 := Lib.hid hw10
    clear hPK hw10 st10
    go_wp2_with (first
      | (refine at_st 23 (.tmp 15) (.tmp 57) rfl ?_; (refine st_new rfl (.tmp 15) (.tmp 57) rfl R RL.out (by rfl) _ _ (by rfl) (by rfl) ?_); rw [← HPK.out, ← Hw10.out]))
    refine (ErrS_same 0 w10 (HG.out.at_ B10.out)).mono ?_
    rintro e w11 ⟨rfl, hb11⟩
    have B11 := Lib.hid (show Below w.heap.size w w11 from Below.trans B10.out (Below.mono hb11 (Below.size B10.out)))
    have GS_11 := Lib.hid ((Below.block hb11 S LS_10.out).trans GS_10.out)
    have LS_11 := Lib.hid (Nat.lt_of_lt_of_le LS_10.out (Below.size hb11))
    have GM_11 := Lib.hid ((Below.block hb11 M LM_10.out).trans GM_10.out)
    have LM_11 := Lib.hid (Nat.lt_of_lt_of_le LM_10.out (Below.size hb11))
    have GDB_11 := Lib.hid ((Below.block hb11 DB LDB_10.out).trans GDB_10.out)
    have LDB_11 := Lib.hid (Nat.lt_of_lt_of_le LDB_10.out (Below.size hb11))
    have GV_11 := Lib.hid ((Below.block hb11 V LV_10.out).trans GV_10.out)
    have LV_11 := Lib.hid (Nat.lt_of_lt_of_le LV_10.out (Below.size hb11))
    have GPK_11 := Lib.hid ((Below.block hb11 PK LPK_10.out).trans GPK_10.out)
    have LPK_11 := Lib.hid (Nat.lt_of_lt_of_le LPK_10.out (Below.size hb11))
    clear hb11
    go_wp2_with (first
      | (refine at_ld 23 (.tmp 15) rfl ?_; (refine ld_digG rfl (.tmp 15) rfl (PK) 0 (by rfl) R RL.out (range_of_row GPK_11.out) ?_); simp only [Act.put, List.setIfInBounds_toArray, List.set_cons_zero, List.set_cons_succ])
      | (refine at_ld 23 (.tmp 13) rfl ?_; (refine ld_digG rfl (.tmp 13) rfl (V) 0 (by rfl) R RL.out (range_of_row GV_11.out) ?_); simp only [Act.put, List.setIfInBounds_toArray, List.set_cons_zero, List.set_cons_succ])
      | (refine at_bin .neq 23 (.tmp 65) (.tmp 66) _ rfl ?_; (refine neq_digG rfl (.tmp 65) (.tmp 66) _ rfl R R (by rfl) (by rfl) RL.out RL.out ?_); rw [beq_self_eq_true]; simp only [Act.put, List.setIfInBounds_toArray, List.set_cons_zero, List.set_cons_succ])
      | (refine at_ld 23 (.tmp 5) rfl ?_; (refine ld_digG rfl (.tmp 5) rfl (S) 0 (by rfl) x0 SL.out (range_of_row GS_11.out) ?_); simp only [Act.put, List.setIfInBounds_toArray, List.set_cons_zero, List.set_cons_succ]))
    refine (HNew_ok x0 SL.out h N HP3.out w.heap.size w11 (Below.size B11.out) (RO.out.at_ B11.out)).mono ?_
    rintro e w12 ⟨X, rfl, hX, hb12, hHY⟩
    have B12 := Lib.hid (show Below w.heap.size w w12 from Below.trans B11.out (Below.mono hb12 (Below.size B11.out)))
    have GS_12 := Lib.hid ((Below.block hb12 S LS_11.out).trans GS_11.out)
    have LS_12 := Lib.hid (Nat.lt_of_lt_of_le LS_11.out (Below.size hb12))
    have GM_12 := Lib.hid ((Below.block hb12 M LM_11.out).trans GM_11.out)
    have LM_12 := Lib.hid (Nat.lt_of_lt_of_le LM_11.out (Below.size hb12))
    have GDB_12 := Lib.hid ((Below.block hb12 DB LDB_11.out).trans GDB_11.out)
    have LDB_12 := Lib.hid (Nat.lt_of_lt_of_le LDB_11.out (Below.size hb12))
    have GV_12 := Lib.hid ((Below.block hb12 V LV_11.out).trans GV_11.out)
    have LV_12 := Lib.hid (Nat.lt_of_lt_of_le LV_11.out (Below.size hb12))
    have GPK_12 := Lib.hid ((Below.block hb12 PK LPK_11.out).trans GPK_11.out)
    have LPK_12 := Lib.hid (Nat.lt_of_lt_of_le LPK_11.out (Below.size hb12))
    have HY_12 := Lib.hid hHY
    clear hHY hX
    clear hb12
    go_wp2_with fail
    refine (ErrS_same 0 w12 (HG.out.at_ B12.out)).mono ?_
    rintro e w13 ⟨rfl, hb13⟩
    have B13 := Lib.hid (show Below w.heap.size w w13 from Below.trans B12.out (Below.mono hb13 (Below.size B12.out)))
    have GS_13 := Lib.hid ((Below.block hb13 S LS_12.out).trans GS_12.out)
    have LS_13 := Lib.hid (Nat.lt_of_lt_of_le LS_12.out (Below.size hb13))
    have GM_13 := Lib.hid ((Below.block hb13 M LM_12.out).trans GM_12.out)
    have LM_13 := Lib.hid (Nat.lt_of_lt_of_le LM_12.out (Below.size hb13))
    have GDB_13 := Lib.hid ((Below.block hb13 DB LDB_12.out).trans GDB_12.out)
    have LDB_13 := Lib.hid (Nat.lt_of_lt_of_le LDB_12.out (Below.size hb13))
    have GV_13 := Lib.hid ((Below.block hb13 V LV_12.out).trans GV_12.out)
    have LV_13 := Lib.hid (Nat.lt_of_lt_of_le LV_12.out (Below.size hb13))
    have GPK_13 := Lib.hid ((Below.block hb13 PK LPK_12.out).trans GPK_12.out)
    have LPK_13 := Lib.hid (Nat.lt_of_lt_of_le LPK_12.out (Below.size hb13))
    have HY_13 := Lib.hid (HY_12.out.below hb13)
    clear hb13
    go_wp2_with fail
    obtain ⟨B, hB⟩ : ∃ z, z = w.heap.size := ⟨_, rfl⟩
    rw [← hB] at HY_13
    have HBz := Lib.hid hB
    have hgB : 1 < B := by rw [hB]; exact hgB1
    have hgE : 0 < B := by rw [hB]; exact hgB2
    obtain ⟨w1, hw1⟩ : ∃ z, z = w13 := ⟨_, rfl⟩
    rw [← hw1]
    have hBW1 : B ≤ w1.heap.size := by rw [hB, hw1]; exact Below.size B13.out
    have HYZ := Lib.hid (show HyAt w1 X B x0 h N 0 by rw [hw1]; exact HY_13.out)
    have GSZ := Lib.hid (show w1.heap[S]? = some (.cells (dV x0) 23 (0, 0)) by rw [hw1]; exact GS_13.out)
    have GMZ := Lib.hid (show w1.heap[M]? = some (.cells (dV x3) 23 (0, 0)) by rw [hw1]; exact GM_13.out)
    have GDZ := Lib.hid (show w1.heap[DB]? = some (.cells #[.int .i64 fu4, .slice usa4 ul usc4, .slice vsa4 vl vsc4, .int .i64 fl4, .slice ssa4 sl ssc4, .slice qsa4 ql qsc4] 28 (0, 0)) by rw [hw1]; exact GDB_13.out)
    have GVZ := Lib.hid (show w1.heap[V]? = some (.cells (dV R) 23 (0, 0)) by rw [hw1]; exact GV_13.out)
    have HVB := Lib.hid (show w.heap.size ≤ V by rw [HV.out]; exact Below.size B3.out)
    have BBZ := Lib.hid (show Below w.heap.size w w1 by rw [hw1]; exact B13.out)
    have ROZ := Lib.hid (RO.out.at_ BBZ.out)
    have HGZ := Lib.hid (HG.out.at_ BBZ.out)
    have hMV : M ≠ V := by rw [HV.out]; exact Nat.ne_of_lt LM_3.out
    clear hw1 hB
    go_loopw [19] (fun vi wr => ∃ k : Nat, k ≤ x2.length ∧ vi = .int .i64 (k : Int) ∧ Hid (HyAt wr X B x0 h N (min k NN)) ∧ Hid (Ho B w1 wr)) (fun vi _ => x2.length - (intOf vi).toNat)
    case atStart => exact ⟨0, Nat.zero_le _, rfl, by rw [Nat.zero_min]; exact HYZ, Lib.hid (Ho.refl _ _)⟩
    case round =>
      obtain ⟨k, hk, rfl, HYA, HOA⟩ := hrel
      obtain ⟨wA, rfl⟩ : ∃ z, z = wr := ⟨_, rfl⟩
      have BWA := Lib.hid (show Below w.heap.size w wA from BBZ.out.trans (by rw [← HBz.out]; exact HOA.out.1))
      by_cases hlt : k < x2.length
      · obtain ⟨b1, o1, ha2, hb1, hrg⟩ := (R2.out.below BWA.out).range N2.out hlt
        subst ha2
        obtain ⟨D, hD⟩ : ∃ D, D = x2[k] := ⟨_, rfl⟩
        rw [← hD] at hrg
        have DL := Lib.hid (show D.length = 32 by rw [hD]; exact N2.out _ (List.getElem_mem _))
        have HDE := Lib.hid hD
        have HRG := Lib.hid hrg
        have LRG := Lib.hid hb1
        have m0 : (0 : Int) ≤ (k : Int) := by omega
        have m1 : (k : Int) < (x2.length : Int) := by omega
        have e6 : IntKind.i64.wrap ((k : Int) + 1) = (k : Int) + 1 := IntWalk.i64_in _ (by omega)
        have ROA := Lib.hid (HOA.out.rounds hgB ROZ.out)
        have GSA := Lib.hid (HOA.out.2 S _ _ _ GSZ.out (by decide) (by decide))
        clear hD hb1 hrg
        obtain ⟨G, hG⟩ : ∃ z, z = wA.heap.size := ⟨_, rfl⟩
        obtain ⟨wB, hwB⟩ : ∃ z, z = wA.alloc (.cells #[.int .i64 0, .slice none 0 0, .slice none 0 0, .int .i64 0, .slice none 0 0, .slice none 0 0] 28) := ⟨_, rfl⟩
        have hbB : Below wA.heap.size wA wB := by rw [hwB]; exact (Below.refl _ _).alloc (Nat.le_refl _) _
        have GGB := Lib.hid (show wB.heap[G]? = some (.cells #[.int .i64 0, .slice none 0 0, .slice none 0 0, .int .i64 0, .slice none 0 0, .slice none 0 0] 28 (0, 0)) by rw [hwB, hG]; exact heap_alloc_new _ _)
        have GSB := Lib.hid ((hbB.block S (lt_of_heap GSA.out)).trans GSA.out)
        have HYB := Lib.hid (HYA.out.below hbB)
        have HOB := Lib.hid (HOA.out.below hbB (Nat.le_trans hBW1 HOA.out.size))
        have HRB := Lib.hid (range_belowH HRG.out hbB LRG.out)
        have LRB := Lib.hid (Nat.lt_of_lt_of_le LRG.out hbB.size)
        have ROB := Lib.hid (ROA.out.at_ hbB)
        have HGw := Lib.hid (show w1.heap.size ≤ G by rw [hG]; exact HOA.out.size)
        have HG_ := Lib.hid hG
        have HWB := Lib.hid hwB
        clear hG hwB hbB HYA HOA BWA HRG LRG ROA GSA
        by_cases hsp : k < NN
        · obtain ⟨t, ht⟩ : ∃ t, t = k / N := ⟨_, rfl⟩
          obtain ⟨nx, hnx⟩ : ∃ n, n = k % N := ⟨_, rfl⟩
          obtain ⟨hht, hhn, hhi⟩ := HP3.out.split (i := k) (by rw [← HNN.out]; exact hsp)
          have RS := Lib.hid (RHSigned_calls x0 D SL.out DL.out h N HP3.out k t nx (by omega) ht hnx (by rw [ht]; exact hht) (by rw [hnx]; exact hhn))
          rw [← ht] at hht hhi
          rw [← hnx] at hhn hhi
          have HHI := Lib.hid hhi
          have g1 : decide ((NN : Int) ≤ (k : Int)) = false := decide_eq_false (by omega)
          have g2 : decide (NN ≤ k) = false := decide_eq_false (by omega)
          have g3 : min (k : Int) (NN : Int) = (k : Int) := by omega
          have g4 : min k NN = k := by omega
          obtain ⟨d, hd⟩ : ∃ d : Nat, d + k = NN := ⟨NN - k, by omega⟩
          have e7 : IntKind.i64.wrap ((NN : Int) - (k : Int)) = (d : Int) := by rw [IntWalk.i64_in _ (by omega)]; omega
          have HD := Lib.hid hd
          have HM := Lib.hid (show min (k + 1) NN = k + 1 by omega)
          have HMK := Lib.hid g4
          have HIM := Lib.hid (show (Tryz.prog.info? 23).map (·.size) = some (D.map vB).length by rw [List.length_map, DL.out]; exact dig_size)
          have HIS := Lib.hid (show (Tryz.prog.info? 23).map (·.size) = some (x0.map vB).length by rw [List.length_map, SL.out]; exact dig_size)
          have HTL := Lib.hid (show tlong t N ≤ 9223372036854775807 from Nat.le_trans (tlong_le 300 t N (by omega)) (by omega))
          have HTM := Lib.hid (show tlong nx N ≤ 9223372036854775807 from Nat.le_trans (tlong_le 300 nx N (by omega)) (by omega))
          clear ht hnx hhi hd hsp
          go_upto_region 26 with fail
          rw [← HWB.out, ← HG_.out]
          have KS : ∀ w' : World, Below wB.heap.size wB w' → (w'.heap[S]? = some (.cells (dV x0) 23 (0, 0)) ∧ w'.rangeAt b1 (o1 + k * 32) (D.map vB)) := fun w' hb => ⟨(hb.block S (lt_of_heap GSB.out)).trans GSB.out, range_belowH HRB.out hb LRB.out⟩
          have HKS := Lib.hid KS
          obtain ⟨wd, hwd⟩ : ∃ z, z = wB.drew := ⟨_, rfl⟩
          have BD_wd := Lib.hid (show Below wB.heap.size wB wd by rw [hwd]; exact (Below.refl _ _).drew)
          refine wp_region_held_drew (S := fun w' => w'.heap[S]? = some (.cells (dV x0) 23 (0, 0)) ∧ w'.rangeAt b1 (o1 + k * 32) (D.map vB)) (by kernel_rfl) (by rw [← hwd]; exact KS wd BD_wd.out) (fun hHeld => ?_)
          rw [← hwd] at hHeld ⊢
          clear hwd KS
          refine wpAnyH_take (i := 0) (oi := _) (v := _) rfl (by kernel_rfl) (by kernel_rfl) (by kernel_rfl) (fun _ _ _ h => h) (yieldsIf_load_mid (by rfl) _ _ rfl _ _ rfl (x0.map vB) _ (fun w hw => range_of_row hw.1) Tryz.underlying23 rfl HIS.out) hHeld ?_
          simp only [Act.put, List.getElem_toArray, List.getElem_cons_zero, List.getElem_cons_succ, List.setIfInBounds_toArray, List.set_cons_zero, List.set_cons_succ]
          refine wpAnyH_take (i := 1) (oi := _) (v := .int .i64 h) rfl (by kernel_rfl) (by kernel_rfl) (by kernel_rfl) (fun _ _ _ h => h) (Or.inl ⟨by rfl, fun w hw => by go_simp⟩) hHeld ?_
          simp only [Act.put, List.getElem_toArray, List.getElem_cons_zero, List.getElem_cons_succ, List.setIfInBounds_toArray, List.set_cons_zero, List.set_cons_succ]
          refine wpAnyH_take (i := 2) (oi := _) (v := .int .i64 (k : Int)) rfl (by kernel_rfl) (by kernel_rfl) (by kernel_rfl) (fun _ _ _ h => h) (Or.inl ⟨by rfl, fun w hw => by go_simp⟩) hHeld ?_
          simp only [Act.put, List.getElem_toArray, List.getElem_cons_zero, List.getElem_cons_succ, List.setIfInBounds_toArray, List.set_cons_zero, List.set_cons_succ]
          refine wpAnyH_take (i := 3) (oi := _) (v := .slice (some ⟨b1, o1, none⟩) x2.length c2) rfl (by kernel_rfl) (by kernel_rfl) (by kernel_rfl) (fun _ _ _ h => h) (Or.inl ⟨by rfl, fun w hw => by go_simp⟩) hHeld ?_
          simp only [Act.put, List.getElem_toArray, List.getElem_cons_zero, List.getElem_cons_succ, List.setIfInBounds_toArray, List.set_cons_zero, List.set_cons_succ]
          refine wpAnyH_take (i := 4) (oi := _) (v := .int .i64 (k : Int)) rfl (by kernel_rfl) (by kernel_rfl) (by kernel_rfl) (fun _ _ _ h => h) (Or.inl ⟨by rfl, fun w hw => by go_simp⟩) hHeld ?_
          simp only [Act.put, List.getElem_toArray, List.getElem_cons_zero, List.getElem_cons_succ, List.setIfInBounds_toArray, List.set_cons_zero, List.set_cons_succ]
          refine wpAnyH_take (i := 5) (oi := _) (v := .pointer (some ⟨b1, o1 + k * 32, none⟩)) rfl (by kernel_rfl) (by kernel_rfl) (by kernel_rfl) (fun _ _ _ h => h) (Or.inl ⟨by rfl, fun w hw => by go_simp⟩) hHeld ?_
          simp only [Act.put, List.getElem_toArray, List.getElem_cons_zero, List.getElem_cons_succ, List.setIfInBounds_toArray, List.set_cons_zero, List.set_cons_succ]
          refine wpAnyH_take (i := 6) (oi := _) (v := _) rfl (by kernel_rfl) (by kernel_rfl) (by kernel_rfl) (fun _ _ _ h => h) (yieldsIf_load_mid (by rfl) _ _ rfl _ _ rfl (D.map vB) _ (fun w hw => hw.2) Tryz.underlying23 rfl HIM.out) hHeld ?_
          simp only [Act.put, List.getElem_toArray, List.getElem_cons_zero, List.getElem_cons_succ, List.setIfInBounds_toArray, List.set_cons_zero, List.set_cons_succ]
          refine wpAnyH_ready (rs := [7]) (by kernel_rfl) (by simp) ?_
          refine AllReadyH.cons (o := _) rfl (fun K hK => ?_) AllReadyH.nil
          have HK := Lib.hid hK
          clear hK
          go_simp
          go_at_call 10
          refine (RS.out wd).mono ?_
          rintro e we ⟨ua, uc, va, vc, sa, sc, pa, pc, rfl, hru, hrv, hrs, hrp, hb⟩
          have BD_we := Lib.hid (show Below wB.heap.size wB we from BD_wd.out.trans (hb.mono BD_wd.out.size))
          have RUe := Lib.hid hru
          have RVe := Lib.hid hrv
          have RSe := Lib.hid hrs
          have RPe := Lib.hid hrp
          clear hru hrv hrs hrp hb RS
          dsimp only
          refine HK.out _ _ (HKS.out we BD_we.out) ?_
          clear HK K hHeld
          try simp only [Act.put, List.getElem_toArray, List.getElem_cons_zero, List.getElem_cons_succ, List.setIfInBounds_toArray, List.set_cons_zero, List.set_cons_succ]
          intro hHeld
          refine wpAnyH_ready (rs := [8]) (by kernel_rfl) (by simp) ?_
          refine AllReadyH.cons (o := _) rfl (fun K hK => ?_) AllReadyH.nil
          have HK := Lib.hid hK
          clear hK
          rw [if_pos (by rfl)]
          have GGe := Lib.hid ((BD_we.out.block G (lt_of_heap GGB.out)).trans GGB.out)
          refine wp_store_row _ _ _ rfl G #[.int .i64 (t : Int), .slice ua 67 uc, .slice va (tlong t N) vc, .int .i64 (nx : Int), .slice sa 67 sc, .slice pa (tlong nx N) pc] (by rfl) (by rfl) _ #[.int .i64 0, .slice none 0 0, .slice none 0 0, .int .i64 0, .slice none 0 0, .slice none 0 0] GGe.out (info_dbl _ _ _ _ _ _) rfl (dbl_one _ _ _ _ _ _ _ _ _ _ _ _ _ _) ?_
          obtain ⟨wC, hwC⟩ : ∃ z, z = we.setRow G #[.int .i64 (t : Int), .slice ua 67 uc, .slice va (tlong t N) vc, .int .i64 (nx : Int), .slice sa 67 sc, .slice pa (tlong nx N) pc] := ⟨_, rfl⟩
          have hon : Only we wC G := by rw [hwC]; exact Only.setRow _ _ _
          have hkp : Kp we wC := Kp.of_only hon GGe.out (by decide) (by decide) (by decide)
          have GGC := Lib.hid (show wC.heap[G]? = some (.cells #[.int .i64 (t : Int), .slice ua 67 uc, .slice va (tlong t N) vc, .int .i64 (nx : Int), .slice sa 67 sc, .slice pa (tlong nx N) pc] 28 (0, 0)) by rw [hwC]; exact setRow_heap _ _ _ _ _ _ GGe.out)
          have HOe := (HOB.out.below BD_we.out (Nat.le_trans hBW1 HOB.out.size))
          have HOC := Lib.hid (show Ho B w1 wC by rw [hwC]; exact HOe.setRowNew (Nat.le_trans hBW1 HGw.out) HGw.out _)
          have HYC := Lib.hid (show HyAt wC X B x0 h N k by have := (HYB.out.below BD_we.out).kp hkp; rw [HMK.out] at this; exact this)
          have RUC := Lib.hid (hkp.rd RUe.out)
          have RVC := Lib.hid (hkp.rd RVe.out)
          have RSC := Lib.hid (hkp.rd RSe.out)
          have RPC := Lib.hid (hkp.rd RPe.out)
          have GSC := Lib.hid (hkp S _ _ _ ((BD_we.out.block S (lt_of_heap GSB.out)).trans GSB.out) (.inr (.inr rfl)))
          have R2C := R2.out.below (show Below w.heap.size w wC from BBZ.out.trans (by rw [← HBz.out]; exact HOC.out.1))
          obtain ⟨b3, o3, hb3, hb4, hrg3⟩ := R2C.range N2.out hlt
          have hbo := Option.some.inj hb3
          obtain rfl : b1 = b3 := congrArg Addr.block hbo
          obtain rfl : o1 = o3 := congrArg Addr.off hbo
          rw [← HDE.out] at hrg3
          have HRC := Lib.hid hrg3
          have LRC := Lib.hid hb4
          rw [← hwC]
          clear hwC hon hkp R2C hb3 hb4 hrg3 hbo HOe
          refine HK.out _ _ ⟨GSC.out, HRC.out⟩ ?_
          clear HK K hHeld
          try simp only [Act.put, List.getElem_toArray, List.getElem_cons_zero, List.getElem_cons_succ, List.setIfInBounds_toArray, List.set_cons_zero, List.set_cons_succ]
          intro hHeld
          refine wpAnyH_done (by kernel_rfl) ?_ _
          clear hHeld HKS GGe RUe RVe RSe RPe GGB GSB HYB HOB HRB LRB ROB BD_wd BD_we HWB HG_
          have CL := Lib.hid (LeftH x0 SL.out h N HP3.out X B k d (by rw [← HNN.out]; exact HD.out) wC HYC.out)
          go_wp2_with fail
          refine CL.out.mono ?_
          rintro e wD ⟨rfl, hbD⟩
          have HOD := Lib.hid (HOC.out.below hbD (Nat.le_trans hBW1 HOC.out.size))
          have HYD := Lib.hid (HYC.out.below hbD)
          have GGD := Lib.hid ((hbD.block G (lt_of_heap GGC.out)).trans GGC.out)
          have RUD := Lib.hid (RUC.out.below hbD)
          have RVD := Lib.hid (RVC.out.below hbD)
          have RSD := Lib.hid (RSC.out.below hbD)
          have RPD := Lib.hid (RPC.out.below hbD)
          have HRD := Lib.hid (range_belowH HRC.out hbD LRC.out)
          have ROD := Lib.hid (HOD.out.rounds hgB ROZ.out)
          have SG := Lib.hid (HSign_ok x0 D SL.out DL.out h N HP3.out X B k t nx HHI.out hht hhn wD hgB HYD.out ROD.out)
          clear hbD CL HOC HYC GGC RUC RVC RSC RPC HRC LRC GSC
          go_wp2_with (refine at_ld 23 (.tmp 127) rfl ?_; (refine ld_digG rfl (.tmp 127) rfl (b1) (o1 + k * 32) (by rfl) D DL.out HRD.out ?_); simp only [Act.put, List.setIfInBounds_toArray, List.set_cons_zero, List.set_cons_succ])
          refine SG.out.mono ?_
          rintro e wE ⟨u2, uc2, v2, vc2, s2, sc2, p2, pc2, rfl, hru, hrv, hrs, hrp, hyr, hho⟩
          obtain ⟨E, hE⟩ : ∃ z, z = wE.heap.size := ⟨_, rfl⟩
          obtain ⟨wF, hwF⟩ : ∃ z, z = wE.alloc (.cells #[.int .i64 (t : Int), .slice u2 67 uc2, .slice v2 (tlong t N) vc2, .int .i64 (nx : Int), .slice s2 67 sc2, .slice p2 (tlong nx N) pc2] 28) := ⟨_, rfl⟩
          have hbF : Below wE.heap.size wE wF := by rw [hwF]; exact (Below.refl _ _).alloc (Nat.le_refl _) _
          have HOE := Lib.hid (HOD.out.trans hho)
          have HOF := Lib.hid (HOE.out.below hbF (Nat.le_trans hBW1 HOE.out.size))
          have HYF := Lib.hid (show HyAt wF X B x0 h N (k + 1) by have := hyr.hyAt.below hbF; rw [show t * N + (nx + 1) = k + 1 by have := HHI.out; omega] at this; exact this)
          have R2U := Lib.hid (hru.below hbF)
          have R2V := Lib.hid (hrv.below hbF)
          have R2S := Lib.hid (hrs.below hbF)
          have R2P := Lib.hid (hrp.below hbF)
          have RUF := Lib.hid ((hho.rd RUD.out (by decide) (by decide)).below hbF)
          have RVF := Lib.hid ((hho.rd RVD.out (by decide) (by decide)).below hbF)
          have RSF := Lib.hid ((hho.rd RSD.out (by decide) (by decide)).below hbF)
          have RPF := Lib.hid ((hho.rd RPD.out (by decide) (by decide)).below hbF)
          have GGF := Lib.hid ((hbF.block G (lt_of_heap (hho.2 G _ _ _ GGD.out (by decide) (by decide)))).trans (hho.2 G _ _ _ GGD.out (by decide) (by decide)))
          have GEF := Lib.hid (show wF.heap[E]? = some (.cells #[.int .i64 (t : Int), .slice u2 67 uc2, .slice v2 (tlong t N) vc2, .int .i64 (nx : Int), .slice s2 67 sc2, .slice p2 (tlong nx N) pc2] 28 (0, 0)) by rw [hwF, hE]; exact heap_alloc_new _ _)
          have HGF := Lib.hid (ErrVar.ho HOF.out hgE HGZ.out)
          have HE := Lib.hid hE
          have HWF := Lib.hid hwF
          clear hru hrv hrs hrp hyr hho hbF hE hwF SG HOE HOD HYD GGD RUD RVD RSD RPD HRD ROD
          have CE := Lib.hid (ErrS_same 0 wF HGF.out)
          go_wp2_with (first
            | ((refine st_dblNew rfl (.tmp 22) (.tmp 130) rfl (.int .i64 (t : Int)) (.slice u2 67 uc2) (.slice v2 (tlong t N) vc2) (.int .i64 (nx : Int)) (.slice s2 67 sc2) (.slice p2 (tlong nx N) pc2) (by rfl) _ _ (by rfl) (by rfl) (dbl_one _ _ _ _ _ _ _ _ _ _ _ _ _ _) ?_); rw [← HE.out, ← HWF.out]))
          refine CE.out.mono ?_
          rintro e wG ⟨rfl, hbG⟩
          have C1 := Lib.hid (SigSame (nx : Int) (wsig (skey (hlow x0 t) nx) D) (tpath (leavesK (hlow x0 t) N) nx) (wsig_dig _ _) (tpath_dig _ _ _ (Nat.le_refl _) (leavesK_dig _ _)) 67 (tlong nx N) (wsig_length _ _) (tpathK _ _ _) s2 sa p2 pa sc2 sc pc2 pc _ _ _ _ wG (R2S.out.below hbG) (RSF.out.below hbG) (R2P.out.below hbG) (RPF.out.below hbG) (by omega) HTM.out)
          have GGG := Lib.hid ((hbG.block G (lt_of_heap GGF.out)).trans GGF.out)
          have GEG := Lib.hid ((hbG.block E (lt_of_heap GEF.out)).trans GEF.out)
          have HOG := Lib.hid (HOF.out.below hbG (Nat.le_trans hBW1 HOF.out.size))
          have HYG := Lib.hid (HYF.out.below hbG)
          have R2UG := Lib.hid (R2U.out.below hbG)
          have R2VG := Lib.hid (R2V.out.below hbG)
          have RUG := Lib.hid (RUF.out.below hbG)
          have RVG := Lib.hid (RVF.out.below hbG)
          clear hbG CE HWF HE HOF HYF GGF GEF R2U R2V R2S R2P RUF RVF RSF RPF HGF
          go_wp2_with (first
            | (refine ld_sigM rfl (.tmp 135) rfl E 3 (by rfl) (.int .i64 (nx : Int)) (.slice s2 67 sc2) (.slice p2 (tlong nx N) pc2) (dbl_low GEG.out) ?_)
            | (refine ld_sigM rfl (.tmp 137) rfl G 3 (by rfl) (.int .i64 (nx : Int)) (.slice sa 67 sc) (.slice pa (tlong nx N) pc) (dbl_low GGG.out) ?_))
          refine C1.out.mono ?_
          rintro e wH ⟨rfl, hbH⟩
          have C2 := Lib.hid (SigSame (t : Int) (wsig (skey (hup x0) t) (troot (leavesK (hlow x0 t) N))) (tpath (leavesK (hup x0) N) t) (wsig_dig _ _) (tpath_dig _ _ _ (Nat.le_refl _) (leavesK_dig _ _)) 67 (tlong t N) (wsig_length _ _) (tpathK _ _ _) u2 ua v2 va uc2 uc vc2 vc _ _ _ _ wH (R2UG.out.below hbH) (RUG.out.below hbH) (R2VG.out.below hbH) (RVG.out.below hbH) (by omega) HTL.out)
          have GGH := Lib.hid ((hbH.block G (lt_of_heap GGG.out)).trans GGG.out)
          have GEH := Lib.hid ((hbH.block E (lt_of_heap GEG.out)).trans GEG.out)
          have HOH := Lib.hid (HOG.out.below hbH (Nat.le_trans hBW1 HOG.out.size))
          have HYH := Lib.hid (HYG.out.below hbH)
          clear hbH C1 HOG HYG GGG GEG R2UG R2VG RUG RVG
          go_wp2_with (first
            | (refine ld_sigM rfl (.tmp 140) rfl E 0 (by rfl) (.int .i64 (t : Int)) (.slice u2 67 uc2) (.slice v2 (tlong t N) vc2) (dbl_up GEH.out) ?_)
            | (refine ld_sigM rfl (.tmp 142) rfl G 0 (by rfl) (.int .i64 (t : Int)) (.slice ua 67 uc) (.slice va (tlong t N) vc) (dbl_up GGH.out) ?_))
          refine C2.out.mono ?_
          rintro e wI ⟨rfl, hbI⟩
          have HOI := Lib.hid (HOH.out.below hbI (Nat.le_trans hBW1 HOH.out.size))
          have HYI := Lib.hid (show HyAt wI X B x0 h N (min (k + 1) NN) by rw [HM.out]; exact HYH.out.below hbI)
          clear hbI C2 HOH HYH GGH GEH
          go_wp2_with fail
          go_roundw
          case rel => exact ⟨k + 1, by omega, by go_num, HYI, HOI⟩
          case measure => simp [intOf]; omega
        · have g1 : decide ((NN : Int) ≤ (k : Int)) = true := decide_eq_true (by omega)
          have g2 : decide (NN ≤ k) = true := decide_eq_true (by omega)
          have g3 : min (k : Int) (NN : Int) = (NN : Int) := by omega
          have g4 : min k NN = NN := by omega
          have e7 : IntKind.i64.wrap ((NN : Int) - (NN : Int)) = 0 := by rw [Int.sub_self]; exact IntWalk.i64_in _ (by omega)
          have e8 : (NN : Int) - (NN : Int) = 0 := Int.sub_self _
          have e9 : IntKind.i64.wrap 0 = 0 := IntWalk.i64_in _ (by omega)
          have HM := Lib.hid (show min (k + 1) NN = NN by omega)
          have HYC := Lib.hid (show HyAt wB X B x0 h N (N * N) by have := HYB.out; rw [g4, HNN.out] at this; exact this)
          have CL := Lib.hid (LeftH x0 SL.out h N HP3.out X B (N * N) 0 (by omega) wB HYC.out)
          clear hsp HYB
          go_wp2_with fail
          rw [← HWB.out, ← HG_.out]
          refine CL.out.mono ?_
          rintro e wD ⟨rfl, hbD⟩
          have HOD := Lib.hid (HOB.out.below hbD (Nat.le_trans hBW1 HOB.out.size))
          have HYD := Lib.hid (HYC.out.below hbD)
          have GGD := Lib.hid ((hbD.block G (lt_of_heap GGB.out)).trans GGB.out)
          have HRD := Lib.hid (range_belowH HRB.out hbD LRB.out)
          have ROD := Lib.hid (HOD.out.rounds hgB ROZ.out)
          have SG := Lib.hid (HSign_spent x0 D SL.out h N HP3.out X B wD hgB HYD.out ROD.out)
          clear hbD CL HOB HYC GGB HRB LRB GSB ROB HWB HG_
          go_wp2_with (refine at_ld 23 (.tmp 127) rfl ?_; (refine ld_digG rfl (.tmp 127) rfl (b1) (o1 + k * 32) (by rfl) D DL.out HRD.out ?_); simp only [Act.put, List.setIfInBounds_toArray, List.set_cons_zero, List.set_cons_succ])
          refine SG.out.mono ?_
          rintro e wE ⟨rfl, hya, hho⟩
          obtain ⟨E, hE⟩ : ∃ z, z = wE.heap.size := ⟨_, rfl⟩
          obtain ⟨wF, hwF⟩ : ∃ z, z = wE.alloc (.cells #[.int .i64 0, .slice none 0 0, .slice none 0 0, .int .i64 0, .slice none 0 0, .slice none 0 0] 28) := ⟨_, rfl⟩
          have hbF : Below wE.heap.size wE wF := by rw [hwF]; exact (Below.refl _ _).alloc (Nat.le_refl _) _
          have HOE := Lib.hid (HOD.out.trans hho)
          have HOF := Lib.hid (HOE.out.below hbF (Nat.le_trans hBW1 HOE.out.size))
          have HYF := Lib.hid (hya.below hbF)
          have GGF := Lib.hid ((hbF.block G (lt_of_heap (hho.2 G _ _ _ GGD.out (by decide) (by decide)))).trans (hho.2 G _ _ _ GGD.out (by decide) (by decide)))
          have GEF := Lib.hid (show wF.heap[E]? = some (.cells #[.int .i64 0, .slice none 0 0, .slice none 0 0, .int .i64 0, .slice none 0 0, .slice none 0 0] 28 (0, 0)) by rw [hwF, hE]; exact heap_alloc_new _ _)
          have HGF := Lib.hid (ErrVar.ho HOF.out hgE HGZ.out)
          have HE := Lib.hid hE
          have HWF := Lib.hid hwF
          clear hya hho hbF hE hwF SG HOE HOD HYD GGD HRD ROD
          have CE := Lib.hid (Error_err 6 6 true (by decide) wF HGF.out)
          go_wp2_with (first
            | ((refine st_dblNew rfl (.tmp 22) (.tmp 130) rfl (.int .i64 0) (.slice none 0 0) (.slice none 0 0) (.int .i64 0) (.slice none 0 0) (.slice none 0 0) (by rfl) _ _ (by rfl) (by rfl) (dbl_one _ _ _ _ _ _ _ _ _ _ _ _ _ _) ?_); rw [← HE.out, ← HWF.out]))
          refine CE.out.mono ?_
          rintro e wG ⟨rfl, hbG⟩
          have C1 := Lib.hid (SigSame 0 [] [] (fun c h => by cases h) (fun c h => by cases h) 0 0 rfl rfl none none none none 0 0 0 0 0 0 0 0 wG Rd.nil Rd.nil Rd.nil Rd.nil (by omega) (by omega))
          have GGG := Lib.hid ((hbG.block G (lt_of_heap GGF.out)).trans GGF.out)
          have GEG := Lib.hid ((hbG.block E (lt_of_heap GEF.out)).trans GEF.out)
          have HOG := Lib.hid (HOF.out.below hbG (Nat.le_trans hBW1 HOF.out.size))
          have HYG := Lib.hid (HYF.out.below hbG)
          clear hbG CE HWF HE HOF HYF GGF GEF HGF
          go_wp2_with (first
            | (refine ld_sigM rfl (.tmp 135) rfl E 3 (by rfl) (.int .i64 0) (.slice none 0 0) (.slice none 0 0) (dbl_low GEG.out) ?_)
            | (refine ld_sigM rfl (.tmp 137) rfl G 3 (by rfl) (.int .i64 0) (.slice none 0 0) (.slice none 0 0) (dbl_low GGG.out) ?_))
          refine C1.out.mono ?_
          rintro e wH ⟨rfl, hbH⟩
          have C2 := Lib.hid (SigSame 0 [] [] (fun c h => by cases h) (fun c h => by cases h) 0 0 rfl rfl none none none none 0 0 0 0 0 0 0 0 wH Rd.nil Rd.nil Rd.nil Rd.nil (by omega) (by omega))
          have GGH := Lib.hid ((hbH.block G (lt_of_heap GGG.out)).trans GGG.out)
          have GEH := Lib.hid ((hbH.block E (lt_of_heap GEG.out)).trans GEG.out)
          have HOH := Lib.hid (HOG.out.below hbH (Nat.le_trans hBW1 HOG.out.size))
          have HYH := Lib.hid (HYG.out.below hbH)
          clear hbH C1 HOG HYG GGG GEG
          go_wp2_with (first
            | (refine ld_sigM rfl (.tmp 140) rfl E 0 (by rfl) (.int .i64 0) (.slice none 0 0) (.slice none 0 0) (dbl_up GEH.out) ?_)
            | (refine ld_sigM rfl (.tmp 142) rfl G 0 (by rfl) (.int .i64 0) (.slice none 0 0) (.slice none 0 0) (dbl_up GGH.out) ?_))
          refine C2.out.mono ?_
          rintro e wI ⟨rfl, hbI⟩
          have HOI := Lib.hid (HOH.out.below hbI (Nat.le_trans hBW1 HOH.out.size))
          have HYI := Lib.hid (show HyAt wI X B x0 h N (min (k + 1) NN) by rw [HM.out, HNN.out]; exact HYH.out.below hbI)
          clear hbI C2 HOH HYH GGH GEH
          go_wp2_with fail
          go_roundw
          case rel => exact ⟨k + 1, by omega, by go_num, HYI, HOI⟩
          case measure => simp [intOf]; omega
      · obtain rfl : k = x2.length := by omega
        clear hlt
        have B100 := BWA
        have GM_100 := Lib.hid (HOA.out.2 M _ _ _ GMZ.out (by decide) (by decide))
        have GDB_100 := Lib.hid (HOA.out.2 DB _ _ _ GDZ.out (by decide) (by decide))
        have GV_100 := Lib.hid (HOA.out.2 V _ _ _ GVZ.out (by decide) (by decide))
        have LM_100 := Lib.hid (lt_of_heap GM_100.out)
        have LDB_100 := Lib.hid (lt_of_heap GDB_100.out)
        have LV_100 := Lib.hid (lt_of_heap GV_100.out)
        have RUw_100 := Lib.hid (US4.out.2.2.2.below BWA.out)
        have RVw_100 := Lib.hid (VS4.out.2.2.2.below BWA.out)
        have RSw_100 := Lib.hid (SS4.out.2.2.2.below BWA.out)
        have RQw_100 := Lib.hid (QS4.out.2.2.2.below BWA.out)
        clear HYA HOA HYZ
        obtain ⟨w101, hw101⟩ : ∃ z, z = wA.setRow V (dV Z) := ⟨_, rfl⟩
        have B101 := Lib.hid (show Below w.heap.size w w101 by rw [hw101]; exact below_setRowW B100.out HVB.out _)
        have GV_101 := Lib.hid (show w101.heap[V]? = some (.cells (dV Z) 23 (0, 0)) by rw [hw101]; exact setRow_heap _ _ _ _ _ _ GV_100.out)
        have GM_101 := Lib.hid (show w101.heap[M]? = some (.cells (dV x3) 23 (0, 0)) by rw [hw101]; exact (_root_.Go.setRow_other _ _ _ _ hMV).trans GM_100.out)
        have GDB_101 := Lib.hid (show w101.heap[DB]? = some (.cells #[.int .i64 fu4, .slice usa4 ul usc4, .slice vsa4 vl vsc4, .int .i64 fl4, .slice ssa4 sl ssc4, .slice qsa4 ql qsc4] 28 (0, 0)) by rw [hw101]; exact (Only.setRow _ _ _).blk GV_100.out GDB_100.out (by decide))
        have LM_101 := Lib.hid (lt_of_heap GM_101.out)
        have LDB_101 := Lib.hid (lt_of_heap GDB_101.out)
        have LV_101 := Lib.hid (lt_of_heap GV_101.out)
        have Hw101 := Lib.hid hw101
        clear hw101
        obtain ⟨f1, hf1⟩ : ∃ z, z = sfault N sl fl4 ql := ⟨_, rfl⟩
        have HF1 := Lib.hid hf1
        clear hf1
        have CF1 := Lib.hid (RSFault_calls N (by omega) (by omega) fl4 HFL.out ssa4 qsa4 sl ssc4 ql qsc4 HSB.out HQB.out w101)
        rw [← HF1.out] at CF1
        go_wp2_with (first
          | (refine wpl_zero rfl rfl Z HZ.out ?_)
          | (refine at_st 23 (.tmp 13) (.tmp 155) rfl ?_; (refine st_row rfl (.tmp 13) (.tmp 155) rfl V Z ZL.out (by rfl) (by rfl) (dV R) (dV_size RL.out) _ GV_100.out ?_); rw [← Hw101.out])
          | (refine ld_sigM rfl (.tmp 158) rfl DB 3 (by rfl) (.int .i64 fl4) (.slice ssa4 sl ssc4) (.slice qsa4 ql qsc4) (dbl_low GDB_101.out) ?_))
        refine (CF1.out).mono ?_
        rintro e w102 ⟨rfl, hb102⟩
        have B102 := Lib.hid (show Below w.heap.size w w102 from Below.trans B101.out (Below.mono hb102 (Below.size B101.out)))
        have GM_102 := Lib.hid ((Below.block hb102 M LM_101.out).trans GM_101.out)
        have LM_102 := Lib.hid (Nat.lt_of_lt_of_le LM_101.out (Below.size hb102))
        have GDB_102 := Lib.hid ((Below.block hb102 DB LDB_101.out).trans GDB_101.out)
        have LDB_102 := Lib.hid (Nat.lt_of_lt_of_le LDB_101.out (Below.size hb102))
        have GV_102 := Lib.hid ((Below.block hb102 V LV_101.out).trans GV_101.out)
        have LV_102 := Lib.hid (Nat.lt_of_lt_of_le LV_101.out (Below.size hb102))
        clear CF1
        clear hb102
        by_cases hn1 : f1 = 0
        · subst hn1
          obtain ⟨f2, hf2⟩ : ∃ z, z = sfault N ul fu4 vl := ⟨_, rfl⟩
          have HF2 := Lib.hid hf2
          clear hf2
          have CF2 := Lib.hid (RSFault_calls N (by omega) (by omega) fu4 HFU.out usa4 vsa4 ul usc4 vl vsc4 HUB.out HVLB.out w102)
          rw [← HF2.out] at CF2
          go_wp2_with (first
            | (refine ld_sigM rfl (.tmp 164) rfl DB 0 (by rfl) (.int .i64 fu4) (.slice usa4 ul usc4) (.slice vsa4 vl vsc4) (dbl_up GDB_102.out) ?_))
          refine (CF2.out).mono ?_
          rintro e w103 ⟨rfl, hb103⟩
          have B103 := Lib.hid (show Below w.heap.size w w103 from Below.trans B102.out (Below.mono hb103 (Below.size B102.out)))
          have GM_103 := Lib.hid ((Below.block hb103 M LM_102.out).trans GM_102.out)
          have LM_103 := Lib.hid (Nat.lt_of_lt_of_le LM_102.out (Below.size hb103))
          have GDB_103 := Lib.hid ((Below.block hb103 DB LDB_102.out).trans GDB_102.out)
          have LDB_103 := Lib.hid (Nat.lt_of_lt_of_le LDB_102.out (Below.size hb103))
          have GV_103 := Lib.hid ((Below.block hb103 V LV_102.out).trans GV_102.out)
          have LV_103 := Lib.hid (Nat.lt_of_lt_of_le LV_102.out (Below.size hb103))
          clear CF2
          clear hb103
          by_cases hn2 : f2 = 0
          · subst hn2
            go_upto_region 41 with fail
            obtain ⟨P1, hP1⟩ : ∃ z, z = sroot N x3 ss4 fl4 qs4 := ⟨_, rfl⟩
            have HP1 := Lib.hid hP1
            have P1L := Lib.hid (show P1.length = 32 by rw [hP1]; exact sroot_length _ _ _ _ _)
            obtain ⟨P2, hP2⟩ : ∃ z, z = sroot N P1 us4 fu4 vs4 := ⟨_, rfl⟩
            have HP2 := Lib.hid hP2
            have P2L := Lib.hid (show P2.length = 32 by rw [hP2]; exact sroot_length _ _ _ _ _)
            clear hP1 hP2
            have HIM := Lib.hid (show (Tryz.prog.info? 23).map (·.size) = some (x3.map vB).length by rw [List.length_map, ML.out]; exact dig_size)
            have KS : ∀ w' : World, Below w103.heap.size w103 w' → (w'.heap[M]? = some (.cells (dV x3) 23 (0, 0)) ∧ w'.heap[DB]? = some (.cells #[.int .i64 fu4, .slice usa4 ul usc4, .slice vsa4 vl vsc4, .int .i64 fl4, .slice ssa4 sl ssc4, .slice qsa4 ql qsc4] 28 (0, 0))) := fun w' hb => ⟨(hb.block M LM_103.out).trans GM_103.out, (hb.block DB LDB_103.out).trans GDB_103.out⟩
            have HKS := Lib.hid KS
            obtain ⟨wd, hwd⟩ : ∃ z, z = w103.drew := ⟨_, rfl⟩
            have BD_wd := Lib.hid (show Below w103.heap.size w103 wd by rw [hwd]; exact (Below.refl _ _).drew)
            refine wp_region_held_drew (S := fun w' => w'.heap[M]? = some (.cells (dV x3) 23 (0, 0)) ∧ w'.heap[DB]? = some (.cells #[.int .i64 fu4, .slice usa4 ul usc4, .slice vsa4 vl vsc4, .int .i64 fl4, .slice ssa4 sl ssc4, .slice qsa4 ql qsc4] 28 (0, 0))) (by kernel_rfl) (by rw [← hwd]; exact KS wd BD_wd.out) (fun hHeld => ?_)
            rw [← hwd] at hHeld ⊢
            clear hwd KS
            refine wpAnyH_take (i := 0) (oi := _) (v := _) rfl (by kernel_rfl) (by kernel_rfl) (by kernel_rfl) (fun _ _ _ h => h) (yieldsIf_load_mid (by rfl) _ _ rfl _ _ rfl (x3.map vB) _ (fun w hw => range_of_row hw.1) Tryz.underlying23 rfl HIM.out) hHeld ?_
            simp only [Act.put, List.getElem_toArray, List.getElem_cons_zero, List.getElem_cons_succ, List.setIfInBounds_toArray, List.set_cons_zero, List.set_cons_succ]
            refine wpAnyH_take (i := 1) (oi := _) (v := .pointer (some ⟨DB, 3, none⟩)) rfl (by kernel_rfl) (by kernel_rfl) (by kernel_rfl) (fun _ _ _ h => h) (Or.inl ⟨by rfl, fun w hw => by go_simp⟩) hHeld ?_
            simp only [Act.put, List.getElem_toArray, List.getElem_cons_zero, List.getElem_cons_succ, List.setIfInBounds_toArray, List.set_cons_zero, List.set_cons_succ]
            refine wpAnyH_take (i := 2) (oi := _) (v := _) rfl (by kernel_rfl) (by kernel_rfl) (by kernel_rfl) (fun _ _ _ h => h) (yieldsIf_load_mid (by rfl) _ _ rfl _ _ rfl [.int .i64 fl4, .slice ssa4 sl ssc4, .slice qsa4 ql qsc4] _ (fun w hw => dbl_low hw.2) Tryz.underlying26 rfl (info_sig _ _ _)) hHeld ?_
            simp only [Act.put, List.getElem_toArray, List.getElem_cons_zero, List.getElem_cons_succ, List.setIfInBounds_toArray, List.set_cons_zero, List.set_cons_succ]
            refine wpAnyH_take (i := 3) (oi := _) (v := .int .i64 (N : Int)) rfl (by kernel_rfl) (by kernel_rfl) (by kernel_rfl) (fun _ _ _ h => h) (Or.inl ⟨by rfl, fun w hw => by go_simp⟩) hHeld ?_
            simp only [Act.put, List.getElem_toArray, List.getElem_cons_zero, List.getElem_cons_succ, List.setIfInBounds_toArray, List.set_cons_zero, List.set_cons_succ]
            refine wpAnyH_take (i := 5) (oi := _) (v := .pointer (some ⟨DB, 0, none⟩)) rfl (by kernel_rfl) (by kernel_rfl) (by kernel_rfl) (fun _ _ _ h => h) (Or.inl ⟨by rfl, fun w hw => by go_simp⟩) hHeld ?_
            simp only [Act.put, List.getElem_toArray, List.getElem_cons_zero, List.getElem_cons_succ, List.setIfInBounds_toArray, List.set_cons_zero, List.set_cons_succ]
            refine wpAnyH_take (i := 6) (oi := _) (v := _) rfl (by kernel_rfl) (by kernel_rfl) (by kernel_rfl) (fun _ _ _ h => h) (yieldsIf_load_mid (by rfl) _ _ rfl _ _ rfl [.int .i64 fu4, .slice usa4 ul usc4, .slice vsa4 vl vsc4] _ (fun w hw => dbl_up hw.2) Tryz.underlying26 rfl (info_sig _ _ _)) hHeld ?_
            simp only [Act.put, List.getElem_toArray, List.getElem_cons_zero, List.getElem_cons_succ, List.setIfInBounds_toArray, List.set_cons_zero, List.set_cons_succ]
            refine wpAnyH_take (i := 7) (oi := _) (v := .int .i64 (N : Int)) rfl (by kernel_rfl) (by kernel_rfl) (by kernel_rfl) (fun _ _ _ h => h) (Or.inl ⟨by rfl, fun w hw => by go_simp⟩) hHeld ?_
            simp only [Act.put, List.getElem_toArray, List.getElem_cons_zero, List.getElem_cons_succ, List.setIfInBounds_toArray, List.set_cons_zero, List.set_cons_succ]
            refine wpAnyH_ready (rs := [4]) (by kernel_rfl) (by simp) ?_
            refine AllReadyH.cons (o := _) rfl (fun K hK => ?_) AllReadyH.nil
            have HK := Lib.hid hK
            clear hK
            go_simp
            go_at_call 15
            refine (SRootZ x3 ML.out N (by omega) ss4 qs4 SS4.out.2.2.1 QS4.out.2.2.1 fl4 sl ql SSL.out QL.out HF1.out.symm P1 HP1.out ssa4 qsa4 ssc4 qsc4 _ _ (by rw [QL.out]; exact QS4.out.1) QS4.out.2.1 wd (SS4.out.2.2.2.below (Below.trans B103.out (BD_wd.out.mono (Below.size B103.out)))) (QS4.out.2.2.2.below (Below.trans B103.out (BD_wd.out.mono (Below.size B103.out))))).mono ?_
            rintro e we ⟨rfl, hb⟩
            have BD_we := Lib.hid (show Below w103.heap.size w103 we from BD_wd.out.trans (hb.mono BD_wd.out.size))
            clear hb
            dsimp only
            refine HK.out _ _ (HKS.out we BD_we.out) ?_
            clear HK K hHeld
            try simp only [Act.put, List.getElem_toArray, List.getElem_cons_zero, List.getElem_cons_succ, List.setIfInBounds_toArray, List.set_cons_zero, List.set_cons_succ]
            intro hHeld
            refine wpAnyH_ready (rs := [8]) (by kernel_rfl) (by simp) ?_
            refine AllReadyH.cons (o := _) rfl (fun K hK => ?_) AllReadyH.nil
            have HK := Lib.hid hK
            clear hK
            go_simp
            go_at_call 15
            refine (SRootZ P1 P1L.out N (by omega) us4 vs4 US4.out.2.2.1 VS4.out.2.2.1 fu4 ul vl UL.out VL.out HF2.out.symm P2 HP2.out usa4 vsa4 usc4 vsc4 _ _ (by rw [VL.out]; exact VS4.out.1) VS4.out.2.1 we (US4.out.2.2.2.below (Below.trans B103.out (BD_we.out.mono (Below.size B103.out)))) (VS4.out.2.2.2.below (Below.trans B103.out (BD_we.out.mono (Below.size B103.out))))).mono ?_
            rintro e wf ⟨rfl, hb⟩
            have BD_wf := Lib.hid (show Below w103.heap.size w103 wf from BD_we.out.trans (hb.mono BD_we.out.size))
            clear hb
            dsimp only
            refine HK.out _ _ (HKS.out wf BD_wf.out) ?_
            clear HK K hHeld
            try simp only [Act.put, List.getElem_toArray, List.getElem_cons_zero, List.getElem_cons_succ, List.setIfInBounds_toArray, List.set_cons_zero, List.set_cons_succ]
            intro hHeld
            have hst := BD_wf.out
            obtain ⟨w104, hwk⟩ : ∃ z, z = wf := ⟨_, rfl⟩
            have hbk : Below w103.heap.size w103 w104 := by rw [hwk]; exact BD_wf.out
            have hHeld2 := hHeld
            rw [← hwk] at hHeld2 ⊢
            have B104 := Lib.hid (show Below w.heap.size w w104 from Below.trans B103.out (Below.mono hbk (Below.size B103.out)))
            have GM_104 := Lib.hid ((Below.block hbk M LM_103.out).trans GM_103.out)
            have LM_104 := Lib.hid (Nat.lt_of_lt_of_le LM_103.out (Below.size hbk))
            have GDB_104 := Lib.hid ((Below.block hbk DB LDB_103.out).trans GDB_103.out)
            have LDB_104 := Lib.hid (Nat.lt_of_lt_of_le LDB_103.out (Below.size hbk))
            have GV_104 := Lib.hid ((Below.block hbk V LV_103.out).trans GV_103.out)
            have LV_104 := Lib.hid (Nat.lt_of_lt_of_le LV_103.out (Below.size hbk))
            clear hwk hbk hHeld
            have hHeld := hHeld2
            clear hHeld2
            obtain ⟨w105, hw105⟩ : ∃ z, z = w104.setRow V (dV P2) := ⟨_, rfl⟩
            have B105 := Lib.hid (show Below w.heap.size w w105 by rw [hw105]; exact below_setRowW B104.out HVB.out _)
            have GV_105 := Lib.hid (show w105.heap[V]? = some (.cells (dV P2) 23 (0, 0)) by rw [hw105]; exact setRow_heap _ _ _ _ _ _ GV_104.out)
            have GM_105 := Lib.hid (show w105.heap[M]? = some (.cells (dV x3) 23 (0, 0)) by rw [hw105]; exact (_root_.Go.setRow_other _ _ _ _ hMV).trans GM_104.out)
            have GDB_105 := Lib.hid (show w105.heap[DB]? = some (.cells #[.int .i64 fu4, .slice usa4 ul usc4, .slice vsa4 vl vsc4, .int .i64 fl4, .slice ssa4 sl ssc4, .slice qsa4 ql qsc4] 28 (0, 0)) by rw [hw105]; exact (Only.setRow _ _ _).blk GV_104.out GDB_104.out (by decide))
            have LM_105 := Lib.hid (lt_of_heap GM_105.out)
            have LDB_105 := Lib.hid (lt_of_heap GDB_105.out)
            have LV_105 := Lib.hid (lt_of_heap GV_105.out)
            have Hw105 := Lib.hid hw105
            clear hw105
            refine wpAnyH_ready (rs := [9]) (by kernel_rfl) (by simp) ?_
            refine AllReadyH.cons (o := _) rfl (fun K hK => ?_) AllReadyH.nil
            have HK := Lib.hid hK
            clear hK
            rw [if_pos (by rfl)]
            refine wp_store_row _ _ _ rfl V (dV P2) (by rfl) (by rfl) _ (dV Z) GV_104.out (by rw [dV_size P2L.out]; exact dig_size) (by rw [dV_size P2L.out, dV_size ZL.out]) (dV_one _) ?_
            rw [← Hw105.out]
            refine HK.out _ _ ⟨GM_105.out, GDB_105.out⟩ ?_
            clear HK K hHeld
            try simp only [Act.put, List.getElem_toArray, List.getElem_cons_zero, List.getElem_cons_succ, List.setIfInBounds_toArray, List.set_cons_zero, List.set_cons_succ]
            intro hHeld
            refine wpAnyH_done (by kernel_rfl) ?_ _
            clear hHeld HKS
            have HHF := Lib.hid (show hfault N ul fu4 vl sl fl4 ql = 0 by unfold hfault; rw [← HF1.out, ← HF2.out, if_neg (by simp)])
            have HHR := Lib.hid (show hroot N x3 us4 fu4 vs4 ss4 fl4 qs4 = P2 by rw [HP2.out, HP1.out]; exact hroot_ok (by rw [← SSL.out, ← QL.out]; exact HF1.out.symm))
            have HRC := Lib.hid (HRec_any x3 ML.out h N HP3.out fu4 fl4 us4 vs4 ss4 qs4 usa4 vsa4 ssa4 qsa4 ul usc4 vl vsc4 sl ssc4 ql qsc4 _ _ _ _ HFU.out HFL.out US4.out.2.2.1 VS4.out.2.2.1 SS4.out.2.2.1 QS4.out.2.2.1 UL.out VL.out SSL.out QL.out w105 ((US4.out.2.2.2).below B105.out) ((VS4.out.2.2.2).below B105.out) ((SS4.out.2.2.2).below B105.out) ((QS4.out.2.2.2).below B105.out) (RO.out.at_ B105.out))
            rw [HHF.out, HHR.out] at HRC
            go_wp2_with (first
              | (refine at_ld 23 (.tmp 8) rfl ?_; (refine ld_digG rfl (.tmp 8) rfl (M) 0 (by rfl) x3 ML.out (range_of_row GM_105.out) ?_); simp only [Act.put, List.setIfInBounds_toArray, List.set_cons_zero, List.set_cons_succ])
              | (refine ld_dbl rfl (.tmp 9) rfl DB (by rfl) _ _ _ _ _ _ _ _ GDB_105.out ?_))
            refine (HRC.out).mono ?_
            rintro e w106 ⟨rfl, hb106⟩
            have B106 := Lib.hid (show Below w.heap.size w w106 from Below.trans B105.out (Below.mono hb106 (Below.size B105.out)))
            have GM_106 := Lib.hid ((Below.block hb106 M LM_105.out).trans GM_105.out)
            have LM_106 := Lib.hid (Nat.lt_of_lt_of_le LM_105.out (Below.size hb106))
            have GDB_106 := Lib.hid ((Below.block hb106 DB LDB_105.out).trans GDB_105.out)
            have LDB_106 := Lib.hid (Nat.lt_of_lt_of_le LDB_105.out (Below.size hb106))
            have GV_106 := Lib.hid ((Below.block hb106 V LV_105.out).trans GV_105.out)
            have LV_106 := Lib.hid (Nat.lt_of_lt_of_le LV_105.out (Below.size hb106))
            clear HRC
            clear hb106
            obtain ⟨Y, hY⟩ : ∃ z, z = w106.heap.size := ⟨_, rfl⟩
            obtain ⟨w107, hw107⟩ : ∃ z, z = w106.alloc (.cells (dV P2) 23) := ⟨_, rfl⟩
            have st107 : Below w106.heap.size w106 w107 := by rw [hw107]; exact (Below.refl _ _).alloc (Nat.le_refl _) _
            have B107 := Lib.hid (show Below w.heap.size w w107 from Below.trans B106.out (Below.mono st107 (Below.size B106.out)))
            have GM_107 := Lib.hid ((Below.block st107 M LM_106.out).trans GM_106.out)
            have LM_107 := Lib.hid (Nat.lt_of_lt_of_le LM_106.out (Below.size st107))
            have GDB_107 := Lib.hid ((Below.block st107 DB LDB_106.out).trans GDB_106.out)
            have LDB_107 := Lib.hid (Nat.lt_of_lt_of_le LDB_106.out (Below.size st107))
            have GV_107 := Lib.hid ((Below.block st107 V LV_106.out).trans GV_106.out)
            have LV_107 := Lib.hid (Nat.lt_of_lt_of_le LV_106.out (Below.size st107))
            have GY_107 := Lib.hid (show w107.heap[Y]? = some (.cells (dV P2) 23 (0, 0)) by rw [hw107, hY]; exact heap_alloc_new _ _)
            have LY_107 := Lib.hid (lt_of_heap GY_107.out)
            have HY := Lib.hid hY
            have Hw107 := Lib.hid hw107
            clear hY hw107 st107
            go_wp2_with (first
              | (refine at_st 23 (.tmp 26) (.tmp 184) rfl ?_; (refine st_new rfl (.tmp 26) (.tmp 184) rfl P2 P2L.out (by rfl) _ _ (by rfl) (by rfl) ?_); rw [← HY.out, ← Hw107.out]))
            refine (ErrS_same (0) w107 (HG.out.at_ B107.out)).mono ?_
            rintro e w108 ⟨rfl, hb108⟩
            have B108 := Lib.hid (show Below w.heap.size w w108 from Below.trans B107.out (Below.mono hb108 (Below.size B107.out)))
            have GM_108 := Lib.hid ((Below.block hb108 M LM_107.out).trans GM_107.out)
            have LM_108 := Lib.hid (Nat.lt_of_lt_of_le LM_107.out (Below.size hb108))
            have GDB_108 := Lib.hid ((Below.block hb108 DB LDB_107.out).trans GDB_107.out)
            have LDB_108 := Lib.hid (Nat.lt_of_lt_of_le LDB_107.out (Below.size hb108))
            have GV_108 := Lib.hid ((Below.block hb108 V LV_107.out).trans GV_107.out)
            have LV_108 := Lib.hid (Nat.lt_of_lt_of_le LV_107.out (Below.size hb108))
            have GY_108 := Lib.hid ((Below.block hb108 Y LY_107.out).trans GY_107.out)
            have LY_108 := Lib.hid (Nat.lt_of_lt_of_le LY_107.out (Below.size hb108))
            clear hb108
            go_wp2_with (first
              | (refine at_ld 23 (.tmp 26) rfl ?_; (refine ld_digG rfl (.tmp 26) rfl (Y) 0 (by rfl) P2 P2L.out (range_of_row GY_108.out) ?_); simp only [Act.put, List.setIfInBounds_toArray, List.set_cons_zero, List.set_cons_succ])
              | (refine at_ld 23 (.tmp 13) rfl ?_; (refine ld_digG rfl (.tmp 13) rfl (V) 0 (by rfl) P2 P2L.out (range_of_row GV_108.out) ?_); simp only [Act.put, List.setIfInBounds_toArray, List.set_cons_zero, List.set_cons_succ])
              | (refine at_bin .eql 23 (.tmp 191) (.tmp 192) _ rfl ?_; (refine eq_digG rfl (.tmp 191) (.tmp 192) _ rfl P2 P2 (by rfl) (by rfl) P2L.out P2L.out ?_); rw [beq_self_eq_true]; simp only [Act.put, List.setIfInBounds_toArray, List.set_cons_zero, List.set_cons_succ]))
            go_ret
            exact ⟨by first | rfl | simp, B108.out⟩
          · have HN2 := Lib.hid hn2
            clear hn2
            have HHF := Lib.hid (show hfault N ul fu4 vl sl fl4 ql = f2 by unfold hfault; rw [← HF1.out, ← HF2.out, if_neg (by simp)])
            have HHR := Lib.hid (show hroot N x3 us4 fu4 vs4 ss4 fl4 qs4 = Z by rw [HZ.out]; exact hroot_zero (by rw [← UL.out, ← VL.out, ← SSL.out, ← QL.out, HHF.out]; exact HN2.out))
            have y1 : (f2 == 0) = false := by simpa using HN2.out
            have y2 : decide (f2 = 0) = false := decide_eq_false HN2.out
            have HRC := Lib.hid (HRec_any x3 ML.out h N HP3.out fu4 fl4 us4 vs4 ss4 qs4 usa4 vsa4 ssa4 qsa4 ul usc4 vl vsc4 sl ssc4 ql qsc4 _ _ _ _ HFU.out HFL.out US4.out.2.2.1 VS4.out.2.2.1 SS4.out.2.2.1 QS4.out.2.2.1 UL.out VL.out SSL.out QL.out w103 ((US4.out.2.2.2).below B103.out) ((VS4.out.2.2.2).below B103.out) ((SS4.out.2.2.2).below B103.out) ((QS4.out.2.2.2).below B103.out) (RO.out.at_ B103.out))
            rw [HHF.out, HHR.out] at HRC
            go_wp2_with (first
              | (refine at_ld 23 (.tmp 8) rfl ?_; (refine ld_digG rfl (.tmp 8) rfl (M) 0 (by rfl) x3 ML.out (range_of_row GM_103.out) ?_); simp only [Act.put, List.setIfInBounds_toArray, List.set_cons_zero, List.set_cons_succ])
              | (refine ld_dbl rfl (.tmp 9) rfl DB (by rfl) _ _ _ _ _ _ _ _ GDB_103.out ?_))
            refine (HRC.out).mono ?_
            rintro e w104 ⟨rfl, hb104⟩
            have B104 := Lib.hid (show Below w.heap.size w w104 from Below.trans B103.out (Below.mono hb104 (Below.size B103.out)))
            have GM_104 := Lib.hid ((Below.block hb104 M LM_103.out).trans GM_103.out)
            have LM_104 := Lib.hid (Nat.lt_of_lt_of_le LM_103.out (Below.size hb104))
            have GDB_104 := Lib.hid ((Below.block hb104 DB LDB_103.out).trans GDB_103.out)
            have LDB_104 := Lib.hid (Nat.lt_of_lt_of_le LDB_103.out (Below.size hb104))
            have GV_104 := Lib.hid ((Below.block hb104 V LV_103.out).trans GV_103.out)
            have LV_104 := Lib.hid (Nat.lt_of_lt_of_le LV_103.out (Below.size hb104))
            clear HRC
            clear hb104
            obtain ⟨Y, hY⟩ : ∃ z, z = w104.heap.size := ⟨_, rfl⟩
            obtain ⟨w105, hw105⟩ : ∃ z, z = w104.alloc (.cells (dV Z) 23) := ⟨_, rfl⟩
            have st105 : Below w104.heap.size w104 w105 := by rw [hw105]; exact (Below.refl _ _).alloc (Nat.le_refl _) _
            have B105 := Lib.hid (show Below w.heap.size w w105 from Below.trans B104.out (Below.mono st105 (Below.size B104.out)))
            have GM_105 := Lib.hid ((Below.block st105 M LM_104.out).trans GM_104.out)
            have LM_105 := Lib.hid (Nat.lt_of_lt_of_le LM_104.out (Below.size st105))
            have GDB_105 := Lib.hid ((Below.block st105 DB LDB_104.out).trans GDB_104.out)
            have LDB_105 := Lib.hid (Nat.lt_of_lt_of_le LDB_104.out (Below.size st105))
            have GV_105 := Lib.hid ((Below.block st105 V LV_104.out).trans GV_104.out)
            have LV_105 := Lib.hid (Nat.lt_of_lt_of_le LV_104.out (Below.size st105))
            have GY_105 := Lib.hid (show w105.heap[Y]? = some (.cells (dV Z) 23 (0, 0)) by rw [hw105, hY]; exact heap_alloc_new _ _)
            have LY_105 := Lib.hid (lt_of_heap GY_105.out)
            have HY := Lib.hid hY
            have Hw105 := Lib.hid hw105
            clear hY hw105 st105
            go_wp2_with (first
              | (refine at_st 23 (.tmp 26) (.tmp 184) rfl ?_; (refine st_new rfl (.tmp 26) (.tmp 184) rfl Z ZL.out (by rfl) _ _ (by rfl) (by rfl) ?_); rw [← HY.out, ← Hw105.out]))
            refine (ErrS_same (f2) w105 (HG.out.at_ B105.out)).mono ?_
            rintro e w106 ⟨rfl, hb106⟩
            have B106 := Lib.hid (show Below w.heap.size w w106 from Below.trans B105.out (Below.mono hb106 (Below.size B105.out)))
            have GM_106 := Lib.hid ((Below.block hb106 M LM_105.out).trans GM_105.out)
            have LM_106 := Lib.hid (Nat.lt_of_lt_of_le LM_105.out (Below.size hb106))
            have GDB_106 := Lib.hid ((Below.block hb106 DB LDB_105.out).trans GDB_105.out)
            have LDB_106 := Lib.hid (Nat.lt_of_lt_of_le LDB_105.out (Below.size hb106))
            have GV_106 := Lib.hid ((Below.block hb106 V LV_105.out).trans GV_105.out)
            have LV_106 := Lib.hid (Nat.lt_of_lt_of_le LV_105.out (Below.size hb106))
            have GY_106 := Lib.hid ((Below.block hb106 Y LY_105.out).trans GY_105.out)
            have LY_106 := Lib.hid (Nat.lt_of_lt_of_le LY_105.out (Below.size hb106))
            clear hb106
            go_wp2_with (first
              | (refine at_ld 23 (.tmp 26) rfl ?_; (refine ld_digG rfl (.tmp 26) rfl (Y) 0 (by rfl) Z ZL.out (range_of_row GY_106.out) ?_); simp only [Act.put, List.setIfInBounds_toArray, List.set_cons_zero, List.set_cons_succ])
              | (refine at_ld 23 (.tmp 13) rfl ?_; (refine ld_digG rfl (.tmp 13) rfl (V) 0 (by rfl) Z ZL.out (range_of_row GV_106.out) ?_); simp only [Act.put, List.setIfInBounds_toArray, List.set_cons_zero, List.set_cons_succ])
              | (refine at_bin .eql 23 (.tmp 191) (.tmp 192) _ rfl ?_; (refine eq_digG rfl (.tmp 191) (.tmp 192) _ rfl Z Z (by rfl) (by rfl) ZL.out ZL.out ?_); rw [beq_self_eq_true]; simp only [Act.put, List.setIfInBounds_toArray, List.set_cons_zero, List.set_cons_succ]))
            go_ret
            exact ⟨by first | rfl | simp, B106.out⟩
        · have HN1 := Lib.hid hn1
          clear hn1
          have HHF := Lib.hid (show hfault N ul fu4 vl sl fl4 ql = f1 by unfold hfault; rw [← HF1.out, if_pos HN1.out])
          have HHR := Lib.hid (show hroot N x3 us4 fu4 vs4 ss4 fl4 qs4 = Z by rw [HZ.out]; exact hroot_zero (by rw [← UL.out, ← VL.out, ← SSL.out, ← QL.out, HHF.out]; exact HN1.out))
          have y1 : (f1 == 0) = false := by simpa using HN1.out
          have y2 : decide (f1 = 0) = false := decide_eq_false HN1.out
          have HRC := Lib.hid (HRec_any x3 ML.out h N HP3.out fu4 fl4 us4 vs4 ss4 qs4 usa4 vsa4 ssa4 qsa4 ul usc4 vl vsc4 sl ssc4 ql qsc4 _ _ _ _ HFU.out HFL.out US4.out.2.2.1 VS4.out.2.2.1 SS4.out.2.2.1 QS4.out.2.2.1 UL.out VL.out SSL.out QL.out w102 ((US4.out.2.2.2).below B102.out) ((VS4.out.2.2.2).below B102.out) ((SS4.out.2.2.2).below B102.out) ((QS4.out.2.2.2).below B102.out) (RO.out.at_ B102.out))
          rw [HHF.out, HHR.out] at HRC
          go_wp2_with (first
            | (refine at_ld 23 (.tmp 8) rfl ?_; (refine ld_digG rfl (.tmp 8) rfl (M) 0 (by rfl) x3 ML.out (range_of_row GM_102.out) ?_); simp only [Act.put, List.setIfInBounds_toArray, List.set_cons_zero, List.set_cons_succ])
            | (refine ld_dbl rfl (.tmp 9) rfl DB (by rfl) _ _ _ _ _ _ _ _ GDB_102.out ?_))
          refine (HRC.out).mono ?_
          rintro e w103 ⟨rfl, hb103⟩
          have B103 := Lib.hid (show Below w.heap.size w w103 from Below.trans B102.out (Below.mono hb103 (Below.size B102.out)))
          have GM_103 := Lib.hid ((Below.block hb103 M LM_102.out).trans GM_102.out)
          have LM_103 := Lib.hid (Nat.lt_of_lt_of_le LM_102.out (Below.size hb103))
          have GDB_103 := Lib.hid ((Below.block hb103 DB LDB_102.out).trans GDB_102.out)
          have LDB_103 := Lib.hid (Nat.lt_of_lt_of_le LDB_102.out (Below.size hb103))
          have GV_103 := Lib.hid ((Below.block hb103 V LV_102.out).trans GV_102.out)
          have LV_103 := Lib.hid (Nat.lt_of_lt_of_le LV_102.out (Below.size hb103))
          clear HRC
          clear hb103
          obtain ⟨Y, hY⟩ : ∃ z, z = w103.heap.size := ⟨_, rfl⟩
          obtain ⟨w104, hw104⟩ : ∃ z, z = w103.alloc (.cells (dV Z) 23) := ⟨_, rfl⟩
          have st104 : Below w103.heap.size w103 w104 := by rw [hw104]; exact (Below.refl _ _).alloc (Nat.le_refl _) _
          have B104 := Lib.hid (show Below w.heap.size w w104 from Below.trans B103.out (Below.mono st104 (Below.size B103.out)))
          have GM_104 := Lib.hid ((Below.block st104 M LM_103.out).trans GM_103.out)
          have LM_104 := Lib.hid (Nat.lt_of_lt_of_le LM_103.out (Below.size st104))
          have GDB_104 := Lib.hid ((Below.block st104 DB LDB_103.out).trans GDB_103.out)
          have LDB_104 := Lib.hid (Nat.lt_of_lt_of_le LDB_103.out (Below.size st104))
          have GV_104 := Lib.hid ((Below.block st104 V LV_103.out).trans GV_103.out)
          have LV_104 := Lib.hid (Nat.lt_of_lt_of_le LV_103.out (Below.size st104))
          have GY_104 := Lib.hid (show w104.heap[Y]? = some (.cells (dV Z) 23 (0, 0)) by rw [hw104, hY]; exact heap_alloc_new _ _)
          have LY_104 := Lib.hid (lt_of_heap GY_104.out)
          have HY := Lib.hid hY
          have Hw104 := Lib.hid hw104
          clear hY hw104 st104
          go_wp2_with (first
            | (refine at_st 23 (.tmp 26) (.tmp 184) rfl ?_; (refine st_new rfl (.tmp 26) (.tmp 184) rfl Z ZL.out (by rfl) _ _ (by rfl) (by rfl) ?_); rw [← HY.out, ← Hw104.out]))
          refine (ErrS_same (f1) w104 (HG.out.at_ B104.out)).mono ?_
          rintro e w105 ⟨rfl, hb105⟩
          have B105 := Lib.hid (show Below w.heap.size w w105 from Below.trans B104.out (Below.mono hb105 (Below.size B104.out)))
          have GM_105 := Lib.hid ((Below.block hb105 M LM_104.out).trans GM_104.out)
          have LM_105 := Lib.hid (Nat.lt_of_lt_of_le LM_104.out (Below.size hb105))
          have GDB_105 := Lib.hid ((Below.block hb105 DB LDB_104.out).trans GDB_104.out)
          have LDB_105 := Lib.hid (Nat.lt_of_lt_of_le LDB_104.out (Below.size hb105))
          have GV_105 := Lib.hid ((Below.block hb105 V LV_104.out).trans GV_104.out)
          have LV_105 := Lib.hid (Nat.lt_of_lt_of_le LV_104.out (Below.size hb105))
          have GY_105 := Lib.hid ((Below.block hb105 Y LY_104.out).trans GY_104.out)
          have LY_105 := Lib.hid (Nat.lt_of_lt_of_le LY_104.out (Below.size hb105))
          clear hb105
          go_wp2_with (first
            | (refine at_ld 23 (.tmp 26) rfl ?_; (refine ld_digG rfl (.tmp 26) rfl (Y) 0 (by rfl) Z ZL.out (range_of_row GY_105.out) ?_); simp only [Act.put, List.setIfInBounds_toArray, List.set_cons_zero, List.set_cons_succ])
            | (refine at_ld 23 (.tmp 13) rfl ?_; (refine ld_digG rfl (.tmp 13) rfl (V) 0 (by rfl) Z ZL.out (range_of_row GV_105.out) ?_); simp only [Act.put, List.setIfInBounds_toArray, List.set_cons_zero, List.set_cons_succ])
            | (refine at_bin .eql 23 (.tmp 191) (.tmp 192) _ rfl ?_; (refine eq_digG rfl (.tmp 191) (.tmp 192) _ rfl Z Z (by rfl) (by rfl) ZL.out ZL.out ?_); rw [beq_self_eq_true]; simp only [Act.put, List.setIfInBounds_toArray, List.set_cons_zero, List.set_cons_succ]))
          go_ret
          exact ⟨by first | rfl | simp, B105.out⟩
end hyperTells
end Go.Proofs.YtkioddmhjbaleaaGreatDoor
