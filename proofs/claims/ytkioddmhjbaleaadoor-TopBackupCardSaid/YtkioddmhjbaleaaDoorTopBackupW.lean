/- The walk of TopBackup: what the statement's function answers. -/
import Derived.Test.YtkioddmhjbaleaaDoorStampL
import Derived.Test.YtkioddmhjbaleaaDoorShareB
import Derived.Test.YtkioddmhjbaleaaDoorLaidR
import Derived.WalkKit
import Derived.StillTailTactics
import Derived.Deep.RegionHeld3
import Derived.Laws.OwnMore
import Derived.BigQuiet
import Derived.Below
namespace Go.Proofs.YtkioddmhjbaleaaDoor
open Go.RowKit
set_option linter.unusedVariables false
set_option linter.unusedSimpArgs false
namespace topBackup
theorem PubBad (Z : List UInt8) (hZ : Z = nz) (seed : List UInt8) (hs : seed.length = 32) (h : Int) (hh : h < 0 ∨ 4 < h) (w : World) :
    Calls Tryd.prog 10 #[.agg (dV seed), .int .i64 h] w fun e w' => e = .returned (.tuple #[.agg (dV Z), .iface 41 (.int .i64 2)]) ∧ Below w.heap.size w w' := by
  subst hZ; exact SPublic_bad seed hs h hh w
theorem Left_z (seed : List UInt8) (hs : seed.length = 32) (P n nx d : Nat) (hd : d + nx = n) (hn : n ≤ 256) (w : World) (h : StampAt w P seed n nx) : Calls Tryd.prog 21 #[.pointer (some ⟨P, 0, none⟩)] w fun e w' => e = .returned (.int .i64 (d : Int)) ∧ Below w.heap.size w w' := by
  have := Left_calls seed hs P n nx hn (by omega) w h
  rw [show n - nx = d by omega] at this
  exact this
theorem stepDig {ops : Array Oper} {o : Oper} {a : Act} {w : World} {K : Act → World → Prop} {Q : Exit → Act → World → Prop} {E : Prop} (hgd : o.guard = none) (x y : Operand) (ho : o.op = .store 23 x y) (g : Nat) (d : List UInt8) (hl : d.length = 32) (hx : a.eval x = .pointer (some ⟨g, 0, none⟩)) (hy : a.eval y = .agg (dV d)) (old : Array Value) (hold : old.size = 32) (t : TypeId) (hg : w.heap[g]? = some (.cells old t (0, 0)))
    (h : K (a.put o.dst undef) (w.setRow g (dV d))) : if Region.wanted o (yielded ops a.tmps) = true then Oper.wp Tryd.prog o a w K Q else E := by
  rw [if_pos (by unfold Region.wanted; rw [hgd])]
  exact wp_store_row _ x y ho g (dV d) hx hy t old hg (info_dV hl) (by rw [dV_size hl, hold]) (dV_one d) h
theorem range_keepS {w w' : World} {b o : Nat} {vs : List Value} (hb : Below w.heap.size w w') (h : w.rangeAt b o vs) (hl : b < w.heap.size) : w'.rangeAt b o vs :=
  fun j v hj => (hb.cell (p := ⟨b, o + j, none⟩) hl).trans (h j v hj)
theorem range_sig {w : World} {X : Nat} {u v z : Value} {t : TypeId} {fr : Nat × Nat} (h : w.heap[X]? = some (.cells #[u, v, z] t fr)) : w.rangeAt X 0 [u, v, z] := fun j v hj => by
  rw [Nat.zero_add, cell_of_row w X j _ t fr h]; simpa using hj
theorem RecOwn (x0 D R : List UInt8) (hD : D.length = 32) (h n m : Nat) (hh : h ≤ 4) (hn : n = 2 ^ h) (hm : m < n) (hR : R = troot (leavesK x0 n)) (sa pa : Option Addr) (sc pc e0 e1 : Nat) (w : World) (hr : Rd w sa e0 ((wsig (skey x0 m) D).flatten.map vB)) (hp : Rd w pa e1 ((tpath (leavesK x0 n) m).flatten.map vB)) (hro : RoundsAt w) :
    Calls Tryd.prog 12 #[.agg (dV D), .int .i64 (h : Int), .agg #[.int .i64 (m : Int), .slice sa 67 sc, .slice pa (tlong m n) pc]] w fun e w' => e = .returned (.tuple #[.agg (dV R), .nilIface]) ∧ Below w.heap.size w w' := by
  have hl : (tpath (leavesK x0 n) m).length = tlong m n := by
    have := tpath_long _ (leavesK x0 n) m (Nat.le_refl _)
    rwa [leavesK_length] at this
  have hf : tfold (wpub (skey x0 m)) m n (tpath (leavesK x0 n) m) = R := by
    have := tfold_path _ (leavesK x0 n) m _ (leavesK_get x0 n m hm) (Nat.le_refl _)
    rw [leavesK_length] at this
    rw [this, hR]
  have := Recover_z D hD (wsig (skey x0 m) D) (wsig_dig _ _) (wsig_length _ _) h h rfl hh n hn m m rfl hm sa pa sc (tlong m n) pc e0 e1 (tpath (leavesK x0 n) m) (tpath_dig _ _ _ (Nat.le_refl _) (leavesK_dig _ _)) hl hl.symm w hr hp hro
  rw [wkey_sig, hf] at this
  exact this
/-- the first k bytes, and zeros -/
def copyK (x : List UInt8) (k : Nat) : List UInt8 := (List.range 32).map fun i => if i < k then x.getD i 0 else 0
theorem copyK_zero (x : List UInt8) : copyK x 0 = nz := by unfold copyK; simp only [Nat.not_lt_zero, if_false]; rfl
theorem copyK_length (x : List UInt8) (k : Nat) : (copyK x k).length = 32 := by simp [copyK]
theorem copyK_set (x : List UInt8) (k : Nat) : (copyK x k).set k (x.getD k 0) = copyK x (k + 1) := by
  refine List.ext_getElem (by simp [copyK]) fun i h1 h2 => ?_
  rw [List.getElem_set]
  by_cases h : k = i
  · subst h
    simp [copyK]
  · rw [if_neg h]
    simp only [copyK, List.getElem_map, List.getElem_range]
    by_cases h3 : i < k
    · rw [if_pos h3, if_pos (by omega)]
    · rw [if_neg h3, if_neg (by omega)]
theorem copyK_all (x : List UInt8) (hx : x.length = 32) : copyK x 32 = x := by
  refine List.ext_getElem (by simp [copyK, hx]) fun i h1 h2 => ?_
  simp only [copyK, List.getElem_map, List.getElem_range]
  rw [if_pos (by simpa [copyK] using h1), List.getD_eq_getElem?_getD, List.getElem?_eq_getElem h2]; rfl
theorem Join_fact (w : World) : Calls Tryd.prog 32 #[.slice (some ⟨w.heap.size + 1, 0, none⟩) 1 1] ((w.alloc (.cells #[.int .u8 9] 5)).alloc (.cells #[.int .u8 3, .slice (some ⟨w.heap.size, 0, none⟩) 1 1] 71)) fun e w' => ∃ a c, e = .returned (.tuple #[.slice a 1 c, .nilIface]) ∧ Below w.heap.size w w' := by
  have hj : joinOf [⟨3, [9]⟩] = [9] := by kernel_rfl
  have hf : sharesF 1 255 [⟨3, [9]⟩] 1 = 0 := by kernel_rfl
  obtain ⟨w1, hw1⟩ : ∃ z, z = w.alloc (.cells #[.int .u8 9] 5) := ⟨_, rfl⟩
  have b1 : Below w.heap.size w w1 := by rw [hw1]; exact (Below.refl _ _).alloc (Nat.le_refl _) _
  have s1 : w1.heap.size = w.heap.size + 1 := by rw [hw1]; exact World.size_alloc _ _
  have g1 : w1.heap[w.heap.size]? = some (.cells #[.int .u8 9] 5 (0, 0)) := by rw [hw1]; exact heap_alloc_new _ _
  rw [← hw1, ← s1]
  obtain ⟨wf, hwf⟩ : ∃ z, z = w1.alloc (.cells #[.int .u8 3, .slice (some ⟨w.heap.size, 0, none⟩) 1 1] 71) := ⟨_, rfl⟩
  have b2 : Below w1.heap.size w1 wf := by rw [hwf]; exact (Below.refl _ _).alloc (Nat.le_refl _) _
  have gC : wf.heap[w1.heap.size]? = some (.cells #[.int .u8 3, .slice (some ⟨w.heap.size, 0, none⟩) 1 1] 71 (0, 0)) := by rw [hwf]; exact heap_alloc_new _ _
  have gB : wf.heap[w.heap.size]? = some (.cells #[.int .u8 9] 5 (0, 0)) := (b2.block _ (by omega)).trans g1
  rw [← hwf]
  have b3 : Below w.heap.size w wf := b1.trans (b2.mono (by omega))
  have JC := Join_calls [⟨3, [9]⟩] 1 1 (some ⟨w1.heap.size, 0, none⟩) 1 71 [.int .u8 3, .slice (some ⟨w.heap.size, 0, none⟩) 1 1] wf (.inr ⟨w1.heap.size, 0, _, _, rfl, gC, fun i hi => by simp⟩) ⟨rfl, fun i hi h1 h2 => by
    obtain rfl : i = 0 := by simp at hi; omega
    exact ⟨rfl, some ⟨w.heap.size, 0, none⟩, 1, 5, rfl, .inr ⟨w.heap.size, 0, _, _, rfl, gB, fun i hi => by
      obtain rfl : i = 0 := by simp at hi; omega
      rfl⟩, fun _ _ _ => trivial, by simp⟩⟩ (by decide) (by decide) (by decide) (by decide) (by decide) (by decide) rfl (by decide)
  refine JC.mono ?_
  rintro e w' ⟨hb, ⟨_, a, c, rfl, _⟩ | ⟨h, _⟩⟩
  · rw [hj]; exact ⟨a, c, rfl, b3.trans (hb.mono b3.size)⟩
  · exact absurd hf h
-- HOLE: the walk
set_option maxRecDepth 20000 in
set_option maxHeartbeats 16000000 in
theorem walk (x0 : List UInt8) (a1 a2 : Int) (x3 : List (List UInt8)) (a3 : Option Addr) (c3 e3 : Nat) (v3 : List Value) (x4 : List Int) (a4 : Option Addr) (c4 e4 : Nat) (x5 : List UInt8) (w : World) (n0 : x0.length = 32) (h1 : -9223372036854775808 ≤ a1 ∧ a1 ≤ 9223372036854775807) (h2 : -9223372036854775808 ≤ a2 ∧ a2 ≤ 9223372036854775807) (l3 : x3.length ≤ 9223372036854775807) (r3 : Rd w a3 e3 v3) (m3 : AreB (fun _ _ => True) w x3 v3) (l4 : x4.length ≤ 9223372036854775807) (n4 : ∀ n ∈ x4, -9223372036854775808 ≤ n ∧ n ≤ 9223372036854775807) (r4 : Rd w a4 e4 (x4.map vI)) (n5 : x5.length = 32) (hro : RoundsAt w) :
    Calls Tryd.prog 7 #[.agg (dV x0), .int .i64 a1, .int .i64 a2, .slice a3 x3.length c3, .slice a4 x4.length c4, .agg (dV x5)] w fun e w' => e = .returned (.bool true) ∧ Below w.heap.size w w' := by
  have SL := Lib.hid n0
  have ML := Lib.hid n5
  have RO := Lib.hid hro
  have R3 := Lib.hid r3
  have M3 := Lib.hid m3
  have R4 := Lib.hid r4
  have N4 := Lib.hid n4
  clear n0 n5 hro r3 m3 r4 n4
  obtain ⟨Z, hZ⟩ : ∃ Z, Z = nz := ⟨_, rfl⟩
  have ZL := Lib.hid (show Z.length = 32 by rw [hZ]; rfl)
  have HZ := Lib.hid hZ
  have ZT := Lib.hid (show (#[.int .u8 0, .int .u8 0, .int .u8 0, .int .u8 0, .int .u8 0, .int .u8 0, .int .u8 0, .int .u8 0, .int .u8 0, .int .u8 0, .int .u8 0, .int .u8 0, .int .u8 0, .int .u8 0, .int .u8 0, .int .u8 0, .int .u8 0, .int .u8 0, .int .u8 0, .int .u8 0, .int .u8 0, .int .u8 0, .int .u8 0, .int .u8 0, .int .u8 0, .int .u8 0, .int .u8 0, .int .u8 0, .int .u8 0, .int .u8 0, .int .u8 0, .int .u8 0] : Array Value) = dV Z by rw [hZ]; exact zdig)
  clear hZ
  by_cases hbad : a1 < 0 ∨ 4 < a1
  · have HBD := Lib.hid hbad
    rcases hbad with h1 | h1
    · obtain ⟨S, hS⟩ : ∃ z, z = w.heap.size := ⟨_, rfl⟩
      obtain ⟨w1, hw1⟩ : ∃ z, z = w.alloc (.cells (dV x0) 23) := ⟨_, rfl⟩
      have st1 : Below w.heap.size w w1 := by rw [hw1]; exact (Below.refl _ _).alloc (Nat.le_refl _) _
      have B1 := Lib.hid (show Below w.heap.size w w1 from Below.trans (Below.refl w.heap.size w) (Below.mono st1 (Below.size (Below.refl w.heap.size w))))
      have GS_1 := Lib.hid (show w1.heap[S]? = some (.cells (dV x0) 23 (0, 0)) by rw [hw1, hS]; exact heap_alloc_new _ _)
      have LS_1 := Lib.hid (lt_of_heap GS_1.out)
      have HS := Lib.hid hS
      have Hw1 := Lib.hid hw1
      clear hS hw1 st1
      have SZS := Lib.hid (show S = w.heap.size from HS.out)
      obtain ⟨M, hM⟩ : ∃ z, z = w1.heap.size := ⟨_, rfl⟩
      obtain ⟨w2, hw2⟩ : ∃ z, z = w1.alloc (.cells (dV x5) 23) := ⟨_, rfl⟩
      have st2 : Below w1.heap.size w1 w2 := by rw [hw2]; exact (Below.refl _ _).alloc (Nat.le_refl _) _
      have B2 := Lib.hid (show Below w.heap.size w w2 from Below.trans B1.out (Below.mono st2 (Below.size B1.out)))
      have GS_2 := Lib.hid ((Below.block st2 S LS_1.out).trans GS_1.out)
      have LS_2 := Lib.hid (Nat.lt_of_lt_of_le LS_1.out (Below.size st2))
      have GM_2 := Lib.hid (show w2.heap[M]? = some (.cells (dV x5) 23 (0, 0)) by rw [hw2, hM]; exact heap_alloc_new _ _)
      have LM_2 := Lib.hid (lt_of_heap GM_2.out)
      have HM := Lib.hid hM
      have Hw2 := Lib.hid hw2
      clear hM hw2 st2
      have SZM := Lib.hid (show M = w.heap.size + 1 by rw [HM.out, Hw1.out, World.size_alloc, ← HS.out, SZS.out])
      go_enter Tryd.func7, Tryd.ntmps7
      go_upto_region 1 with fail
      rw [← SZM.out, ← SZS.out, ← Hw1.out, ← Hw2.out]
      go_wp2_with (first
        | (refine at_ld 23 (.tmp 6) rfl ?_; (refine ld_digG rfl (.tmp 6) rfl (S) 0 (by rfl) x0 SL.out (range_of_row GS_2.out) ?_); simp only [Act.put, List.setIfInBounds_toArray, List.set_cons_zero, List.set_cons_succ]))
      refine (PubBad Z HZ.out x0 SL.out a1 HBD.out w2).mono ?_
      rintro e w3 ⟨rfl, hb3⟩
      have B3 := Lib.hid (show Below w.heap.size w w3 from Below.trans B2.out (Below.mono hb3 (Below.size B2.out)))
      have GS_3 := Lib.hid ((Below.block hb3 S LS_2.out).trans GS_2.out)
      have LS_3 := Lib.hid (Nat.lt_of_lt_of_le LS_2.out (Below.size hb3))
      have GM_3 := Lib.hid ((Below.block hb3 M LM_2.out).trans GM_2.out)
      have LM_3 := Lib.hid (Nat.lt_of_lt_of_le LM_2.out (Below.size hb3))
      clear hb3
      obtain ⟨Q, hQ⟩ : ∃ z, z = w3.heap.size := ⟨_, rfl⟩
      obtain ⟨w4, hw4⟩ : ∃ z, z = w3.alloc (.cells (dV Z) 23) := ⟨_, rfl⟩
      have st4 : Below w3.heap.size w3 w4 := by rw [hw4]; exact (Below.refl _ _).alloc (Nat.le_refl _) _
      have B4 := Lib.hid (show Below w.heap.size w w4 from Below.trans B3.out (Below.mono st4 (Below.size B3.out)))
      have GS_4 := Lib.hid ((Below.block st4 S LS_3.out).trans GS_3.out)
      have LS_4 := Lib.hid (Nat.lt_of_lt_of_le LS_3.out (Below.size st4))
      have GM_4 := Lib.hid ((Below.block st4 M LM_3.out).trans GM_3.out)
      have LM_4 := Lib.hid (Nat.lt_of_lt_of_le LM_3.out (Below.size st4))
      have GQ_4 := Lib.hid (show w4.heap[Q]? = some (.cells (dV Z) 23 (0, 0)) by rw [hw4, hQ]; exact heap_alloc_new _ _)
      have LQ_4 := Lib.hid (lt_of_heap GQ_4.out)
      have HQ := Lib.hid hQ
      have Hw4 := Lib.hid hw4
      clear hQ hw4 st4
      go_wp2_with (first
        | (refine at_st 23 (.tmp 13) (.tmp 34) rfl ?_; (refine st_new rfl (.tmp 13) (.tmp 34) rfl Z ZL.out (by rfl) _ _ (by rfl) (by rfl) ?_); rw [← HQ.out, ← Hw4.out]))
      go_ret
      exact ⟨rfl, B4.out⟩
    · have h2 : ¬ a1 < 0 := by omega
      obtain ⟨S, hS⟩ : ∃ z, z = w.heap.size := ⟨_, rfl⟩
      obtain ⟨w1, hw1⟩ : ∃ z, z = w.alloc (.cells (dV x0) 23) := ⟨_, rfl⟩
      have st1 : Below w.heap.size w w1 := by rw [hw1]; exact (Below.refl _ _).alloc (Nat.le_refl _) _
      have B1 := Lib.hid (show Below w.heap.size w w1 from Below.trans (Below.refl w.heap.size w) (Below.mono st1 (Below.size (Below.refl w.heap.size w))))
      have GS_1 := Lib.hid (show w1.heap[S]? = some (.cells (dV x0) 23 (0, 0)) by rw [hw1, hS]; exact heap_alloc_new _ _)
      have LS_1 := Lib.hid (lt_of_heap GS_1.out)
      have HS := Lib.hid hS
      have Hw1 := Lib.hid hw1
      clear hS hw1 st1
      have SZS := Lib.hid (show S = w.heap.size from HS.out)
      obtain ⟨M, hM⟩ : ∃ z, z = w1.heap.size := ⟨_, rfl⟩
      obtain ⟨w2, hw2⟩ : ∃ z, z = w1.alloc (.cells (dV x5) 23) := ⟨_, rfl⟩
      have st2 : Below w1.heap.size w1 w2 := by rw [hw2]; exact (Below.refl _ _).alloc (Nat.le_refl _) _
      have B2 := Lib.hid (show Below w.heap.size w w2 from Below.trans B1.out (Below.mono st2 (Below.size B1.out)))
      have GS_2 := Lib.hid ((Below.block st2 S LS_1.out).trans GS_1.out)
      have LS_2 := Lib.hid (Nat.lt_of_lt_of_le LS_1.out (Below.size st2))
      have GM_2 := Lib.hid (show w2.heap[M]? = some (.cells (dV x5) 23 (0, 0)) by rw [hw2, hM]; exact heap_alloc_new _ _)
      have LM_2 := Lib.hid (lt_of_heap GM_2.out)
      have HM := Lib.hid hM
      have Hw2 := Lib.hid hw2
      clear hM hw2 st2
      have SZM := Lib.hid (show M = w.heap.size + 1 by rw [HM.out, Hw1.out, World.size_alloc, ← HS.out, SZS.out])
      go_enter Tryd.func7, Tryd.ntmps7
      go_upto_region 1 with fail
      rw [← SZM.out, ← SZS.out, ← Hw1.out, ← Hw2.out]
      go_wp2_with (first
        | (refine at_ld 23 (.tmp 6) rfl ?_; (refine ld_digG rfl (.tmp 6) rfl (S) 0 (by rfl) x0 SL.out (range_of_row GS_2.out) ?_); simp only [Act.put, List.setIfInBounds_toArray, List.set_cons_zero, List.set_cons_succ]))
      refine (PubBad Z HZ.out x0 SL.out a1 HBD.out w2).mono ?_
      rintro e w3 ⟨rfl, hb3⟩
      have B3 := Lib.hid (show Below w.heap.size w w3 from Below.trans B2.out (Below.mono hb3 (Below.size B2.out)))
      have GS_3 := Lib.hid ((Below.block hb3 S LS_2.out).trans GS_2.out)
      have LS_3 := Lib.hid (Nat.lt_of_lt_of_le LS_2.out (Below.size hb3))
      have GM_3 := Lib.hid ((Below.block hb3 M LM_2.out).trans GM_2.out)
      have LM_3 := Lib.hid (Nat.lt_of_lt_of_le LM_2.out (Below.size hb3))
      clear hb3
      obtain ⟨Q, hQ⟩ : ∃ z, z = w3.heap.size := ⟨_, rfl⟩
      obtain ⟨w4, hw4⟩ : ∃ z, z = w3.alloc (.cells (dV Z) 23) := ⟨_, rfl⟩
      have st4 : Below w3.heap.size w3 w4 := by rw [hw4]; exact (Below.refl _ _).alloc (Nat.le_refl _) _
      have B4 := Lib.hid (show Below w.heap.size w w4 from Below.trans B3.out (Below.mono st4 (Below.size B3.out)))
      have GS_4 := Lib.hid ((Below.block st4 S LS_3.out).trans GS_3.out)
      have LS_4 := Lib.hid (Nat.lt_of_lt_of_le LS_3.out (Below.size st4))
      have GM_4 := Lib.hid ((Below.block st4 M LM_3.out).trans GM_3.out)
      have LM_4 := Lib.hid (Nat.lt_of_lt_of_le LM_3.out (Below.size st4))
      have GQ_4 := Lib.hid (show w4.heap[Q]? = some (.cells (dV Z) 23 (0, 0)) by rw [hw4, hQ]; exact heap_alloc_new _ _)
      have LQ_4 := Lib.hid (lt_of_heap GQ_4.out)
      have HQ := Lib.hid hQ
      have Hw4 := Lib.hid hw4
      clear hQ hw4 st4
      go_wp2_with (first
        | (refine at_st 23 (.tmp 13) (.tmp 34) rfl ?_; (refine st_new rfl (.tmp 13) (.tmp 34) rfl Z ZL.out (by rfl) _ _ (by rfl) (by rfl) ?_); rw [← HQ.out, ← Hw4.out]))
      go_ret
      exact ⟨rfl, B4.out⟩
  · obtain ⟨h, rfl⟩ : ∃ h : Nat, a1 = (h : Int) := ⟨a1.toNat, by omega⟩
    have hh : h ≤ 4 := by omega
    obtain ⟨N, hn⟩ : ∃ n, n = 2 ^ h := ⟨_, rfl⟩
    have hn16 : N ≤ 16 := by rw [hn]; exact Nat.le_trans (Nat.pow_le_pow_right (by omega) hh) (by decide)
    have hn1 : 1 ≤ N := by rw [hn]; exact Nat.two_pow_pos h
    have HN := Lib.hid hn
    have HH := Lib.hid hh
    have HN16 := Lib.hid hn16
    have HN1 := Lib.hid hn1
    clear hbad hh hn
    obtain ⟨R, hR⟩ : ∃ R, R = troot (leavesK x0 N) := ⟨_, rfl⟩
    have RL := Lib.hid (show R.length = 32 by rw [hR]; exact troot_length _ (leavesK_dig _ _))
    have HR := Lib.hid hR
    clear hR
    obtain ⟨S, hS⟩ : ∃ z, z = w.heap.size := ⟨_, rfl⟩
    obtain ⟨w1, hw1⟩ : ∃ z, z = w.alloc (.cells (dV x0) 23) := ⟨_, rfl⟩
    have st1 : Below w.heap.size w w1 := by rw [hw1]; exact (Below.refl _ _).alloc (Nat.le_refl _) _
    have B1 := Lib.hid (show Below w.heap.size w w1 from Below.trans (Below.refl w.heap.size w) (Below.mono st1 (Below.size (Below.refl w.heap.size w))))
    have GS_1 := Lib.hid (show w1.heap[S]? = some (.cells (dV x0) 23 (0, 0)) by rw [hw1, hS]; exact heap_alloc_new _ _)
    have LS_1 := Lib.hid (lt_of_heap GS_1.out)
    have HS := Lib.hid hS
    have Hw1 := Lib.hid hw1
    clear hS hw1 st1
    have SZS := Lib.hid (show S = w.heap.size from HS.out)
    obtain ⟨M, hM⟩ : ∃ z, z = w1.heap.size := ⟨_, rfl⟩
    obtain ⟨w2, hw2⟩ : ∃ z, z = w1.alloc (.cells (dV x5) 23) := ⟨_, rfl⟩
    have st2 : Below w1.heap.size w1 w2 := by rw [hw2]; exact (Below.refl _ _).alloc (Nat.le_refl _) _
    have B2 := Lib.hid (show Below w.heap.size w w2 from Below.trans B1.out (Below.mono st2 (Below.size B1.out)))
    have GS_2 := Lib.hid ((Below.block st2 S LS_1.out).trans GS_1.out)
    have LS_2 := Lib.hid (Nat.lt_of_lt_of_le LS_1.out (Below.size st2))
    have GM_2 := Lib.hid (show w2.heap[M]? = some (.cells (dV x5) 23 (0, 0)) by rw [hw2, hM]; exact heap_alloc_new _ _)
    have LM_2 := Lib.hid (lt_of_heap GM_2.out)
    have HM := Lib.hid hM
    have Hw2 := Lib.hid hw2
    clear hM hw2 st2
    have SZM := Lib.hid (show M = w.heap.size + 1 by rw [HM.out, Hw1.out, World.size_alloc, ← HS.out, SZS.out])
    go_enter Tryd.func7, Tryd.ntmps7
    go_upto_region 1 with fail
    rw [← SZM.out, ← SZS.out, ← Hw1.out, ← Hw2.out]
    go_wp2_with (first
      | (refine at_ld 23 (.tmp 6) rfl ?_; (refine ld_digG rfl (.tmp 6) rfl (S) 0 (by rfl) x0 SL.out (range_of_row GS_2.out) ?_); simp only [Act.put, List.setIfInBounds_toArray, List.set_cons_zero, List.set_cons_succ]))
    refine (Public_z x0 SL.out h h rfl HH.out N HN.out w2 (RO.out.at_ B2.out)).mono ?_
    rintro e w3 ⟨rfl, hb3⟩
    have B3 := Lib.hid (show Below w.heap.size w w3 from Below.trans B2.out (Below.mono hb3 (Below.size B2.out)))
    have GS_3 := Lib.hid ((Below.block hb3 S LS_2.out).trans GS_2.out)
    have LS_3 := Lib.hid (Nat.lt_of_lt_of_le LS_2.out (Below.size hb3))
    have GM_3 := Lib.hid ((Below.block hb3 M LM_2.out).trans GM_2.out)
    have LM_3 := Lib.hid (Nat.lt_of_lt_of_le LM_2.out (Below.size hb3))
    clear hb3
    rw [← HR.out]
    obtain ⟨Q, hQ⟩ : ∃ z, z = w3.heap.size := ⟨_, rfl⟩
    obtain ⟨w4, hw4⟩ : ∃ z, z = w3.alloc (.cells (dV R) 23) := ⟨_, rfl⟩
    have st4 : Below w3.heap.size w3 w4 := by rw [hw4]; exact (Below.refl _ _).alloc (Nat.le_refl _) _
    have B4 := Lib.hid (show Below w.heap.size w w4 from Below.trans B3.out (Below.mono st4 (Below.size B3.out)))
    have GS_4 := Lib.hid ((Below.block st4 S LS_3.out).trans GS_3.out)
    have LS_4 := Lib.hid (Nat.lt_of_lt_of_le LS_3.out (Below.size st4))
    have GM_4 := Lib.hid ((Below.block st4 M LM_3.out).trans GM_3.out)
    have LM_4 := Lib.hid (Nat.lt_of_lt_of_le LM_3.out (Below.size st4))
    have GQ_4 := Lib.hid (show w4.heap[Q]? = some (.cells (dV R) 23 (0, 0)) by rw [hw4, hQ]; exact heap_alloc_new _ _)
    have LQ_4 := Lib.hid (lt_of_heap GQ_4.out)
    have HQ := Lib.hid hQ
    have Hw4 := Lib.hid hw4
    clear hQ hw4 st4
    go_wp2_with (first
      | (refine at_st 23 (.tmp 13) (.tmp 34) rfl ?_; (refine st_new rfl (.tmp 13) (.tmp 34) rfl R RL.out (by rfl) _ _ (by rfl) (by rfl) ?_); rw [← HQ.out, ← Hw4.out]))
    have RS := Lib.hid (show Rd w4 (some ⟨S, 0, none⟩) 23 (x0.map vB) from (rd_of_row GS_4.out))
    by_cases hfa : splitF x0 a2 x3 = 0
    · obtain ⟨na, nb, lx, lm, allm⟩ := splitF_zero hfa
      obtain ⟨n, rfl⟩ : ∃ n : Nat, a2 = n := ⟨a2.toNat, by omega⟩
      clear allm
      by_cases hlen : x4.length < x3.length + 1
      · have q1 : decide ((x4.length : Int) < (x3.length : Int) + 1) = true := by rw [decide_eq_true_eq]; omega
        have CA := Split_ok hfa (some ⟨S, 0, none⟩) 32 23 a3 c3 e3 v3 w4 RS.out (R3.out.below B4.out) (M3.out.below B4.out) (by rw [SL.out]; decide) l3
        rw [SL.out] at CA
        simp only [Int.toNat_natCast] at CA
        refine CA.mono ?_
        rintro e w5 ⟨xa, xcap, xvs, rfl, hb5, _, _, xr, xA⟩
        clear CA
        have B5 := Lib.hid (show Below w.heap.size w w5 from Below.trans B4.out (Below.mono hb5 (Below.size B4.out)))
        have GS_5 := Lib.hid ((Below.block hb5 S LS_4.out).trans GS_4.out)
        have LS_5 := Lib.hid (Nat.lt_of_lt_of_le LS_4.out (Below.size hb5))
        have GM_5 := Lib.hid ((Below.block hb5 M LM_4.out).trans GM_4.out)
        have LM_5 := Lib.hid (Nat.lt_of_lt_of_le LM_4.out (Below.size hb5))
        have GQ_5 := Lib.hid ((Below.block hb5 Q LQ_4.out).trans GQ_4.out)
        have LQ_5 := Lib.hid (Nat.lt_of_lt_of_le LQ_4.out (Below.size hb5))
        go_wp2_with fail
        refine (Join_fact w5).mono ?_
        rintro e w6 ⟨fa, fc, rfl, hb6⟩
        have B6 := Lib.hid (show Below w.heap.size w w6 from Below.trans B5.out (Below.mono hb6 (Below.size B5.out)))
        have GS_6 := Lib.hid ((Below.block hb6 S LS_5.out).trans GS_5.out)
        have LS_6 := Lib.hid (Nat.lt_of_lt_of_le LS_5.out (Below.size hb6))
        have GM_6 := Lib.hid ((Below.block hb6 M LM_5.out).trans GM_5.out)
        have LM_6 := Lib.hid (Nat.lt_of_lt_of_le LM_5.out (Below.size hb6))
        have GQ_6 := Lib.hid ((Below.block hb6 Q LQ_5.out).trans GQ_5.out)
        have LQ_6 := Lib.hid (Nat.lt_of_lt_of_le LQ_5.out (Below.size hb6))
        clear hb6
        go_wp2_with fail
        go_ret
        exact ⟨rfl, B6.out⟩
      · have q1 : decide ((x4.length : Int) < (x3.length : Int) + 1) = false := by rw [decide_eq_false]; omega
        by_cases h20 : 20 < x4.length
        · have q2 : decide ((20 : Int) < (x4.length : Int)) = true := by rw [decide_eq_true_eq]; omega
          have CA := Split_ok hfa (some ⟨S, 0, none⟩) 32 23 a3 c3 e3 v3 w4 RS.out (R3.out.below B4.out) (M3.out.below B4.out) (by rw [SL.out]; decide) l3
          rw [SL.out] at CA
          simp only [Int.toNat_natCast] at CA
          refine CA.mono ?_
          rintro e w5 ⟨xa, xcap, xvs, rfl, hb5, _, _, xr, xA⟩
          clear CA
          have B5 := Lib.hid (show Below w.heap.size w w5 from Below.trans B4.out (Below.mono hb5 (Below.size B4.out)))
          have GS_5 := Lib.hid ((Below.block hb5 S LS_4.out).trans GS_4.out)
          have LS_5 := Lib.hid (Nat.lt_of_lt_of_le LS_4.out (Below.size hb5))
          have GM_5 := Lib.hid ((Below.block hb5 M LM_4.out).trans GM_4.out)
          have LM_5 := Lib.hid (Nat.lt_of_lt_of_le LM_4.out (Below.size hb5))
          have GQ_5 := Lib.hid ((Below.block hb5 Q LQ_4.out).trans GQ_4.out)
          have LQ_5 := Lib.hid (Nat.lt_of_lt_of_le LQ_4.out (Below.size hb5))
          go_wp2_with fail
          refine (Join_fact w5).mono ?_
          rintro e w6 ⟨fa, fc, rfl, hb6⟩
          have B6 := Lib.hid (show Below w.heap.size w w6 from Below.trans B5.out (Below.mono hb6 (Below.size B5.out)))
          have GS_6 := Lib.hid ((Below.block hb6 S LS_5.out).trans GS_5.out)
          have LS_6 := Lib.hid (Nat.lt_of_lt_of_le LS_5.out (Below.size hb6))
          have GM_6 := Lib.hid ((Below.block hb6 M LM_5.out).trans GM_5.out)
          have LM_6 := Lib.hid (Nat.lt_of_lt_of_le LM_5.out (Below.size hb6))
          have GQ_6 := Lib.hid ((Below.block hb6 Q LQ_5.out).trans GQ_5.out)
          have LQ_6 := Lib.hid (Nat.lt_of_lt_of_le LQ_5.out (Below.size hb6))
          clear hb6
          go_wp2_with fail
          go_ret
          exact ⟨rfl, B6.out⟩
        · have q2 : decide ((20 : Int) < (x4.length : Int)) = false := by rw [decide_eq_false]; omega
          have CA := Split_ok hfa (some ⟨S, 0, none⟩) 32 23 a3 c3 e3 v3 w4 RS.out (R3.out.below B4.out) (M3.out.below B4.out) (by rw [SL.out]; decide) l3
          rw [SL.out] at CA
          simp only [Int.toNat_natCast] at CA
          refine CA.mono ?_
          rintro e w5 ⟨xa, xcap, xvs, rfl, hb5, _, _, xr, xA⟩
          clear CA
          have B5 := Lib.hid (show Below w.heap.size w w5 from Below.trans B4.out (Below.mono hb5 (Below.size B4.out)))
          have GS_5 := Lib.hid ((Below.block hb5 S LS_4.out).trans GS_4.out)
          have LS_5 := Lib.hid (Nat.lt_of_lt_of_le LS_4.out (Below.size hb5))
          have GM_5 := Lib.hid ((Below.block hb5 M LM_4.out).trans GM_4.out)
          have LM_5 := Lib.hid (Nat.lt_of_lt_of_le LM_4.out (Below.size hb5))
          have GQ_5 := Lib.hid ((Below.block hb5 Q LQ_4.out).trans GQ_4.out)
          have LQ_5 := Lib.hid (Nat.lt_of_lt_of_le LQ_4.out (Below.size hb5))
          have hs12 := B5.out.size
          have xA2 : AreS (fun _ _ => True) w5 (splitOf x0 n x3) xvs := xA.mono fun _ _ _ _ => trivial
          have lsx : (splitOf x0 n x3).length = n := splitOf_length _ _ _
          have vx : 2 * n ≤ xvs.length := by rw [xA2.1]; omega
          have r32 := R4.out.below B5.out
          have Hlx := Lib.hid lsx
          clear lsx xA
          go_wp2_with fail
          go_loopw [18, 19] (fun v i wr => ∃ k : Nat, k ≤ x4.length ∧ i = .int .i64 k ∧ wr.ownsRow w5.heap.size 71 2 v k (cellsS xvs x4 k) ∧ Below w5.heap.size w5 wr ∧ (∀ i, i < k → 0 ≤ x4.getD i 0 ∧ x4.getD i 0 < n) ∧ (x4.take k).Nodup) (fun _ i _ => x4.length - (intOf i).toNat)
          case atStart => exact ⟨0, Nat.zero_le _, rfl, World.ownsRow_nil _ _ _ _, Below.refl _ _, fun i hi => by omega, by simp⟩
          case round =>
            obtain ⟨k, hk, rfl, hown, hbl, hin, hnd⟩ := hrel
            have Hin := Lib.hid hin
            have Hnd := Lib.hid hnd
            have hsz := hbl.size
            clear hin hnd
            by_cases hlt : k < x4.length
            · obtain ⟨bw, ow, rfl, hbw, hcw⟩ := r32.ints hlt
              have cw : wr.cell? ⟨bw, ow + k, none⟩ = some (.int .i64 x4[k]) := (hbl.cell (p := ⟨bw, ow + k, none⟩) hbw).trans (hcw k hlt)
              have Hcw := Lib.hid hcw
              have e1 : x4.getD k 0 = x4[k] := by rw [List.getD_eq_getElem?_getD, List.getElem?_eq_getElem hlt]; rfl
              have hb := N4.out x4[k] (List.getElem_mem _)
              have HE := Lib.hid e1
              have i0 : (0 : Int) ≤ (k : Int) := by omega
              have i1 : (k : Int) < (x4.length : Int) := by omega
              clear hcw e1
              generalize hz : x4[k] = z at *
              have HZ := Lib.hid hz
              clear hz
              have hbf : Below w.heap.size w wr := B5.out.trans (hbl.mono hs12)
              by_cases z0 : z < 0
              · go_wp2
                go_ret
                exact ⟨rfl, hbf⟩
              · by_cases z1 : (n : Int) ≤ z
                · go_wp2
                  go_ret
                  exact ⟨rfl, hbf⟩
                · obtain ⟨zn, rfl⟩ : ∃ zn : Nat, z = zn := ⟨z.toNat, by omega⟩
                  have hzn : zn < n := by omega
                  go_wp2
                  obtain ⟨wo, rfl⟩ : ∃ wo : World, wo = wr := ⟨_, rfl⟩
                  go_loopw [20] (fun i wr => ∃ m n' : Nat, m ≤ k ∧ i = .int .i64 m ∧ (∀ i, i < m → x4.getD i 0 ≠ zn) ∧ wr = wo.drewN n') (fun i _ => k - (intOf i).toNat)
                  case atStart => exact ⟨0, 0, Nat.zero_le _, rfl, fun i hi => by omega, rfl⟩
                  case round =>
                    obtain ⟨m, n', hm, rfl, hne, rfl⟩ := hrel
                    have Hne := Lib.hid hne
                    clear hne
                    by_cases hmk : m < k
                    · have hm2 : m < x4.length := by omega
                      have cm : wo.cell? ⟨bw, ow + m, none⟩ = some (.int .i64 x4[m]) := (hbl.cell (p := ⟨bw, ow + m, none⟩) hbw).trans (Hcw.out m hm2)
                      have em : x4.getD m 0 = x4[m] := by rw [List.getD_eq_getElem?_getD, List.getElem?_eq_getElem hm2]; rfl
                      have Em := Lib.hid em
                      clear em
                      generalize x4[m] = y at *
                      have j0 : (0 : Int) ≤ (m : Int) := by omega
                      have j1 : (m : Int) < (x4.length : Int) := by omega
                      by_cases hy : y = zn
                      · have t1 : (y == (zn : Int)) = true := by rw [beq_iff_eq]; exact hy
                        go_wp2_with fail
                        go_quiet (fail)
                        go_wp2
                        go_ret
                        exact ⟨rfl, below_drewN (below_drewN hbf _) _⟩
                      · have t1 : (y == (zn : Int)) = false := by rw [beq_eq_false_iff_ne]; exact hy
                        go_wp2_with fail
                        go_quiet (fail)
                        go_wp2
                        go_round
                        case rel => exact ⟨m + 1, _, by omega, by go_num, fun i hi => if h : i < m then Hne.out i h else (show i = m by omega) ▸ (by rw [Em.out]; exact hy), rfl⟩
                        case measure => simp [intOf] <;> omega
                    · obtain rfl : m = k := by omega
                      obtain ⟨W0, hW0⟩ : ∃ W0, wo.drewN n' = W0 := ⟨_, rfl⟩
                      obtain ⟨bx, ox, rfl, hbx, hcx⟩ := xr.cell (k := 2 * zn + 1) (by omega)
                      obtain ⟨g0, ax, cx, ex, g1, _⟩ := xA2.getD (i := zn) (by rw [Hlx.out]; exact hzn)
                      have cx0 := hcx (2 * zn) (by omega)
                      have cx1 := hcx (2 * zn + 1) (by omega)
                      have d0 : xvs.getD (2 * zn) undef = xvs[2 * zn]'(by omega) := by rw [List.getD_eq_getElem?_getD, List.getElem?_eq_getElem (by omega)]; rfl
                      have d1 : xvs.getD (2 * zn + 1) undef = xvs[2 * zn + 1]'(by omega) := by rw [List.getD_eq_getElem?_getD, List.getElem?_eq_getElem (by omega)]; rfl
                      rw [← d0, g0] at cx0
                      rw [← d1, g1] at cx1
                      have e2' : ox + 2 * zn = ox + zn * 2 := by omega
                      have e3' : ox + (2 * zn + 1) = ox + zn * 2 + 1 := by omega
                      rw [e2'] at cx0
                      rw [e3'] at cx1
                      have hW : Below w5.heap.size w5 W0 := by rw [← hW0]; exact below_drewN hbl _
                      have f1 : W0.cell? ⟨bw, ow + m, none⟩ = some (.int .i64 zn) := by rw [← hW0]; exact cw
                      have f2 : W0.cell? ⟨bx, ox + zn * 2, none⟩ = some (.int .u8 ((splitOf x0 n x3).getD zn default).at_.toNat) := (hW.cell (p := ⟨bx, ox + zn * 2, none⟩) hbx).trans cx0
                      have f3 : W0.cell? ⟨bx, ox + zn * 2 + 1, none⟩ = some (.slice ax ((splitOf x0 n x3).getD zn default).data.length cx) := (hW.cell (p := ⟨bx, ox + zn * 2 + 1, none⟩) hbx).trans cx1
                      have hce : cellsS xvs x4 (m + 1) = cellsS xvs x4 m ++ [.int .u8 ((splitOf x0 n x3).getD zn default).at_.toNat, .slice ax ((splitOf x0 n x3).getD zn default).data.length cx] := by
                        rw [cellsS_succ, HE.out, Int.toNat_natCast, g0, g1]; rfl
                      generalize (splitOf x0 n x3).getD zn default = sx at *
                      have ho : W0.ownsRow w5.heap.size 71 2 u18 m (cellsS xvs x4 m) := by rw [← hW0]; exact own_drewN hown _
                      have hW2 : w5.heap.size ≤ W0.heap.size := hW.size
                      have hnd' : (x4.take (m + 1)).Nodup := by
                        rw [List.take_succ_eq_append_getElem hlt, List.nodup_append]
                        refine ⟨Hnd.out, by simp, fun a ha b hb' e => ?_⟩
                        obtain rfl : b = x4[m] := by simpa using hb'
                        obtain ⟨i, hi, he⟩ := List.mem_iff_getElem.1 ha
                        have hi' : i < m := by simp at hi; omega
                        rw [List.getElem_take] at he
                        have h5 := Hne.out i hi'
                        rw [List.getD_eq_getElem?_getD, List.getElem?_eq_getElem (show i < x4.length by omega)] at h5
                        exact h5 (by rw [← HZ.out, ← e, ← he]; rfl)
                      have hin' : ∀ i, i < m + 1 → 0 ≤ x4.getD i 0 ∧ x4.getD i 0 < n := by
                        intro i hi
                        by_cases h : i < m
                        · exact Hin.out i h
                        · obtain rfl : i = m := by omega
                          rw [HE.out]; omega
                      have Hnd' := Lib.hid hnd'
                      have Hin' := Lib.hid hin'
                      have Hce := Lib.hid hce
                      clear hnd' hin' hce g0 g1 d0 d1 e2' e3' cx0 cx1 hcx
                      have k0 : (0 : Int) ≤ (zn : Int) := by omega
                      have k1 : (zn : Int) < (n : Int) := by omega
                      rw [hW0]
                      clear hW0
                      go_wp2_with (at_builtin; refine appN 64 71 (.agg #[.int .u8 0, .slice none 0 0]) 2 32 Tryd.underlying64 info_share rfl (by omega) (by omega) rfl _ _ rfl w5.heap.size _ m (cellsS xvs x4 m) rfl (ho.alloc _) W0.heap.size 1 [.int .u8 sx.at_.toNat, .slice ax sx.data.length cx] rfl rfl (two_cells (by simp) (by simp)) (by simp [Value.oneCell']) (by omega) (by simp; omega) _ rfl ?_; intro g cap w' hown' hgrow hat hlt')
                      have hb' : Below w5.heap.size w5 w' := below_grow (hW.alloc (by omega) _) (ho.alloc _) hgrow (by simp; omega)
                      clear hgrow hat hlt' f1 f2 f3
                      go_wp2
                      go_roundw
                      case rel => exact ⟨m + 1, by omega, by go_num, by rw [Hce.out]; exact hown', hb', Hin'.out, Hnd'.out⟩
                      case measure => simp [intOf] <;> omega
            · obtain rfl : k = x4.length := by omega
              have hbf : Below w.heap.size w wr := B5.out.trans (hbl.mono hs12)
              obtain ⟨a12, cap12, rfl⟩ := own_slice hown
              have hcap := own_cap hown
              have hta : x4.take x4.length = x4 := List.take_of_length_le (Nat.le_refl _)
              have hS := cellsS_are (which := x4) xA2 Hlx.out x4.length Hin.out (Nat.le_refl _)
              have hnn : ((x4.take x4.length).map Int.toNat).Nodup := toNat_nodup Hnd.out (take_mem fun i hi => (Hin.out i hi).1)
              have hltn : ∀ j ∈ (x4.take x4.length).map Int.toNat, j < n := by
                intro j hj
                obtain ⟨z, hz, rfl⟩ := List.mem_map.1 hj
                have := take_mem (P := fun z => 0 ≤ z ∧ z < n) Hin.out z hz
                omega
              rw [hta] at hS hnn hltn
              rw [pick_at x0 n x3 _ hltn] at hS
              have hat : ((x4.map Int.toNat).map fun j => UInt8.ofNat (j + 1)).Nodup := succ_nodup hnn (fun i hi => by have := hltn i hi; omega)
              have hal : ((x4.map Int.toNat).map fun j => UInt8.ofNat (j + 1)).length = x4.length := by simp
              have h00 : ∀ x ∈ (x4.map Int.toNat).map fun j => UInt8.ofNat (j + 1), x.toNat ≠ 0 := by
                intro x hx
                obtain ⟨j, hj, rfl⟩ := List.mem_map.1 hx
                have := hltn j hj
                simp
                omega
              generalize ((x4.map Int.toNat).map fun j => UInt8.ofNat (j + 1)) = at_ at *
              have hj := join_at x0 x3 at_ hat (by omega)
              have hf := at_fault x0 x3 at_ hat h00 x4.length (by omega)
              have hh : ((at_.map (shareOf x0 x3)).headD default).data.length = x0.length := by
                cases at_ with
                | nil => simp at hal; omega
                | cons x xs => exact shareOf_length _ _ _
              have hsl : (at_.map (shareOf x0 x3)).length = x4.length := by simp [hal]
              have JC := Join_calls (at_.map (shareOf x0 x3)) x4.length x0.length a12 cap12 71 (cellsS xvs x4 x4.length) wr (Rd.of_own hown) (hS.below hbl) hcap.1 hcap.2 (by omega) (by omega) (by omega) (by omega) hh (by omega)
              generalize at_.map (shareOf x0 x3) = ss at *
              have B300 := Lib.hid hbf
              have GS_300 := Lib.hid ((hbl.block S LS_5.out).trans GS_5.out)
              have LS_300 := Lib.hid (lt_of_heap GS_300.out)
              have GM_300 := Lib.hid ((hbl.block M LM_5.out).trans GM_5.out)
              have LM_300 := Lib.hid (lt_of_heap GM_300.out)
              have GQ_300 := Lib.hid ((hbl.block Q LQ_5.out).trans GQ_5.out)
              have LQ_300 := Lib.hid (lt_of_heap GQ_300.out)
              clear hS hnn hltn hat hal h00 hta hh hsl hown
              have HJ := Lib.hid hj
              have HF := Lib.hid hf
              clear hj hf
              go_wp2_with fail
              refine JC.mono ?_
              rintro e w301 ⟨hb301, h3⟩
              clear JC
              rcases h3 with ⟨_, ga, gcap, rfl, gown⟩ | ⟨h3, _⟩
              rotate_left
              · exact absurd HF.out h3
              rw [HJ.out, SL.out] at gown ⊢
              have B301 := Lib.hid (show Below w.heap.size w w301 from Below.trans B300.out (Below.mono hb301 (Below.size B300.out)))
              have GS_301 := Lib.hid ((Below.block hb301 S LS_300.out).trans GS_300.out)
              have LS_301 := Lib.hid (Nat.lt_of_lt_of_le LS_300.out (Below.size hb301))
              have GM_301 := Lib.hid ((Below.block hb301 M LM_300.out).trans GM_300.out)
              have LM_301 := Lib.hid (Nat.lt_of_lt_of_le LM_300.out (Below.size hb301))
              have GQ_301 := Lib.hid ((Below.block hb301 Q LQ_300.out).trans GQ_300.out)
              have LQ_301 := Lib.hid (Nat.lt_of_lt_of_le LQ_300.out (Below.size hb301))
              have RG_301 := Lib.hid (show Rd w301 ga 5 (x0.map vB) from Rd.of_own gown)
              clear gown hb301
              go_upto_region 24 with fail
              obtain ⟨V, hV⟩ : ∃ z, z = w301.heap.size := ⟨_, rfl⟩
              obtain ⟨w302, hw302⟩ : ∃ z, z = w301.alloc (.cells (dV Z) 23) := ⟨_, rfl⟩
              have st302 : Below w301.heap.size w301 w302 := by rw [hw302]; exact (Below.refl _ _).alloc (Nat.le_refl _) _
              have B302 := Lib.hid (show Below w.heap.size w w302 from Below.trans B301.out (Below.mono st302 (Below.size B301.out)))
              have GS_302 := Lib.hid ((Below.block st302 S LS_301.out).trans GS_301.out)
              have LS_302 := Lib.hid (Nat.lt_of_lt_of_le LS_301.out (Below.size st302))
              have GM_302 := Lib.hid ((Below.block st302 M LM_301.out).trans GM_301.out)
              have LM_302 := Lib.hid (Nat.lt_of_lt_of_le LM_301.out (Below.size st302))
              have GQ_302 := Lib.hid ((Below.block st302 Q LQ_301.out).trans GQ_301.out)
              have LQ_302 := Lib.hid (Nat.lt_of_lt_of_le LQ_301.out (Below.size st302))
              have RG_302 := Lib.hid (RG_301.out.below st302)
              have GV_302 := Lib.hid (show w302.heap[V]? = some (.cells (dV Z) 23 (0, 0)) by rw [hw302, hV]; exact heap_alloc_new _ _)
              have LV_302 := Lib.hid (lt_of_heap GV_302.out)
              have HV := Lib.hid hV
              have Hw302 := Lib.hid hw302
              clear hV hw302 st302
              go_upto_region 25 with fail
              rw [ZT.out, ← HV.out, ← Hw302.out]
              obtain ⟨bg, og, hga, hbg, hcg⟩ := RG_302.out.cell (k := 0) (by rw [List.length_map, SL.out]; decide)
              subst hga
              have HCG := Lib.hid hcg
              have LGV : bg < V := by
                obtain ⟨bg', og', he, hb', _⟩ := RG_301.out.cell (k := 0) (by rw [List.length_map, SL.out]; decide)
                cases he
                rw [HV.out]; exact hb'
              clear hcg hbg
              go_loopw [23] (fun q wr => ∃ i : Nat, i ≤ 32 ∧ q = .int .i64 (i : Int) ∧ Hid (wr.heap[V]? = some (.cells (dV (copyK x0 i)) 23 (0, 0))) ∧ Hid (Below V w302 wr)) (fun q _ => 32 - (intOf q).toNat)
              case atStart => exact ⟨0, Nat.zero_le _, rfl, Lib.hid (by rw [copyK_zero, ← HZ.out]; exact GV_302.out), Lib.hid (Below.refl _ _)⟩
              case round =>
                obtain ⟨i, hi, rfl, HO, HBI⟩ := hrel
                obtain ⟨wA, rfl⟩ : ∃ z, z = wr := ⟨_, rfl⟩
                by_cases hlt : i < 32
                · obtain ⟨y, hy⟩ : ∃ y, y = x0.getD i 0 := ⟨_, rfl⟩
                  have d2 : wA.cell? ⟨bg, og + i, none⟩ = some (.int .u8 y.toNat) := by
                    have h5 := HCG.out i (by rw [List.length_map, SL.out]; exact hlt)
                    rw [(HBI.out.cell (p := ⟨bg, og + i, none⟩) LGV), h5, List.getElem_map, hy, List.getD_eq_getElem?_getD, List.getElem?_eq_getElem (by rw [SL.out]; exact hlt)]; rfl
                  obtain ⟨old, hold⟩ : ∃ old, old = (copyK x0 i).getD i 0 := ⟨_, rfl⟩
                  have d3 : wA.cell? ⟨V, i, none⟩ = some (.int .u8 old.toNat) := by
                    rw [cell_of_row _ V i _ _ _ HO.out, dV_get (by rw [copyK_length]; omega), hold, List.getD_eq_getElem?_getD, List.getElem?_eq_getElem (by rw [copyK_length]; omega)]; rfl
                  have d4 : wA.frozen? ⟨V, i, none⟩ = false := frozen_of_row _ V i _ _ HO.out
                  have HN2 := Lib.hid (show (wA.setCell ⟨V, i, none⟩ (.int .u8 y.toNat)).heap[V]? = some (.cells (dV (copyK x0 (i + 1))) 23 (0, 0)) by
                    rw [heap_setCell_same wA V i _ _ _ HO.out, dV_set, hy, copyK_set])
                  have HB2 := Lib.hid (HBI.out.setCell (p := ⟨V, i, none⟩) (Nat.le_refl _) (.int .u8 y.toNat))
                  have i0 : (0 : Int) ≤ (i : Int) := by omega
                  have i1 : (i : Int) < 32 := by omega
                  have e6 : IntKind.i64.wrap ((i : Int) + 1) = (i : Int) + 1 := IntWalk.i64_in _ (by omega)
                  clear hy hold
                  go_wp2_with fail
                  go_roundw
                  case rel => exact ⟨i + 1, by omega, by go_num, HN2, HB2⟩
                  case measure => simp [intOf]; omega
                · obtain rfl : i = 32 := by omega
                  have hcp := HO.out
                  rw [copyK_all x0 SL.out] at hcp
                  have B400 := Lib.hid (Below.trans B302.out (Below.mono HBI.out (by rw [HV.out]; exact Below.size B301.out)))
                  have GS_400 := Lib.hid ((HBI.out.block S (by rw [HV.out]; exact LS_301.out)).trans GS_302.out)
                  have LS_400 := Lib.hid (lt_of_heap GS_400.out)
                  have GM_400 := Lib.hid ((HBI.out.block M (by rw [HV.out]; exact LM_301.out)).trans GM_302.out)
                  have LM_400 := Lib.hid (lt_of_heap GM_400.out)
                  have GQ_400 := Lib.hid ((HBI.out.block Q (by rw [HV.out]; exact LQ_301.out)).trans GQ_302.out)
                  have LQ_400 := Lib.hid (lt_of_heap GQ_400.out)
                  have GV_400 := Lib.hid hcp
                  have LV_400 := Lib.hid (lt_of_heap hcp)
                  clear hcp HO HBI
                  have i1 : ¬ ((32 : Nat) : Int) < 32 := by omega
                  go_wp2_with (first
                    | (refine at_ld 23 (.tmp 22) rfl ?_; (refine ld_digG rfl (.tmp 22) rfl (V) 0 (by rfl) x0 SL.out (range_of_row GV_400.out) ?_); simp only [Act.put, List.setIfInBounds_toArray, List.set_cons_zero, List.set_cons_succ]))
                  refine (New_z x0 SL.out h h rfl HH.out N HN.out wA (RO.out.at_ B400.out)).mono ?_
                  rintro e w401 ⟨P, rfl, hP, hSAP, hb401⟩
                  have B401 := Lib.hid (show Below w.heap.size w w401 from Below.trans B400.out (Below.mono hb401 (Below.size B400.out)))
                  have GS_401 := Lib.hid ((Below.block hb401 S LS_400.out).trans GS_400.out)
                  have LS_401 := Lib.hid (Nat.lt_of_lt_of_le LS_400.out (Below.size hb401))
                  have GM_401 := Lib.hid ((Below.block hb401 M LM_400.out).trans GM_400.out)
                  have LM_401 := Lib.hid (Nat.lt_of_lt_of_le LM_400.out (Below.size hb401))
                  have GQ_401 := Lib.hid ((Below.block hb401 Q LQ_400.out).trans GQ_400.out)
                  have LQ_401 := Lib.hid (Nat.lt_of_lt_of_le LQ_400.out (Below.size hb401))
                  have GV_401 := Lib.hid ((Below.block hb401 V LV_400.out).trans GV_400.out)
                  have LV_401 := Lib.hid (Nat.lt_of_lt_of_le LV_400.out (Below.size hb401))
                  have SAP_401 := Lib.hid hSAP
                  have HBP := Lib.hid (show w.heap.size ≤ P from Nat.le_trans (Below.size B400.out) hP)
                  clear hP hSAP
                  clear hb401
                  go_wp2_with (first
                    | (refine at_ld 23 (.tmp 11) rfl ?_; (refine ld_digG rfl (.tmp 11) rfl (M) 0 (by rfl) x5 ML.out (range_of_row GM_401.out) ?_); simp only [Act.put, List.setIfInBounds_toArray, List.set_cons_zero, List.set_cons_succ]))
                  refine (Sign_z x0 x5 SL.out ML.out P N 0 0 rfl (by have := HN16.out; omega) HN1.out w401 SAP_401.out (RO.out.at_ B401.out)).mono ?_
                  rintro e w402 ⟨saA, scA, paA, pcA, rfl, hsg, hpt, hst, hsv⟩
                  have B402 := Lib.hid (show Below w.heap.size w w402 from hsv.below B401.out HBP.out)
                  have GS_402 := Lib.hid (hsv.blk SAP_401.out GS_401.out (by decide))
                  have LS_402 := Lib.hid (Nat.lt_of_lt_of_le LS_401.out hsv.2.1)
                  have GM_402 := Lib.hid (hsv.blk SAP_401.out GM_401.out (by decide))
                  have LM_402 := Lib.hid (Nat.lt_of_lt_of_le LM_401.out hsv.2.1)
                  have GQ_402 := Lib.hid (hsv.blk SAP_401.out GQ_401.out (by decide))
                  have LQ_402 := Lib.hid (Nat.lt_of_lt_of_le LQ_401.out hsv.2.1)
                  have GV_402 := Lib.hid (hsv.blk SAP_401.out GV_401.out (by decide))
                  have LV_402 := Lib.hid (Nat.lt_of_lt_of_le LV_401.out hsv.2.1)
                  have SAP_402 := Lib.hid hst
                  have RSA_402 := Lib.hid hsg
                  have RPA_402 := Lib.hid hpt
                  clear hsg hpt hst hsv
                  obtain ⟨X, hX⟩ : ∃ z, z = w402.heap.size := ⟨_, rfl⟩
                  obtain ⟨w403, hw403⟩ : ∃ z, z = w402.alloc (.cells #[.int .i64 0, .slice saA 67 scA, .slice paA (tlong 0 N) pcA] 33) := ⟨_, rfl⟩
                  have st403 : Below w402.heap.size w402 w403 := by rw [hw403]; exact (Below.refl _ _).alloc (Nat.le_refl _) _
                  have B403 := Lib.hid (show Below w.heap.size w w403 from Below.trans B402.out (Below.mono st403 (Below.size B402.out)))
                  have GS_403 := Lib.hid ((Below.block st403 S LS_402.out).trans GS_402.out)
                  have LS_403 := Lib.hid (Nat.lt_of_lt_of_le LS_402.out (Below.size st403))
                  have GM_403 := Lib.hid ((Below.block st403 M LM_402.out).trans GM_402.out)
                  have LM_403 := Lib.hid (Nat.lt_of_lt_of_le LM_402.out (Below.size st403))
                  have GQ_403 := Lib.hid ((Below.block st403 Q LQ_402.out).trans GQ_402.out)
                  have LQ_403 := Lib.hid (Nat.lt_of_lt_of_le LQ_402.out (Below.size st403))
                  have GV_403 := Lib.hid ((Below.block st403 V LV_402.out).trans GV_402.out)
                  have LV_403 := Lib.hid (Nat.lt_of_lt_of_le LV_402.out (Below.size st403))
                  have SAP_403 := Lib.hid (SAP_402.out.below st403)
                  have RSA_403 := Lib.hid (RSA_402.out.below st403)
                  have RPA_403 := Lib.hid (RPA_402.out.below st403)
                  have GX_403 := Lib.hid (show w403.heap[X]? = some (.cells #[.int .i64 0, .slice saA 67 scA, .slice paA (tlong 0 N) pcA] 33 (0, 0)) by rw [hw403, hX]; exact heap_alloc_new _ _)
                  have LX_403 := Lib.hid (lt_of_heap GX_403.out)
                  have HX := Lib.hid hX
                  have Hw403 := Lib.hid hw403
                  clear hX hw403 st403
                  go_wp2_with (first
                    | (refine at_st 33 (.tmp 26) (.tmp 162) rfl ?_; (refine st_sigNew rfl (.tmp 26) (.tmp 162) rfl (.int .i64 0) (.slice saA 67 scA) (.slice paA (tlong 0 N) pcA) (by rfl) _ _ (by rfl) (by rfl) (sig_one _ _ _ _ _ _ _) ?_); rw [← HX.out, ← Hw403.out])
                    | (refine at_ld 23 (.tmp 11) rfl ?_; (refine ld_digG rfl (.tmp 11) rfl (M) 0 (by rfl) x5 ML.out (range_of_row GM_403.out) ?_); simp only [Act.put, List.setIfInBounds_toArray, List.set_cons_zero, List.set_cons_succ])
                    | (refine at_ld 33 (.tmp 26) rfl ?_; (refine ld_sig rfl (.tmp 26) rfl X (by rfl) (.int .i64 0) (.slice saA 67 scA) (.slice paA (tlong 0 N) pcA) _ _ GX_403.out ?_); simp only [Act.put, List.setIfInBounds_toArray, List.set_cons_zero, List.set_cons_succ]))
                  refine (RecOwn x0 x5 R ML.out h N 0 HH.out HN.out HN1.out HR.out saA paA scA pcA _ _ w403 RSA_403.out RPA_403.out (RO.out.at_ B403.out)).mono ?_
                  rintro e w404 ⟨rfl, hb404⟩
                  have B404 := Lib.hid (show Below w.heap.size w w404 from Below.trans B403.out (Below.mono hb404 (Below.size B403.out)))
                  have GS_404 := Lib.hid ((Below.block hb404 S LS_403.out).trans GS_403.out)
                  have LS_404 := Lib.hid (Nat.lt_of_lt_of_le LS_403.out (Below.size hb404))
                  have GM_404 := Lib.hid ((Below.block hb404 M LM_403.out).trans GM_403.out)
                  have LM_404 := Lib.hid (Nat.lt_of_lt_of_le LM_403.out (Below.size hb404))
                  have GQ_404 := Lib.hid ((Below.block hb404 Q LQ_403.out).trans GQ_403.out)
                  have LQ_404 := Lib.hid (Nat.lt_of_lt_of_le LQ_403.out (Below.size hb404))
                  have GV_404 := Lib.hid ((Below.block hb404 V LV_403.out).trans GV_403.out)
                  have LV_404 := Lib.hid (Nat.lt_of_lt_of_le LV_403.out (Below.size hb404))
                  have GX_404 := Lib.hid ((Below.block hb404 X LX_403.out).trans GX_403.out)
                  have LX_404 := Lib.hid (Nat.lt_of_lt_of_le LX_403.out (Below.size hb404))
                  have SAP_404 := Lib.hid (SAP_403.out.below hb404)
                  have RSA_404 := Lib.hid (RSA_403.out.below hb404)
                  have RPA_404 := Lib.hid (RPA_403.out.below hb404)
                  clear hb404
                  obtain ⟨Y, hY⟩ : ∃ z, z = w404.heap.size := ⟨_, rfl⟩
                  obtain ⟨w405, hw405⟩ : ∃ z, z = w404.alloc (.cells (dV R) 23) := ⟨_, rfl⟩
                  have st405 : Below w404.heap.size w404 w405 := by rw [hw405]; exact (Below.refl _ _).alloc (Nat.le_refl _) _
                  have B405 := Lib.hid (show Below w.heap.size w w405 from Below.trans B404.out (Below.mono st405 (Below.size B404.out)))
                  have GS_405 := Lib.hid ((Below.block st405 S LS_404.out).trans GS_404.out)
                  have LS_405 := Lib.hid (Nat.lt_of_lt_of_le LS_404.out (Below.size st405))
                  have GM_405 := Lib.hid ((Below.block st405 M LM_404.out).trans GM_404.out)
                  have LM_405 := Lib.hid (Nat.lt_of_lt_of_le LM_404.out (Below.size st405))
                  have GQ_405 := Lib.hid ((Below.block st405 Q LQ_404.out).trans GQ_404.out)
                  have LQ_405 := Lib.hid (Nat.lt_of_lt_of_le LQ_404.out (Below.size st405))
                  have GV_405 := Lib.hid ((Below.block st405 V LV_404.out).trans GV_404.out)
                  have LV_405 := Lib.hid (Nat.lt_of_lt_of_le LV_404.out (Below.size st405))
                  have GX_405 := Lib.hid ((Below.block st405 X LX_404.out).trans GX_404.out)
                  have LX_405 := Lib.hid (Nat.lt_of_lt_of_le LX_404.out (Below.size st405))
                  have SAP_405 := Lib.hid (SAP_404.out.below st405)
                  have RSA_405 := Lib.hid (RSA_404.out.below st405)
                  have RPA_405 := Lib.hid (RPA_404.out.below st405)
                  have GY_405 := Lib.hid (show w405.heap[Y]? = some (.cells (dV R) 23 (0, 0)) by rw [hw405, hY]; exact heap_alloc_new _ _)
                  have LY_405 := Lib.hid (lt_of_heap GY_405.out)
                  have HY := Lib.hid hY
                  have Hw405 := Lib.hid hw405
                  clear hY hw405 st405
                  go_wp2_with (first
                    | (refine at_st 23 (.tmp 28) (.tmp 169) rfl ?_; (refine st_new rfl (.tmp 28) (.tmp 169) rfl R RL.out (by rfl) _ _ (by rfl) (by rfl) ?_); rw [← HY.out, ← Hw405.out])
                    | (refine at_ld 23 (.tmp 22) rfl ?_; (refine ld_digG rfl (.tmp 22) rfl (V) 0 (by rfl) x0 SL.out (range_of_row GV_405.out) ?_); simp only [Act.put, List.setIfInBounds_toArray, List.set_cons_zero, List.set_cons_succ])
                    | (refine at_ld 23 (.tmp 6) rfl ?_; (refine ld_digG rfl (.tmp 6) rfl (S) 0 (by rfl) x0 SL.out (range_of_row GS_405.out) ?_); simp only [Act.put, List.setIfInBounds_toArray, List.set_cons_zero, List.set_cons_succ])
                    | (refine at_bin .eql 23 (.tmp 171) (.tmp 172) _ rfl ?_; (refine eq_digG rfl (.tmp 171) (.tmp 172) _ rfl x0 x0 (by rfl) (by rfl) SL.out SL.out ?_); rw [beq_self_eq_true]; simp only [Act.put, List.setIfInBounds_toArray, List.set_cons_zero, List.set_cons_succ])
                    | (refine at_ld 23 (.tmp 28) rfl ?_; (refine ld_digG rfl (.tmp 28) rfl (Y) 0 (by rfl) R RL.out (range_of_row GY_405.out) ?_); simp only [Act.put, List.setIfInBounds_toArray, List.set_cons_zero, List.set_cons_succ])
                    | (refine at_ld 23 (.tmp 13) rfl ?_; (refine ld_digG rfl (.tmp 13) rfl (Q) 0 (by rfl) R RL.out (range_of_row GQ_405.out) ?_); simp only [Act.put, List.setIfInBounds_toArray, List.set_cons_zero, List.set_cons_succ])
                    | (refine at_bin .eql 23 (.tmp 183) (.tmp 184) _ rfl ?_; (refine eq_digG rfl (.tmp 183) (.tmp 184) _ rfl R R (by rfl) (by rfl) RL.out RL.out ?_); rw [beq_self_eq_true]; simp only [Act.put, List.setIfInBounds_toArray, List.set_cons_zero, List.set_cons_succ]))
                  go_ret
                  exact ⟨rfl, B405.out⟩
    · have CA := Split_no hfa (some ⟨S, 0, none⟩) 32 23 a3 c3 e3 v3 w4 RS.out (R3.out.below B4.out) (M3.out.below B4.out) (by rw [SL.out]; decide) l3
      rw [SL.out] at CA
      go_wp2_with fail
      refine (CA).mono ?_
      rintro e w5 ⟨rfl, hb5⟩
      have B5 := Lib.hid (show Below w.heap.size w w5 from Below.trans B4.out (Below.mono hb5 (Below.size B4.out)))
      have GS_5 := Lib.hid ((Below.block hb5 S LS_4.out).trans GS_4.out)
      have LS_5 := Lib.hid (Nat.lt_of_lt_of_le LS_4.out (Below.size hb5))
      have GM_5 := Lib.hid ((Below.block hb5 M LM_4.out).trans GM_4.out)
      have LM_5 := Lib.hid (Nat.lt_of_lt_of_le LM_4.out (Below.size hb5))
      have GQ_5 := Lib.hid ((Below.block hb5 Q LQ_4.out).trans GQ_4.out)
      have LQ_5 := Lib.hid (Nat.lt_of_lt_of_le LQ_4.out (Below.size hb5))
      clear CA
      clear hb5
      go_wp2_with fail
      refine (Join_fact w5).mono ?_
      rintro e w6 ⟨fa, fc, rfl, hb6⟩
      have B6 := Lib.hid (show Below w.heap.size w w6 from Below.trans B5.out (Below.mono hb6 (Below.size B5.out)))
      have GS_6 := Lib.hid ((Below.block hb6 S LS_5.out).trans GS_5.out)
      have LS_6 := Lib.hid (Nat.lt_of_lt_of_le LS_5.out (Below.size hb6))
      have GM_6 := Lib.hid ((Below.block hb6 M LM_5.out).trans GM_5.out)
      have LM_6 := Lib.hid (Nat.lt_of_lt_of_le LM_5.out (Below.size hb6))
      have GQ_6 := Lib.hid ((Below.block hb6 Q LQ_5.out).trans GQ_5.out)
      have LQ_6 := Lib.hid (Nat.lt_of_lt_of_le LQ_5.out (Below.size hb6))
      clear hb6
      go_wp2_with fail
      go_ret
      exact ⟨rfl, B6.out⟩
end topBackup
end Go.Proofs.YtkioddmhjbaleaaDoor
