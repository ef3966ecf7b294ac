/- The walk of StampTells: what the statement's function answers. -/
import Derived.Test.YtkioddmhjbaleaaDoorStampL
import Derived.Test.YtkioddmhjbaleaaDoorSigEq
import Derived.Test.YtkioddmhjbaleaaDoorLaidRH
import Derived.WalkKit
import Derived.StillTailTactics
import Derived.Deep.RegionHeld3
import Derived.Laws.OwnMore
import Derived.BigQuiet
import Derived.Below
namespace Go.Proofs.YtkioddmhjbaleaaDoor
open Go.RowKit
set_option linter.unusedVariables false
set_option linter.unusedSimpArgs false
namespace stampTells
theorem PubBad (Z : List UInt8) (hZ : Z = nz) (seed : List UInt8) (hs : seed.length = 32) (h : Int) (hh : h < 0 ∨ 4 < h) (w : World) :
    Calls Tryd.prog 10 #[.agg (dV seed), .int .i64 h] w fun e w' => e = .returned (.tuple #[.agg (dV Z), .iface 41 (.int .i64 2)]) ∧ Below w.heap.size w w' := by
  subst hZ; exact SPublic_bad seed hs h hh w
theorem Left_z (seed : List UInt8) (hs : seed.length = 32) (P n nx d : Nat) (hd : d + nx = n) (hn : n ≤ 256) (w : World) (h : StampAt w P seed n nx) : Calls Tryd.prog 21 #[.pointer (some ⟨P, 0, none⟩)] w fun e w' => e = .returned (.int .i64 (d : Int)) ∧ Below w.heap.size w w' := by
  have := Left_calls seed hs P n nx hn (by omega) w h
  rw [show n - nx = d by omega] at this
  exact this
theorem stepDig {ops : Array Oper} {o : Oper} {a : Act} {w : World} {K : Act → World → Prop} {Q : Exit → Act → World → Prop} {E : Prop} (hgd : o.guard = none) (x y : Operand) (ho : o.op = .store 23 x y) (g : Nat) (d : List UInt8) (hl : d.length = 32) (hx : a.eval x = .pointer (some ⟨g, 0, none⟩)) (hy : a.eval y = .agg (dV d)) (old : Array Value) (hold : old.size = 32) (t : TypeId) (hg : w.heap[g]? = some (.cells old t (0, 0)))
    (h : K (a.put o.dst undef) (w.setRow g (dV d))) : if Region.wanted o (yielded ops a.tmps) = true then Oper.wp Tryd.prog o a w K Q else E := by
  rw [if_pos (by unfold Region.wanted; rw [hgd])]
  exact wp_store_row _ x y ho g (dV d) hx hy t old hg (info_dV hl) (by rw [dV_size hl, hold]) (dV_one d) h
theorem range_keepS {w w' : World} {b o : Nat} {vs : List Value} (hb : Below w.heap.size w w') (h : w.rangeAt b o vs) (hl : b < w.heap.size) : w'.rangeAt b o vs :=
  fun j v hj => (hb.cell (p := ⟨b, o + j, none⟩) hl).trans (h j v hj)
theorem range_sig {w : World} {X : Nat} {u v z : Value} {t : TypeId} {fr : Nat × Nat} (h : w.heap[X]? = some (.cells #[u, v, z] t fr)) : w.rangeAt X 0 [u, v, z] := fun j v hj => by
  rw [Nat.zero_add, cell_of_row w X j _ t fr h]; simpa using hj
theorem RecOwn (x0 D R : List UInt8) (hD : D.length = 32) (h n m : Nat) (hh : h ≤ 4) (hn : n = 2 ^ h) (hm : m < n) (hR : R = troot (leavesK x0 n)) (sa pa : Option Addr) (sc pc e0 e1 : Nat) (w : World) (hr : Rd w sa e0 ((wsig (skey x0 m) D).flatten.map vB)) (hp : Rd w pa e1 ((tpath (leavesK x0 n) m).flatten.map vB)) (hro : RoundsAt w) :
    Calls Tryd.prog 12 #[.agg (dV D), .int .i64 (h : Int), .agg #[.int .i64 (m : Int), .slice sa 67 sc, .slice pa (tlong m n) pc]] w fun e w' => e = .returned (.tuple #[.agg (dV R), .nilIface]) ∧ Below w.heap.size w w' := by
  have hl : (tpath (leavesK x0 n) m).length = tlong m n := by
    have := tpath_long _ (leavesK x0 n) m (Nat.le_refl _)
    rwa [leavesK_length] at this
  have hf : tfold (wpub (skey x0 m)) m n (tpath (leavesK x0 n) m) = R := by
    have := tfold_path _ (leavesK x0 n) m _ (leavesK_get x0 n m hm) (Nat.le_refl _)
    rw [leavesK_length] at this
    rw [this, hR]
  have := Recover_z D hD (wsig (skey x0 m) D) (wsig_dig _ _) (wsig_length _ _) h h rfl hh n hn m m rfl hm sa pa sc (tlong m n) pc e0 e1 (tpath (leavesK x0 n) m) (tpath_dig _ _ _ (Nat.le_refl _) (leavesK_dig _ _)) hl hl.symm w hr hp hro
  rw [wkey_sig, hf] at this
  exact this
theorem RLeaves_z (seed : List UInt8) (hs : seed.length = 32) (h n : Nat) (hh : h ≤ 4) (hn : n = 2 ^ h) (w : World) :
    Calls Tryd.prog 16 #[.agg (dV seed), .int .i64 (h : Int)] w fun e w' => ∃ a cap, e = .returned (.slice a n cap) ∧ n ≤ cap ∧ cap ≤ 9223372036854775807 ∧ Rd w' a 23 ((leavesK seed n).flatten.map vB) ∧ (∀ x, a = some x → w.heap.size ≤ x.block) ∧ Below w.heap.size w w' := by
  subst hn
  refine (RLeavesK_calls seed hs h hh w).mono ?_
  rintro e w' ⟨a, cap, rfl, ho, hb⟩
  have hc := own_cappW ho
  exact ⟨a, cap, rfl, hc.1, hc.2, Rd.of_own ho, fun x hx => by subst hx; exact (ho.lt x.block rfl).1, hb⟩
theorem Rd.setRowS {w : World} {a : Option Addr} {e : TypeId} {vs : List Value} (h : Rd w a e vs) {g : Nat} {cs : Array Value} (hne : ∀ x, a = some x → x.block ≠ g) : Rd (w.setRow g cs) a e vs := by
  rcases h with h0 | ⟨b, o, cur, fr', rfl, hc, hi⟩
  · exact .inl h0
  · exact .inr ⟨b, o, cur, fr', rfl, (_root_.Go.setRow_other _ _ _ _ (hne _ rfl)).trans hc, hi⟩
theorem RRoot_z (seed : List UInt8) (n : Nat) (h256 : n ≤ 256) (R : List UInt8) (hR : R = troot (leavesK seed n)) (a : Option Addr) (cap e : Nat) (hc : n ≤ cap) (hc2 : cap ≤ 9223372036854775807) (w : World) (hr : Rd w a e ((leavesK seed n).flatten.map vB)) :
    Calls Tryd.prog 17 #[.slice a n cap] w fun e w' => e = .returned (.agg (dV R)) ∧ Below w.heap.size w w' := by
  have := RRoot_calls n (leavesK seed n) (by rw [leavesK_length]; exact Nat.le_refl _) (by rw [leavesK_length]; exact h256) (leavesK_dig _ _) a cap e (by rw [leavesK_length]; exact hc) hc2 w hr
  rw [leavesK_length, ← hR] at this
  exact this
theorem RPath_z (seed : List UInt8) (n i : Nat) (h256 : n ≤ 256) (hi : i < n) (a : Option Addr) (cap e : Nat) (hc : n ≤ cap) (hc2 : cap ≤ 9223372036854775807) (w : World) (hr : Rd w a e ((leavesK seed n).flatten.map vB)) :
    Calls Tryd.prog 20 #[.slice a n cap, .int .i64 (i : Int)] w fun e w' => ∃ a' c', e = .returned (.slice a' (tlong i n) c') ∧ Rd w' a' 23 ((tpath (leavesK seed n) i).flatten.map vB) ∧ Below w.heap.size w w' := by
  have := RPath_calls n (leavesK seed n) i (by rw [leavesK_length]; exact Nat.le_refl _) (by rw [leavesK_length]; exact h256) (by rw [leavesK_length]; exact hi) (leavesK_dig _ _) a cap e (by rw [leavesK_length]; exact hc) hc2 w hr
  rw [leavesK_length] at this
  refine this.mono ?_
  rintro e w' ⟨a', c', rfl, ho, hb⟩
  exact ⟨a', c', rfl, Rd.of_own ho, hb⟩
theorem RWSigned_z (seed m : List UInt8) (hs : seed.length = 32) (hm : m.length = 32) (w : World) :
    Calls Tryd.prog 19 #[.agg (dV seed), .agg (dV m)] w fun e w' => ∃ a cap, e = .returned (.slice a 67 cap) ∧ Rd w' a 23 ((wsig seed m).flatten.map vB) ∧ Below w.heap.size w w' := by
  refine (RWSigned_calls seed m hs hm w).mono ?_
  rintro e w' ⟨a', c', rfl, ho, hb⟩
  exact ⟨a', c', rfl, Rd.of_own ho, hb⟩
theorem load_i64 {p : Addr} {z : Int} {w : World} (h : w.cell? p = some (.int .i64 z)) : (loadVar 3 p).run Tryd.prog w = .ok (.int .i64 z) w := by go_simp
theorem quiet_int {ops : Array Oper} {C : World → Prop} {Q : Act → Prop} {a : Act} {op : Oper} {rest : List Oper} {x1 : Operand} (ho : op.op = .load 3 x1) (x : Operand) (he_ : x1 = x) (p : Addr) (hx : a.eval x = .pointer (some p)) (z : Int) (hC : ∀ w, C w → w.cell? p = some (.int .i64 z))
    (h : wpQuiet Tryd.prog ops C Q rest (a.put op.dst (.int .i64 z))) (hgd : Region.wanted op (yielded ops a.tmps) = true) : wpQuiet Tryd.prog ops C Q (op :: rest) a := by
  cases he_
  exact quiet_cell hgd _ _ ho p hx _ (fun w hw => load_i64 (hC w hw)) h
theorem load_slS {p : Addr} {a : Option Addr} {l c : Nat} {w : World} (h : w.cell? p = some (.slice a l c)) : (loadVar 31 p).run Tryd.prog w = .ok (.slice a l c) w := by go_simp
theorem quiet_slS {ops : Array Oper} {C : World → Prop} {Q : Act → Prop} {a : Act} {op : Oper} {rest : List Oper} {x1 : Operand} (ho : op.op = .load 31 x1) (x : Operand) (he_ : x1 = x) (p : Addr) (hx : a.eval x = .pointer (some p)) (b : Option Addr) (l c : Nat) (hC : ∀ w, C w → w.cell? p = some (.slice b l c))
    (h : wpQuiet Tryd.prog ops C Q rest (a.put op.dst (.slice b l c))) (hgd : Region.wanted op (yielded ops a.tmps) = true) : wpQuiet Tryd.prog ops C Q (op :: rest) a := by
  cases he_
  exact quiet_cell hgd _ _ ho p hx _ (fun w hw => load_slS (hC w hw)) h
theorem stepSig {ops : Array Oper} {o : Oper} {a : Act} {w : World} {K : Act → World → Prop} {Q : Exit → Act → World → Prop} {E : Prop} (hgd : o.guard = none) (x y : Operand) (ho : o.op = .store 33 x y) (g : Nat) (u v z : Value) (hx : a.eval x = .pointer (some ⟨g, 0, none⟩)) (hy : a.eval y = .agg #[u, v, z]) (old : Array Value) (hold : old.size = 3) (t : TypeId) (hg : w.heap[g]? = some (.cells old t (0, 0))) (h1 : (#[u, v, z] : Array Value).all (·.oneCell') = true)
    (h : K (a.put o.dst undef) (w.setRow g #[u, v, z])) : if Region.wanted o (yielded ops a.tmps) = true then Oper.wp Tryd.prog o a w K Q else E := by
  rw [if_pos (by unfold Region.wanted; rw [hgd])]
  exact wp_store_row _ x y ho g #[u, v, z] hx hy t old hg (info_sig u v z) hold h1 h
theorem SigSame (i : Int) (gs ps : List (List UInt8)) (hg : ∀ c ∈ gs, c.length = 32) (hp : ∀ c ∈ ps, c.length = 32) (h67 : gs.length = 67) (t : Nat) (ht : ps.length = t) (ga ha pa qa : Option Addr) (gc hc pc qc e1 e2 e3 e4 : Nat) (w : World)
    (rg : Rd w ga e1 (gs.flatten.map vB)) (rh : Rd w ha e2 (gs.flatten.map vB)) (rp : Rd w pa e3 (ps.flatten.map vB)) (rq : Rd w qa e4 (ps.flatten.map vB)) (ht2 : t ≤ 9223372036854775807) :
    Calls Tryd.prog 22 #[.agg #[.int .i64 i, .slice ga 67 gc, .slice pa t pc], .agg #[.int .i64 i, .slice ha 67 hc, .slice qa t qc]] w fun e w' => e = .returned (.bool true) ∧ Below w.heap.size w w' := by
  subst ht
  have := Signature_calls i i gs gs ps ps hg hg hp hp ga ha pa qa gc hc pc qc e1 e2 e3 e4 w rg rh rp rq (by omega) ht2 true (by simp)
  rw [h67] at this
  exact this
theorem RWKey_z (m : List UInt8) (hm : m.length = 32) (sig : List (List UInt8)) (h67 : sig.length = 67) (hd : ∀ d ∈ sig, d.length = 32) (a : Option Addr) (cap e : Nat) (w : World) (hr : Rd w a e (sig.flatten.map vB)) (K : List UInt8) (hK : K = wkey m sig) :
    Calls Tryd.prog 25 #[.agg (dV m), .slice a sig.length cap] w fun e w' => e = .returned (.agg (dV K)) ∧ Below w.heap.size w w' := by
  rw [hK]; exact RWKey_calls m hm sig h67 hd a cap e w hr
-- HOLE: the walk
set_option maxRecDepth 20000 in
set_option maxHeartbeats 16000000 in
theorem walk (x0 : List UInt8) (a1 : Int) (x2 : List (List UInt8)) (a2 : Option Addr) (c2 e2 : Nat) (x3 : List UInt8) (j4 : Int) (x4 : List (List UInt8)) (a4 : Option Addr) (c4 e4 : Nat) (y4 : List (List UInt8)) (b4 : Option Addr) (d4 f4 : Nat) (w : World) (n0 : x0.length = 32) (h1 : -9223372036854775808 ≤ a1 ∧ a1 ≤ 9223372036854775807) (l2 : x2.length * 32 ≤ 140737488351232) (n2 : ∀ d ∈ x2, d.length = 32) (r2 : Rd w a2 e2 (x2.flatten.map vB)) (n3 : x3.length = 32) (h4 : -9223372036854775808 ≤ j4 ∧ j4 ≤ 9223372036854775807) (l4 : x4.length ≤ c4) (m4 : c4 ≤ 9223372036854775807) (n4 : ∀ d ∈ x4, d.length = 32) (r4 : Rd w a4 e4 (x4.flatten.map vB)) (k4 : y4.length ≤ d4) (g4 : d4 ≤ 9223372036854775807) (o4 : ∀ d ∈ y4, d.length = 32) (s4 : Rd w b4 f4 (y4.flatten.map vB)) (hro : RoundsAt w) (hg : ErrVar w) :
    Calls Tryd.prog 4 #[.agg (dV x0), .int .i64 a1, .slice a2 x2.length c2, .agg (dV x3), .agg #[.int .i64 j4, .slice a4 x4.length c4, .slice b4 y4.length d4]] w fun e w' => e = .returned (.bool true) ∧ Below w.heap.size w w' := by
  have SL := Lib.hid n0
  have ML := Lib.hid n3
  have RO := Lib.hid hro
  have HG := Lib.hid hg
  have N2 := Lib.hid n2
  have R2 := Lib.hid r2
  have N4 := Lib.hid n4
  have R4 := Lib.hid r4
  have O4 := Lib.hid o4
  have S4 := Lib.hid s4
  have K4 := Lib.hid (And.intro k4 g4)
  clear n0 n3 hro hg n2 r2 n4 r4 o4 s4 k4 g4
  obtain ⟨Z, hZ⟩ : ∃ Z, Z = nz := ⟨_, rfl⟩
  have ZL := Lib.hid (show Z.length = 32 by rw [hZ]; rfl)
  have HZ := Lib.hid hZ
  have ZT := Lib.hid (show (#[.int .u8 0, .int .u8 0, .int .u8 0, .int .u8 0, .int .u8 0, .int .u8 0, .int .u8 0, .int .u8 0, .int .u8 0, .int .u8 0, .int .u8 0, .int .u8 0, .int .u8 0, .int .u8 0, .int .u8 0, .int .u8 0, .int .u8 0, .int .u8 0, .int .u8 0, .int .u8 0, .int .u8 0, .int .u8 0, .int .u8 0, .int .u8 0, .int .u8 0, .int .u8 0, .int .u8 0, .int .u8 0, .int .u8 0, .int .u8 0, .int .u8 0, .int .u8 0] : Array Value) = dV Z by rw [hZ]; exact zdig)
  clear hZ
  by_cases hl20 : 20 < x2.length
  · have q4 : decide ((20 : Int) < (x2.length : Int)) = true := decide_eq_true (by omega)
    have q5 : decide (20 < x2.length) = true := decide_eq_true (by omega)
    obtain ⟨S, hS⟩ : ∃ z, z = w.heap.size := ⟨_, rfl⟩
    obtain ⟨w1, hw1⟩ : ∃ z, z = w.alloc (.cells (dV x0) 23) := ⟨_, rfl⟩
    have st1 : Below w.heap.size w w1 := by rw [hw1]; exact (Below.refl _ _).alloc (Nat.le_refl _) _
    have B1 := Lib.hid (show Below w.heap.size w w1 from Below.trans (Below.refl w.heap.size w) (Below.mono st1 (Below.size (Below.refl w.heap.size w))))
    have GS_1 := Lib.hid (show w1.heap[S]? = some (.cells (dV x0) 23 (0, 0)) by rw [hw1, hS]; exact heap_alloc_new _ _)
    have LS_1 := Lib.hid (lt_of_heap GS_1.out)
    have HS := Lib.hid hS
    have Hw1 := Lib.hid hw1
    clear hS hw1 st1
    have SZS := Lib.hid (show S = w.heap.size from HS.out)
    obtain ⟨M, hM⟩ : ∃ z, z = w1.heap.size := ⟨_, rfl⟩
    obtain ⟨w2, hw2⟩ : ∃ z, z = w1.alloc (.cells (dV x3) 23) := ⟨_, rfl⟩
    have st2 : Below w1.heap.size w1 w2 := by rw [hw2]; exact (Below.refl _ _).alloc (Nat.le_refl _) _
    have B2 := Lib.hid (show Below w.heap.size w w2 from Below.trans B1.out (Below.mono st2 (Below.size B1.out)))
    have GS_2 := Lib.hid ((Below.block st2 S LS_1.out).trans GS_1.out)
    have LS_2 := Lib.hid (Nat.lt_of_lt_of_le LS_1.out (Below.size st2))
    have GM_2 := Lib.hid (show w2.heap[M]? = some (.cells (dV x3) 23 (0, 0)) by rw [hw2, hM]; exact heap_alloc_new _ _)
    have LM_2 := Lib.hid (lt_of_heap GM_2.out)
    have HM := Lib.hid hM
    have Hw2 := Lib.hid hw2
    clear hM hw2 st2
    have SZM := Lib.hid (show M = w.heap.size + 1 by rw [HM.out, Hw1.out, World.size_alloc, ← HS.out, SZS.out])
    obtain ⟨SB, hSB⟩ : ∃ z, z = w2.heap.size := ⟨_, rfl⟩
    obtain ⟨w3, hw3⟩ : ∃ z, z = w2.alloc (.cells #[.int .i64 j4, .slice a4 x4.length c4, .slice b4 y4.length d4] 33) := ⟨_, rfl⟩
    have st3 : Below w2.heap.size w2 w3 := by rw [hw3]; exact (Below.refl _ _).alloc (Nat.le_refl _) _
    have B3 := Lib.hid (show Below w.heap.size w w3 from Below.trans B2.out (Below.mono st3 (Below.size B2.out)))
    have GS_3 := Lib.hid ((Below.block st3 S LS_2.out).trans GS_2.out)
    have LS_3 := Lib.hid (Nat.lt_of_lt_of_le LS_2.out (Below.size st3))
    have GM_3 := Lib.hid ((Below.block st3 M LM_2.out).trans GM_2.out)
    have LM_3 := Lib.hid (Nat.lt_of_lt_of_le LM_2.out (Below.size st3))
    have GSB_3 := Lib.hid (show w3.heap[SB]? = some (.cells #[.int .i64 j4, .slice a4 x4.length c4, .slice b4 y4.length d4] 33 (0, 0)) by rw [hw3, hSB]; exact heap_alloc_new _ _)
    have LSB_3 := Lib.hid (lt_of_heap GSB_3.out)
    have HSB := Lib.hid hSB
    have Hw3 := Lib.hid hw3
    clear hSB hw3 st3
    have SZSB := Lib.hid (show SB = w.heap.size + 1 + 1 by rw [HSB.out, Hw2.out, World.size_alloc, ← HM.out, SZM.out])
    go_enter Tryd.func4, Tryd.ntmps4
    go_upto_region 1 with fail
    rw [← SZSB.out, ← SZM.out, ← SZS.out, ← Hw1.out, ← Hw2.out, ← Hw3.out]
    go_wp2_with fail
    go_ret
    exact ⟨rfl, B3.out⟩
  · have q4 : decide ((20 : Int) < (x2.length : Int)) = false := decide_eq_false (by omega)
    have q5 : decide (20 < x2.length) = false := decide_eq_false (by omega)
    by_cases hbad : a1 < 0 ∨ 4 < a1
    · have HBD := Lib.hid hbad
      rcases hbad with h1 | h1
      · by_cases hz : 0 < x2.length
        · have z1 : decide ((0 : Int) < (x2.length : Int)) = true := decide_eq_true (by omega)
          have z2 : decide (0 < x2.length) = true := decide_eq_true hz
          obtain ⟨S, hS⟩ : ∃ z, z = w.heap.size := ⟨_, rfl⟩
          obtain ⟨w1, hw1⟩ : ∃ z, z = w.alloc (.cells (dV x0) 23) := ⟨_, rfl⟩
          have st1 : Below w.heap.size w w1 := by rw [hw1]; exact (Below.refl _ _).alloc (Nat.le_refl _) _
          have B1 := Lib.hid (show Below w.heap.size w w1 from Below.trans (Below.refl w.heap.size w) (Below.mono st1 (Below.size (Below.refl w.heap.size w))))
          have GS_1 := Lib.hid (show w1.heap[S]? = some (.cells (dV x0) 23 (0, 0)) by rw [hw1, hS]; exact heap_alloc_new _ _)
          have LS_1 := Lib.hid (lt_of_heap GS_1.out)
          have HS := Lib.hid hS
          have Hw1 := Lib.hid hw1
          clear hS hw1 st1
          have SZS := Lib.hid (show S = w.heap.size from HS.out)
          obtain ⟨M, hM⟩ : ∃ z, z = w1.heap.size := ⟨_, rfl⟩
          obtain ⟨w2, hw2⟩ : ∃ z, z = w1.alloc (.cells (dV x3) 23) := ⟨_, rfl⟩
          have st2 : Below w1.heap.size w1 w2 := by rw [hw2]; exact (Below.refl _ _).alloc (Nat.le_refl _) _
          have B2 := Lib.hid (show Below w.heap.size w w2 from Below.trans B1.out (Below.mono st2 (Below.size B1.out)))
          have GS_2 := Lib.hid ((Below.block st2 S LS_1.out).trans GS_1.out)
          have LS_2 := Lib.hid (Nat.lt_of_lt_of_le LS_1.out (Below.size st2))
          have GM_2 := Lib.hid (show w2.heap[M]? = some (.cells (dV x3) 23 (0, 0)) by rw [hw2, hM]; exact heap_alloc_new _ _)
          have LM_2 := Lib.hid (lt_of_heap GM_2.out)
          have HM := Lib.hid hM
          have Hw2 := Lib.hid hw2
          clear hM hw2 st2
          have SZM := Lib.hid (show M = w.heap.size + 1 by rw [HM.out, Hw1.out, World.size_alloc, ← HS.out, SZS.out])
          obtain ⟨SB, hSB⟩ : ∃ z, z = w2.heap.size := ⟨_, rfl⟩
          obtain ⟨w3, hw3⟩ : ∃ z, z = w2.alloc (.cells #[.int .i64 j4, .slice a4 x4.length c4, .slice b4 y4.length d4] 33) := ⟨_, rfl⟩
          have st3 : Below w2.heap.size w2 w3 := by rw [hw3]; exact (Below.refl _ _).alloc (Nat.le_refl _) _
          have B3 := Lib.hid (show Below w.heap.size w w3 from Below.trans B2.out (Below.mono st3 (Below.size B2.out)))
          have GS_3 := Lib.hid ((Below.block st3 S LS_2.out).trans GS_2.out)
          have LS_3 := Lib.hid (Nat.lt_of_lt_of_le LS_2.out (Below.size st3))
          have GM_3 := Lib.hid ((Below.block st3 M LM_2.out).trans GM_2.out)
          have LM_3 := Lib.hid (Nat.lt_of_lt_of_le LM_2.out (Below.size st3))
          have GSB_3 := Lib.hid (show w3.heap[SB]? = some (.cells #[.int .i64 j4, .slice a4 x4.length c4, .slice b4 y4.length d4] 33 (0, 0)) by rw [hw3, hSB]; exact heap_alloc_new _ _)
          have LSB_3 := Lib.hid (lt_of_heap GSB_3.out)
          have HSB := Lib.hid hSB
          have Hw3 := Lib.hid hw3
          clear hSB hw3 st3
          have SZSB := Lib.hid (show SB = w.heap.size + 1 + 1 by rw [HSB.out, Hw2.out, World.size_alloc, ← HM.out, SZM.out])
          go_enter Tryd.func4, Tryd.ntmps4
          go_upto_region 1 with fail
          rw [← SZSB.out, ← SZM.out, ← SZS.out, ← Hw1.out, ← Hw2.out, ← Hw3.out]
          go_upto_region 5 with fail
          obtain ⟨V, hV⟩ : ∃ z, z = w3.heap.size := ⟨_, rfl⟩
          obtain ⟨w4, hw4⟩ : ∃ z, z = w3.alloc (.cells (dV Z) 23) := ⟨_, rfl⟩
          have st4 : Below w3.heap.size w3 w4 := by rw [hw4]; exact (Below.refl _ _).alloc (Nat.le_refl _) _
          have B4 := Lib.hid (show Below w.heap.size w w4 from Below.trans B3.out (Below.mono st4 (Below.size B3.out)))
          have GS_4 := Lib.hid ((Below.block st4 S LS_3.out).trans GS_3.out)
          have LS_4 := Lib.hid (Nat.lt_of_lt_of_le LS_3.out (Below.size st4))
          have GM_4 := Lib.hid ((Below.block st4 M LM_3.out).trans GM_3.out)
          have LM_4 := Lib.hid (Nat.lt_of_lt_of_le LM_3.out (Below.size st4))
          have GSB_4 := Lib.hid ((Below.block st4 SB LSB_3.out).trans GSB_3.out)
          have LSB_4 := Lib.hid (Nat.lt_of_lt_of_le LSB_3.out (Below.size st4))
          have GV_4 := Lib.hid (show w4.heap[V]? = some (.cells (dV Z) 23 (0, 0)) by rw [hw4, hV]; exact heap_alloc_new _ _)
          have LV_4 := Lib.hid (lt_of_heap GV_4.out)
          have HV := Lib.hid hV
          have Hw4 := Lib.hid hw4
          clear hV hw4 st4
          go_upto_region 10 with fail
          rw [ZT.out, ← HV.out, ← Hw4.out]
          go_wp2_with (first
            | (refine at_ld 23 (.tmp 5) rfl ?_; (refine ld_digG rfl (.tmp 5) rfl (S) 0 (by rfl) x0 SL.out (range_of_row GS_4.out) ?_); simp only [Act.put, List.setIfInBounds_toArray, List.set_cons_zero, List.set_cons_succ]))
          refine (PubBad Z HZ.out x0 SL.out a1 HBD.out w4).mono ?_
          rintro e w5 ⟨rfl, hb5⟩
          have B5 := Lib.hid (show Below w.heap.size w w5 from Below.trans B4.out (Below.mono hb5 (Below.size B4.out)))
          have GS_5 := Lib.hid ((Below.block hb5 S LS_4.out).trans GS_4.out)
          have LS_5 := Lib.hid (Nat.lt_of_lt_of_le LS_4.out (Below.size hb5))
          have GM_5 := Lib.hid ((Below.block hb5 M LM_4.out).trans GM_4.out)
          have LM_5 := Lib.hid (Nat.lt_of_lt_of_le LM_4.out (Below.size hb5))
          have GSB_5 := Lib.hid ((Below.block hb5 SB LSB_4.out).trans GSB_4.out)
          have LSB_5 := Lib.hid (Nat.lt_of_lt_of_le LSB_4.out (Below.size hb5))
          have GV_5 := Lib.hid ((Below.block hb5 V LV_4.out).trans GV_4.out)
          have LV_5 := Lib.hid (Nat.lt_of_lt_of_le LV_4.out (Below.size hb5))
          clear hb5
          obtain ⟨Q, hQ⟩ : ∃ z, z = w5.heap.size := ⟨_, rfl⟩
          obtain ⟨w6, hw6⟩ : ∃ z, z = w5.alloc (.cells (dV Z) 23) := ⟨_, rfl⟩
          have st6 : Below w5.heap.size w5 w6 := by rw [hw6]; exact (Below.refl _ _).alloc (Nat.le_refl _) _
          have B6 := Lib.hid (show Below w.heap.size w w6 from Below.trans B5.out (Below.mono st6 (Below.size B5.out)))
          have GS_6 := Lib.hid ((Below.block st6 S LS_5.out).trans GS_5.out)
          have LS_6 := Lib.hid (Nat.lt_of_lt_of_le LS_5.out (Below.size st6))
          have GM_6 := Lib.hid ((Below.block st6 M LM_5.out).trans GM_5.out)
          have LM_6 := Lib.hid (Nat.lt_of_lt_of_le LM_5.out (Below.size st6))
          have GSB_6 := Lib.hid ((Below.block st6 SB LSB_5.out).trans GSB_5.out)
          have LSB_6 := Lib.hid (Nat.lt_of_lt_of_le LSB_5.out (Below.size st6))
          have GV_6 := Lib.hid ((Below.block st6 V LV_5.out).trans GV_5.out)
          have LV_6 := Lib.hid (Nat.lt_of_lt_of_le LV_5.out (Below.size st6))
          have GQ_6 := Lib.hid (show w6.heap[Q]? = some (.cells (dV Z) 23 (0, 0)) by rw [hw6, hQ]; exact heap_alloc_new _ _)
          have LQ_6 := Lib.hid (lt_of_heap GQ_6.out)
          have HQ := Lib.hid hQ
          have Hw6 := Lib.hid hw6
          clear hQ hw6 st6
          go_wp2_with (first
            | (refine at_st 23 (.tmp 14) (.tmp 45) rfl ?_; (refine st_new rfl (.tmp 14) (.tmp 45) rfl Z ZL.out (by rfl) _ _ (by rfl) (by rfl) ?_); rw [← HQ.out, ← Hw6.out]))
          refine (Error_err 2 2 true (by decide) w6 (HG.out.at_ B6.out)).mono ?_
          rintro e w7 ⟨rfl, hb7⟩
          have B7 := Lib.hid (show Below w.heap.size w w7 from Below.trans B6.out (Below.mono hb7 (Below.size B6.out)))
          have GS_7 := Lib.hid ((Below.block hb7 S LS_6.out).trans GS_6.out)
          have LS_7 := Lib.hid (Nat.lt_of_lt_of_le LS_6.out (Below.size hb7))
          have GM_7 := Lib.hid ((Below.block hb7 M LM_6.out).trans GM_6.out)
          have LM_7 := Lib.hid (Nat.lt_of_lt_of_le LM_6.out (Below.size hb7))
          have GSB_7 := Lib.hid ((Below.block hb7 SB LSB_6.out).trans GSB_6.out)
          have LSB_7 := Lib.hid (Nat.lt_of_lt_of_le LSB_6.out (Below.size hb7))
          have GV_7 := Lib.hid ((Below.block hb7 V LV_6.out).trans GV_6.out)
          have LV_7 := Lib.hid (Nat.lt_of_lt_of_le LV_6.out (Below.size hb7))
          have GQ_7 := Lib.hid ((Below.block hb7 Q LQ_6.out).trans GQ_6.out)
          have LQ_7 := Lib.hid (Nat.lt_of_lt_of_le LQ_6.out (Below.size hb7))
          clear hb7
          go_wp2_with (first
            | (refine at_ld 23 (.tmp 14) rfl ?_; (refine ld_digG rfl (.tmp 14) rfl (Q) 0 (by rfl) Z ZL.out (range_of_row GQ_7.out) ?_); simp only [Act.put, List.setIfInBounds_toArray, List.set_cons_zero, List.set_cons_succ])
            | (refine at_ld 23 (.tmp 13) rfl ?_; (refine ld_digG rfl (.tmp 13) rfl (V) 0 (by rfl) Z ZL.out (range_of_row GV_7.out) ?_); simp only [Act.put, List.setIfInBounds_toArray, List.set_cons_zero, List.set_cons_succ])
            | (refine at_bin .neq 23 (.tmp 53) (.tmp 54) _ rfl ?_; (refine neq_digG rfl (.tmp 53) (.tmp 54) _ rfl Z Z (by rfl) (by rfl) ZL.out ZL.out ?_); rw [beq_self_eq_true]; simp only [Act.put, List.setIfInBounds_toArray, List.set_cons_zero, List.set_cons_succ])
            | (refine at_ld 23 (.tmp 5) rfl ?_; (refine ld_digG rfl (.tmp 5) rfl (S) 0 (by rfl) x0 SL.out (range_of_row GS_7.out) ?_); simp only [Act.put, List.setIfInBounds_toArray, List.set_cons_zero, List.set_cons_succ]))
          refine (StampNew_bad x0 a1 HBD.out w7).mono ?_
          rintro e w8 ⟨rfl, hb8⟩
          have B8 := Lib.hid (show Below w.heap.size w w8 from Below.trans B7.out (Below.mono hb8 (Below.size B7.out)))
          have GS_8 := Lib.hid ((Below.block hb8 S LS_7.out).trans GS_7.out)
          have LS_8 := Lib.hid (Nat.lt_of_lt_of_le LS_7.out (Below.size hb8))
          have GM_8 := Lib.hid ((Below.block hb8 M LM_7.out).trans GM_7.out)
          have LM_8 := Lib.hid (Nat.lt_of_lt_of_le LM_7.out (Below.size hb8))
          have GSB_8 := Lib.hid ((Below.block hb8 SB LSB_7.out).trans GSB_7.out)
          have LSB_8 := Lib.hid (Nat.lt_of_lt_of_le LSB_7.out (Below.size hb8))
          have GV_8 := Lib.hid ((Below.block hb8 V LV_7.out).trans GV_7.out)
          have LV_8 := Lib.hid (Nat.lt_of_lt_of_le LV_7.out (Below.size hb8))
          have GQ_8 := Lib.hid ((Below.block hb8 Q LQ_7.out).trans GQ_7.out)
          have LQ_8 := Lib.hid (Nat.lt_of_lt_of_le LQ_7.out (Below.size hb8))
          clear hb8
          go_wp2_with fail
          refine (Error_err 2 2 true (by decide) w8 (HG.out.at_ B8.out)).mono ?_
          rintro e w9 ⟨rfl, hb9⟩
          have B9 := Lib.hid (show Below w.heap.size w w9 from Below.trans B8.out (Below.mono hb9 (Below.size B8.out)))
          have GS_9 := Lib.hid ((Below.block hb9 S LS_8.out).trans GS_8.out)
          have LS_9 := Lib.hid (Nat.lt_of_lt_of_le LS_8.out (Below.size hb9))
          have GM_9 := Lib.hid ((Below.block hb9 M LM_8.out).trans GM_8.out)
          have LM_9 := Lib.hid (Nat.lt_of_lt_of_le LM_8.out (Below.size hb9))
          have GSB_9 := Lib.hid ((Below.block hb9 SB LSB_8.out).trans GSB_8.out)
          have LSB_9 := Lib.hid (Nat.lt_of_lt_of_le LSB_8.out (Below.size hb9))
          have GV_9 := Lib.hid ((Below.block hb9 V LV_8.out).trans GV_8.out)
          have LV_9 := Lib.hid (Nat.lt_of_lt_of_le LV_8.out (Below.size hb9))
          have GQ_9 := Lib.hid ((Below.block hb9 Q LQ_8.out).trans GQ_8.out)
          have LQ_9 := Lib.hid (Nat.lt_of_lt_of_le LQ_8.out (Below.size hb9))
          clear hb9
          go_wp2_with fail
          go_loopw [18] (fun i wr => i = .int .i64 0 ∧ wr = w9) (fun _ _ => 0)
          case atStart => exact ⟨rfl, rfl⟩
          case round =>
            obtain ⟨rfl, hwr⟩ := hrel
            rw [hwr]
            go_upto_region 34 with fail
            obtain ⟨U, hU⟩ : ∃ z, z = w9.heap.size := ⟨_, rfl⟩
            obtain ⟨w10, hw10⟩ : ∃ z, z = w9.alloc (.cells (dV Z) 23) := ⟨_, rfl⟩
            have st10 : Below w9.heap.size w9 w10 := by rw [hw10]; exact (Below.refl _ _).alloc (Nat.le_refl _) _
            have B10 := Lib.hid (show Below w.heap.size w w10 from Below.trans B9.out (Below.mono st10 (Below.size B9.out)))
            have GS_10 := Lib.hid ((Below.block st10 S LS_9.out).trans GS_9.out)
            have LS_10 := Lib.hid (Nat.lt_of_lt_of_le LS_9.out (Below.size st10))
            have GM_10 := Lib.hid ((Below.block st10 M LM_9.out).trans GM_9.out)
            have LM_10 := Lib.hid (Nat.lt_of_lt_of_le LM_9.out (Below.size st10))
            have GSB_10 := Lib.hid ((Below.block st10 SB LSB_9.out).trans GSB_9.out)
            have LSB_10 := Lib.hid (Nat.lt_of_lt_of_le LSB_9.out (Below.size st10))
            have GV_10 := Lib.hid ((Below.block st10 V LV_9.out).trans GV_9.out)
            have LV_10 := Lib.hid (Nat.lt_of_lt_of_le LV_9.out (Below.size st10))
            have GQ_10 := Lib.hid ((Below.block st10 Q LQ_9.out).trans GQ_9.out)
            have LQ_10 := Lib.hid (Nat.lt_of_lt_of_le LQ_9.out (Below.size st10))
            have GU_10 := Lib.hid (show w10.heap[U]? = some (.cells (dV Z) 23 (0, 0)) by rw [hw10, hU]; exact heap_alloc_new _ _)
            have LU_10 := Lib.hid (lt_of_heap GU_10.out)
            have HU := Lib.hid hU
            have Hw10 := Lib.hid hw10
            clear hU hw10 st10
            go_upto_region 39 with fail
            rw [ZT.out, ← HU.out, ← Hw10.out]
            have hex := inB_ex w10.heap.size w10
            refine wp_region_inB w10.heap.size (by kernel_rfl) (by kernel_rfl) ?_
            repeat (first
              | go_big_quiet_skip
              | go_big_quiet_step ((first | (intro _; rfl))))
            refine wpQuiet_nil ?_
            intro wZ hwZ
            have hZZ : Below w10.heap.size w10 wZ := hwZ
            have B11 := Lib.hid (show Below w.heap.size w wZ from Below.trans B10.out (Below.mono hZZ (Below.size B10.out)))
            have GS_11 := Lib.hid ((Below.block hZZ S LS_10.out).trans GS_10.out)
            have LS_11 := Lib.hid (Nat.lt_of_lt_of_le LS_10.out (Below.size hZZ))
            have GM_11 := Lib.hid ((Below.block hZZ M LM_10.out).trans GM_10.out)
            have LM_11 := Lib.hid (Nat.lt_of_lt_of_le LM_10.out (Below.size hZZ))
            have GSB_11 := Lib.hid ((Below.block hZZ SB LSB_10.out).trans GSB_10.out)
            have LSB_11 := Lib.hid (Nat.lt_of_lt_of_le LSB_10.out (Below.size hZZ))
            have GV_11 := Lib.hid ((Below.block hZZ V LV_10.out).trans GV_10.out)
            have LV_11 := Lib.hid (Nat.lt_of_lt_of_le LV_10.out (Below.size hZZ))
            have GQ_11 := Lib.hid ((Below.block hZZ Q LQ_10.out).trans GQ_10.out)
            have LQ_11 := Lib.hid (Nat.lt_of_lt_of_le LQ_10.out (Below.size hZZ))
            have GU_11 := Lib.hid ((Below.block hZZ U LU_10.out).trans GU_10.out)
            have LU_11 := Lib.hid (Nat.lt_of_lt_of_le LU_10.out (Below.size hZZ))
            clear hZZ hwZ
            go_upto_region 43 with fail
            have HRC := Lib.hid (SRecover_bad x3 ML.out x4 a1 HBD.out j4 a4 b4 c4 y4.length d4 wZ)
            rw [← HZ.out] at HRC
            go_wp2_with (first
              | (refine at_ld 23 (.tmp 8) rfl ?_; (refine ld_digG rfl (.tmp 8) rfl (M) 0 (by rfl) x3 ML.out (range_of_row GM_11.out) ?_); simp only [Act.put, List.setIfInBounds_toArray, List.set_cons_zero, List.set_cons_succ])
              | (refine at_ld 33 (.tmp 9) rfl ?_; (refine ld_sig rfl (.tmp 9) rfl SB (by rfl) (.int .i64 j4) (.slice a4 x4.length c4) (.slice b4 y4.length d4) _ _ GSB_11.out ?_); simp only [Act.put, List.setIfInBounds_toArray, List.set_cons_zero, List.set_cons_succ]))
            refine (HRC.out).mono ?_
            rintro e w12 ⟨rfl, hb12⟩
            have B12 := Lib.hid (show Below w.heap.size w w12 from Below.trans B11.out (Below.mono hb12 (Below.size B11.out)))
            have GS_12 := Lib.hid ((Below.block hb12 S LS_11.out).trans GS_11.out)
            have LS_12 := Lib.hid (Nat.lt_of_lt_of_le LS_11.out (Below.size hb12))
            have GM_12 := Lib.hid ((Below.block hb12 M LM_11.out).trans GM_11.out)
            have LM_12 := Lib.hid (Nat.lt_of_lt_of_le LM_11.out (Below.size hb12))
            have GSB_12 := Lib.hid ((Below.block hb12 SB LSB_11.out).trans GSB_11.out)
            have LSB_12 := Lib.hid (Nat.lt_of_lt_of_le LSB_11.out (Below.size hb12))
            have GV_12 := Lib.hid ((Below.block hb12 V LV_11.out).trans GV_11.out)
            have LV_12 := Lib.hid (Nat.lt_of_lt_of_le LV_11.out (Below.size hb12))
            have GQ_12 := Lib.hid ((Below.block hb12 Q LQ_11.out).trans GQ_11.out)
            have LQ_12 := Lib.hid (Nat.lt_of_lt_of_le LQ_11.out (Below.size hb12))
            have GU_12 := Lib.hid ((Below.block hb12 U LU_11.out).trans GU_11.out)
            have LU_12 := Lib.hid (Nat.lt_of_lt_of_le LU_11.out (Below.size hb12))
            clear HRC
            clear hb12
            obtain ⟨Y, hY⟩ : ∃ z, z = w12.heap.size := ⟨_, rfl⟩
            obtain ⟨w13, hw13⟩ : ∃ z, z = w12.alloc (.cells (dV Z) 23) := ⟨_, rfl⟩
            have st13 : Below w12.heap.size w12 w13 := by rw [hw13]; exact (Below.refl _ _).alloc (Nat.le_refl _) _
            have B13 := Lib.hid (show Below w.heap.size w w13 from Below.trans B12.out (Below.mono st13 (Below.size B12.out)))
            have GS_13 := Lib.hid ((Below.block st13 S LS_12.out).trans GS_12.out)
            have LS_13 := Lib.hid (Nat.lt_of_lt_of_le LS_12.out (Below.size st13))
            have GM_13 := Lib.hid ((Below.block st13 M LM_12.out).trans GM_12.out)
            have LM_13 := Lib.hid (Nat.lt_of_lt_of_le LM_12.out (Below.size st13))
            have GSB_13 := Lib.hid ((Below.block st13 SB LSB_12.out).trans GSB_12.out)
            have LSB_13 := Lib.hid (Nat.lt_of_lt_of_le LSB_12.out (Below.size st13))
            have GV_13 := Lib.hid ((Below.block st13 V LV_12.out).trans GV_12.out)
            have LV_13 := Lib.hid (Nat.lt_of_lt_of_le LV_12.out (Below.size st13))
            have GQ_13 := Lib.hid ((Below.block st13 Q LQ_12.out).trans GQ_12.out)
            have LQ_13 := Lib.hid (Nat.lt_of_lt_of_le LQ_12.out (Below.size st13))
            have GU_13 := Lib.hid ((Below.block st13 U LU_12.out).trans GU_12.out)
            have LU_13 := Lib.hid (Nat.lt_of_lt_of_le LU_12.out (Below.size st13))
            have GY_13 := Lib.hid (show w13.heap[Y]? = some (.cells (dV Z) 23 (0, 0)) by rw [hw13, hY]; exact heap_alloc_new _ _)
            have LY_13 := Lib.hid (lt_of_heap GY_13.out)
            have HY := Lib.hid hY
            have Hw13 := Lib.hid hw13
            clear hY hw13 st13
            go_wp2_with (first
              | (refine at_st 23 (.tmp 26) (.tmp 186) rfl ?_; (refine st_new rfl (.tmp 26) (.tmp 186) rfl Z ZL.out (by rfl) _ _ (by rfl) (by rfl) ?_); rw [← HY.out, ← Hw13.out]))
            refine (Error_err 2 2 true (by decide) w13 (HG.out.at_ B13.out)).mono ?_
            rintro e w14 ⟨rfl, hb14⟩
            have B14 := Lib.hid (show Below w.heap.size w w14 from Below.trans B13.out (Below.mono hb14 (Below.size B13.out)))
            have GS_14 := Lib.hid ((Below.block hb14 S LS_13.out).trans GS_13.out)
            have LS_14 := Lib.hid (Nat.lt_of_lt_of_le LS_13.out (Below.size hb14))
            have GM_14 := Lib.hid ((Below.block hb14 M LM_13.out).trans GM_13.out)
            have LM_14 := Lib.hid (Nat.lt_of_lt_of_le LM_13.out (Below.size hb14))
            have GSB_14 := Lib.hid ((Below.block hb14 SB LSB_13.out).trans GSB_13.out)
            have LSB_14 := Lib.hid (Nat.lt_of_lt_of_le LSB_13.out (Below.size hb14))
            have GV_14 := Lib.hid ((Below.block hb14 V LV_13.out).trans GV_13.out)
            have LV_14 := Lib.hid (Nat.lt_of_lt_of_le LV_13.out (Below.size hb14))
            have GQ_14 := Lib.hid ((Below.block hb14 Q LQ_13.out).trans GQ_13.out)
            have LQ_14 := Lib.hid (Nat.lt_of_lt_of_le LQ_13.out (Below.size hb14))
            have GU_14 := Lib.hid ((Below.block hb14 U LU_13.out).trans GU_13.out)
            have LU_14 := Lib.hid (Nat.lt_of_lt_of_le LU_13.out (Below.size hb14))
            have GY_14 := Lib.hid ((Below.block hb14 Y LY_13.out).trans GY_13.out)
            have LY_14 := Lib.hid (Nat.lt_of_lt_of_le LY_13.out (Below.size hb14))
            clear hb14
            go_wp2_with (first
              | (refine at_ld 23 (.tmp 26) rfl ?_; (refine ld_digG rfl (.tmp 26) rfl (Y) 0 (by rfl) Z ZL.out (range_of_row GY_14.out) ?_); simp only [Act.put, List.setIfInBounds_toArray, List.set_cons_zero, List.set_cons_succ])
              | (refine at_ld 23 (.tmp 25) rfl ?_; (refine ld_digG rfl (.tmp 25) rfl (U) 0 (by rfl) Z ZL.out (range_of_row GU_14.out) ?_); simp only [Act.put, List.setIfInBounds_toArray, List.set_cons_zero, List.set_cons_succ])
              | (refine at_bin .eql 23 (.tmp 193) (.tmp 194) _ rfl ?_; (refine eq_digG rfl (.tmp 193) (.tmp 194) _ rfl Z Z (by rfl) (by rfl) ZL.out ZL.out ?_); rw [beq_self_eq_true]; simp only [Act.put, List.setIfInBounds_toArray, List.set_cons_zero, List.set_cons_succ]))
            go_ret
            exact ⟨rfl, B14.out⟩
        · have z1 : decide ((0 : Int) < (x2.length : Int)) = false := decide_eq_false (by omega)
          have z2 : decide (0 < x2.length) = false := decide_eq_false hz
          obtain ⟨S, hS⟩ : ∃ z, z = w.heap.size := ⟨_, rfl⟩
          obtain ⟨w1, hw1⟩ : ∃ z, z = w.alloc (.cells (dV x0) 23) := ⟨_, rfl⟩
          have st1 : Below w.heap.size w w1 := by rw [hw1]; exact (Below.refl _ _).alloc (Nat.le_refl _) _
          have B1 := Lib.hid (show Below w.heap.size w w1 from Below.trans (Below.refl w.heap.size w) (Below.mono st1 (Below.size (Below.refl w.heap.size w))))
          have GS_1 := Lib.hid (show w1.heap[S]? = some (.cells (dV x0) 23 (0, 0)) by rw [hw1, hS]; exact heap_alloc_new _ _)
          have LS_1 := Lib.hid (lt_of_heap GS_1.out)
          have HS := Lib.hid hS
          have Hw1 := Lib.hid hw1
          clear hS hw1 st1
          have SZS := Lib.hid (show S = w.heap.size from HS.out)
          obtain ⟨M, hM⟩ : ∃ z, z = w1.heap.size := ⟨_, rfl⟩
          obtain ⟨w2, hw2⟩ : ∃ z, z = w1.alloc (.cells (dV x3) 23) := ⟨_, rfl⟩
          have st2 : Below w1.heap.size w1 w2 := by rw [hw2]; exact (Below.refl _ _).alloc (Nat.le_refl _) _
          have B2 := Lib.hid (show Below w.heap.size w w2 from Below.trans B1.out (Below.mono st2 (Below.size B1.out)))
          have GS_2 := Lib.hid ((Below.block st2 S LS_1.out).trans GS_1.out)
          have LS_2 := Lib.hid (Nat.lt_of_lt_of_le LS_1.out (Below.size st2))
          have GM_2 := Lib.hid (show w2.heap[M]? = some (.cells (dV x3) 23 (0, 0)) by rw [hw2, hM]; exact heap_alloc_new _ _)
          have LM_2 := Lib.hid (lt_of_heap GM_2.out)
          have HM := Lib.hid hM
          have Hw2 := Lib.hid hw2
          clear hM hw2 st2
          have SZM := Lib.hid (show M = w.heap.size + 1 by rw [HM.out, Hw1.out, World.size_alloc, ← HS.out, SZS.out])
          obtain ⟨SB, hSB⟩ : ∃ z, z = w2.heap.size := ⟨_, rfl⟩
          obtain ⟨w3, hw3⟩ : ∃ z, z = w2.alloc (.cells #[.int .i64 j4, .slice a4 x4.length c4, .slice b4 y4.length d4] 33) := ⟨_, rfl⟩
          have st3 : Below w2.heap.size w2 w3 := by rw [hw3]; exact (Below.refl _ _).alloc (Nat.le_refl _) _
          have B3 := Lib.hid (show Below w.heap.size w w3 from Below.trans B2.out (Below.mono st3 (Below.size B2.out)))
          have GS_3 := Lib.hid ((Below.block st3 S LS_2.out).trans GS_2.out)
          have LS_3 := Lib.hid (Nat.lt_of_lt_of_le LS_2.out (Below.size st3))
          have GM_3 := Lib.hid ((Below.block st3 M LM_2.out).trans GM_2.out)
          have LM_3 := Lib.hid (Nat.lt_of_lt_of_le LM_2.out (Below.size st3))
          have GSB_3 := Lib.hid (show w3.heap[SB]? = some (.cells #[.int .i64 j4, .slice a4 x4.length c4, .slice b4 y4.length d4] 33 (0, 0)) by rw [hw3, hSB]; exact heap_alloc_new _ _)
          have LSB_3 := Lib.hid (lt_of_heap GSB_3.out)
          have HSB := Lib.hid hSB
          have Hw3 := Lib.hid hw3
          clear hSB hw3 st3
          have SZSB := Lib.hid (show SB = w.heap.size + 1 + 1 by rw [HSB.out, Hw2.out, World.size_alloc, ← HM.out, SZM.out])
          go_enter Tryd.func4, Tryd.ntmps4
          go_upto_region 1 with fail
          rw [← SZSB.out, ← SZM.out, ← SZS.out, ← Hw1.out, ← Hw2.out, ← Hw3.out]
          go_upto_region 5 with fail
          obtain ⟨V, hV⟩ : ∃ z, z = w3.heap.size := ⟨_, rfl⟩
          obtain ⟨w4, hw4⟩ : ∃ z, z = w3.alloc (.cells (dV Z) 23) := ⟨_, rfl⟩
          have st4 : Below w3.heap.size w3 w4 := by rw [hw4]; exact (Below.refl _ _).alloc (Nat.le_refl _) _
          have B4 := Lib.hid (show Below w.heap.size w w4 from Below.trans B3.out (Below.mono st4 (Below.size B3.out)))
          have GS_4 := Lib.hid ((Below.block st4 S LS_3.out).trans GS_3.out)
          have LS_4 := Lib.hid (Nat.lt_of_lt_of_le LS_3.out (Below.size st4))
          have GM_4 := Lib.hid ((Below.block st4 M LM_3.out).trans GM_3.out)
          have LM_4 := Lib.hid (Nat.lt_of_lt_of_le LM_3.out (Below.size st4))
          have GSB_4 := Lib.hid ((Below.block st4 SB LSB_3.out).trans GSB_3.out)
          have LSB_4 := Lib.hid (Nat.lt_of_lt_of_le LSB_3.out (Below.size st4))
          have GV_4 := Lib.hid (show w4.heap[V]? = some (.cells (dV Z) 23 (0, 0)) by rw [hw4, hV]; exact heap_alloc_new _ _)
          have LV_4 := Lib.hid (lt_of_heap GV_4.out)
          have HV := Lib.hid hV
          have Hw4 := Lib.hid hw4
          clear hV hw4 st4
          go_upto_region 10 with fail
          rw [ZT.out, ← HV.out, ← Hw4.out]
          go_wp2_with (first
            | (refine at_ld 23 (.tmp 5) rfl ?_; (refine ld_digG rfl (.tmp 5) rfl (S) 0 (by rfl) x0 SL.out (range_of_row GS_4.out) ?_); simp only [Act.put, List.setIfInBounds_toArray, List.set_cons_zero, List.set_cons_succ]))
          refine (PubBad Z HZ.out x0 SL.out a1 HBD.out w4).mono ?_
          rintro e w5 ⟨rfl, hb5⟩
          have B5 := Lib.hid (show Below w.heap.size w w5 from Below.trans B4.out (Below.mono hb5 (Below.size B4.out)))
          have GS_5 := Lib.hid ((Below.block hb5 S LS_4.out).trans GS_4.out)
          have LS_5 := Lib.hid (Nat.lt_of_lt_of_le LS_4.out (Below.size hb5))
          have GM_5 := Lib.hid ((Below.block hb5 M LM_4.out).trans GM_4.out)
          have LM_5 := Lib.hid (Nat.lt_of_lt_of_le LM_4.out (Below.size hb5))
          have GSB_5 := Lib.hid ((Below.block hb5 SB LSB_4.out).trans GSB_4.out)
          have LSB_5 := Lib.hid (Nat.lt_of_lt_of_le LSB_4.out (Below.size hb5))
          have GV_5 := Lib.hid ((Below.block hb5 V LV_4.out).trans GV_4.out)
          have LV_5 := Lib.hid (Nat.lt_of_lt_of_le LV_4.out (Below.size hb5))
          clear hb5
          obtain ⟨Q, hQ⟩ : ∃ z, z = w5.heap.size := ⟨_, rfl⟩
          obtain ⟨w6, hw6⟩ : ∃ z, z = w5.alloc (.cells (dV Z) 23) := ⟨_, rfl⟩
          have st6 : Below w5.heap.size w5 w6 := by rw [hw6]; exact (Below.refl _ _).alloc (Nat.le_refl _) _
          have B6 := Lib.hid (show Below w.heap.size w w6 from Below.trans B5.out (Below.mono st6 (Below.size B5.out)))
          have GS_6 := Lib.hid ((Below.block st6 S LS_5.out).trans GS_5.out)
          have LS_6 := Lib.hid (Nat.lt_of_lt_of_le LS_5.out (Below.size st6))
          have GM_6 := Lib.hid ((Below.block st6 M LM_5.out).trans GM_5.out)
          have LM_6 := Lib.hid (Nat.lt_of_lt_of_le LM_5.out (Below.size st6))
          have GSB_6 := Lib.hid ((Below.block st6 SB LSB_5.out).trans GSB_5.out)
          have LSB_6 := Lib.hid (Nat.lt_of_lt_of_le LSB_5.out (Below.size st6))
          have GV_6 := Lib.hid ((Below.block st6 V LV_5.out).trans GV_5.out)
          have LV_6 := Lib.hid (Nat.lt_of_lt_of_le LV_5.out (Below.size st6))
          have GQ_6 := Lib.hid (show w6.heap[Q]? = some (.cells (dV Z) 23 (0, 0)) by rw [hw6, hQ]; exact heap_alloc_new _ _)
          have LQ_6 := Lib.hid (lt_of_heap GQ_6.out)
          have HQ := Lib.hid hQ
          have Hw6 := Lib.hid hw6
          clear hQ hw6 st6
          go_wp2_with (first
            | (refine at_st 23 (.tmp 14) (.tmp 45) rfl ?_; (refine st_new rfl (.tmp 14) (.tmp 45) rfl Z ZL.out (by rfl) _ _ (by rfl) (by rfl) ?_); rw [← HQ.out, ← Hw6.out]))
          refine (Error_err 2 2 true (by decide) w6 (HG.out.at_ B6.out)).mono ?_
          rintro e w7 ⟨rfl, hb7⟩
          have B7 := Lib.hid (show Below w.heap.size w w7 from Below.trans B6.out (Below.mono hb7 (Below.size B6.out)))
          have GS_7 := Lib.hid ((Below.block hb7 S LS_6.out).trans GS_6.out)
          have LS_7 := Lib.hid (Nat.lt_of_lt_of_le LS_6.out (Below.size hb7))
          have GM_7 := Lib.hid ((Below.block hb7 M LM_6.out).trans GM_6.out)
          have LM_7 := Lib.hid (Nat.lt_of_lt_of_le LM_6.out (Below.size hb7))
          have GSB_7 := Lib.hid ((Below.block hb7 SB LSB_6.out).trans GSB_6.out)
          have LSB_7 := Lib.hid (Nat.lt_of_lt_of_le LSB_6.out (Below.size hb7))
          have GV_7 := Lib.hid ((Below.block hb7 V LV_6.out).trans GV_6.out)
          have LV_7 := Lib.hid (Nat.lt_of_lt_of_le LV_6.out (Below.size hb7))
          have GQ_7 := Lib.hid ((Below.block hb7 Q LQ_6.out).trans GQ_6.out)
          have LQ_7 := Lib.hid (Nat.lt_of_lt_of_le LQ_6.out (Below.size hb7))
          clear hb7
          go_wp2_with (first
            | (refine at_ld 23 (.tmp 14) rfl ?_; (refine ld_digG rfl (.tmp 14) rfl (Q) 0 (by rfl) Z ZL.out (range_of_row GQ_7.out) ?_); simp only [Act.put, List.setIfInBounds_toArray, List.set_cons_zero, List.set_cons_succ])
            | (refine at_ld 23 (.tmp 13) rfl ?_; (refine ld_digG rfl (.tmp 13) rfl (V) 0 (by rfl) Z ZL.out (range_of_row GV_7.out) ?_); simp only [Act.put, List.setIfInBounds_toArray, List.set_cons_zero, List.set_cons_succ])
            | (refine at_bin .neq 23 (.tmp 53) (.tmp 54) _ rfl ?_; (refine neq_digG rfl (.tmp 53) (.tmp 54) _ rfl Z Z (by rfl) (by rfl) ZL.out ZL.out ?_); rw [beq_self_eq_true]; simp only [Act.put, List.setIfInBounds_toArray, List.set_cons_zero, List.set_cons_succ])
            | (refine at_ld 23 (.tmp 5) rfl ?_; (refine ld_digG rfl (.tmp 5) rfl (S) 0 (by rfl) x0 SL.out (range_of_row GS_7.out) ?_); simp only [Act.put, List.setIfInBounds_toArray, List.set_cons_zero, List.set_cons_succ]))
          refine (StampNew_bad x0 a1 HBD.out w7).mono ?_
          rintro e w8 ⟨rfl, hb8⟩
          have B8 := Lib.hid (show Below w.heap.size w w8 from Below.trans B7.out (Below.mono hb8 (Below.size B7.out)))
          have GS_8 := Lib.hid ((Below.block hb8 S LS_7.out).trans GS_7.out)
          have LS_8 := Lib.hid (Nat.lt_of_lt_of_le LS_7.out (Below.size hb8))
          have GM_8 := Lib.hid ((Below.block hb8 M LM_7.out).trans GM_7.out)
          have LM_8 := Lib.hid (Nat.lt_of_lt_of_le LM_7.out (Below.size hb8))
          have GSB_8 := Lib.hid ((Below.block hb8 SB LSB_7.out).trans GSB_7.out)
          have LSB_8 := Lib.hid (Nat.lt_of_lt_of_le LSB_7.out (Below.size hb8))
          have GV_8 := Lib.hid ((Below.block hb8 V LV_7.out).trans GV_7.out)
          have LV_8 := Lib.hid (Nat.lt_of_lt_of_le LV_7.out (Below.size hb8))
          have GQ_8 := Lib.hid ((Below.block hb8 Q LQ_7.out).trans GQ_7.out)
          have LQ_8 := Lib.hid (Nat.lt_of_lt_of_le LQ_7.out (Below.size hb8))
          clear hb8
          go_wp2_with fail
          refine (Error_err 2 2 true (by decide) w8 (HG.out.at_ B8.out)).mono ?_
          rintro e w9 ⟨rfl, hb9⟩
          have B9 := Lib.hid (show Below w.heap.size w w9 from Below.trans B8.out (Below.mono hb9 (Below.size B8.out)))
          have GS_9 := Lib.hid ((Below.block hb9 S LS_8.out).trans GS_8.out)
          have LS_9 := Lib.hid (Nat.lt_of_lt_of_le LS_8.out (Below.size hb9))
          have GM_9 := Lib.hid ((Below.block hb9 M LM_8.out).trans GM_8.out)
          have LM_9 := Lib.hid (Nat.lt_of_lt_of_le LM_8.out (Below.size hb9))
          have GSB_9 := Lib.hid ((Below.block hb9 SB LSB_8.out).trans GSB_8.out)
          have LSB_9 := Lib.hid (Nat.lt_of_lt_of_le LSB_8.out (Below.size hb9))
          have GV_9 := Lib.hid ((Below.block hb9 V LV_8.out).trans GV_8.out)
          have LV_9 := Lib.hid (Nat.lt_of_lt_of_le LV_8.out (Below.size hb9))
          have GQ_9 := Lib.hid ((Below.block hb9 Q LQ_8.out).trans GQ_8.out)
          have LQ_9 := Lib.hid (Nat.lt_of_lt_of_le LQ_8.out (Below.size hb9))
          clear hb9
          go_wp2_with fail
          go_loopw [18] (fun i wr => i = .int .i64 0 ∧ wr = w9) (fun _ _ => 0)
          case atStart => exact ⟨rfl, rfl⟩
          case round =>
            obtain ⟨rfl, hwr⟩ := hrel
            rw [hwr]
            go_upto_region 34 with fail
            obtain ⟨U, hU⟩ : ∃ z, z = w9.heap.size := ⟨_, rfl⟩
            obtain ⟨w10, hw10⟩ : ∃ z, z = w9.alloc (.cells (dV Z) 23) := ⟨_, rfl⟩
            have st10 : Below w9.heap.size w9 w10 := by rw [hw10]; exact (Below.refl _ _).alloc (Nat.le_refl _) _
            have B10 := Lib.hid (show Below w.heap.size w w10 from Below.trans B9.out (Below.mono st10 (Below.size B9.out)))
            have GS_10 := Lib.hid ((Below.block st10 S LS_9.out).trans GS_9.out)
            have LS_10 := Lib.hid (Nat.lt_of_lt_of_le LS_9.out (Below.size st10))
            have GM_10 := Lib.hid ((Below.block st10 M LM_9.out).trans GM_9.out)
            have LM_10 := Lib.hid (Nat.lt_of_lt_of_le LM_9.out (Below.size st10))
            have GSB_10 := Lib.hid ((Below.block st10 SB LSB_9.out).trans GSB_9.out)
            have LSB_10 := Lib.hid (Nat.lt_of_lt_of_le LSB_9.out (Below.size st10))
            have GV_10 := Lib.hid ((Below.block st10 V LV_9.out).trans GV_9.out)
            have LV_10 := Lib.hid (Nat.lt_of_lt_of_le LV_9.out (Below.size st10))
            have GQ_10 := Lib.hid ((Below.block st10 Q LQ_9.out).trans GQ_9.out)
            have LQ_10 := Lib.hid (Nat.lt_of_lt_of_le LQ_9.out (Below.size st10))
            have GU_10 := Lib.hid (show w10.heap[U]? = some (.cells (dV Z) 23 (0, 0)) by rw [hw10, hU]; exact heap_alloc_new _ _)
            have LU_10 := Lib.hid (lt_of_heap GU_10.out)
            have HU := Lib.hid hU
            have Hw10 := Lib.hid hw10
            clear hU hw10 st10
            go_upto_region 39 with fail
            rw [ZT.out, ← HU.out, ← Hw10.out]
            have hex := inB_ex w10.heap.size w10
            refine wp_region_inB w10.heap.size (by kernel_rfl) (by kernel_rfl) ?_
            repeat (first
              | go_big_quiet_skip
              | go_big_quiet_step ((first | (intro _; rfl))))
            refine wpQuiet_nil ?_
            intro wZ hwZ
            have hZZ : Below w10.heap.size w10 wZ := hwZ
            have B11 := Lib.hid (show Below w.heap.size w wZ from Below.trans B10.out (Below.mono hZZ (Below.size B10.out)))
            have GS_11 := Lib.hid ((Below.block hZZ S LS_10.out).trans GS_10.out)
            have LS_11 := Lib.hid (Nat.lt_of_lt_of_le LS_10.out (Below.size hZZ))
            have GM_11 := Lib.hid ((Below.block hZZ M LM_10.out).trans GM_10.out)
            have LM_11 := Lib.hid (Nat.lt_of_lt_of_le LM_10.out (Below.size hZZ))
            have GSB_11 := Lib.hid ((Below.block hZZ SB LSB_10.out).trans GSB_10.out)
            have LSB_11 := Lib.hid (Nat.lt_of_lt_of_le LSB_10.out (Below.size hZZ))
            have GV_11 := Lib.hid ((Below.block hZZ V LV_10.out).trans GV_10.out)
            have LV_11 := Lib.hid (Nat.lt_of_lt_of_le LV_10.out (Below.size hZZ))
            have GQ_11 := Lib.hid ((Below.block hZZ Q LQ_10.out).trans GQ_10.out)
            have LQ_11 := Lib.hid (Nat.lt_of_lt_of_le LQ_10.out (Below.size hZZ))
            have GU_11 := Lib.hid ((Below.block hZZ U LU_10.out).trans GU_10.out)
            have LU_11 := Lib.hid (Nat.lt_of_lt_of_le LU_10.out (Below.size hZZ))
            clear hZZ hwZ
            go_upto_region 43 with fail
            have HRC := Lib.hid (SRecover_bad x3 ML.out x4 a1 HBD.out j4 a4 b4 c4 y4.length d4 wZ)
            rw [← HZ.out] at HRC
            go_wp2_with (first
              | (refine at_ld 23 (.tmp 8) rfl ?_; (refine ld_digG rfl (.tmp 8) rfl (M) 0 (by rfl) x3 ML.out (range_of_row GM_11.out) ?_); simp only [Act.put, List.setIfInBounds_toArray, List.set_cons_zero, List.set_cons_succ])
              | (refine at_ld 33 (.tmp 9) rfl ?_; (refine ld_sig rfl (.tmp 9) rfl SB (by rfl) (.int .i64 j4) (.slice a4 x4.length c4) (.slice b4 y4.length d4) _ _ GSB_11.out ?_); simp only [Act.put, List.setIfInBounds_toArray, List.set_cons_zero, List.set_cons_succ]))
            refine (HRC.out).mono ?_
            rintro e w12 ⟨rfl, hb12⟩
            have B12 := Lib.hid (show Below w.heap.size w w12 from Below.trans B11.out (Below.mono hb12 (Below.size B11.out)))
            have GS_12 := Lib.hid ((Below.block hb12 S LS_11.out).trans GS_11.out)
            have LS_12 := Lib.hid (Nat.lt_of_lt_of_le LS_11.out (Below.size hb12))
            have GM_12 := Lib.hid ((Below.block hb12 M LM_11.out).trans GM_11.out)
            have LM_12 := Lib.hid (Nat.lt_of_lt_of_le LM_11.out (Below.size hb12))
            have GSB_12 := Lib.hid ((Below.block hb12 SB LSB_11.out).trans GSB_11.out)
            have LSB_12 := Lib.hid (Nat.lt_of_lt_of_le LSB_11.out (Below.size hb12))
            have GV_12 := Lib.hid ((Below.block hb12 V LV_11.out).trans GV_11.out)
            have LV_12 := Lib.hid (Nat.lt_of_lt_of_le LV_11.out (Below.size hb12))
            have GQ_12 := Lib.hid ((Below.block hb12 Q LQ_11.out).trans GQ_11.out)
            have LQ_12 := Lib.hid (Nat.lt_of_lt_of_le LQ_11.out (Below.size hb12))
            have GU_12 := Lib.hid ((Below.block hb12 U LU_11.out).trans GU_11.out)
            have LU_12 := Lib.hid (Nat.lt_of_lt_of_le LU_11.out (Below.size hb12))
            clear HRC
            clear hb12
            obtain ⟨Y, hY⟩ : ∃ z, z = w12.heap.size := ⟨_, rfl⟩
            obtain ⟨w13, hw13⟩ : ∃ z, z = w12.alloc (.cells (dV Z) 23) := ⟨_, rfl⟩
            have st13 : Below w12.heap.size w12 w13 := by rw [hw13]; exact (Below.refl _ _).alloc (Nat.le_refl _) _
            have B13 := Lib.hid (show Below w.heap.size w w13 from Below.trans B12.out (Below.mono st13 (Below.size B12.out)))
            have GS_13 := Lib.hid ((Below.block st13 S LS_12.out).trans GS_12.out)
            have LS_13 := Lib.hid (Nat.lt_of_lt_of_le LS_12.out (Below.size st13))
            have GM_13 := Lib.hid ((Below.block st13 M LM_12.out).trans GM_12.out)
            have LM_13 := Lib.hid (Nat.lt_of_lt_of_le LM_12.out (Below.size st13))
            have GSB_13 := Lib.hid ((Below.block st13 SB LSB_12.out).trans GSB_12.out)
            have LSB_13 := Lib.hid (Nat.lt_of_lt_of_le LSB_12.out (Below.size st13))
            have GV_13 := Lib.hid ((Below.block st13 V LV_12.out).trans GV_12.out)
            have LV_13 := Lib.hid (Nat.lt_of_lt_of_le LV_12.out (Below.size st13))
            have GQ_13 := Lib.hid ((Below.block st13 Q LQ_12.out).trans GQ_12.out)
            have LQ_13 := Lib.hid (Nat.lt_of_lt_of_le LQ_12.out (Below.size st13))
            have GU_13 := Lib.hid ((Below.block st13 U LU_12.out).trans GU_12.out)
            have LU_13 := Lib.hid (Nat.lt_of_lt_of_le LU_12.out (Below.size st13))
            have GY_13 := Lib.hid (show w13.heap[Y]? = some (.cells (dV Z) 23 (0, 0)) by rw [hw13, hY]; exact heap_alloc_new _ _)
            have LY_13 := Lib.hid (lt_of_heap GY_13.out)
            have HY := Lib.hid hY
            have Hw13 := Lib.hid hw13
            clear hY hw13 st13
            go_wp2_with (first
              | (refine at_st 23 (.tmp 26) (.tmp 186) rfl ?_; (refine st_new rfl (.tmp 26) (.tmp 186) rfl Z ZL.out (by rfl) _ _ (by rfl) (by rfl) ?_); rw [← HY.out, ← Hw13.out]))
            refine (Error_err 2 2 true (by decide) w13 (HG.out.at_ B13.out)).mono ?_
            rintro e w14 ⟨rfl, hb14⟩
            have B14 := Lib.hid (show Below w.heap.size w w14 from Below.trans B13.out (Below.mono hb14 (Below.size B13.out)))
            have GS_14 := Lib.hid ((Below.block hb14 S LS_13.out).trans GS_13.out)
            have LS_14 := Lib.hid (Nat.lt_of_lt_of_le LS_13.out (Below.size hb14))
            have GM_14 := Lib.hid ((Below.block hb14 M LM_13.out).trans GM_13.out)
            have LM_14 := Lib.hid (Nat.lt_of_lt_of_le LM_13.out (Below.size hb14))
            have GSB_14 := Lib.hid ((Below.block hb14 SB LSB_13.out).trans GSB_13.out)
            have LSB_14 := Lib.hid (Nat.lt_of_lt_of_le LSB_13.out (Below.size hb14))
            have GV_14 := Lib.hid ((Below.block hb14 V LV_13.out).trans GV_13.out)
            have LV_14 := Lib.hid (Nat.lt_of_lt_of_le LV_13.out (Below.size hb14))
            have GQ_14 := Lib.hid ((Below.block hb14 Q LQ_13.out).trans GQ_13.out)
            have LQ_14 := Lib.hid (Nat.lt_of_lt_of_le LQ_13.out (Below.size hb14))
            have GU_14 := Lib.hid ((Below.block hb14 U LU_13.out).trans GU_13.out)
            have LU_14 := Lib.hid (Nat.lt_of_lt_of_le LU_13.out (Below.size hb14))
            have GY_14 := Lib.hid ((Below.block hb14 Y LY_13.out).trans GY_13.out)
            have LY_14 := Lib.hid (Nat.lt_of_lt_of_le LY_13.out (Below.size hb14))
            clear hb14
            go_wp2_with (first
              | (refine at_ld 23 (.tmp 26) rfl ?_; (refine ld_digG rfl (.tmp 26) rfl (Y) 0 (by rfl) Z ZL.out (range_of_row GY_14.out) ?_); simp only [Act.put, List.setIfInBounds_toArray, List.set_cons_zero, List.set_cons_succ])
              | (refine at_ld 23 (.tmp 25) rfl ?_; (refine ld_digG rfl (.tmp 25) rfl (U) 0 (by rfl) Z ZL.out (range_of_row GU_14.out) ?_); simp only [Act.put, List.setIfInBounds_toArray, List.set_cons_zero, List.set_cons_succ])
              | (refine at_bin .eql 23 (.tmp 193) (.tmp 194) _ rfl ?_; (refine eq_digG rfl (.tmp 193) (.tmp 194) _ rfl Z Z (by rfl) (by rfl) ZL.out ZL.out ?_); rw [beq_self_eq_true]; simp only [Act.put, List.setIfInBounds_toArray, List.set_cons_zero, List.set_cons_succ]))
            go_ret
            exact ⟨rfl, B14.out⟩
      · have h2 : ¬ a1 < 0 := by omega
        by_cases hz : 0 < x2.length
        · have z1 : decide ((0 : Int) < (x2.length : Int)) = true := decide_eq_true (by omega)
          have z2 : decide (0 < x2.length) = true := decide_eq_true hz
          obtain ⟨S, hS⟩ : ∃ z, z = w.heap.size := ⟨_, rfl⟩
          obtain ⟨w1, hw1⟩ : ∃ z, z = w.alloc (.cells (dV x0) 23) := ⟨_, rfl⟩
          have st1 : Below w.heap.size w w1 := by rw [hw1]; exact (Below.refl _ _).alloc (Nat.le_refl _) _
          have B1 := Lib.hid (show Below w.heap.size w w1 from Below.trans (Below.refl w.heap.size w) (Below.mono st1 (Below.size (Below.refl w.heap.size w))))
          have GS_1 := Lib.hid (show w1.heap[S]? = some (.cells (dV x0) 23 (0, 0)) by rw [hw1, hS]; exact heap_alloc_new _ _)
          have LS_1 := Lib.hid (lt_of_heap GS_1.out)
          have HS := Lib.hid hS
          have Hw1 := Lib.hid hw1
          clear hS hw1 st1
          have SZS := Lib.hid (show S = w.heap.size from HS.out)
          obtain ⟨M, hM⟩ : ∃ z, z = w1.heap.size := ⟨_, rfl⟩
          obtain ⟨w2, hw2⟩ : ∃ z, z = w1.alloc (.cells (dV x3) 23) := ⟨_, rfl⟩
          have st2 : Below w1.heap.size w1 w2 := by rw [hw2]; exact (Below.refl _ _).alloc (Nat.le_refl _) _
          have B2 := Lib.hid (show Below w.heap.size w w2 from Below.trans B1.out (Below.mono st2 (Below.size B1.out)))
          have GS_2 := Lib.hid ((Below.block st2 S LS_1.out).trans GS_1.out)
          have LS_2 := Lib.hid (Nat.lt_of_lt_of_le LS_1.out (Below.size st2))
          have GM_2 := Lib.hid (show w2.heap[M]? = some (.cells (dV x3) 23 (0, 0)) by rw [hw2, hM]; exact heap_alloc_new _ _)
          have LM_2 := Lib.hid (lt_of_heap GM_2.out)
          have HM := Lib.hid hM
          have Hw2 := Lib.hid hw2
          clear hM hw2 st2
          have SZM := Lib.hid (show M = w.heap.size + 1 by rw [HM.out, Hw1.out, World.size_alloc, ← HS.out, SZS.out])
          obtain ⟨SB, hSB⟩ : ∃ z, z = w2.heap.size := ⟨_, rfl⟩
          obtain ⟨w3, hw3⟩ : ∃ z, z = w2.alloc (.cells #[.int .i64 j4, .slice a4 x4.length c4, .slice b4 y4.length d4] 33) := ⟨_, rfl⟩
          have st3 : Below w2.heap.size w2 w3 := by rw [hw3]; exact (Below.refl _ _).alloc (Nat.le_refl _) _
          have B3 := Lib.hid (show Below w.heap.size w w3 from Below.trans B2.out (Below.mono st3 (Below.size B2.out)))
          have GS_3 := Lib.hid ((Below.block st3 S LS_2.out).trans GS_2.out)
          have LS_3 := Lib.hid (Nat.lt_of_lt_of_le LS_2.out (Below.size st3))
          have GM_3 := Lib.hid ((Below.block st3 M LM_2.out).trans GM_2.out)
          have LM_3 := Lib.hid (Nat.lt_of_lt_of_le LM_2.out (Below.size st3))
          have GSB_3 := Lib.hid (show w3.heap[SB]? = some (.cells #[.int .i64 j4, .slice a4 x4.length c4, .slice b4 y4.length d4] 33 (0, 0)) by rw [hw3, hSB]; exact heap_alloc_new _ _)
          have LSB_3 := Lib.hid (lt_of_heap GSB_3.out)
          have HSB := Lib.hid hSB
          have Hw3 := Lib.hid hw3
          clear hSB hw3 st3
          have SZSB := Lib.hid (show SB = w.heap.size + 1 + 1 by rw [HSB.out, Hw2.out, World.size_alloc, ← HM.out, SZM.out])
          go_enter Tryd.func4, Tryd.ntmps4
          go_upto_region 1 with fail
          rw [← SZSB.out, ← SZM.out, ← SZS.out, ← Hw1.out, ← Hw2.out, ← Hw3.out]
          go_upto_region 5 with fail
          obtain ⟨V, hV⟩ : ∃ z, z = w3.heap.size := ⟨_, rfl⟩
          obtain ⟨w4, hw4⟩ : ∃ z, z = w3.alloc (.cells (dV Z) 23) := ⟨_, rfl⟩
          have st4 : Below w3.heap.size w3 w4 := by rw [hw4]; exact (Below.refl _ _).alloc (Nat.le_refl _) _
          have B4 := Lib.hid (show Below w.heap.size w w4 from Below.trans B3.out (Below.mono st4 (Below.size B3.out)))
          have GS_4 := Lib.hid ((Below.block st4 S LS_3.out).trans GS_3.out)
          have LS_4 := Lib.hid (Nat.lt_of_lt_of_le LS_3.out (Below.size st4))
          have GM_4 := Lib.hid ((Below.block st4 M LM_3.out).trans GM_3.out)
          have LM_4 := Lib.hid (Nat.lt_of_lt_of_le LM_3.out (Below.size st4))
          have GSB_4 := Lib.hid ((Below.block st4 SB LSB_3.out).trans GSB_3.out)
          have LSB_4 := Lib.hid (Nat.lt_of_lt_of_le LSB_3.out (Below.size st4))
          have GV_4 := Lib.hid (show w4.heap[V]? = some (.cells (dV Z) 23 (0, 0)) by rw [hw4, hV]; exact heap_alloc_new _ _)
          have LV_4 := Lib.hid (lt_of_heap GV_4.out)
          have HV := Lib.hid hV
          have Hw4 := Lib.hid hw4
          clear hV hw4 st4
          go_upto_region 10 with fail
          rw [ZT.out, ← HV.out, ← Hw4.out]
          go_wp2_with (first
            | (refine at_ld 23 (.tmp 5) rfl ?_; (refine ld_digG rfl (.tmp 5) rfl (S) 0 (by rfl) x0 SL.out (range_of_row GS_4.out) ?_); simp only [Act.put, List.setIfInBounds_toArray, List.set_cons_zero, List.set_cons_succ]))
          refine (PubBad Z HZ.out x0 SL.out a1 HBD.out w4).mono ?_
          rintro e w5 ⟨rfl, hb5⟩
          have B5 := Lib.hid (show Below w.heap.size w w5 from Below.trans B4.out (Below.mono hb5 (Below.size B4.out)))
          have GS_5 := Lib.hid ((Below.block hb5 S LS_4.out).trans GS_4.out)
          have LS_5 := Lib.hid (Nat.lt_of_lt_of_le LS_4.out (Below.size hb5))
          have GM_5 := Lib.hid ((Below.block hb5 M LM_4.out).trans GM_4.out)
          have LM_5 := Lib.hid (Nat.lt_of_lt_of_le LM_4.out (Below.size hb5))
          have GSB_5 := Lib.hid ((Below.block hb5 SB LSB_4.out).trans GSB_4.out)
          have LSB_5 := Lib.hid (Nat.lt_of_lt_of_le LSB_4.out (Below.size hb5))
          have GV_5 := Lib.hid ((Below.block hb5 V LV_4.out).trans GV_4.out)
          have LV_5 := Lib.hid (Nat.lt_of_lt_of_le LV_4.out (Below.size hb5))
          clear hb5
          obtain ⟨Q, hQ⟩ : ∃ z, z = w5.heap.size := ⟨_, rfl⟩
          obtain ⟨w6, hw6⟩ : ∃ z, z = w5.alloc (.cells (dV Z) 23) := ⟨_, rfl⟩
          have st6 : Below w5.heap.size w5 w6 := by rw [hw6]; exact (Below.refl _ _).alloc (Nat.le_refl _) _
          have B6 := Lib.hid (show Below w.heap.size w w6 from Below.trans B5.out (Below.mono st6 (Below.size B5.out)))
          have GS_6 := Lib.hid ((Below.block st6 S LS_5.out).trans GS_5.out)
          have LS_6 := Lib.hid (Nat.lt_of_lt_of_le LS_5.out (Below.size st6))
          have GM_6 := Lib.hid ((Below.block st6 M LM_5.out).trans GM_5.out)
          have LM_6 := Lib.hid (Nat.lt_of_lt_of_le LM_5.out (Below.size st6))
          have GSB_6 := Lib.hid ((Below.block st6 SB LSB_5.out).trans GSB_5.out)
          have LSB_6 := Lib.hid (Nat.lt_of_lt_of_le LSB_5.out (Below.size st6))
          have GV_6 := Lib.hid ((Below.block st6 V LV_5.out).trans GV_5.out)
          have LV_6 := Lib.hid (Nat.lt_of_lt_of_le LV_5.out (Below.size st6))
          have GQ_6 := Lib.hid (show w6.heap[Q]? = some (.cells (dV Z) 23 (0, 0)) by rw [hw6, hQ]; exact heap_alloc_new _ _)
          have LQ_6 := Lib.hid (lt_of_heap GQ_6.out)
          have HQ := Lib.hid hQ
          have Hw6 := Lib.hid hw6
          clear hQ hw6 st6
          go_wp2_with (first
            | (refine at_st 23 (.tmp 14) (.tmp 45) rfl ?_; (refine st_new rfl (.tmp 14) (.tmp 45) rfl Z ZL.out (by rfl) _ _ (by rfl) (by rfl) ?_); rw [← HQ.out, ← Hw6.out]))
          refine (Error_err 2 2 true (by decide) w6 (HG.out.at_ B6.out)).mono ?_
          rintro e w7 ⟨rfl, hb7⟩
          have B7 := Lib.hid (show Below w.heap.size w w7 from Below.trans B6.out (Below.mono hb7 (Below.size B6.out)))
          have GS_7 := Lib.hid ((Below.block hb7 S LS_6.out).trans GS_6.out)
          have LS_7 := Lib.hid (Nat.lt_of_lt_of_le LS_6.out (Below.size hb7))
          have GM_7 := Lib.hid ((Below.block hb7 M LM_6.out).trans GM_6.out)
          have LM_7 := Lib.hid (Nat.lt_of_lt_of_le LM_6.out (Below.size hb7))
          have GSB_7 := Lib.hid ((Below.block hb7 SB LSB_6.out).trans GSB_6.out)
          have LSB_7 := Lib.hid (Nat.lt_of_lt_of_le LSB_6.out (Below.size hb7))
          have GV_7 := Lib.hid ((Below.block hb7 V LV_6.out).trans GV_6.out)
          have LV_7 := Lib.hid (Nat.lt_of_lt_of_le LV_6.out (Below.size hb7))
          have GQ_7 := Lib.hid ((Below.block hb7 Q LQ_6.out).trans GQ_6.out)
          have LQ_7 := Lib.hid (Nat.lt_of_lt_of_le LQ_6.out (Below.size hb7))
          clear hb7
          go_wp2_with (first
            | (refine at_ld 23 (.tmp 14) rfl ?_; (refine ld_digG rfl (.tmp 14) rfl (Q) 0 (by rfl) Z ZL.out (range_of_row GQ_7.out) ?_); simp only [Act.put, List.setIfInBounds_toArray, List.set_cons_zero, List.set_cons_succ])
            | (refine at_ld 23 (.tmp 13) rfl ?_; (refine ld_digG rfl (.tmp 13) rfl (V) 0 (by rfl) Z ZL.out (range_of_row GV_7.out) ?_); simp only [Act.put, List.setIfInBounds_toArray, List.set_cons_zero, List.set_cons_succ])
            | (refine at_bin .neq 23 (.tmp 53) (.tmp 54) _ rfl ?_; (refine neq_digG rfl (.tmp 53) (.tmp 54) _ rfl Z Z (by rfl) (by rfl) ZL.out ZL.out ?_); rw [beq_self_eq_true]; simp only [Act.put, List.setIfInBounds_toArray, List.set_cons_zero, List.set_cons_succ])
            | (refine at_ld 23 (.tmp 5) rfl ?_; (refine ld_digG rfl (.tmp 5) rfl (S) 0 (by rfl) x0 SL.out (range_of_row GS_7.out) ?_); simp only [Act.put, List.setIfInBounds_toArray, List.set_cons_zero, List.set_cons_succ]))
          refine (StampNew_bad x0 a1 HBD.out w7).mono ?_
          rintro e w8 ⟨rfl, hb8⟩
          have B8 := Lib.hid (show Below w.heap.size w w8 from Below.trans B7.out (Below.mono hb8 (Below.size B7.out)))
          have GS_8 := Lib.hid ((Below.block hb8 S LS_7.out).trans GS_7.out)
          have LS_8 := Lib.hid (Nat.lt_of_lt_of_le LS_7.out (Below.size hb8))
          have GM_8 := Lib.hid ((Below.block hb8 M LM_7.out).trans GM_7.out)
          have LM_8 := Lib.hid (Nat.lt_of_lt_of_le LM_7.out (Below.size hb8))
          have GSB_8 := Lib.hid ((Below.block hb8 SB LSB_7.out).trans GSB_7.out)
          have LSB_8 := Lib.hid (Nat.lt_of_lt_of_le LSB_7.out (Below.size hb8))
          have GV_8 := Lib.hid ((Below.block hb8 V LV_7.out).trans GV_7.out)
          have LV_8 := Lib.hid (Nat.lt_of_lt_of_le LV_7.out (Below.size hb8))
          have GQ_8 := Lib.hid ((Below.block hb8 Q LQ_7.out).trans GQ_7.out)
          have LQ_8 := Lib.hid (Nat.lt_of_lt_of_le LQ_7.out (Below.size hb8))
          clear hb8
          go_wp2_with fail
          refine (Error_err 2 2 true (by decide) w8 (HG.out.at_ B8.out)).mono ?_
          rintro e w9 ⟨rfl, hb9⟩
          have B9 := Lib.hid (show Below w.heap.size w w9 from Below.trans B8.out (Below.mono hb9 (Below.size B8.out)))
          have GS_9 := Lib.hid ((Below.block hb9 S LS_8.out).trans GS_8.out)
          have LS_9 := Lib.hid (Nat.lt_of_lt_of_le LS_8.out (Below.size hb9))
          have GM_9 := Lib.hid ((Below.block hb9 M LM_8.out).trans GM_8.out)
          have LM_9 := Lib.hid (Nat.lt_of_lt_of_le LM_8.out (Below.size hb9))
          have GSB_9 := Lib.hid ((Below.block hb9 SB LSB_8.out).trans GSB_8.out)
          have LSB_9 := Lib.hid (Nat.lt_of_lt_of_le LSB_8.out (Below.size hb9))
          have GV_9 := Lib.hid ((Below.block hb9 V LV_8.out).trans GV_8.out)
          have LV_9 := Lib.hid (Nat.lt_of_lt_of_le LV_8.out (Below.size hb9))
          have GQ_9 := Lib.hid ((Below.block hb9 Q LQ_8.out).trans GQ_8.out)
          have LQ_9 := Lib.hid (Nat.lt_of_lt_of_le LQ_8.out (Below.size hb9))
          clear hb9
          go_wp2_with fail
          go_loopw [18] (fun i wr => i = .int .i64 0 ∧ wr = w9) (fun _ _ => 0)
          case atStart => exact ⟨rfl, rfl⟩
          case round =>
            obtain ⟨rfl, hwr⟩ := hrel
            rw [hwr]
            go_upto_region 34 with fail
            obtain ⟨U, hU⟩ : ∃ z, z = w9.heap.size := ⟨_, rfl⟩
            obtain ⟨w10, hw10⟩ : ∃ z, z = w9.alloc (.cells (dV Z) 23) := ⟨_, rfl⟩
            have st10 : Below w9.heap.size w9 w10 := by rw [hw10]; exact (Below.refl _ _).alloc (Nat.le_refl _) _
            have B10 := Lib.hid (show Below w.heap.size w w10 from Below.trans B9.out (Below.mono st10 (Below.size B9.out)))
            have GS_10 := Lib.hid ((Below.block st10 S LS_9.out).trans GS_9.out)
            have LS_10 := Lib.hid (Nat.lt_of_lt_of_le LS_9.out (Below.size st10))
            have GM_10 := Lib.hid ((Below.block st10 M LM_9.out).trans GM_9.out)
            have LM_10 := Lib.hid (Nat.lt_of_lt_of_le LM_9.out (Below.size st10))
            have GSB_10 := Lib.hid ((Below.block st10 SB LSB_9.out).trans GSB_9.out)
            have LSB_10 := Lib.hid (Nat.lt_of_lt_of_le LSB_9.out (Below.size st10))
            have GV_10 := Lib.hid ((Below.block st10 V LV_9.out).trans GV_9.out)
            have LV_10 := Lib.hid (Nat.lt_of_lt_of_le LV_9.out (Below.size st10))
            have GQ_10 := Lib.hid ((Below.block st10 Q LQ_9.out).trans GQ_9.out)
            have LQ_10 := Lib.hid (Nat.lt_of_lt_of_le LQ_9.out (Below.size st10))
            have GU_10 := Lib.hid (show w10.heap[U]? = some (.cells (dV Z) 23 (0, 0)) by rw [hw10, hU]; exact heap_alloc_new _ _)
            have LU_10 := Lib.hid (lt_of_heap GU_10.out)
            have HU := Lib.hid hU
            have Hw10 := Lib.hid hw10
            clear hU hw10 st10
            go_upto_region 39 with fail
            rw [ZT.out, ← HU.out, ← Hw10.out]
            have hex := inB_ex w10.heap.size w10
            refine wp_region_inB w10.heap.size (by kernel_rfl) (by kernel_rfl) ?_
            repeat (first
              | go_big_quiet_skip
              | go_big_quiet_step ((first | (intro _; rfl))))
            refine wpQuiet_nil ?_
            intro wZ hwZ
            have hZZ : Below w10.heap.size w10 wZ := hwZ
            have B11 := Lib.hid (show Below w.heap.size w wZ from Below.trans B10.out (Below.mono hZZ (Below.size B10.out)))
            have GS_11 := Lib.hid ((Below.block hZZ S LS_10.out).trans GS_10.out)
            have LS_11 := Lib.hid (Nat.lt_of_lt_of_le LS_10.out (Below.size hZZ))
            have GM_11 := Lib.hid ((Below.block hZZ M LM_10.out).trans GM_10.out)
            have LM_11 := Lib.hid (Nat.lt_of_lt_of_le LM_10.out (Below.size hZZ))
            have GSB_11 := Lib.hid ((Below.block hZZ SB LSB_10.out).trans GSB_10.out)
            have LSB_11 := Lib.hid (Nat.lt_of_lt_of_le LSB_10.out (Below.size hZZ))
            have GV_11 := Lib.hid ((Below.block hZZ V LV_10.out).trans GV_10.out)
            have LV_11 := Lib.hid (Nat.lt_of_lt_of_le LV_10.out (Below.size hZZ))
            have GQ_11 := Lib.hid ((Below.block hZZ Q LQ_10.out).trans GQ_10.out)
            have LQ_11 := Lib.hid (Nat.lt_of_lt_of_le LQ_10.out (Below.size hZZ))
            have GU_11 := Lib.hid ((Below.block hZZ U LU_10.out).trans GU_10.out)
            have LU_11 := Lib.hid (Nat.lt_of_lt_of_le LU_10.out (Below.size hZZ))
            clear hZZ hwZ
            go_upto_region 43 with fail
            have HRC := Lib.hid (SRecover_bad x3 ML.out x4 a1 HBD.out j4 a4 b4 c4 y4.length d4 wZ)
            rw [← HZ.out] at HRC
            go_wp2_with (first
              | (refine at_ld 23 (.tmp 8) rfl ?_; (refine ld_digG rfl (.tmp 8) rfl (M) 0 (by rfl) x3 ML.out (range_of_row GM_11.out) ?_); simp only [Act.put, List.setIfInBounds_toArray, List.set_cons_zero, List.set_cons_succ])
              | (refine at_ld 33 (.tmp 9) rfl ?_; (refine ld_sig rfl (.tmp 9) rfl SB (by rfl) (.int .i64 j4) (.slice a4 x4.length c4) (.slice b4 y4.length d4) _ _ GSB_11.out ?_); simp only [Act.put, List.setIfInBounds_toArray, List.set_cons_zero, List.set_cons_succ]))
            refine (HRC.out).mono ?_
            rintro e w12 ⟨rfl, hb12⟩
            have B12 := Lib.hid (show Below w.heap.size w w12 from Below.trans B11.out (Below.mono hb12 (Below.size B11.out)))
            have GS_12 := Lib.hid ((Below.block hb12 S LS_11.out).trans GS_11.out)
            have LS_12 := Lib.hid (Nat.lt_of_lt_of_le LS_11.out (Below.size hb12))
            have GM_12 := Lib.hid ((Below.block hb12 M LM_11.out).trans GM_11.out)
            have LM_12 := Lib.hid (Nat.lt_of_lt_of_le LM_11.out (Below.size hb12))
            have GSB_12 := Lib.hid ((Below.block hb12 SB LSB_11.out).trans GSB_11.out)
            have LSB_12 := Lib.hid (Nat.lt_of_lt_of_le LSB_11.out (Below.size hb12))
            have GV_12 := Lib.hid ((Below.block hb12 V LV_11.out).trans GV_11.out)
            have LV_12 := Lib.hid (Nat.lt_of_lt_of_le LV_11.out (Below.size hb12))
            have GQ_12 := Lib.hid ((Below.block hb12 Q LQ_11.out).trans GQ_11.out)
            have LQ_12 := Lib.hid (Nat.lt_of_lt_of_le LQ_11.out (Below.size hb12))
            have GU_12 := Lib.hid ((Below.block hb12 U LU_11.out).trans GU_11.out)
            have LU_12 := Lib.hid (Nat.lt_of_lt_of_le LU_11.out (Below.size hb12))
            clear HRC
            clear hb12
            obtain ⟨Y, hY⟩ : ∃ z, z = w12.heap.size := ⟨_, rfl⟩
            obtain ⟨w13, hw13⟩ : ∃ z, z = w12.alloc (.cells (dV Z) 23) := ⟨_, rfl⟩
            have st13 : Below w12.heap.size w12 w13 := by rw [hw13]; exact (Below.refl _ _).alloc (Nat.le_refl _) _
            have B13 := Lib.hid (show Below w.heap.size w w13 from Below.trans B12.out (Below.mono st13 (Below.size B12.out)))
            have GS_13 := Lib.hid ((Below.block st13 S LS_12.out).trans GS_12.out)
            have LS_13 := Lib.hid (Nat.lt_of_lt_of_le LS_12.out (Below.size st13))
            have GM_13 := Lib.hid ((Below.block st13 M LM_12.out).trans GM_12.out)
            have LM_13 := Lib.hid (Nat.lt_of_lt_of_le LM_12.out (Below.size st13))
            have GSB_13 := Lib.hid ((Below.block st13 SB LSB_12.out).trans GSB_12.out)
            have LSB_13 := Lib.hid (Nat.lt_of_lt_of_le LSB_12.out (Below.size st13))
            have GV_13 := Lib.hid ((Below.block st13 V LV_12.out).trans GV_12.out)
            have LV_13 := Lib.hid (Nat.lt_of_lt_of_le LV_12.out (Below.size st13))
            have GQ_13 := Lib.hid ((Below.block st13 Q LQ_12.out).trans GQ_12.out)
            have LQ_13 := Lib.hid (Nat.lt_of_lt_of_le LQ_12.out (Below.size st13))
            have GU_13 := Lib.hid ((Below.block st13 U LU_12.out).trans GU_12.out)
            have LU_13 := Lib.hid (Nat.lt_of_lt_of_le LU_12.out (Below.size st13))
            have GY_13 := Lib.hid (show w13.heap[Y]? = some (.cells (dV Z) 23 (0, 0)) by rw [hw13, hY]; exact heap_alloc_new _ _)
            have LY_13 := Lib.hid (lt_of_heap GY_13.out)
            have HY := Lib.hid hY
            have Hw13 := Lib.hid hw13
            clear hY hw13 st13
            go_wp2_with (first
              | (refine at_st 23 (.tmp 26) (.tmp 186) rfl ?_; (refine st_new rfl (.tmp 26) (.tmp 186) rfl Z ZL.out (by rfl) _ _ (by rfl) (by rfl) ?_); rw [← HY.out, ← Hw13.out]))
            refine (Error_err 2 2 true (by decide) w13 (HG.out.at_ B13.out)).mono ?_
            rintro e w14 ⟨rfl, hb14⟩
            have B14 := Lib.hid (show Below w.heap.size w w14 from Below.trans B13.out (Below.mono hb14 (Below.size B13.out)))
            have GS_14 := Lib.hid ((Below.block hb14 S LS_13.out).trans GS_13.out)
            have LS_14 := Lib.hid (Nat.lt_of_lt_of_le LS_13.out (Below.size hb14))
            have GM_14 := Lib.hid ((Below.block hb14 M LM_13.out).trans GM_13.out)
            have LM_14 := Lib.hid (Nat.lt_of_lt_of_le LM_13.out (Below.size hb14))
            have GSB_14 := Lib.hid ((Below.block hb14 SB LSB_13.out).trans GSB_13.out)
            have LSB_14 := Lib.hid (Nat.lt_of_lt_of_le LSB_13.out (Below.size hb14))
            have GV_14 := Lib.hid ((Below.block hb14 V LV_13.out).trans GV_13.out)
            have LV_14 := Lib.hid (Nat.lt_of_lt_of_le LV_13.out (Below.size hb14))
            have GQ_14 := Lib.hid ((Below.block hb14 Q LQ_13.out).trans GQ_13.out)
            have LQ_14 := Lib.hid (Nat.lt_of_lt_of_le LQ_13.out (Below.size hb14))
            have GU_14 := Lib.hid ((Below.block hb14 U LU_13.out).trans GU_13.out)
            have LU_14 := Lib.hid (Nat.lt_of_lt_of_le LU_13.out (Below.size hb14))
            have GY_14 := Lib.hid ((Below.block hb14 Y LY_13.out).trans GY_13.out)
            have LY_14 := Lib.hid (Nat.lt_of_lt_of_le LY_13.out (Below.size hb14))
            clear hb14
            go_wp2_with (first
              | (refine at_ld 23 (.tmp 26) rfl ?_; (refine ld_digG rfl (.tmp 26) rfl (Y) 0 (by rfl) Z ZL.out (range_of_row GY_14.out) ?_); simp only [Act.put, List.setIfInBounds_toArray, List.set_cons_zero, List.set_cons_succ])
              | (refine at_ld 23 (.tmp 25) rfl ?_; (refine ld_digG rfl (.tmp 25) rfl (U) 0 (by rfl) Z ZL.out (range_of_row GU_14.out) ?_); simp only [Act.put, List.setIfInBounds_toArray, List.set_cons_zero, List.set_cons_succ])
              | (refine at_bin .eql 23 (.tmp 193) (.tmp 194) _ rfl ?_; (refine eq_digG rfl (.tmp 193) (.tmp 194) _ rfl Z Z (by rfl) (by rfl) ZL.out ZL.out ?_); rw [beq_self_eq_true]; simp only [Act.put, List.setIfInBounds_toArray, List.set_cons_zero, List.set_cons_succ]))
            go_ret
            exact ⟨rfl, B14.out⟩
        · have z1 : decide ((0 : Int) < (x2.length : Int)) = false := decide_eq_false (by omega)
          have z2 : decide (0 < x2.length) = false := decide_eq_false hz
          obtain ⟨S, hS⟩ : ∃ z, z = w.heap.size := ⟨_, rfl⟩
          obtain ⟨w1, hw1⟩ : ∃ z, z = w.alloc (.cells (dV x0) 23) := ⟨_, rfl⟩
          have st1 : Below w.heap.size w w1 := by rw [hw1]; exact (Below.refl _ _).alloc (Nat.le_refl _) _
          have B1 := Lib.hid (show Below w.heap.size w w1 from Below.trans (Below.refl w.heap.size w) (Below.mono st1 (Below.size (Below.refl w.heap.size w))))
          have GS_1 := Lib.hid (show w1.heap[S]? = some (.cells (dV x0) 23 (0, 0)) by rw [hw1, hS]; exact heap_alloc_new _ _)
          have LS_1 := Lib.hid (lt_of_heap GS_1.out)
          have HS := Lib.hid hS
          have Hw1 := Lib.hid hw1
          clear hS hw1 st1
          have SZS := Lib.hid (show S = w.heap.size from HS.out)
          obtain ⟨M, hM⟩ : ∃ z, z = w1.heap.size := ⟨_, rfl⟩
          obtain ⟨w2, hw2⟩ : ∃ z, z = w1.alloc (.cells (dV x3) 23) := ⟨_, rfl⟩
          have st2 : Below w1.heap.size w1 w2 := by rw [hw2]; exact (Below.refl _ _).alloc (Nat.le_refl _) _
          have B2 := Lib.hid (show Below w.heap.size w w2 from Below.trans B1.out (Below.mono st2 (Below.size B1.out)))
          have GS_2 := Lib.hid ((Below.block st2 S LS_1.out).trans GS_1.out)
          have LS_2 := Lib.hid (Nat.lt_of_lt_of_le LS_1.out (Below.size st2))
          have GM_2 := Lib.hid (show w2.heap[M]? = some (.cells (dV x3) 23 (0, 0)) by rw [hw2, hM]; exact heap_alloc_new _ _)
          have LM_2 := Lib.hid (lt_of_heap GM_2.out)
          have HM := Lib.hid hM
          have Hw2 := Lib.hid hw2
          clear hM hw2 st2
          have SZM := Lib.hid (show M = w.heap.size + 1 by rw [HM.out, Hw1.out, World.size_alloc, ← HS.out, SZS.out])
          obtain ⟨SB, hSB⟩ : ∃ z, z = w2.heap.size := ⟨_, rfl⟩
          obtain ⟨w3, hw3⟩ : ∃ z, z = w2.alloc (.cells #[.int .i64 j4, .slice a4 x4.length c4, .slice b4 y4.length d4] 33) := ⟨_, rfl⟩
          have st3 : Below w2.heap.size w2 w3 := by rw [hw3]; exact (Below.refl _ _).alloc (Nat.le_refl _) _
          have B3 := Lib.hid (show Below w.heap.size w w3 from Below.trans B2.out (Below.mono st3 (Below.size B2.out)))
          have GS_3 := Lib.hid ((Below.block st3 S LS_2.out).trans GS_2.out)
          have LS_3 := Lib.hid (Nat.lt_of_lt_of_le LS_2.out (Below.size st3))
          have GM_3 := Lib.hid ((Below.block st3 M LM_2.out).trans GM_2.out)
          have LM_3 := Lib.hid (Nat.lt_of_lt_of_le LM_2.out (Below.size st3))
          have GSB_3 := Lib.hid (show w3.heap[SB]? = some (.cells #[.int .i64 j4, .slice a4 x4.length c4, .slice b4 y4.length d4] 33 (0, 0)) by rw [hw3, hSB]; exact heap_alloc_new _ _)
          have LSB_3 := Lib.hid (lt_of_heap GSB_3.out)
          have HSB := Lib.hid hSB
          have Hw3 := Lib.hid hw3
          clear hSB hw3 st3
          have SZSB := Lib.hid (show SB = w.heap.size + 1 + 1 by rw [HSB.out, Hw2.out, World.size_alloc, ← HM.out, SZM.out])
          go_enter Tryd.func4, Tryd.ntmps4
          go_upto_region 1 with fail
          rw [← SZSB.out, ← SZM.out, ← SZS.out, ← Hw1.out, ← Hw2.out, ← Hw3.out]
          go_upto_region 5 with fail
          obtain ⟨V, hV⟩ : ∃ z, z = w3.heap.size := ⟨_, rfl⟩
          obtain ⟨w4, hw4⟩ : ∃ z, z = w3.alloc (.cells (dV Z) 23) := ⟨_, rfl⟩
          have st4 : Below w3.heap.size w3 w4 := by rw [hw4]; exact (Below.refl _ _).alloc (Nat.le_refl _) _
          have B4 := Lib.hid (show Below w.heap.size w w4 from Below.trans B3.out (Below.mono st4 (Below.size B3.out)))
          have GS_4 := Lib.hid ((Below.block st4 S LS_3.out).trans GS_3.out)
          have LS_4 := Lib.hid (Nat.lt_of_lt_of_le LS_3.out (Below.size st4))
          have GM_4 := Lib.hid ((Below.block st4 M LM_3.out).trans GM_3.out)
          have LM_4 := Lib.hid (Nat.lt_of_lt_of_le LM_3.out (Below.size st4))
          have GSB_4 := Lib.hid ((Below.block st4 SB LSB_3.out).trans GSB_3.out)
          have LSB_4 := Lib.hid (Nat.lt_of_lt_of_le LSB_3.out (Below.size st4))
          have GV_4 := Lib.hid (show w4.heap[V]? = some (.cells (dV Z) 23 (0, 0)) by rw [hw4, hV]; exact heap_alloc_new _ _)
          have LV_4 := Lib.hid (lt_of_heap GV_4.out)
          have HV := Lib.hid hV
          have Hw4 := Lib.hid hw4
          clear hV hw4 st4
          go_upto_region 10 with fail
          rw [ZT.out, ← HV.out, ← Hw4.out]
          go_wp2_with (first
            | (refine at_ld 23 (.tmp 5) rfl ?_; (refine ld_digG rfl (.tmp 5) rfl (S) 0 (by rfl) x0 SL.out (range_of_row GS_4.out) ?_); simp only [Act.put, List.setIfInBounds_toArray, List.set_cons_zero, List.set_cons_succ]))
          refine (PubBad Z HZ.out x0 SL.out a1 HBD.out w4).mono ?_
          rintro e w5 ⟨rfl, hb5⟩
          have B5 := Lib.hid (show Below w.heap.size w w5 from Below.trans B4.out (Below.mono hb5 (Below.size B4.out)))
          have GS_5 := Lib.hid ((Below.block hb5 S LS_4.out).trans GS_4.out)
          have LS_5 := Lib.hid (Nat.lt_of_lt_of_le LS_4.out (Below.size hb5))
          have GM_5 := Lib.hid ((Below.block hb5 M LM_4.out).trans GM_4.out)
          have LM_5 := Lib.hid (Nat.lt_of_lt_of_le LM_4.out (Below.size hb5))
          have GSB_5 := Lib.hid ((Below.block hb5 SB LSB_4.out).trans GSB_4.out)
          have LSB_5 := Lib.hid (Nat.lt_of_lt_of_le LSB_4.out (Below.size hb5))
          have GV_5 := Lib.hid ((Below.block hb5 V LV_4.out).trans GV_4.out)
          have LV_5 := Lib.hid (Nat.lt_of_lt_of_le LV_4.out (Below.size hb5))
          clear hb5
          obtain ⟨Q, hQ⟩ : ∃ z, z = w5.heap.size := ⟨_, rfl⟩
          obtain ⟨w6, hw6⟩ : ∃ z, z = w5.alloc (.cells (dV Z) 23) := ⟨_, rfl⟩
          have st6 : Below w5.heap.size w5 w6 := by rw [hw6]; exact (Below.refl _ _).alloc (Nat.le_refl _) _
          have B6 := Lib.hid (show Below w.heap.size w w6 from Below.trans B5.out (Below.mono st6 (Below.size B5.out)))
          have GS_6 := Lib.hid ((Below.block st6 S LS_5.out).trans GS_5.out)
          have LS_6 := Lib.hid (Nat.lt_of_lt_of_le LS_5.out (Below.size st6))
          have GM_6 := Lib.hid ((Below.block st6 M LM_5.out).trans GM_5.out)
          have LM_6 := Lib.hid (Nat.lt_of_lt_of_le LM_5.out (Below.size st6))
          have GSB_6 := Lib.hid ((Below.block st6 SB LSB_5.out).trans GSB_5.out)
          have LSB_6 := Lib.hid (Nat.lt_of_lt_of_le LSB_5.out (Below.size st6))
          have GV_6 := Lib.hid ((Below.block st6 V LV_5.out).trans GV_5.out)
          have LV_6 := Lib.hid (Nat.lt_of_lt_of_le LV_5.out (Below.size st6))
          have GQ_6 := Lib.hid (show w6.heap[Q]? = some (.cells (dV Z) 23 (0, 0)) by rw [hw6, hQ]; exact heap_alloc_new _ _)
          have LQ_6 := Lib.hid (lt_of_heap GQ_6.out)
          have HQ := Lib.hid hQ
          have Hw6 := Lib.hid hw6
          clear hQ hw6 st6
          go_wp2_with (first
            | (refine at_st 23 (.tmp 14) (.tmp 45) rfl ?_; (refine st_new rfl (.tmp 14) (.tmp 45) rfl Z ZL.out (by rfl) _ _ (by rfl) (by rfl) ?_); rw [← HQ.out, ← Hw6.out]))
          refine (Error_err 2 2 true (by decide) w6 (HG.out.at_ B6.out)).mono ?_
          rintro e w7 ⟨rfl, hb7⟩
          have B7 := Lib.hid (show Below w.heap.size w w7 from Below.trans B6.out (Below.mono hb7 (Below.size B6.out)))
          have GS_7 := Lib.hid ((Below.block hb7 S LS_6.out).trans GS_6.out)
          have LS_7 := Lib.hid (Nat.lt_of_lt_of_le LS_6.out (Below.size hb7))
          have GM_7 := Lib.hid ((Below.block hb7 M LM_6.out).trans GM_6.out)
          have LM_7 := Lib.hid (Nat.lt_of_lt_of_le LM_6.out (Below.size hb7))
          have GSB_7 := Lib.hid ((Below.block hb7 SB LSB_6.out).trans GSB_6.out)
          have LSB_7 := Lib.hid (Nat.lt_of_lt_of_le LSB_6.out (Below.size hb7))
          have GV_7 := Lib.hid ((Below.block hb7 V LV_6.out).trans GV_6.out)
          have LV_7 := Lib.hid (Nat.lt_of_lt_of_le LV_6.out (Below.size hb7))
          have GQ_7 := Lib.hid ((Below.block hb7 Q LQ_6.out).trans GQ_6.out)
          have LQ_7 := Lib.hid (Nat.lt_of_lt_of_le LQ_6.out (Below.size hb7))
          clear hb7
          go_wp2_with (first
            | (refine at_ld 23 (.tmp 14) rfl ?_; (refine ld_digG rfl (.tmp 14) rfl (Q) 0 (by rfl) Z ZL.out (range_of_row GQ_7.out) ?_); simp only [Act.put, List.setIfInBounds_toArray, List.set_cons_zero, List.set_cons_succ])
            | (refine at_ld 23 (.tmp 13) rfl ?_; (refine ld_digG rfl (.tmp 13) rfl (V) 0 (by rfl) Z ZL.out (range_of_row GV_7.out) ?_); simp only [Act.put, List.setIfInBounds_toArray, List.set_cons_zero, List.set_cons_succ])
            | (refine at_bin .neq 23 (.tmp 53) (.tmp 54) _ rfl ?_; (refine neq_digG rfl (.tmp 53) (.tmp 54) _ rfl Z Z (by rfl) (by rfl) ZL.out ZL.out ?_); rw [beq_self_eq_true]; simp only [Act.put, List.setIfInBounds_toArray, List.set_cons_zero, List.set_cons_succ])
            | (refine at_ld 23 (.tmp 5) rfl ?_; (refine ld_digG rfl (.tmp 5) rfl (S) 0 (by rfl) x0 SL.out (range_of_row GS_7.out) ?_); simp only [Act.put, List.setIfInBounds_toArray, List.set_cons_zero, List.set_cons_succ]))
          refine (StampNew_bad x0 a1 HBD.out w7).mono ?_
          rintro e w8 ⟨rfl, hb8⟩
          have B8 := Lib.hid (show Below w.heap.size w w8 from Below.trans B7.out (Below.mono hb8 (Below.size B7.out)))
          have GS_8 := Lib.hid ((Below.block hb8 S LS_7.out).trans GS_7.out)
          have LS_8 := Lib.hid (Nat.lt_of_lt_of_le LS_7.out (Below.size hb8))
          have GM_8 := Lib.hid ((Below.block hb8 M LM_7.out).trans GM_7.out)
          have LM_8 := Lib.hid (Nat.lt_of_lt_of_le LM_7.out (Below.size hb8))
          have GSB_8 := Lib.hid ((Below.block hb8 SB LSB_7.out).trans GSB_7.out)
          have LSB_8 := Lib.hid (Nat.lt_of_lt_of_le LSB_7.out (Below.size hb8))
          have GV_8 := Lib.hid ((Below.block hb8 V LV_7.out).trans GV_7.out)
          have LV_8 := Lib.hid (Nat.lt_of_lt_of_le LV_7.out (Below.size hb8))
          have GQ_8 := Lib.hid ((Below.block hb8 Q LQ_7.out).trans GQ_7.out)
          have LQ_8 := Lib.hid (Nat.lt_of_lt_of_le LQ_7.out (Below.size hb8))
          clear hb8
          go_wp2_with fail
          refine (Error_err 2 2 true (by decide) w8 (HG.out.at_ B8.out)).mono ?_
          rintro e w9 ⟨rfl, hb9⟩
          have B9 := Lib.hid (show Below w.heap.size w w9 from Below.trans B8.out (Below.mono hb9 (Below.size B8.out)))
          have GS_9 := Lib.hid ((Below.block hb9 S LS_8.out).trans GS_8.out)
          have LS_9 := Lib.hid (Nat.lt_of_lt_of_le LS_8.out (Below.size hb9))
          have GM_9 := Lib.hid ((Below.block hb9 M LM_8.out).trans GM_8.out)
          have LM_9 := Lib.hid (Nat.lt_of_lt_of_le LM_8.out (Below.size hb9))
          have GSB_9 := Lib.hid ((Below.block hb9 SB LSB_8.out).trans GSB_8.out)
          have LSB_9 := Lib.hid (Nat.lt_of_lt_of_le LSB_8.out (Below.size hb9))
          have GV_9 := Lib.hid ((Below.block hb9 V LV_8.out).trans GV_8.out)
          have LV_9 := Lib.hid (Nat.lt_of_lt_of_le LV_8.out (Below.size hb9))
          have GQ_9 := Lib.hid ((Below.block hb9 Q LQ_8.out).trans GQ_8.out)
          have LQ_9 := Lib.hid (Nat.lt_of_lt_of_le LQ_8.out (Below.size hb9))
          clear hb9
          go_wp2_with fail
          go_loopw [18] (fun i wr => i = .int .i64 0 ∧ wr = w9) (fun _ _ => 0)
          case atStart => exact ⟨rfl, rfl⟩
          case round =>
            obtain ⟨rfl, hwr⟩ := hrel
            rw [hwr]
            go_upto_region 34 with fail
            obtain ⟨U, hU⟩ : ∃ z, z = w9.heap.size := ⟨_, rfl⟩
            obtain ⟨w10, hw10⟩ : ∃ z, z = w9.alloc (.cells (dV Z) 23) := ⟨_, rfl⟩
            have st10 : Below w9.heap.size w9 w10 := by rw [hw10]; exact (Below.refl _ _).alloc (Nat.le_refl _) _
            have B10 := Lib.hid (show Below w.heap.size w w10 from Below.trans B9.out (Below.mono st10 (Below.size B9.out)))
            have GS_10 := Lib.hid ((Below.block st10 S LS_9.out).trans GS_9.out)
            have LS_10 := Lib.hid (Nat.lt_of_lt_of_le LS_9.out (Below.size st10))
            have GM_10 := Lib.hid ((Below.block st10 M LM_9.out).trans GM_9.out)
            have LM_10 := Lib.hid (Nat.lt_of_lt_of_le LM_9.out (Below.size st10))
            have GSB_10 := Lib.hid ((Below.block st10 SB LSB_9.out).trans GSB_9.out)
            have LSB_10 := Lib.hid (Nat.lt_of_lt_of_le LSB_9.out (Below.size st10))
            have GV_10 := Lib.hid ((Below.block st10 V LV_9.out).trans GV_9.out)
            have LV_10 := Lib.hid (Nat.lt_of_lt_of_le LV_9.out (Below.size st10))
            have GQ_10 := Lib.hid ((Below.block st10 Q LQ_9.out).trans GQ_9.out)
            have LQ_10 := Lib.hid (Nat.lt_of_lt_of_le LQ_9.out (Below.size st10))
            have GU_10 := Lib.hid (show w10.heap[U]? = some (.cells (dV Z) 23 (0, 0)) by rw [hw10, hU]; exact heap_alloc_new _ _)
            have LU_10 := Lib.hid (lt_of_heap GU_10.out)
            have HU := Lib.hid hU
            have Hw10 := Lib.hid hw10
            clear hU hw10 st10
            go_upto_region 39 with fail
            rw [ZT.out, ← HU.out, ← Hw10.out]
            have hex := inB_ex w10.heap.size w10
            refine wp_region_inB w10.heap.size (by kernel_rfl) (by kernel_rfl) ?_
            repeat (first
              | go_big_quiet_skip
              | go_big_quiet_step ((first | (intro _; rfl))))
            refine wpQuiet_nil ?_
            intro wZ hwZ
            have hZZ : Below w10.heap.size w10 wZ := hwZ
            have B11 := Lib.hid (show Below w.heap.size w wZ from Below.trans B10.out (Below.mono hZZ (Below.size B10.out)))
            have GS_11 := Lib.hid ((Below.block hZZ S LS_10.out).trans GS_10.out)
            have LS_11 := Lib.hid (Nat.lt_of_lt_of_le LS_10.out (Below.size hZZ))
            have GM_11 := Lib.hid ((Below.block hZZ M LM_10.out).trans GM_10.out)
            have LM_11 := Lib.hid (Nat.lt_of_lt_of_le LM_10.out (Below.size hZZ))
            have GSB_11 := Lib.hid ((Below.block hZZ SB LSB_10.out).trans GSB_10.out)
            have LSB_11 := Lib.hid (Nat.lt_of_lt_of_le LSB_10.out (Below.size hZZ))
            have GV_11 := Lib.hid ((Below.block hZZ V LV_10.out).trans GV_10.out)
            have LV_11 := Lib.hid (Nat.lt_of_lt_of_le LV_10.out (Below.size hZZ))
            have GQ_11 := Lib.hid ((Below.block hZZ Q LQ_10.out).trans GQ_10.out)
            have LQ_11 := Lib.hid (Nat.lt_of_lt_of_le LQ_10.out (Below.size hZZ))
            have GU_11 := Lib.hid ((Below.block hZZ U LU_10.out).trans GU_10.out)
            have LU_11 := Lib.hid (Nat.lt_of_lt_of_le LU_10.out (Below.size hZZ))
            clear hZZ hwZ
            go_upto_region 43 with fail
            have HRC := Lib.hid (SRecover_bad x3 ML.out x4 a1 HBD.out j4 a4 b4 c4 y4.length d4 wZ)
            rw [← HZ.out] at HRC
            go_wp2_with (first
              | (refine at_ld 23 (.tmp 8) rfl ?_; (refine ld_digG rfl (.tmp 8) rfl (M) 0 (by rfl) x3 ML.out (range_of_row GM_11.out) ?_); simp only [Act.put, List.setIfInBounds_toArray, List.set_cons_zero, List.set_cons_succ])
              | (refine at_ld 33 (.tmp 9) rfl ?_; (refine ld_sig rfl (.tmp 9) rfl SB (by rfl) (.int .i64 j4) (.slice a4 x4.length c4) (.slice b4 y4.length d4) _ _ GSB_11.out ?_); simp only [Act.put, List.setIfInBounds_toArray, List.set_cons_zero, List.set_cons_succ]))
            refine (HRC.out).mono ?_
            rintro e w12 ⟨rfl, hb12⟩
            have B12 := Lib.hid (show Below w.heap.size w w12 from Below.trans B11.out (Below.mono hb12 (Below.size B11.out)))
            have GS_12 := Lib.hid ((Below.block hb12 S LS_11.out).trans GS_11.out)
            have LS_12 := Lib.hid (Nat.lt_of_lt_of_le LS_11.out (Below.size hb12))
            have GM_12 := Lib.hid ((Below.block hb12 M LM_11.out).trans GM_11.out)
            have LM_12 := Lib.hid (Nat.lt_of_lt_of_le LM_11.out (Below.size hb12))
            have GSB_12 := Lib.hid ((Below.block hb12 SB LSB_11.out).trans GSB_11.out)
            have LSB_12 := Lib.hid (Nat.lt_of_lt_of_le LSB_11.out (Below.size hb12))
            have GV_12 := Lib.hid ((Below.block hb12 V LV_11.out).trans GV_11.out)
            have LV_12 := Lib.hid (Nat.lt_of_lt_of_le LV_11.out (Below.size hb12))
            have GQ_12 := Lib.hid ((Below.block hb12 Q LQ_11.out).trans GQ_11.out)
            have LQ_12 := Lib.hid (Nat.lt_of_lt_of_le LQ_11.out (Below.size hb12))
            have GU_12 := Lib.hid ((Below.block hb12 U LU_11.out).trans GU_11.out)
            have LU_12 := Lib.hid (Nat.lt_of_lt_of_le LU_11.out (Below.size hb12))
            clear HRC
            clear hb12
            obtain ⟨Y, hY⟩ : ∃ z, z = w12.heap.size := ⟨_, rfl⟩
            obtain ⟨w13, hw13⟩ : ∃ z, z = w12.alloc (.cells (dV Z) 23) := ⟨_, rfl⟩
            have st13 : Below w12.heap.size w12 w13 := by rw [hw13]; exact (Below.refl _ _).alloc (Nat.le_refl _) _
            have B13 := Lib.hid (show Below w.heap.size w w13 from Below.trans B12.out (Below.mono st13 (Below.size B12.out)))
            have GS_13 := Lib.hid ((Below.block st13 S LS_12.out).trans GS_12.out)
            have LS_13 := Lib.hid (Nat.lt_of_lt_of_le LS_12.out (Below.size st13))
            have GM_13 := Lib.hid ((Below.block st13 M LM_12.out).trans GM_12.out)
            have LM_13 := Lib.hid (Nat.lt_of_lt_of_le LM_12.out (Below.size st13))
            have GSB_13 := Lib.hid ((Below.block st13 SB LSB_12.out).trans GSB_12.out)
            have LSB_13 := Lib.hid (Nat.lt_of_lt_of_le LSB_12.out (Below.size st13))
            have GV_13 := Lib.hid ((Below.block st13 V LV_12.out).trans GV_12.out)
            have LV_13 := Lib.hid (Nat.lt_of_lt_of_le LV_12.out (Below.size st13))
            have GQ_13 := Lib.hid ((Below.block st13 Q LQ_12.out).trans GQ_12.out)
            have LQ_13 := Lib.hid (Nat.lt_of_lt_of_le LQ_12.out (Below.size st13))
            have GU_13 := Lib.hid ((Below.block st13 U LU_12.out).trans GU_12.out)
            have LU_13 := Lib.hid (Nat.lt_of_lt_of_le LU_12.out (Below.size st13))
            have GY_13 := Lib.hid (show w13.heap[Y]? = some (.cells (dV Z) 23 (0, 0)) by rw [hw13, hY]; exact heap_alloc_new _ _)
            have LY_13 := Lib.hid (lt_of_heap GY_13.out)
            have HY := Lib.hid hY
            have Hw13 := Lib.hid hw13
            clear hY hw13 st13
            go_wp2_with (first
              | (refine at_st 23 (.tmp 26) (.tmp 186) rfl ?_; (refine st_new rfl (.tmp 26) (.tmp 186) rfl Z ZL.out (by rfl) _ _ (by rfl) (by rfl) ?_); rw [← HY.out, ← Hw13.out]))
            refine (Error_err 2 2 true (by decide) w13 (HG.out.at_ B13.out)).mono ?_
            rintro e w14 ⟨rfl, hb14⟩
            have B14 := Lib.hid (show Below w.heap.size w w14 from Below.trans B13.out (Below.mono hb14 (Below.size B13.out)))
            have GS_14 := Lib.hid ((Below.block hb14 S LS_13.out).trans GS_13.out)
            have LS_14 := Lib.hid (Nat.lt_of_lt_of_le LS_13.out (Below.size hb14))
            have GM_14 := Lib.hid ((Below.block hb14 M LM_13.out).trans GM_13.out)
            have LM_14 := Lib.hid (Nat.lt_of_lt_of_le LM_13.out (Below.size hb14))
            have GSB_14 := Lib.hid ((Below.block hb14 SB LSB_13.out).trans GSB_13.out)
            have LSB_14 := Lib.hid (Nat.lt_of_lt_of_le LSB_13.out (Below.size hb14))
            have GV_14 := Lib.hid ((Below.block hb14 V LV_13.out).trans GV_13.out)
            have LV_14 := Lib.hid (Nat.lt_of_lt_of_le LV_13.out (Below.size hb14))
            have GQ_14 := Lib.hid ((Below.block hb14 Q LQ_13.out).trans GQ_13.out)
            have LQ_14 := Lib.hid (Nat.lt_of_lt_of_le LQ_13.out (Below.size hb14))
            have GU_14 := Lib.hid ((Below.block hb14 U LU_13.out).trans GU_13.out)
            have LU_14 := Lib.hid (Nat.lt_of_lt_of_le LU_13.out (Below.size hb14))
            have GY_14 := Lib.hid ((Below.block hb14 Y LY_13.out).trans GY_13.out)
            have LY_14 := Lib.hid (Nat.lt_of_lt_of_le LY_13.out (Below.size hb14))
            clear hb14
            go_wp2_with (first
              | (refine at_ld 23 (.tmp 26) rfl ?_; (refine ld_digG rfl (.tmp 26) rfl (Y) 0 (by rfl) Z ZL.out (range_of_row GY_14.out) ?_); simp only [Act.put, List.setIfInBounds_toArray, List.set_cons_zero, List.set_cons_succ])
              | (refine at_ld 23 (.tmp 25) rfl ?_; (refine ld_digG rfl (.tmp 25) rfl (U) 0 (by rfl) Z ZL.out (range_of_row GU_14.out) ?_); simp only [Act.put, List.setIfInBounds_toArray, List.set_cons_zero, List.set_cons_succ])
              | (refine at_bin .eql 23 (.tmp 193) (.tmp 194) _ rfl ?_; (refine eq_digG rfl (.tmp 193) (.tmp 194) _ rfl Z Z (by rfl) (by rfl) ZL.out ZL.out ?_); rw [beq_self_eq_true]; simp only [Act.put, List.setIfInBounds_toArray, List.set_cons_zero, List.set_cons_succ]))
            go_ret
            exact ⟨rfl, B14.out⟩
    · obtain ⟨h, rfl⟩ : ∃ h : Nat, a1 = (h : Int) := ⟨a1.toNat, by omega⟩
      have hh : h ≤ 4 := by omega
      obtain ⟨n, hn⟩ : ∃ n, n = 2 ^ h := ⟨_, rfl⟩
      have hn16 : n ≤ 16 := by rw [hn]; exact Nat.le_trans (Nat.pow_le_pow_right (by omega) hh) (by decide)
      have hn1 : 1 ≤ n := by rw [hn]; exact Nat.two_pow_pos h
      have HN := Lib.hid hn
      have HH := Lib.hid hh
      have HN16 := Lib.hid hn16
      have HN1 := Lib.hid hn1
      have q1 : decide ((h : Int) < 0) = false := decide_eq_false (by omega)
      have q2 : decide ((4 : Int) < (h : Int)) = false := decide_eq_false (by omega)
      have q3 : decide (4 < h) = false := decide_eq_false (by omega)
      clear hbad hh hn
      obtain ⟨R, hR⟩ : ∃ R, R = troot (leavesK x0 n) := ⟨_, rfl⟩
      have RL := Lib.hid (show R.length = 32 by rw [hR]; exact troot_length _ (leavesK_dig _ _))
      have HR := Lib.hid hR
      clear hR
      obtain ⟨S, hS⟩ : ∃ z, z = w.heap.size := ⟨_, rfl⟩
      obtain ⟨w1, hw1⟩ : ∃ z, z = w.alloc (.cells (dV x0) 23) := ⟨_, rfl⟩
      have st1 : Below w.heap.size w w1 := by rw [hw1]; exact (Below.refl _ _).alloc (Nat.le_refl _) _
      have B1 := Lib.hid (show Below w.heap.size w w1 from Below.trans (Below.refl w.heap.size w) (Below.mono st1 (Below.size (Below.refl w.heap.size w))))
      have GS_1 := Lib.hid (show w1.heap[S]? = some (.cells (dV x0) 23 (0, 0)) by rw [hw1, hS]; exact heap_alloc_new _ _)
      have LS_1 := Lib.hid (lt_of_heap GS_1.out)
      have HS := Lib.hid hS
      have Hw1 := Lib.hid hw1
      clear hS hw1 st1
      have SZS := Lib.hid (show S = w.heap.size from HS.out)
      obtain ⟨M, hM⟩ : ∃ z, z = w1.heap.size := ⟨_, rfl⟩
      obtain ⟨w2, hw2⟩ : ∃ z, z = w1.alloc (.cells (dV x3) 23) := ⟨_, rfl⟩
      have st2 : Below w1.heap.size w1 w2 := by rw [hw2]; exact (Below.refl _ _).alloc (Nat.le_refl _) _
      have B2 := Lib.hid (show Below w.heap.size w w2 from Below.trans B1.out (Below.mono st2 (Below.size B1.out)))
      have GS_2 := Lib.hid ((Below.block st2 S LS_1.out).trans GS_1.out)
      have LS_2 := Lib.hid (Nat.lt_of_lt_of_le LS_1.out (Below.size st2))
      have GM_2 := Lib.hid (show w2.heap[M]? = some (.cells (dV x3) 23 (0, 0)) by rw [hw2, hM]; exact heap_alloc_new _ _)
      have LM_2 := Lib.hid (lt_of_heap GM_2.out)
      have HM := Lib.hid hM
      have Hw2 := Lib.hid hw2
      clear hM hw2 st2
      have SZM := Lib.hid (show M = w.heap.size + 1 by rw [HM.out, Hw1.out, World.size_alloc, ← HS.out, SZS.out])
      obtain ⟨SB, hSB⟩ : ∃ z, z = w2.heap.size := ⟨_, rfl⟩
      obtain ⟨w3, hw3⟩ : ∃ z, z = w2.alloc (.cells #[.int .i64 j4, .slice a4 x4.length c4, .slice b4 y4.length d4] 33) := ⟨_, rfl⟩
      have st3 : Below w2.heap.size w2 w3 := by rw [hw3]; exact (Below.refl _ _).alloc (Nat.le_refl _) _
      have B3 := Lib.hid (show Below w.heap.size w w3 from Below.trans B2.out (Below.mono st3 (Below.size B2.out)))
      have GS_3 := Lib.hid ((Below.block st3 S LS_2.out).trans GS_2.out)
      have LS_3 := Lib.hid (Nat.lt_of_lt_of_le LS_2.out (Below.size st3))
      have GM_3 := Lib.hid ((Below.block st3 M LM_2.out).trans GM_2.out)
      have LM_3 := Lib.hid (Nat.lt_of_lt_of_le LM_2.out (Below.size st3))
      have GSB_3 := Lib.hid (show w3.heap[SB]? = some (.cells #[.int .i64 j4, .slice a4 x4.length c4, .slice b4 y4.length d4] 33 (0, 0)) by rw [hw3, hSB]; exact heap_alloc_new _ _)
      have LSB_3 := Lib.hid (lt_of_heap GSB_3.out)
      have HSB := Lib.hid hSB
      have Hw3 := Lib.hid hw3
      clear hSB hw3 st3
      have SZSB := Lib.hid (show SB = w.heap.size + 1 + 1 by rw [HSB.out, Hw2.out, World.size_alloc, ← HM.out, SZM.out])
      go_enter Tryd.func4, Tryd.ntmps4
      go_upto_region 1 with fail
      rw [← SZSB.out, ← SZM.out, ← SZS.out, ← Hw1.out, ← Hw2.out, ← Hw3.out]
      go_upto_region 5 with fail
      obtain ⟨V, hV⟩ : ∃ z, z = w3.heap.size := ⟨_, rfl⟩
      obtain ⟨w4, hw4⟩ : ∃ z, z = w3.alloc (.cells (dV Z) 23) := ⟨_, rfl⟩
      have st4 : Below w3.heap.size w3 w4 := by rw [hw4]; exact (Below.refl _ _).alloc (Nat.le_refl _) _
      have B4 := Lib.hid (show Below w.heap.size w w4 from Below.trans B3.out (Below.mono st4 (Below.size B3.out)))
      have GS_4 := Lib.hid ((Below.block st4 S LS_3.out).trans GS_3.out)
      have LS_4 := Lib.hid (Nat.lt_of_lt_of_le LS_3.out (Below.size st4))
      have GM_4 := Lib.hid ((Below.block st4 M LM_3.out).trans GM_3.out)
      have LM_4 := Lib.hid (Nat.lt_of_lt_of_le LM_3.out (Below.size st4))
      have GSB_4 := Lib.hid ((Below.block st4 SB LSB_3.out).trans GSB_3.out)
      have LSB_4 := Lib.hid (Nat.lt_of_lt_of_le LSB_3.out (Below.size st4))
      have GV_4 := Lib.hid (show w4.heap[V]? = some (.cells (dV Z) 23 (0, 0)) by rw [hw4, hV]; exact heap_alloc_new _ _)
      have LV_4 := Lib.hid (lt_of_heap GV_4.out)
      have HV := Lib.hid hV
      have Hw4 := Lib.hid hw4
      clear hV hw4 st4
      go_upto_region 8 with fail
      rw [ZT.out, ← HV.out, ← Hw4.out]
      go_wp2_with (first
        | (refine at_ld 23 (.tmp 5) rfl ?_; (refine ld_digG rfl (.tmp 5) rfl (S) 0 (by rfl) x0 SL.out (range_of_row GS_4.out) ?_); simp only [Act.put, List.setIfInBounds_toArray, List.set_cons_zero, List.set_cons_succ]))
      refine (RLeaves_z x0 SL.out h n HH.out HN.out w4).mono ?_
      rintro e w5 ⟨la, lc, rfl, hlc1, hlc2, hlr, hlb, hb5⟩
      have B5 := Lib.hid (show Below w.heap.size w w5 from Below.trans B4.out (Below.mono hb5 (Below.size B4.out)))
      have GS_5 := Lib.hid ((Below.block hb5 S LS_4.out).trans GS_4.out)
      have LS_5 := Lib.hid (Nat.lt_of_lt_of_le LS_4.out (Below.size hb5))
      have GM_5 := Lib.hid ((Below.block hb5 M LM_4.out).trans GM_4.out)
      have LM_5 := Lib.hid (Nat.lt_of_lt_of_le LM_4.out (Below.size hb5))
      have GSB_5 := Lib.hid ((Below.block hb5 SB LSB_4.out).trans GSB_4.out)
      have LSB_5 := Lib.hid (Nat.lt_of_lt_of_le LSB_4.out (Below.size hb5))
      have GV_5 := Lib.hid ((Below.block hb5 V LV_4.out).trans GV_4.out)
      have LV_5 := Lib.hid (Nat.lt_of_lt_of_le LV_4.out (Below.size hb5))
      have LR_5 := Lib.hid hlr
      have LC1 := Lib.hid hlc1
      have LC2 := Lib.hid hlc2
      have LBB := Lib.hid hlb
      clear hlr hlc1 hlc2 hlb
      clear hb5
      go_wp2_with fail
      refine (RRoot_z x0 n (by omega) R HR.out la lc _ LC1.out LC2.out w5 LR_5.out).mono ?_
      rintro e w6 ⟨rfl, hb6⟩
      have B6 := Lib.hid (show Below w.heap.size w w6 from Below.trans B5.out (Below.mono hb6 (Below.size B5.out)))
      have GS_6 := Lib.hid ((Below.block hb6 S LS_5.out).trans GS_5.out)
      have LS_6 := Lib.hid (Nat.lt_of_lt_of_le LS_5.out (Below.size hb6))
      have GM_6 := Lib.hid ((Below.block hb6 M LM_5.out).trans GM_5.out)
      have LM_6 := Lib.hid (Nat.lt_of_lt_of_le LM_5.out (Below.size hb6))
      have GSB_6 := Lib.hid ((Below.block hb6 SB LSB_5.out).trans GSB_5.out)
      have LSB_6 := Lib.hid (Nat.lt_of_lt_of_le LSB_5.out (Below.size hb6))
      have GV_6 := Lib.hid ((Below.block hb6 V LV_5.out).trans GV_5.out)
      have LV_6 := Lib.hid (Nat.lt_of_lt_of_le LV_5.out (Below.size hb6))
      have LR_6 := Lib.hid (LR_5.out.below hb6)
      clear hb6
      obtain ⟨w7, hw7⟩ : ∃ z, z = w6.setRow V (dV R) := ⟨_, rfl⟩
      have B7 := Lib.hid (show Below w.heap.size w w7 by rw [hw7]; exact below_setRowW B6.out (by rw [HV.out]; exact Below.size B3.out) _)
      have sz7 : w7.heap.size = w6.heap.size := by rw [hw7]; exact setRow_size _ _ _
      have GS_7 := Lib.hid (show w7.heap[S]? = some (.cells (dV x0) 23 (0, 0)) by rw [hw7]; exact (_root_.Go.setRow_other _ _ _ _ (by rw [HV.out]; exact Nat.ne_of_lt LS_3.out)).trans GS_6.out)
      have LS_7 := Lib.hid (show S < w7.heap.size by rw [sz7]; exact LS_6.out)
      have GM_7 := Lib.hid (show w7.heap[M]? = some (.cells (dV x3) 23 (0, 0)) by rw [hw7]; exact (_root_.Go.setRow_other _ _ _ _ (by rw [HV.out]; exact Nat.ne_of_lt LM_3.out)).trans GM_6.out)
      have LM_7 := Lib.hid (show M < w7.heap.size by rw [sz7]; exact LM_6.out)
      have GSB_7 := Lib.hid (show w7.heap[SB]? = some (.cells #[.int .i64 j4, .slice a4 x4.length c4, .slice b4 y4.length d4] 33 (0, 0)) by rw [hw7]; exact (_root_.Go.setRow_other _ _ _ _ (by rw [HV.out]; exact Nat.ne_of_lt LSB_3.out)).trans GSB_6.out)
      have LSB_7 := Lib.hid (show SB < w7.heap.size by rw [sz7]; exact LSB_6.out)
      have GV_7 := Lib.hid (show w7.heap[V]? = some (.cells (dV R) 23 (0, 0)) by rw [hw7]; exact setRow_heap _ _ _ _ _ _ GV_6.out)
      have LV_7 := Lib.hid (show V < w7.heap.size by rw [sz7]; exact LV_6.out)
      have Hw7 := Lib.hid hw7
      clear hw7 sz7
      have LR_7 := Lib.hid (show Rd w7 la 23 ((leavesK x0 n).flatten.map vB) by rw [Hw7.out]; exact Rd.setRowS LR_6.out (fun x hx => by have h1 := LBB.out x hx; have h2 := LV_4.out; omega))
      go_wp2_with (first
        | (refine at_st 23 (.tmp 13) (.tmp 40) rfl ?_; (refine st_row rfl (.tmp 13) (.tmp 40) rfl V R RL.out (by rfl) (by rfl) (dV Z) (dV_size ZL.out) _ GV_6.out ?_); rw [← Hw7.out])
        | (refine at_ld 23 (.tmp 5) rfl ?_; (refine ld_digG rfl (.tmp 5) rfl (S) 0 (by rfl) x0 SL.out (range_of_row GS_7.out) ?_); simp only [Act.put, List.setIfInBounds_toArray, List.set_cons_zero, List.set_cons_succ]))
      refine (Public_z x0 SL.out h h rfl HH.out n HN.out w7 (RO.out.at_ B7.out)).mono ?_
      rintro e w8 ⟨rfl, hb8⟩
      have B8 := Lib.hid (show Below w.heap.size w w8 from Below.trans B7.out (Below.mono hb8 (Below.size B7.out)))
      have GS_8 := Lib.hid ((Below.block hb8 S LS_7.out).trans GS_7.out)
      have LS_8 := Lib.hid (Nat.lt_of_lt_of_le LS_7.out (Below.size hb8))
      have GM_8 := Lib.hid ((Below.block hb8 M LM_7.out).trans GM_7.out)
      have LM_8 := Lib.hid (Nat.lt_of_lt_of_le LM_7.out (Below.size hb8))
      have GSB_8 := Lib.hid ((Below.block hb8 SB LSB_7.out).trans GSB_7.out)
      have LSB_8 := Lib.hid (Nat.lt_of_lt_of_le LSB_7.out (Below.size hb8))
      have GV_8 := Lib.hid ((Below.block hb8 V LV_7.out).trans GV_7.out)
      have LV_8 := Lib.hid (Nat.lt_of_lt_of_le LV_7.out (Below.size hb8))
      have LR_8 := Lib.hid (LR_7.out.below hb8)
      clear hb8
      rw [← HR.out]
      obtain ⟨Q, hQ⟩ : ∃ z, z = w8.heap.size := ⟨_, rfl⟩
      obtain ⟨w9, hw9⟩ : ∃ z, z = w8.alloc (.cells (dV R) 23) := ⟨_, rfl⟩
      have st9 : Below w8.heap.size w8 w9 := by rw [hw9]; exact (Below.refl _ _).alloc (Nat.le_refl _) _
      have B9 := Lib.hid (show Below w.heap.size w w9 from Below.trans B8.out (Below.mono st9 (Below.size B8.out)))
      have GS_9 := Lib.hid ((Below.block st9 S LS_8.out).trans GS_8.out)
      have LS_9 := Lib.hid (Nat.lt_of_lt_of_le LS_8.out (Below.size st9))
      have GM_9 := Lib.hid ((Below.block st9 M LM_8.out).trans GM_8.out)
      have LM_9 := Lib.hid (Nat.lt_of_lt_of_le LM_8.out (Below.size st9))
      have GSB_9 := Lib.hid ((Below.block st9 SB LSB_8.out).trans GSB_8.out)
      have LSB_9 := Lib.hid (Nat.lt_of_lt_of_le LSB_8.out (Below.size st9))
      have GV_9 := Lib.hid ((Below.block st9 V LV_8.out).trans GV_8.out)
      have LV_9 := Lib.hid (Nat.lt_of_lt_of_le LV_8.out (Below.size st9))
      have LR_9 := Lib.hid (LR_8.out.below st9)
      have GQ_9 := Lib.hid (show w9.heap[Q]? = some (.cells (dV R) 23 (0, 0)) by rw [hw9, hQ]; exact heap_alloc_new _ _)
      have LQ_9 := Lib.hid (lt_of_heap GQ_9.out)
      have HQ := Lib.hid hQ
      have Hw9 := Lib.hid hw9
      clear hQ hw9 st9
      go_wp2_with (first
        | (refine at_st 23 (.tmp 14) (.tmp 45) rfl ?_; (refine st_new rfl (.tmp 14) (.tmp 45) rfl R RL.out (by rfl) _ _ (by rfl) (by rfl) ?_); rw [← HQ.out, ← Hw9.out]))
      refine (((Error_nil 0 true (by decide) w9).mono fun r w' h => (⟨h.1, by rw [← h.2]; exact Below.refl _ _⟩ : r = .returned (.bool true) ∧ Below w9.heap.size w9 w'))).mono ?_
      rintro e w10 ⟨rfl, hb10⟩
      have B10 := Lib.hid (show Below w.heap.size w w10 from Below.trans B9.out (Below.mono hb10 (Below.size B9.out)))
      have GS_10 := Lib.hid ((Below.block hb10 S LS_9.out).trans GS_9.out)
      have LS_10 := Lib.hid (Nat.lt_of_lt_of_le LS_9.out (Below.size hb10))
      have GM_10 := Lib.hid ((Below.block hb10 M LM_9.out).trans GM_9.out)
      have LM_10 := Lib.hid (Nat.lt_of_lt_of_le LM_9.out (Below.size hb10))
      have GSB_10 := Lib.hid ((Below.block hb10 SB LSB_9.out).trans GSB_9.out)
      have LSB_10 := Lib.hid (Nat.lt_of_lt_of_le LSB_9.out (Below.size hb10))
      have GV_10 := Lib.hid ((Below.block hb10 V LV_9.out).trans GV_9.out)
      have LV_10 := Lib.hid (Nat.lt_of_lt_of_le LV_9.out (Below.size hb10))
      have GQ_10 := Lib.hid ((Below.block hb10 Q LQ_9.out).trans GQ_9.out)
      have LQ_10 := Lib.hid (Nat.lt_of_lt_of_le LQ_9.out (Below.size hb10))
      have LR_10 := Lib.hid (LR_9.out.below hb10)
      clear hb10
      go_wp2_with (first
        | (refine at_ld 23 (.tmp 14) rfl ?_; (refine ld_digG rfl (.tmp 14) rfl (Q) 0 (by rfl) R RL.out (range_of_row GQ_10.out) ?_); simp only [Act.put, List.setIfInBounds_toArray, List.set_cons_zero, List.set_cons_succ])
        | (refine at_ld 23 (.tmp 13) rfl ?_; (refine ld_digG rfl (.tmp 13) rfl (V) 0 (by rfl) R RL.out (range_of_row GV_10.out) ?_); simp only [Act.put, List.setIfInBounds_toArray, List.set_cons_zero, List.set_cons_succ])
        | (refine at_bin .neq 23 (.tmp 53) (.tmp 54) _ rfl ?_; (refine neq_digG rfl (.tmp 53) (.tmp 54) _ rfl R R (by rfl) (by rfl) RL.out RL.out ?_); rw [beq_self_eq_true]; simp only [Act.put, List.setIfInBounds_toArray, List.set_cons_zero, List.set_cons_succ])
        | (refine at_ld 23 (.tmp 5) rfl ?_; (refine ld_digG rfl (.tmp 5) rfl (S) 0 (by rfl) x0 SL.out (range_of_row GS_10.out) ?_); simp only [Act.put, List.setIfInBounds_toArray, List.set_cons_zero, List.set_cons_succ]))
      refine (New_z x0 SL.out h h rfl HH.out n HN.out w10 (RO.out.at_ B10.out)).mono ?_
      rintro e w11 ⟨P, rfl, hP, hSAP, hb11⟩
      have B11 := Lib.hid (show Below w.heap.size w w11 from Below.trans B10.out (Below.mono hb11 (Below.size B10.out)))
      have GS_11 := Lib.hid ((Below.block hb11 S LS_10.out).trans GS_10.out)
      have LS_11 := Lib.hid (Nat.lt_of_lt_of_le LS_10.out (Below.size hb11))
      have GM_11 := Lib.hid ((Below.block hb11 M LM_10.out).trans GM_10.out)
      have LM_11 := Lib.hid (Nat.lt_of_lt_of_le LM_10.out (Below.size hb11))
      have GSB_11 := Lib.hid ((Below.block hb11 SB LSB_10.out).trans GSB_10.out)
      have LSB_11 := Lib.hid (Nat.lt_of_lt_of_le LSB_10.out (Below.size hb11))
      have GV_11 := Lib.hid ((Below.block hb11 V LV_10.out).trans GV_10.out)
      have LV_11 := Lib.hid (Nat.lt_of_lt_of_le LV_10.out (Below.size hb11))
      have GQ_11 := Lib.hid ((Below.block hb11 Q LQ_10.out).trans GQ_10.out)
      have LQ_11 := Lib.hid (Nat.lt_of_lt_of_le LQ_10.out (Below.size hb11))
      have LR_11 := Lib.hid (LR_10.out.below hb11)
      have SAP_11 := Lib.hid hSAP
      have HBP := Lib.hid (show w.heap.size ≤ P from Nat.le_trans (Below.size B10.out) hP)
      clear hP hSAP
      clear hb11
      go_wp2_with fail
      refine (((Error_nil 0 true (by decide) w11).mono fun r w' h => (⟨h.1, by rw [← h.2]; exact Below.refl _ _⟩ : r = .returned (.bool true) ∧ Below w11.heap.size w11 w'))).mono ?_
      rintro e w12 ⟨rfl, hb12⟩
      have B12 := Lib.hid (show Below w.heap.size w w12 from Below.trans B11.out (Below.mono hb12 (Below.size B11.out)))
      have GS_12 := Lib.hid ((Below.block hb12 S LS_11.out).trans GS_11.out)
      have LS_12 := Lib.hid (Nat.lt_of_lt_of_le LS_11.out (Below.size hb12))
      have GM_12 := Lib.hid ((Below.block hb12 M LM_11.out).trans GM_11.out)
      have LM_12 := Lib.hid (Nat.lt_of_lt_of_le LM_11.out (Below.size hb12))
      have GSB_12 := Lib.hid ((Below.block hb12 SB LSB_11.out).trans GSB_11.out)
      have LSB_12 := Lib.hid (Nat.lt_of_lt_of_le LSB_11.out (Below.size hb12))
      have GV_12 := Lib.hid ((Below.block hb12 V LV_11.out).trans GV_11.out)
      have LV_12 := Lib.hid (Nat.lt_of_lt_of_le LV_11.out (Below.size hb12))
      have GQ_12 := Lib.hid ((Below.block hb12 Q LQ_11.out).trans GQ_11.out)
      have LQ_12 := Lib.hid (Nat.lt_of_lt_of_le LQ_11.out (Below.size hb12))
      have LR_12 := Lib.hid (LR_11.out.below hb12)
      have SAP_12 := Lib.hid (SAP_11.out.below hb12)
      clear hb12
      go_wp2_with fail
      go_loopw [18] (fun i wr => ∃ m : Nat, m ≤ x2.length ∧ i = .int .i64 (m : Int) ∧ Hid (StampAt wr P x0 n (min m n) ∧ Rd wr la 23 ((leavesK x0 n).flatten.map vB) ∧ wr.heap[S]? = some (.cells (dV x0) 23 (0, 0)) ∧ wr.heap[M]? = some (.cells (dV x3) 23 (0, 0)) ∧ wr.heap[SB]? = some (.cells #[.int .i64 j4, .slice a4 x4.length c4, .slice b4 y4.length d4] 33 (0, 0)) ∧ Below w.heap.size w wr)) (fun i _ => x2.length - (intOf i).toNat)
      case atStart => exact ⟨0, Nat.zero_le _, rfl, Lib.hid ⟨by rw [Nat.zero_min]; exact SAP_12.out, LR_12.out, GS_12.out, GM_12.out, GSB_12.out, B12.out⟩⟩
      case round =>
        obtain ⟨m, hm, rfl, HI⟩ := hrel
        obtain ⟨wA, rfl⟩ : ∃ z, z = wr := ⟨_, rfl⟩
        by_cases hlt : m < x2.length
        · obtain ⟨b1, o1, ha2, hb1, hrg⟩ := (R2.out.below HI.out.2.2.2.2.2).range N2.out hlt
          subst ha2
          obtain ⟨D, hD⟩ : ∃ D, D = x2[m] := ⟨_, rfl⟩
          rw [← hD] at hrg
          have DL := Lib.hid (show D.length = 32 by rw [hD]; exact N2.out _ (List.getElem_mem _))
          have HDE := Lib.hid hD
          have m0 : (0 : Int) ≤ (m : Int) := by omega
          have m1 : (m : Int) < (x2.length : Int) := by omega
          have e6 : IntKind.i64.wrap ((m : Int) + 1) = (m : Int) + 1 := IntWalk.i64_in _ (by omega)
          have HRGF := Lib.hid (show ∀ w', Below w.heap.size w w' → b1 < w'.heap.size ∧ w'.rangeAt b1 (o1 + m * 32) (D.map vB) from fun w' hb => by
            obtain ⟨b1', o1', he, hl', hrg'⟩ := (R2.out.below hb).range N2.out hlt
            cases he
            rw [← HDE.out] at hrg'
            exact ⟨hl', hrg'⟩)
          clear hD hb1 hrg
          by_cases hsp : m < n
          · have B100 := Lib.hid HI.out.2.2.2.2.2
            have LR_100 := Lib.hid HI.out.2.1
            have GS_100 := Lib.hid HI.out.2.2.1
            have LS_100 := Lib.hid (lt_of_heap GS_100.out)
            have GM_100 := Lib.hid HI.out.2.2.2.1
            have LM_100 := Lib.hid (lt_of_heap GM_100.out)
            have GSB_100 := Lib.hid HI.out.2.2.2.2.1
            have LSB_100 := Lib.hid (lt_of_heap GSB_100.out)
            have SAP_100 := Lib.hid (show StampAt wA P x0 n m by have := HI.out.1; rw [Nat.min_eq_left (by omega)] at this; exact this)
            have g1 : decide ((n : Int) ≤ (m : Int)) = false := decide_eq_false (by omega)
            have g2 : decide (n ≤ m) = false := decide_eq_false (by omega)
            have g3 : min (m : Int) (n : Int) = (m : Int) := by omega
            have g4 : min m n = m := by omega
            obtain ⟨d, hd⟩ : ∃ d : Nat, d + m = n := ⟨n - m, by omega⟩
            have e7 : IntKind.i64.wrap ((n : Int) - (m : Int)) = (d : Int) := by rw [IntWalk.i64_in _ (by omega)]; omega
            have HM := Lib.hid (show min (m + 1) n = m + 1 by omega)
            have HD := Lib.hid hd
            have HSP := Lib.hid hsp
            clear hsp HI hd
            obtain ⟨W, hW⟩ : ∃ z, z = wA.heap.size := ⟨_, rfl⟩
            obtain ⟨w101, hw101⟩ : ∃ z, z = wA.alloc (.cells #[.int .i64 0, .slice none 0 0, .slice none 0 0] 33) := ⟨_, rfl⟩
            have st101 : Below wA.heap.size wA w101 := by rw [hw101]; exact (Below.refl _ _).alloc (Nat.le_refl _) _
            have B101 := Lib.hid (show Below w.heap.size w w101 from Below.trans B100.out (Below.mono st101 (Below.size B100.out)))
            have GS_101 := Lib.hid ((Below.block st101 S LS_100.out).trans GS_100.out)
            have LS_101 := Lib.hid (Nat.lt_of_lt_of_le LS_100.out (Below.size st101))
            have GM_101 := Lib.hid ((Below.block st101 M LM_100.out).trans GM_100.out)
            have LM_101 := Lib.hid (Nat.lt_of_lt_of_le LM_100.out (Below.size st101))
            have GSB_101 := Lib.hid ((Below.block st101 SB LSB_100.out).trans GSB_100.out)
            have LSB_101 := Lib.hid (Nat.lt_of_lt_of_le LSB_100.out (Below.size st101))
            have SAP_101 := Lib.hid (SAP_100.out.below st101)
            have LR_101 := Lib.hid (LR_100.out.below st101)
            have GW_101 := Lib.hid (show w101.heap[W]? = some (.cells #[.int .i64 0, .slice none 0 0, .slice none 0 0] 33 (0, 0)) by rw [hw101, hW]; exact heap_alloc_new _ _)
            have LW_101 := Lib.hid (lt_of_heap GW_101.out)
            have HW := Lib.hid hW
            have Hw101 := Lib.hid hw101
            clear hW hw101 st101
            go_upto_region 25 with fail
            rw [← HW.out, ← Hw101.out]
            have LSW := Lib.hid (show S < W by rw [HW.out]; exact LS_100.out)
            have HWB := Lib.hid (show w.heap.size ≤ W by rw [HW.out]; exact Below.size B100.out)
            obtain ⟨wd, hwd⟩ : ∃ z, z = w101.drew := ⟨_, rfl⟩
            have hdr : Below w101.heap.size w101 wd := by rw [hwd]; exact (Below.refl _ _).drew
            refine wp_region_held_drew (S := fun w' => Below W wd w') (by kernel_rfl) (by rw [← hwd]; exact Below.refl _ _) (fun hHeld => ?_)
            rw [← hwd] at hHeld ⊢
            clear hwd
            have B102 := Lib.hid (show Below w.heap.size w wd from Below.trans B101.out (Below.mono hdr (Below.size B101.out)))
            have GS_102 := Lib.hid ((Below.block hdr S LS_101.out).trans GS_101.out)
            have LS_102 := Lib.hid (Nat.lt_of_lt_of_le LS_101.out (Below.size hdr))
            have GM_102 := Lib.hid ((Below.block hdr M LM_101.out).trans GM_101.out)
            have LM_102 := Lib.hid (Nat.lt_of_lt_of_le LM_101.out (Below.size hdr))
            have GSB_102 := Lib.hid ((Below.block hdr SB LSB_101.out).trans GSB_101.out)
            have LSB_102 := Lib.hid (Nat.lt_of_lt_of_le LSB_101.out (Below.size hdr))
            have GW_102 := Lib.hid ((Below.block hdr W LW_101.out).trans GW_101.out)
            have LW_102 := Lib.hid (Nat.lt_of_lt_of_le LW_101.out (Below.size hdr))
            have SAP_102 := Lib.hid (SAP_101.out.below hdr)
            have LR_102 := Lib.hid (LR_101.out.below hdr)
            clear hdr
            have BV102 := Lib.hid (Below.refl W wd)
            refine wpAnyH_take (i := 0) (oi := _) (v := .int .i64 (m : Int)) rfl (by kernel_rfl) (by kernel_rfl) (by kernel_rfl) (fun _ _ _ h => h) (Or.inl ⟨by rfl, fun w hw => by go_simp⟩) hHeld ?_
            simp only [Act.put, List.getElem_toArray, List.getElem_cons_zero, List.getElem_cons_succ, List.setIfInBounds_toArray, List.set_cons_zero, List.set_cons_succ]
            refine wpAnyH_take (i := 1) (oi := _) (v := _) rfl (by kernel_rfl) (by kernel_rfl) (by kernel_rfl) (fun _ _ _ h => h) (yieldsIf_load_mid (by rfl) _ _ rfl _ _ rfl (x0.map vB) _ (fun w hw => range_of_row ((Below.block hw S LSW.out).trans GS_102.out)) Tryd.underlying23 rfl (by rw [List.length_map, SL.out]; exact dig_size)) hHeld ?_
            simp only [Act.put, List.getElem_toArray, List.getElem_cons_zero, List.getElem_cons_succ, List.setIfInBounds_toArray, List.set_cons_zero, List.set_cons_succ]
            refine wpAnyH_take (i := 2) (oi := _) (v := .int .i64 (m : Int)) rfl (by kernel_rfl) (by kernel_rfl) (by kernel_rfl) (fun _ _ _ h => h) (Or.inl ⟨by rfl, fun w hw => by go_simp⟩) hHeld ?_
            simp only [Act.put, List.getElem_toArray, List.getElem_cons_zero, List.getElem_cons_succ, List.setIfInBounds_toArray, List.set_cons_zero, List.set_cons_succ]
            refine wpAnyH_take (i := 4) (oi := _) (v := .slice (some ⟨b1, o1, none⟩) x2.length c2) rfl (by kernel_rfl) (by kernel_rfl) (by kernel_rfl) (fun _ _ _ h => h) (Or.inl ⟨by rfl, fun w hw => by go_simp⟩) hHeld ?_
            simp only [Act.put, List.getElem_toArray, List.getElem_cons_zero, List.getElem_cons_succ, List.setIfInBounds_toArray, List.set_cons_zero, List.set_cons_succ]
            refine wpAnyH_take (i := 5) (oi := _) (v := .int .i64 (m : Int)) rfl (by kernel_rfl) (by kernel_rfl) (by kernel_rfl) (fun _ _ _ h => h) (Or.inl ⟨by rfl, fun w hw => by go_simp⟩) hHeld ?_
            simp only [Act.put, List.getElem_toArray, List.getElem_cons_zero, List.getElem_cons_succ, List.setIfInBounds_toArray, List.set_cons_zero, List.set_cons_succ]
            refine wpAnyH_take (i := 6) (oi := _) (v := .pointer (some ⟨b1, o1 + m * 32, none⟩)) rfl (by kernel_rfl) (by kernel_rfl) (by kernel_rfl) (fun _ _ _ h => h) (Or.inl ⟨by rfl, fun w hw => by go_simp⟩) hHeld ?_
            simp only [Act.put, List.getElem_toArray, List.getElem_cons_zero, List.getElem_cons_succ, List.setIfInBounds_toArray, List.set_cons_zero, List.set_cons_succ]
            refine wpAnyH_take (i := 7) (oi := _) (v := _) rfl (by kernel_rfl) (by kernel_rfl) (by kernel_rfl) (fun _ _ _ h => h) (yieldsIf_load_mid (by rfl) _ _ rfl _ _ rfl (D.map vB) _ (fun w hw => (HRGF.out _ (Below.trans B102.out (Below.mono hw HWB.out))).2) Tryd.underlying23 rfl (by rw [List.length_map, DL.out]; exact dig_size)) hHeld ?_
            simp only [Act.put, List.getElem_toArray, List.getElem_cons_zero, List.getElem_cons_succ, List.setIfInBounds_toArray, List.set_cons_zero, List.set_cons_succ]
            refine wpAnyH_take (i := 9) (oi := _) (v := .slice la n lc) rfl (by kernel_rfl) (by kernel_rfl) (by kernel_rfl) (fun _ _ _ h => h) (Or.inl ⟨by rfl, fun w hw => by go_simp⟩) hHeld ?_
            simp only [Act.put, List.getElem_toArray, List.getElem_cons_zero, List.getElem_cons_succ, List.setIfInBounds_toArray, List.set_cons_zero, List.set_cons_succ]
            refine wpAnyH_take (i := 10) (oi := _) (v := .int .i64 (m : Int)) rfl (by kernel_rfl) (by kernel_rfl) (by kernel_rfl) (fun _ _ _ h => h) (Or.inl ⟨by rfl, fun w hw => by go_simp⟩) hHeld ?_
            simp only [Act.put, List.getElem_toArray, List.getElem_cons_zero, List.getElem_cons_succ, List.setIfInBounds_toArray, List.set_cons_zero, List.set_cons_succ]
            refine wpAnyH_ready (rs := [3]) (by kernel_rfl) (by simp) ?_
            refine AllReadyH.cons (o := _) rfl (fun K hK => ?_) AllReadyH.nil
            have HK := Lib.hid hK
            clear hK
            go_simp
            go_at_call 14
            refine (RStampK x0 SL.out m (by omega) wd).mono ?_
            rintro e w103 ⟨rfl, hb103⟩
            have BV103 := Lib.hid (Below.trans BV102.out (Below.mono hb103 (Nat.le_of_lt LW_102.out)))
            have B103 := Lib.hid (show Below w.heap.size w w103 from Below.trans B102.out (Below.mono hb103 (Below.size B102.out)))
            have GS_103 := Lib.hid ((Below.block hb103 S LS_102.out).trans GS_102.out)
            have LS_103 := Lib.hid (Nat.lt_of_lt_of_le LS_102.out (Below.size hb103))
            have GM_103 := Lib.hid ((Below.block hb103 M LM_102.out).trans GM_102.out)
            have LM_103 := Lib.hid (Nat.lt_of_lt_of_le LM_102.out (Below.size hb103))
            have GSB_103 := Lib.hid ((Below.block hb103 SB LSB_102.out).trans GSB_102.out)
            have LSB_103 := Lib.hid (Nat.lt_of_lt_of_le LSB_102.out (Below.size hb103))
            have GW_103 := Lib.hid ((Below.block hb103 W LW_102.out).trans GW_102.out)
            have LW_103 := Lib.hid (Nat.lt_of_lt_of_le LW_102.out (Below.size hb103))
            have SAP_103 := Lib.hid (SAP_102.out.below hb103)
            have LR_103 := Lib.hid (LR_102.out.below hb103)
            clear hb103
            dsimp only
            refine HK.out _ _ BV103.out ?_
            clear HK K hHeld
            try simp only [Act.put, List.getElem_toArray, List.getElem_cons_zero, List.getElem_cons_succ, List.setIfInBounds_toArray, List.set_cons_zero, List.set_cons_succ]
            intro hHeld
            refine wpAnyH_ready (rs := [8]) (by kernel_rfl) (by simp) ?_
            refine AllReadyH.cons (o := _) rfl (fun K hK => ?_) AllReadyH.nil
            have HK := Lib.hid hK
            clear hK
            go_simp
            go_at_call 19
            refine (RWSigned_z (skey x0 m) D (skey_length _ _) DL.out w103).mono ?_
            rintro e w104 ⟨wa, wc, rfl, hwr, hb104⟩
            have BV104 := Lib.hid (Below.trans BV103.out (Below.mono hb104 (Nat.le_of_lt LW_103.out)))
            have B104 := Lib.hid (show Below w.heap.size w w104 from Below.trans B103.out (Below.mono hb104 (Below.size B103.out)))
            have GS_104 := Lib.hid ((Below.block hb104 S LS_103.out).trans GS_103.out)
            have LS_104 := Lib.hid (Nat.lt_of_lt_of_le LS_103.out (Below.size hb104))
            have GM_104 := Lib.hid ((Below.block hb104 M LM_103.out).trans GM_103.out)
            have LM_104 := Lib.hid (Nat.lt_of_lt_of_le LM_103.out (Below.size hb104))
            have GSB_104 := Lib.hid ((Below.block hb104 SB LSB_103.out).trans GSB_103.out)
            have LSB_104 := Lib.hid (Nat.lt_of_lt_of_le LSB_103.out (Below.size hb104))
            have GW_104 := Lib.hid ((Below.block hb104 W LW_103.out).trans GW_103.out)
            have LW_104 := Lib.hid (Nat.lt_of_lt_of_le LW_103.out (Below.size hb104))
            have SAP_104 := Lib.hid (SAP_103.out.below hb104)
            have LR_104 := Lib.hid (LR_103.out.below hb104)
            have RW_104 := Lib.hid hwr
            clear hwr
            clear hb104
            dsimp only
            refine HK.out _ _ BV104.out ?_
            clear HK K hHeld
            try simp only [Act.put, List.getElem_toArray, List.getElem_cons_zero, List.getElem_cons_succ, List.setIfInBounds_toArray, List.set_cons_zero, List.set_cons_succ]
            intro hHeld
            refine wpAnyH_ready (rs := [11]) (by kernel_rfl) (by simp) ?_
            refine AllReadyH.cons (o := _) rfl (fun K hK => ?_) AllReadyH.nil
            have HK := Lib.hid hK
            clear hK
            go_simp
            go_at_call 20
            refine (RPath_z x0 n m (by omega) HSP.out la lc _ LC1.out LC2.out w104 LR_104.out).mono ?_
            rintro e w105 ⟨qa, qc, rfl, hwr, hb105⟩
            have BV105 := Lib.hid (Below.trans BV104.out (Below.mono hb105 (Nat.le_of_lt LW_104.out)))
            have B105 := Lib.hid (show Below w.heap.size w w105 from Below.trans B104.out (Below.mono hb105 (Below.size B104.out)))
            have GS_105 := Lib.hid ((Below.block hb105 S LS_104.out).trans GS_104.out)
            have LS_105 := Lib.hid (Nat.lt_of_lt_of_le LS_104.out (Below.size hb105))
            have GM_105 := Lib.hid ((Below.block hb105 M LM_104.out).trans GM_104.out)
            have LM_105 := Lib.hid (Nat.lt_of_lt_of_le LM_104.out (Below.size hb105))
            have GSB_105 := Lib.hid ((Below.block hb105 SB LSB_104.out).trans GSB_104.out)
            have LSB_105 := Lib.hid (Nat.lt_of_lt_of_le LSB_104.out (Below.size hb105))
            have GW_105 := Lib.hid ((Below.block hb105 W LW_104.out).trans GW_104.out)
            have LW_105 := Lib.hid (Nat.lt_of_lt_of_le LW_104.out (Below.size hb105))
            have SAP_105 := Lib.hid (SAP_104.out.below hb105)
            have LR_105 := Lib.hid (LR_104.out.below hb105)
            have RW_105 := Lib.hid (RW_104.out.below hb105)
            have RQ_105 := Lib.hid hwr
            clear hwr
            clear hb105
            dsimp only
            refine HK.out _ _ BV105.out ?_
            clear HK K hHeld
            try simp only [Act.put, List.getElem_toArray, List.getElem_cons_zero, List.getElem_cons_succ, List.setIfInBounds_toArray, List.set_cons_zero, List.set_cons_succ]
            intro hHeld
            refine wpAnyH_take (i := 12) (oi := _) (v := .agg #[.int .i64 (m : Int), .slice wa 67 wc, .slice qa (tlong m n) qc]) rfl (by kernel_rfl) (by kernel_rfl) (by kernel_rfl) (fun _ _ _ h => h) (Or.inl ⟨by rfl, fun w hw => by go_simp⟩) hHeld ?_
            simp only [Act.put, List.getElem_toArray, List.getElem_cons_zero, List.getElem_cons_succ, List.setIfInBounds_toArray, List.set_cons_zero, List.set_cons_succ]
            obtain ⟨w106, hw106⟩ : ∃ z, z = w105.setRow W #[.int .i64 (m : Int), .slice wa 67 wc, .slice qa (tlong m n) qc] := ⟨_, rfl⟩
            have hon : Only w105 w106 W := by rw [hw106]; exact Only.setRow _ _ _
            have hbX : w.heap.size ≤ W := by rw [HW.out]; exact Below.size B100.out
            have B106 := Lib.hid (show Below w.heap.size w w106 by rw [hw106]; exact below_setRowW B105.out hbX _)
            have GS_106 := Lib.hid (hon.blk GW_105.out GS_105.out (by decide))
            have LS_106 := Lib.hid (show S < w106.heap.size by rw [hon.1]; exact LS_105.out)
            have GM_106 := Lib.hid (hon.blk GW_105.out GM_105.out (by decide))
            have LM_106 := Lib.hid (show M < w106.heap.size by rw [hon.1]; exact LM_105.out)
            have GSB_106 := Lib.hid ((hon.2 SB (by rw [HW.out]; exact Nat.ne_of_lt LSB_100.out)).trans GSB_105.out)
            have LSB_106 := Lib.hid (show SB < w106.heap.size by rw [hon.1]; exact LSB_105.out)
            have GW_106 := Lib.hid (show w106.heap[W]? = some (.cells #[.int .i64 (m : Int), .slice wa 67 wc, .slice qa (tlong m n) qc] 33 (0, 0)) by rw [hw106]; exact setRow_heap _ _ _ _ _ _ GW_105.out)
            have LW_106 := Lib.hid (show W < w106.heap.size by rw [hon.1]; exact LW_105.out)
            have SAP_106 := Lib.hid (hon.stamp GW_105.out (by decide) (by decide) SAP_105.out)
            have LR_106 := Lib.hid (hon.rd GW_105.out (by decide) LR_105.out)
            have RW_106 := Lib.hid (hon.rd GW_105.out (by decide) RW_105.out)
            have RQ_106 := Lib.hid (hon.rd GW_105.out (by decide) RQ_105.out)
            have Hw106 := Lib.hid hw106
            clear hw106 hon hbX
            have BV106 := Lib.hid (show Below W wd w106 by rw [Hw106.out]; exact below_setRowW BV105.out (Nat.le_refl _) _)
            refine wpAnyH_ready (rs := [13]) (by kernel_rfl) (by simp) ?_
            refine AllReadyH.cons (o := _) rfl (fun K hK => ?_) AllReadyH.nil
            have HK := Lib.hid hK
            clear hK
            refine stepSig rfl (.tmp 20) (.tmp 102) rfl W _ _ _ (by rfl) (by rfl) _ (by rfl) _ GW_105.out (sig_one _ _ _ _ _ _ _) ?_
            rw [← Hw106.out]
            refine HK.out _ _ BV106.out ?_
            clear HK K hHeld
            try simp only [Act.put, List.getElem_toArray, List.getElem_cons_zero, List.getElem_cons_succ, List.setIfInBounds_toArray, List.set_cons_zero, List.set_cons_succ]
            intro hHeld
            refine wpAnyH_done (by kernel_rfl) ?_ _
            clear hHeld
            go_wp2_with fail
            refine (Left_z x0 SL.out P n m d HD.out (by omega) w106 SAP_106.out).mono ?_
            rintro e w107 ⟨rfl, hb107⟩
            have B107 := Lib.hid (show Below w.heap.size w w107 from Below.trans B106.out (Below.mono hb107 (Below.size B106.out)))
            have GS_107 := Lib.hid ((Below.block hb107 S LS_106.out).trans GS_106.out)
            have LS_107 := Lib.hid (Nat.lt_of_lt_of_le LS_106.out (Below.size hb107))
            have GM_107 := Lib.hid ((Below.block hb107 M LM_106.out).trans GM_106.out)
            have LM_107 := Lib.hid (Nat.lt_of_lt_of_le LM_106.out (Below.size hb107))
            have GSB_107 := Lib.hid ((Below.block hb107 SB LSB_106.out).trans GSB_106.out)
            have LSB_107 := Lib.hid (Nat.lt_of_lt_of_le LSB_106.out (Below.size hb107))
            have GW_107 := Lib.hid ((Below.block hb107 W LW_106.out).trans GW_106.out)
            have LW_107 := Lib.hid (Nat.lt_of_lt_of_le LW_106.out (Below.size hb107))
            have SAP_107 := Lib.hid (SAP_106.out.below hb107)
            have LR_107 := Lib.hid (LR_106.out.below hb107)
            have RW_107 := Lib.hid (RW_106.out.below hb107)
            have RQ_107 := Lib.hid (RQ_106.out.below hb107)
            clear hb107
            go_wp2_with (first
              | (refine at_ld 23 (.tmp 117) rfl ?_; (refine ld_digG rfl (.tmp 117) rfl (b1) (o1 + m * 32) (by rfl) D DL.out (HRGF.out _ B107.out).2 ?_); simp only [Act.put, List.setIfInBounds_toArray, List.set_cons_zero, List.set_cons_succ]))
            refine (Sign_z x0 D SL.out DL.out P n m m rfl (by omega) HSP.out w107 SAP_107.out (RO.out.at_ B107.out)).mono ?_
            rintro e w108 ⟨saA, scA, paA, pcA, rfl, hsg, hpt, hst, hsv⟩
            have B108 := Lib.hid (show Below w.heap.size w w108 from hsv.below B107.out HBP.out)
            have GS_108 := Lib.hid (hsv.blk SAP_107.out GS_107.out (by decide))
            have LS_108 := Lib.hid (Nat.lt_of_lt_of_le LS_107.out hsv.2.1)
            have GM_108 := Lib.hid (hsv.blk SAP_107.out GM_107.out (by decide))
            have LM_108 := Lib.hid (Nat.lt_of_lt_of_le LM_107.out hsv.2.1)
            have GSB_108 := Lib.hid (hsv.blk SAP_107.out GSB_107.out (by decide))
            have LSB_108 := Lib.hid (Nat.lt_of_lt_of_le LSB_107.out hsv.2.1)
            have GW_108 := Lib.hid (hsv.blk SAP_107.out GW_107.out (by decide))
            have LW_108 := Lib.hid (Nat.lt_of_lt_of_le LW_107.out hsv.2.1)
            have SAP_108 := Lib.hid hst
            have LR_108 := Lib.hid (hsv.rdS SAP_107.out LR_107.out)
            have RW_108 := Lib.hid (hsv.rdS SAP_107.out RW_107.out)
            have RQ_108 := Lib.hid (hsv.rdS SAP_107.out RQ_107.out)
            have RSA_108 := Lib.hid hsg
            have RPA_108 := Lib.hid hpt
            clear hsg hpt hst hsv
            obtain ⟨X, hX⟩ : ∃ z, z = w108.heap.size := ⟨_, rfl⟩
            obtain ⟨w109, hw109⟩ : ∃ z, z = w108.alloc (.cells #[.int .i64 (m : Int), .slice saA 67 scA, .slice paA (tlong m n) pcA] 33) := ⟨_, rfl⟩
            have st109 : Below w108.heap.size w108 w109 := by rw [hw109]; exact (Below.refl _ _).alloc (Nat.le_refl _) _
            have B109 := Lib.hid (show Below w.heap.size w w109 from Below.trans B108.out (Below.mono st109 (Below.size B108.out)))
            have GS_109 := Lib.hid ((Below.block st109 S LS_108.out).trans GS_108.out)
            have LS_109 := Lib.hid (Nat.lt_of_lt_of_le LS_108.out (Below.size st109))
            have GM_109 := Lib.hid ((Below.block st109 M LM_108.out).trans GM_108.out)
            have LM_109 := Lib.hid (Nat.lt_of_lt_of_le LM_108.out (Below.size st109))
            have GSB_109 := Lib.hid ((Below.block st109 SB LSB_108.out).trans GSB_108.out)
            have LSB_109 := Lib.hid (Nat.lt_of_lt_of_le LSB_108.out (Below.size st109))
            have GW_109 := Lib.hid ((Below.block st109 W LW_108.out).trans GW_108.out)
            have LW_109 := Lib.hid (Nat.lt_of_lt_of_le LW_108.out (Below.size st109))
            have SAP_109 := Lib.hid (SAP_108.out.below st109)
            have LR_109 := Lib.hid (LR_108.out.below st109)
            have RW_109 := Lib.hid (RW_108.out.below st109)
            have RQ_109 := Lib.hid (RQ_108.out.below st109)
            have RSA_109 := Lib.hid (RSA_108.out.below st109)
            have RPA_109 := Lib.hid (RPA_108.out.below st109)
            have GX_109 := Lib.hid (show w109.heap[X]? = some (.cells #[.int .i64 (m : Int), .slice saA 67 scA, .slice paA (tlong m n) pcA] 33 (0, 0)) by rw [hw109, hX]; exact heap_alloc_new _ _)
            have LX_109 := Lib.hid (lt_of_heap GX_109.out)
            have HX := Lib.hid hX
            have Hw109 := Lib.hid hw109
            clear hX hw109 st109
            go_wp2_with (first
              | (refine at_st 33 (.tmp 21) (.tmp 120) rfl ?_; (refine st_sigNew rfl (.tmp 21) (.tmp 120) rfl (.int .i64 (m : Int)) (.slice saA 67 scA) (.slice paA (tlong m n) pcA) (by rfl) _ _ (by rfl) (by rfl) (sig_one _ _ _ _ _ _ _) ?_); rw [← HX.out, ← Hw109.out]))
            refine (((Error_nil 0 true (by decide) w109).mono fun r w' h => (⟨h.1, by rw [← h.2]; exact Below.refl _ _⟩ : r = .returned (.bool true) ∧ Below w109.heap.size w109 w'))).mono ?_
            rintro e w110 ⟨rfl, hb110⟩
            have B110 := Lib.hid (show Below w.heap.size w w110 from Below.trans B109.out (Below.mono hb110 (Below.size B109.out)))
            have GS_110 := Lib.hid ((Below.block hb110 S LS_109.out).trans GS_109.out)
            have LS_110 := Lib.hid (Nat.lt_of_lt_of_le LS_109.out (Below.size hb110))
            have GM_110 := Lib.hid ((Below.block hb110 M LM_109.out).trans GM_109.out)
            have LM_110 := Lib.hid (Nat.lt_of_lt_of_le LM_109.out (Below.size hb110))
            have GSB_110 := Lib.hid ((Below.block hb110 SB LSB_109.out).trans GSB_109.out)
            have LSB_110 := Lib.hid (Nat.lt_of_lt_of_le LSB_109.out (Below.size hb110))
            have GW_110 := Lib.hid ((Below.block hb110 W LW_109.out).trans GW_109.out)
            have LW_110 := Lib.hid (Nat.lt_of_lt_of_le LW_109.out (Below.size hb110))
            have GX_110 := Lib.hid ((Below.block hb110 X LX_109.out).trans GX_109.out)
            have LX_110 := Lib.hid (Nat.lt_of_lt_of_le LX_109.out (Below.size hb110))
            have SAP_110 := Lib.hid (SAP_109.out.below hb110)
            have LR_110 := Lib.hid (LR_109.out.below hb110)
            have RW_110 := Lib.hid (RW_109.out.below hb110)
            have RQ_110 := Lib.hid (RQ_109.out.below hb110)
            have RSA_110 := Lib.hid (RSA_109.out.below hb110)
            have RPA_110 := Lib.hid (RPA_109.out.below hb110)
            clear hb110
            go_wp2_with (first
              | (refine at_ld 33 (.tmp 21) rfl ?_; (refine ld_sig rfl (.tmp 21) rfl X (by rfl) (.int .i64 (m : Int)) (.slice saA 67 scA) (.slice paA (tlong m n) pcA) _ _ GX_110.out ?_); simp only [Act.put, List.setIfInBounds_toArray, List.set_cons_zero, List.set_cons_succ])
              | (refine at_ld 33 (.tmp 20) rfl ?_; (refine ld_sig rfl (.tmp 20) rfl W (by rfl) (.int .i64 (m : Int)) (.slice wa 67 wc) (.slice qa (tlong m n) qc) _ _ GW_110.out ?_); simp only [Act.put, List.setIfInBounds_toArray, List.set_cons_zero, List.set_cons_succ]))
            refine (SigSame (m : Int) (wsig (skey x0 m) D) (tpath (leavesK x0 n) m) (wsig_dig _ _) (tpath_dig _ _ _ (Nat.le_refl _) (leavesK_dig _ _)) (wsig_length _ _) (tlong m n) (by have := tpath_long _ (leavesK x0 n) m (Nat.le_refl _); rwa [leavesK_length] at this) saA wa paA qa scA wc pcA qc _ _ _ _ w110 RSA_110.out RW_110.out RPA_110.out RQ_110.out (Nat.le_trans (tlong_le n m n (by omega)) (by omega))).mono ?_
            rintro e w111 ⟨rfl, hb111⟩
            have B111 := Lib.hid (show Below w.heap.size w w111 from Below.trans B110.out (Below.mono hb111 (Below.size B110.out)))
            have GS_111 := Lib.hid ((Below.block hb111 S LS_110.out).trans GS_110.out)
            have LS_111 := Lib.hid (Nat.lt_of_lt_of_le LS_110.out (Below.size hb111))
            have GM_111 := Lib.hid ((Below.block hb111 M LM_110.out).trans GM_110.out)
            have LM_111 := Lib.hid (Nat.lt_of_lt_of_le LM_110.out (Below.size hb111))
            have GSB_111 := Lib.hid ((Below.block hb111 SB LSB_110.out).trans GSB_110.out)
            have LSB_111 := Lib.hid (Nat.lt_of_lt_of_le LSB_110.out (Below.size hb111))
            have GW_111 := Lib.hid ((Below.block hb111 W LW_110.out).trans GW_110.out)
            have LW_111 := Lib.hid (Nat.lt_of_lt_of_le LW_110.out (Below.size hb111))
            have GX_111 := Lib.hid ((Below.block hb111 X LX_110.out).trans GX_110.out)
            have LX_111 := Lib.hid (Nat.lt_of_lt_of_le LX_110.out (Below.size hb111))
            have SAP_111 := Lib.hid (SAP_110.out.below hb111)
            have LR_111 := Lib.hid (LR_110.out.below hb111)
            have RW_111 := Lib.hid (RW_110.out.below hb111)
            have RQ_111 := Lib.hid (RQ_110.out.below hb111)
            have RSA_111 := Lib.hid (RSA_110.out.below hb111)
            have RPA_111 := Lib.hid (RPA_110.out.below hb111)
            clear hb111
            go_wp2_with fail
            exact ⟨⟨m + 1, hlt, by go_num, Lib.hid ⟨by rw [HM.out]; exact SAP_111.out, LR_111.out, GS_111.out, GM_111.out, GSB_111.out, B111.out⟩⟩, by simp [intOf]; omega⟩
          · have B100 := Lib.hid HI.out.2.2.2.2.2
            have LR_100 := Lib.hid HI.out.2.1
            have GS_100 := Lib.hid HI.out.2.2.1
            have LS_100 := Lib.hid (lt_of_heap GS_100.out)
            have GM_100 := Lib.hid HI.out.2.2.2.1
            have LM_100 := Lib.hid (lt_of_heap GM_100.out)
            have GSB_100 := Lib.hid HI.out.2.2.2.2.1
            have LSB_100 := Lib.hid (lt_of_heap GSB_100.out)
            have SAP_100 := Lib.hid (show StampAt wA P x0 n n by have := HI.out.1; rw [Nat.min_eq_right (by omega)] at this; exact this)
            have g1 : decide ((n : Int) ≤ (m : Int)) = true := decide_eq_true (by omega)
            have g2 : decide (n ≤ m) = true := decide_eq_true (by omega)
            have g3 : min (m : Int) (n : Int) = (n : Int) := by omega
            have g4 : min m n = n := by omega
            have e7 : IntKind.i64.wrap ((n : Int) - (n : Int)) = 0 := by rw [IntWalk.i64_in _ (by omega)]; omega
            have HM := Lib.hid (show min (m + 1) n = n by omega)
            clear hsp HI
            obtain ⟨W, hW⟩ : ∃ z, z = wA.heap.size := ⟨_, rfl⟩
            obtain ⟨w101, hw101⟩ : ∃ z, z = wA.alloc (.cells #[.int .i64 0, .slice none 0 0, .slice none 0 0] 33) := ⟨_, rfl⟩
            have st101 : Below wA.heap.size wA w101 := by rw [hw101]; exact (Below.refl _ _).alloc (Nat.le_refl _) _
            have B101 := Lib.hid (show Below w.heap.size w w101 from Below.trans B100.out (Below.mono st101 (Below.size B100.out)))
            have GS_101 := Lib.hid ((Below.block st101 S LS_100.out).trans GS_100.out)
            have LS_101 := Lib.hid (Nat.lt_of_lt_of_le LS_100.out (Below.size st101))
            have GM_101 := Lib.hid ((Below.block st101 M LM_100.out).trans GM_100.out)
            have LM_101 := Lib.hid (Nat.lt_of_lt_of_le LM_100.out (Below.size st101))
            have GSB_101 := Lib.hid ((Below.block st101 SB LSB_100.out).trans GSB_100.out)
            have LSB_101 := Lib.hid (Nat.lt_of_lt_of_le LSB_100.out (Below.size st101))
            have SAP_101 := Lib.hid (SAP_100.out.below st101)
            have LR_101 := Lib.hid (LR_100.out.below st101)
            have GW_101 := Lib.hid (show w101.heap[W]? = some (.cells #[.int .i64 0, .slice none 0 0, .slice none 0 0] 33 (0, 0)) by rw [hw101, hW]; exact heap_alloc_new _ _)
            have LW_101 := Lib.hid (lt_of_heap GW_101.out)
            have HW := Lib.hid hW
            have Hw101 := Lib.hid hw101
            clear hW hw101 st101
            go_wp2_with fail
            rw [← HW.out, ← Hw101.out]
            refine (Left_z x0 SL.out P n n 0 (by omega) (by omega) w101 SAP_101.out).mono ?_
            rintro e w102 ⟨rfl, hb102⟩
            have B102 := Lib.hid (show Below w.heap.size w w102 from Below.trans B101.out (Below.mono hb102 (Below.size B101.out)))
            have GS_102 := Lib.hid ((Below.block hb102 S LS_101.out).trans GS_101.out)
            have LS_102 := Lib.hid (Nat.lt_of_lt_of_le LS_101.out (Below.size hb102))
            have GM_102 := Lib.hid ((Below.block hb102 M LM_101.out).trans GM_101.out)
            have LM_102 := Lib.hid (Nat.lt_of_lt_of_le LM_101.out (Below.size hb102))
            have GSB_102 := Lib.hid ((Below.block hb102 SB LSB_101.out).trans GSB_101.out)
            have LSB_102 := Lib.hid (Nat.lt_of_lt_of_le LSB_101.out (Below.size hb102))
            have GW_102 := Lib.hid ((Below.block hb102 W LW_101.out).trans GW_101.out)
            have LW_102 := Lib.hid (Nat.lt_of_lt_of_le LW_101.out (Below.size hb102))
            have SAP_102 := Lib.hid (SAP_101.out.below hb102)
            have LR_102 := Lib.hid (LR_101.out.below hb102)
            clear hb102
            go_wp2_with (first
              | (refine at_ld 23 (.tmp 117) rfl ?_; (refine ld_digG rfl (.tmp 117) rfl (b1) (o1 + m * 32) (by rfl) D DL.out (HRGF.out _ B102.out).2 ?_); simp only [Act.put, List.setIfInBounds_toArray, List.set_cons_zero, List.set_cons_succ]))
            refine (Sign_spent x0 D SL.out DL.out P n (by omega) w102 SAP_102.out).mono ?_
            rintro e w103 ⟨rfl, hb103⟩
            have B103 := Lib.hid (show Below w.heap.size w w103 from Below.trans B102.out (Below.mono hb103 (Below.size B102.out)))
            have GS_103 := Lib.hid ((Below.block hb103 S LS_102.out).trans GS_102.out)
            have LS_103 := Lib.hid (Nat.lt_of_lt_of_le LS_102.out (Below.size hb103))
            have GM_103 := Lib.hid ((Below.block hb103 M LM_102.out).trans GM_102.out)
            have LM_103 := Lib.hid (Nat.lt_of_lt_of_le LM_102.out (Below.size hb103))
            have GSB_103 := Lib.hid ((Below.block hb103 SB LSB_102.out).trans GSB_102.out)
            have LSB_103 := Lib.hid (Nat.lt_of_lt_of_le LSB_102.out (Below.size hb103))
            have GW_103 := Lib.hid ((Below.block hb103 W LW_102.out).trans GW_102.out)
            have LW_103 := Lib.hid (Nat.lt_of_lt_of_le LW_102.out (Below.size hb103))
            have SAP_103 := Lib.hid (SAP_102.out.below hb103)
            have LR_103 := Lib.hid (LR_102.out.below hb103)
            clear hb103
            obtain ⟨X, hX⟩ : ∃ z, z = w103.heap.size := ⟨_, rfl⟩
            obtain ⟨w104, hw104⟩ : ∃ z, z = w103.alloc (.cells #[.int .i64 0, .slice none 0 0, .slice none 0 0] 33) := ⟨_, rfl⟩
            have st104 : Below w103.heap.size w103 w104 := by rw [hw104]; exact (Below.refl _ _).alloc (Nat.le_refl _) _
            have B104 := Lib.hid (show Below w.heap.size w w104 from Below.trans B103.out (Below.mono st104 (Below.size B103.out)))
            have GS_104 := Lib.hid ((Below.block st104 S LS_103.out).trans GS_103.out)
            have LS_104 := Lib.hid (Nat.lt_of_lt_of_le LS_103.out (Below.size st104))
            have GM_104 := Lib.hid ((Below.block st104 M LM_103.out).trans GM_103.out)
            have LM_104 := Lib.hid (Nat.lt_of_lt_of_le LM_103.out (Below.size st104))
            have GSB_104 := Lib.hid ((Below.block st104 SB LSB_103.out).trans GSB_103.out)
            have LSB_104 := Lib.hid (Nat.lt_of_lt_of_le LSB_103.out (Below.size st104))
            have GW_104 := Lib.hid ((Below.block st104 W LW_103.out).trans GW_103.out)
            have LW_104 := Lib.hid (Nat.lt_of_lt_of_le LW_103.out (Below.size st104))
            have SAP_104 := Lib.hid (SAP_103.out.below st104)
            have LR_104 := Lib.hid (LR_103.out.below st104)
            have GX_104 := Lib.hid (show w104.heap[X]? = some (.cells #[.int .i64 0, .slice none 0 0, .slice none 0 0] 33 (0, 0)) by rw [hw104, hX]; exact heap_alloc_new _ _)
            have LX_104 := Lib.hid (lt_of_heap GX_104.out)
            have HX := Lib.hid hX
            have Hw104 := Lib.hid hw104
            clear hX hw104 st104
            go_wp2_with (first
              | (refine at_st 33 (.tmp 21) (.tmp 120) rfl ?_; (refine st_sigNew rfl (.tmp 21) (.tmp 120) rfl (.int .i64 0) (.slice none 0 0) (.slice none 0 0) (by rfl) _ _ (by rfl) (by rfl) (sig_one _ _ _ _ _ _ _) ?_); rw [← HX.out, ← Hw104.out]))
            refine (Error_err 6 6 true (by decide) w104 (HG.out.at_ B104.out)).mono ?_
            rintro e w105 ⟨rfl, hb105⟩
            have B105 := Lib.hid (show Below w.heap.size w w105 from Below.trans B104.out (Below.mono hb105 (Below.size B104.out)))
            have GS_105 := Lib.hid ((Below.block hb105 S LS_104.out).trans GS_104.out)
            have LS_105 := Lib.hid (Nat.lt_of_lt_of_le LS_104.out (Below.size hb105))
            have GM_105 := Lib.hid ((Below.block hb105 M LM_104.out).trans GM_104.out)
            have LM_105 := Lib.hid (Nat.lt_of_lt_of_le LM_104.out (Below.size hb105))
            have GSB_105 := Lib.hid ((Below.block hb105 SB LSB_104.out).trans GSB_104.out)
            have LSB_105 := Lib.hid (Nat.lt_of_lt_of_le LSB_104.out (Below.size hb105))
            have GW_105 := Lib.hid ((Below.block hb105 W LW_104.out).trans GW_104.out)
            have LW_105 := Lib.hid (Nat.lt_of_lt_of_le LW_104.out (Below.size hb105))
            have GX_105 := Lib.hid ((Below.block hb105 X LX_104.out).trans GX_104.out)
            have LX_105 := Lib.hid (Nat.lt_of_lt_of_le LX_104.out (Below.size hb105))
            have SAP_105 := Lib.hid (SAP_104.out.below hb105)
            have LR_105 := Lib.hid (LR_104.out.below hb105)
            clear hb105
            go_wp2_with (first
              | (refine at_ld 33 (.tmp 21) rfl ?_; (refine ld_sig rfl (.tmp 21) rfl X (by rfl) (.int .i64 0) (.slice none 0 0) (.slice none 0 0) _ _ GX_105.out ?_); simp only [Act.put, List.setIfInBounds_toArray, List.set_cons_zero, List.set_cons_succ])
              | (refine at_ld 33 (.tmp 20) rfl ?_; (refine ld_sig rfl (.tmp 20) rfl W (by rfl) (.int .i64 0) (.slice none 0 0) (.slice none 0 0) _ _ GW_105.out ?_); simp only [Act.put, List.setIfInBounds_toArray, List.set_cons_zero, List.set_cons_succ]))
            refine (Signature_calls 0 0 [] [] [] [] (fun _ h => by cases h) (fun _ h => by cases h) (fun _ h => by cases h) (fun _ h => by cases h) none none none none 0 0 0 0 0 0 0 0 w105 (.inl rfl) (.inl rfl) (.inl rfl) (.inl rfl) (by decide) (by decide) true rfl).mono ?_
            rintro e w106 ⟨rfl, hb106⟩
            have B106 := Lib.hid (show Below w.heap.size w w106 from Below.trans B105.out (Below.mono hb106 (Below.size B105.out)))
            have GS_106 := Lib.hid ((Below.block hb106 S LS_105.out).trans GS_105.out)
            have LS_106 := Lib.hid (Nat.lt_of_lt_of_le LS_105.out (Below.size hb106))
            have GM_106 := Lib.hid ((Below.block hb106 M LM_105.out).trans GM_105.out)
            have LM_106 := Lib.hid (Nat.lt_of_lt_of_le LM_105.out (Below.size hb106))
            have GSB_106 := Lib.hid ((Below.block hb106 SB LSB_105.out).trans GSB_105.out)
            have LSB_106 := Lib.hid (Nat.lt_of_lt_of_le LSB_105.out (Below.size hb106))
            have GW_106 := Lib.hid ((Below.block hb106 W LW_105.out).trans GW_105.out)
            have LW_106 := Lib.hid (Nat.lt_of_lt_of_le LW_105.out (Below.size hb106))
            have GX_106 := Lib.hid ((Below.block hb106 X LX_105.out).trans GX_105.out)
            have LX_106 := Lib.hid (Nat.lt_of_lt_of_le LX_105.out (Below.size hb106))
            have SAP_106 := Lib.hid (SAP_105.out.below hb106)
            have LR_106 := Lib.hid (LR_105.out.below hb106)
            clear hb106
            go_wp2_with fail
            exact ⟨⟨m + 1, hlt, by go_num, Lib.hid ⟨by rw [HM.out]; exact SAP_106.out, LR_106.out, GS_106.out, GM_106.out, GSB_106.out, B106.out⟩⟩, by simp [intOf]; omega⟩
        · obtain rfl : m = x2.length := by omega
          have m1 : ¬ (x2.length : Int) < (x2.length : Int) := by omega
          by_cases h67 : x4.length = 67
          · have H67 := Lib.hid h67
            have x1 : ((x4.length : Int) != 67) = false := by rw [h67]; rfl
            have x2_ : (x4.length != 67) = false := by rw [h67]; rfl
            clear h67
            by_cases hbi : j4 < 0 ∨ ((2 ^ h : Nat) : Int) ≤ j4
            · have HBI := Lib.hid hbi
              rw [← HN.out] at hbi
              rcases hbi with hb | hb
              · have B200 := Lib.hid HI.out.2.2.2.2.2
                have LR_200 := Lib.hid HI.out.2.1
                have GS_200 := Lib.hid HI.out.2.2.1
                have LS_200 := Lib.hid (lt_of_heap GS_200.out)
                have GM_200 := Lib.hid HI.out.2.2.2.1
                have LM_200 := Lib.hid (lt_of_heap GM_200.out)
                have GSB_200 := Lib.hid HI.out.2.2.2.2.1
                have LSB_200 := Lib.hid (lt_of_heap GSB_200.out)
                clear HI
                go_upto_region 34 with fail
                obtain ⟨U, hU⟩ : ∃ z, z = wA.heap.size := ⟨_, rfl⟩
                obtain ⟨w201, hw201⟩ : ∃ z, z = wA.alloc (.cells (dV Z) 23) := ⟨_, rfl⟩
                have st201 : Below wA.heap.size wA w201 := by rw [hw201]; exact (Below.refl _ _).alloc (Nat.le_refl _) _
                have B201 := Lib.hid (show Below w.heap.size w w201 from Below.trans B200.out (Below.mono st201 (Below.size B200.out)))
                have GS_201 := Lib.hid ((Below.block st201 S LS_200.out).trans GS_200.out)
                have LS_201 := Lib.hid (Nat.lt_of_lt_of_le LS_200.out (Below.size st201))
                have GM_201 := Lib.hid ((Below.block st201 M LM_200.out).trans GM_200.out)
                have LM_201 := Lib.hid (Nat.lt_of_lt_of_le LM_200.out (Below.size st201))
                have GSB_201 := Lib.hid ((Below.block st201 SB LSB_200.out).trans GSB_200.out)
                have LSB_201 := Lib.hid (Nat.lt_of_lt_of_le LSB_200.out (Below.size st201))
                have GU_201 := Lib.hid (show w201.heap[U]? = some (.cells (dV Z) 23 (0, 0)) by rw [hw201, hU]; exact heap_alloc_new _ _)
                have LU_201 := Lib.hid (lt_of_heap GU_201.out)
                have HU := Lib.hid hU
                have Hw201 := Lib.hid hw201
                clear hU hw201 st201
                go_upto_region 35 with fail
                rw [ZT.out, ← HU.out, ← Hw201.out]
                have u0 := (cellQ GSB_201.out).1
                have u1 := (cellQ GSB_201.out).2.1
                have u2 := (cellQ GSB_201.out).2.2
                go_upto_region 39 with fail
                have FP := Lib.hid (fun w' (h : InB w201.heap.size w201 w') => (Below.cell h (p := ⟨SB, 2, none⟩) LSB_201.out).trans u2)
                have FI := Lib.hid (fun w' (h : InB w201.heap.size w201 w') => (Below.cell h (p := ⟨SB, 0, none⟩) LSB_201.out).trans u0)
                clear u0 u1 u2
                have hex := inB_ex w201.heap.size w201
                refine wp_region_inB w201.heap.size (by kernel_rfl) (by kernel_rfl) ?_
                repeat (first
                  | go_big_quiet_skip
                  | go_big_quiet_step ((first | (intro _; rfl))))
                refine wpQuiet_nil ?_
                intro wZ hwZ
                have hZZ : Below w201.heap.size w201 wZ := hwZ
                have B202 := Lib.hid (show Below w.heap.size w wZ from Below.trans B201.out (Below.mono hZZ (Below.size B201.out)))
                have GS_202 := Lib.hid ((Below.block hZZ S LS_201.out).trans GS_201.out)
                have LS_202 := Lib.hid (Nat.lt_of_lt_of_le LS_201.out (Below.size hZZ))
                have GM_202 := Lib.hid ((Below.block hZZ M LM_201.out).trans GM_201.out)
                have LM_202 := Lib.hid (Nat.lt_of_lt_of_le LM_201.out (Below.size hZZ))
                have GSB_202 := Lib.hid ((Below.block hZZ SB LSB_201.out).trans GSB_201.out)
                have LSB_202 := Lib.hid (Nat.lt_of_lt_of_le LSB_201.out (Below.size hZZ))
                have GU_202 := Lib.hid ((Below.block hZZ U LU_201.out).trans GU_201.out)
                have LU_202 := Lib.hid (Nat.lt_of_lt_of_le LU_201.out (Below.size hZZ))
                clear hZZ hwZ
                go_upto_region 43 with fail
                have HRC := Lib.hid (SRecover_range x3 ML.out x4 H67.out N4.out h HH.out j4 h4 HBI.out a4 b4 c4 y4.length d4 _ wZ (R4.out.below B202.out) (RO.out.at_ B202.out))
                rw [← HZ.out] at HRC
                go_wp2_with (first
                  | (refine at_ld 23 (.tmp 8) rfl ?_; (refine ld_digG rfl (.tmp 8) rfl (M) 0 (by rfl) x3 ML.out (range_of_row GM_202.out) ?_); simp only [Act.put, List.setIfInBounds_toArray, List.set_cons_zero, List.set_cons_succ])
                  | (refine at_ld 33 (.tmp 9) rfl ?_; (refine ld_sig rfl (.tmp 9) rfl SB (by rfl) (.int .i64 j4) (.slice a4 x4.length c4) (.slice b4 y4.length d4) _ _ GSB_202.out ?_); simp only [Act.put, List.setIfInBounds_toArray, List.set_cons_zero, List.set_cons_succ]))
                refine (HRC.out).mono ?_
                rintro e w203 ⟨rfl, hb203⟩
                have B203 := Lib.hid (show Below w.heap.size w w203 from Below.trans B202.out (Below.mono hb203 (Below.size B202.out)))
                have GS_203 := Lib.hid ((Below.block hb203 S LS_202.out).trans GS_202.out)
                have LS_203 := Lib.hid (Nat.lt_of_lt_of_le LS_202.out (Below.size hb203))
                have GM_203 := Lib.hid ((Below.block hb203 M LM_202.out).trans GM_202.out)
                have LM_203 := Lib.hid (Nat.lt_of_lt_of_le LM_202.out (Below.size hb203))
                have GSB_203 := Lib.hid ((Below.block hb203 SB LSB_202.out).trans GSB_202.out)
                have LSB_203 := Lib.hid (Nat.lt_of_lt_of_le LSB_202.out (Below.size hb203))
                have GU_203 := Lib.hid ((Below.block hb203 U LU_202.out).trans GU_202.out)
                have LU_203 := Lib.hid (Nat.lt_of_lt_of_le LU_202.out (Below.size hb203))
                clear HRC
                clear hb203
                obtain ⟨Y, hY⟩ : ∃ z, z = w203.heap.size := ⟨_, rfl⟩
                obtain ⟨w204, hw204⟩ : ∃ z, z = w203.alloc (.cells (dV Z) 23) := ⟨_, rfl⟩
                have st204 : Below w203.heap.size w203 w204 := by rw [hw204]; exact (Below.refl _ _).alloc (Nat.le_refl _) _
                have B204 := Lib.hid (show Below w.heap.size w w204 from Below.trans B203.out (Below.mono st204 (Below.size B203.out)))
                have GS_204 := Lib.hid ((Below.block st204 S LS_203.out).trans GS_203.out)
                have LS_204 := Lib.hid (Nat.lt_of_lt_of_le LS_203.out (Below.size st204))
                have GM_204 := Lib.hid ((Below.block st204 M LM_203.out).trans GM_203.out)
                have LM_204 := Lib.hid (Nat.lt_of_lt_of_le LM_203.out (Below.size st204))
                have GSB_204 := Lib.hid ((Below.block st204 SB LSB_203.out).trans GSB_203.out)
                have LSB_204 := Lib.hid (Nat.lt_of_lt_of_le LSB_203.out (Below.size st204))
                have GU_204 := Lib.hid ((Below.block st204 U LU_203.out).trans GU_203.out)
                have LU_204 := Lib.hid (Nat.lt_of_lt_of_le LU_203.out (Below.size st204))
                have GY_204 := Lib.hid (show w204.heap[Y]? = some (.cells (dV Z) 23 (0, 0)) by rw [hw204, hY]; exact heap_alloc_new _ _)
                have LY_204 := Lib.hid (lt_of_heap GY_204.out)
                have HY := Lib.hid hY
                have Hw204 := Lib.hid hw204
                clear hY hw204 st204
                go_wp2_with (first
                  | (refine at_st 23 (.tmp 26) (.tmp 186) rfl ?_; (refine st_new rfl (.tmp 26) (.tmp 186) rfl Z ZL.out (by rfl) _ _ (by rfl) (by rfl) ?_); rw [← HY.out, ← Hw204.out]))
                refine (Error_err 2 2 true (by decide) w204 (HG.out.at_ B204.out)).mono ?_
                rintro e w205 ⟨rfl, hb205⟩
                have B205 := Lib.hid (show Below w.heap.size w w205 from Below.trans B204.out (Below.mono hb205 (Below.size B204.out)))
                have GS_205 := Lib.hid ((Below.block hb205 S LS_204.out).trans GS_204.out)
                have LS_205 := Lib.hid (Nat.lt_of_lt_of_le LS_204.out (Below.size hb205))
                have GM_205 := Lib.hid ((Below.block hb205 M LM_204.out).trans GM_204.out)
                have LM_205 := Lib.hid (Nat.lt_of_lt_of_le LM_204.out (Below.size hb205))
                have GSB_205 := Lib.hid ((Below.block hb205 SB LSB_204.out).trans GSB_204.out)
                have LSB_205 := Lib.hid (Nat.lt_of_lt_of_le LSB_204.out (Below.size hb205))
                have GU_205 := Lib.hid ((Below.block hb205 U LU_204.out).trans GU_204.out)
                have LU_205 := Lib.hid (Nat.lt_of_lt_of_le LU_204.out (Below.size hb205))
                have GY_205 := Lib.hid ((Below.block hb205 Y LY_204.out).trans GY_204.out)
                have LY_205 := Lib.hid (Nat.lt_of_lt_of_le LY_204.out (Below.size hb205))
                clear hb205
                go_wp2_with (first
                  | (refine at_ld 23 (.tmp 26) rfl ?_; (refine ld_digG rfl (.tmp 26) rfl (Y) 0 (by rfl) Z ZL.out (range_of_row GY_205.out) ?_); simp only [Act.put, List.setIfInBounds_toArray, List.set_cons_zero, List.set_cons_succ])
                  | (refine at_ld 23 (.tmp 25) rfl ?_; (refine ld_digG rfl (.tmp 25) rfl (U) 0 (by rfl) Z ZL.out (range_of_row GU_205.out) ?_); simp only [Act.put, List.setIfInBounds_toArray, List.set_cons_zero, List.set_cons_succ])
                  | (refine at_bin .eql 23 (.tmp 193) (.tmp 194) _ rfl ?_; (refine eq_digG rfl (.tmp 193) (.tmp 194) _ rfl Z Z (by rfl) (by rfl) ZL.out ZL.out ?_); rw [beq_self_eq_true]; simp only [Act.put, List.setIfInBounds_toArray, List.set_cons_zero, List.set_cons_succ]))
                go_ret
                exact ⟨rfl, B205.out⟩
              · have hb2 : ¬ j4 < 0 := by omega
                have B200 := Lib.hid HI.out.2.2.2.2.2
                have LR_200 := Lib.hid HI.out.2.1
                have GS_200 := Lib.hid HI.out.2.2.1
                have LS_200 := Lib.hid (lt_of_heap GS_200.out)
                have GM_200 := Lib.hid HI.out.2.2.2.1
                have LM_200 := Lib.hid (lt_of_heap GM_200.out)
                have GSB_200 := Lib.hid HI.out.2.2.2.2.1
                have LSB_200 := Lib.hid (lt_of_heap GSB_200.out)
                clear HI
                go_upto_region 34 with fail
                obtain ⟨U, hU⟩ : ∃ z, z = wA.heap.size := ⟨_, rfl⟩
                obtain ⟨w201, hw201⟩ : ∃ z, z = wA.alloc (.cells (dV Z) 23) := ⟨_, rfl⟩
                have st201 : Below wA.heap.size wA w201 := by rw [hw201]; exact (Below.refl _ _).alloc (Nat.le_refl _) _
                have B201 := Lib.hid (show Below w.heap.size w w201 from Below.trans B200.out (Below.mono st201 (Below.size B200.out)))
                have GS_201 := Lib.hid ((Below.block st201 S LS_200.out).trans GS_200.out)
                have LS_201 := Lib.hid (Nat.lt_of_lt_of_le LS_200.out (Below.size st201))
                have GM_201 := Lib.hid ((Below.block st201 M LM_200.out).trans GM_200.out)
                have LM_201 := Lib.hid (Nat.lt_of_lt_of_le LM_200.out (Below.size st201))
                have GSB_201 := Lib.hid ((Below.block st201 SB LSB_200.out).trans GSB_200.out)
                have LSB_201 := Lib.hid (Nat.lt_of_lt_of_le LSB_200.out (Below.size st201))
                have GU_201 := Lib.hid (show w201.heap[U]? = some (.cells (dV Z) 23 (0, 0)) by rw [hw201, hU]; exact heap_alloc_new _ _)
                have LU_201 := Lib.hid (lt_of_heap GU_201.out)
                have HU := Lib.hid hU
                have Hw201 := Lib.hid hw201
                clear hU hw201 st201
                go_upto_region 35 with fail
                rw [ZT.out, ← HU.out, ← Hw201.out]
                have u0 := (cellQ GSB_201.out).1
                have u1 := (cellQ GSB_201.out).2.1
                have u2 := (cellQ GSB_201.out).2.2
                go_upto_region 39 with fail
                have FP := Lib.hid (fun w' (h : InB w201.heap.size w201 w') => (Below.cell h (p := ⟨SB, 2, none⟩) LSB_201.out).trans u2)
                have FI := Lib.hid (fun w' (h : InB w201.heap.size w201 w') => (Below.cell h (p := ⟨SB, 0, none⟩) LSB_201.out).trans u0)
                clear u0 u1 u2
                have hex := inB_ex w201.heap.size w201
                refine wp_region_inB w201.heap.size (by kernel_rfl) (by kernel_rfl) ?_
                repeat (first
                  | go_big_quiet_skip
                  | go_big_quiet_step ((first | (intro _; rfl))))
                refine wpQuiet_nil ?_
                intro wZ hwZ
                have hZZ : Below w201.heap.size w201 wZ := hwZ
                have B202 := Lib.hid (show Below w.heap.size w wZ from Below.trans B201.out (Below.mono hZZ (Below.size B201.out)))
                have GS_202 := Lib.hid ((Below.block hZZ S LS_201.out).trans GS_201.out)
                have LS_202 := Lib.hid (Nat.lt_of_lt_of_le LS_201.out (Below.size hZZ))
                have GM_202 := Lib.hid ((Below.block hZZ M LM_201.out).trans GM_201.out)
                have LM_202 := Lib.hid (Nat.lt_of_lt_of_le LM_201.out (Below.size hZZ))
                have GSB_202 := Lib.hid ((Below.block hZZ SB LSB_201.out).trans GSB_201.out)
                have LSB_202 := Lib.hid (Nat.lt_of_lt_of_le LSB_201.out (Below.size hZZ))
                have GU_202 := Lib.hid ((Below.block hZZ U LU_201.out).trans GU_201.out)
                have LU_202 := Lib.hid (Nat.lt_of_lt_of_le LU_201.out (Below.size hZZ))
                clear hZZ hwZ
                go_upto_region 43 with fail
                have HRC := Lib.hid (SRecover_range x3 ML.out x4 H67.out N4.out h HH.out j4 h4 HBI.out a4 b4 c4 y4.length d4 _ wZ (R4.out.below B202.out) (RO.out.at_ B202.out))
                rw [← HZ.out] at HRC
                go_wp2_with (first
                  | (refine at_ld 23 (.tmp 8) rfl ?_; (refine ld_digG rfl (.tmp 8) rfl (M) 0 (by rfl) x3 ML.out (range_of_row GM_202.out) ?_); simp only [Act.put, List.setIfInBounds_toArray, List.set_cons_zero, List.set_cons_succ])
                  | (refine at_ld 33 (.tmp 9) rfl ?_; (refine ld_sig rfl (.tmp 9) rfl SB (by rfl) (.int .i64 j4) (.slice a4 x4.length c4) (.slice b4 y4.length d4) _ _ GSB_202.out ?_); simp only [Act.put, List.setIfInBounds_toArray, List.set_cons_zero, List.set_cons_succ]))
                refine (HRC.out).mono ?_
                rintro e w203 ⟨rfl, hb203⟩
                have B203 := Lib.hid (show Below w.heap.size w w203 from Below.trans B202.out (Below.mono hb203 (Below.size B202.out)))
                have GS_203 := Lib.hid ((Below.block hb203 S LS_202.out).trans GS_202.out)
                have LS_203 := Lib.hid (Nat.lt_of_lt_of_le LS_202.out (Below.size hb203))
                have GM_203 := Lib.hid ((Below.block hb203 M LM_202.out).trans GM_202.out)
                have LM_203 := Lib.hid (Nat.lt_of_lt_of_le LM_202.out (Below.size hb203))
                have GSB_203 := Lib.hid ((Below.block hb203 SB LSB_202.out).trans GSB_202.out)
                have LSB_203 := Lib.hid (Nat.lt_of_lt_of_le LSB_202.out (Below.size hb203))
                have GU_203 := Lib.hid ((Below.block hb203 U LU_202.out).trans GU_202.out)
                have LU_203 := Lib.hid (Nat.lt_of_lt_of_le LU_202.out (Below.size hb203))
                clear HRC
                clear hb203
                obtain ⟨Y, hY⟩ : ∃ z, z = w203.heap.size := ⟨_, rfl⟩
                obtain ⟨w204, hw204⟩ : ∃ z, z = w203.alloc (.cells (dV Z) 23) := ⟨_, rfl⟩
                have st204 : Below w203.heap.size w203 w204 := by rw [hw204]; exact (Below.refl _ _).alloc (Nat.le_refl _) _
                have B204 := Lib.hid (show Below w.heap.size w w204 from Below.trans B203.out (Below.mono st204 (Below.size B203.out)))
                have GS_204 := Lib.hid ((Below.block st204 S LS_203.out).trans GS_203.out)
                have LS_204 := Lib.hid (Nat.lt_of_lt_of_le LS_203.out (Below.size st204))
                have GM_204 := Lib.hid ((Below.block st204 M LM_203.out).trans GM_203.out)
                have LM_204 := Lib.hid (Nat.lt_of_lt_of_le LM_203.out (Below.size st204))
                have GSB_204 := Lib.hid ((Below.block st204 SB LSB_203.out).trans GSB_203.out)
                have LSB_204 := Lib.hid (Nat.lt_of_lt_of_le LSB_203.out (Below.size st204))
                have GU_204 := Lib.hid ((Below.block st204 U LU_203.out).trans GU_203.out)
                have LU_204 := Lib.hid (Nat.lt_of_lt_of_le LU_203.out (Below.size st204))
                have GY_204 := Lib.hid (show w204.heap[Y]? = some (.cells (dV Z) 23 (0, 0)) by rw [hw204, hY]; exact heap_alloc_new _ _)
                have LY_204 := Lib.hid (lt_of_heap GY_204.out)
                have HY := Lib.hid hY
                have Hw204 := Lib.hid hw204
                clear hY hw204 st204
                go_wp2_with (first
                  | (refine at_st 23 (.tmp 26) (.tmp 186) rfl ?_; (refine st_new rfl (.tmp 26) (.tmp 186) rfl Z ZL.out (by rfl) _ _ (by rfl) (by rfl) ?_); rw [← HY.out, ← Hw204.out]))
                refine (Error_err 2 2 true (by decide) w204 (HG.out.at_ B204.out)).mono ?_
                rintro e w205 ⟨rfl, hb205⟩
                have B205 := Lib.hid (show Below w.heap.size w w205 from Below.trans B204.out (Below.mono hb205 (Below.size B204.out)))
                have GS_205 := Lib.hid ((Below.block hb205 S LS_204.out).trans GS_204.out)
                have LS_205 := Lib.hid (Nat.lt_of_lt_of_le LS_204.out (Below.size hb205))
                have GM_205 := Lib.hid ((Below.block hb205 M LM_204.out).trans GM_204.out)
                have LM_205 := Lib.hid (Nat.lt_of_lt_of_le LM_204.out (Below.size hb205))
                have GSB_205 := Lib.hid ((Below.block hb205 SB LSB_204.out).trans GSB_204.out)
                have LSB_205 := Lib.hid (Nat.lt_of_lt_of_le LSB_204.out (Below.size hb205))
                have GU_205 := Lib.hid ((Below.block hb205 U LU_204.out).trans GU_204.out)
                have LU_205 := Lib.hid (Nat.lt_of_lt_of_le LU_204.out (Below.size hb205))
                have GY_205 := Lib.hid ((Below.block hb205 Y LY_204.out).trans GY_204.out)
                have LY_205 := Lib.hid (Nat.lt_of_lt_of_le LY_204.out (Below.size hb205))
                clear hb205
                go_wp2_with (first
                  | (refine at_ld 23 (.tmp 26) rfl ?_; (refine ld_digG rfl (.tmp 26) rfl (Y) 0 (by rfl) Z ZL.out (range_of_row GY_205.out) ?_); simp only [Act.put, List.setIfInBounds_toArray, List.set_cons_zero, List.set_cons_succ])
                  | (refine at_ld 23 (.tmp 25) rfl ?_; (refine ld_digG rfl (.tmp 25) rfl (U) 0 (by rfl) Z ZL.out (range_of_row GU_205.out) ?_); simp only [Act.put, List.setIfInBounds_toArray, List.set_cons_zero, List.set_cons_succ])
                  | (refine at_bin .eql 23 (.tmp 193) (.tmp 194) _ rfl ?_; (refine eq_digG rfl (.tmp 193) (.tmp 194) _ rfl Z Z (by rfl) (by rfl) ZL.out ZL.out ?_); rw [beq_self_eq_true]; simp only [Act.put, List.setIfInBounds_toArray, List.set_cons_zero, List.set_cons_succ]))
                go_ret
                exact ⟨rfl, B205.out⟩
            · rw [← HN.out] at hbi
              obtain ⟨i, rfl⟩ : ∃ i : Nat, j4 = (i : Int) := ⟨j4.toNat, by omega⟩
              have HIN := Lib.hid (show i < 2 ^ h by rw [← HN.out]; omega)
              have y1 : ¬ (i : Int) < 0 := by omega
              have y2 : ¬ (n : Int) ≤ (i : Int) := by omega
              have y3 : ¬ n ≤ i := by omega
              have CLG := Lib.hid (show ∀ w', Calls Tryd.prog 23 #[.int .i64 (i : Int), .int .i64 (n : Int)] w' fun e w'' => e = .returned (.int .i64 ((tlong i n : Nat) : Int)) ∧ w' = w'' from RLong_calls n n i (Nat.le_refl _) (by omega) (by omega) (by omega))
              by_cases hpl : y4.length = tlong i n
              · have HPL := Lib.hid hpl
                have p1 : ((y4.length : Int) != ((tlong i n : Nat) : Int)) = false := by rw [hpl]; simp
                have p2 : (y4.length != tlong i n) = false := by rw [hpl]; simp
                clear hpl hbi
                have B200 := Lib.hid HI.out.2.2.2.2.2
                have LR_200 := Lib.hid HI.out.2.1
                have GS_200 := Lib.hid HI.out.2.2.1
                have LS_200 := Lib.hid (lt_of_heap GS_200.out)
                have GM_200 := Lib.hid HI.out.2.2.2.1
                have LM_200 := Lib.hid (lt_of_heap GM_200.out)
                have GSB_200 := Lib.hid HI.out.2.2.2.2.1
                have LSB_200 := Lib.hid (lt_of_heap GSB_200.out)
                clear HI
                go_upto_region 34 with fail
                obtain ⟨U, hU⟩ : ∃ z, z = wA.heap.size := ⟨_, rfl⟩
                obtain ⟨w201, hw201⟩ : ∃ z, z = wA.alloc (.cells (dV Z) 23) := ⟨_, rfl⟩
                have st201 : Below wA.heap.size wA w201 := by rw [hw201]; exact (Below.refl _ _).alloc (Nat.le_refl _) _
                have B201 := Lib.hid (show Below w.heap.size w w201 from Below.trans B200.out (Below.mono st201 (Below.size B200.out)))
                have GS_201 := Lib.hid ((Below.block st201 S LS_200.out).trans GS_200.out)
                have LS_201 := Lib.hid (Nat.lt_of_lt_of_le LS_200.out (Below.size st201))
                have GM_201 := Lib.hid ((Below.block st201 M LM_200.out).trans GM_200.out)
                have LM_201 := Lib.hid (Nat.lt_of_lt_of_le LM_200.out (Below.size st201))
                have GSB_201 := Lib.hid ((Below.block st201 SB LSB_200.out).trans GSB_200.out)
                have LSB_201 := Lib.hid (Nat.lt_of_lt_of_le LSB_200.out (Below.size st201))
                have GU_201 := Lib.hid (show w201.heap[U]? = some (.cells (dV Z) 23 (0, 0)) by rw [hw201, hU]; exact heap_alloc_new _ _)
                have LU_201 := Lib.hid (lt_of_heap GU_201.out)
                have HU := Lib.hid hU
                have Hw201 := Lib.hid hw201
                clear hU hw201 st201
                go_upto_region 35 with fail
                rw [ZT.out, ← HU.out, ← Hw201.out]
                have u0 := (cellQ GSB_201.out).1
                have u1 := (cellQ GSB_201.out).2.1
                have u2 := (cellQ GSB_201.out).2.2
                go_upto_region 39 with fail
                have FP := Lib.hid (fun w' (h : InB w201.heap.size w201 w') => (Below.cell h (p := ⟨SB, 2, none⟩) LSB_201.out).trans u2)
                have FI := Lib.hid (fun w' (h : InB w201.heap.size w201 w') => (Below.cell h (p := ⟨SB, 0, none⟩) LSB_201.out).trans u0)
                clear u0 u1 u2
                have CQ := Lib.hid (fun w' (h : InB w201.heap.size w201 w') => h.calm (CLG.out w'))
                have hex := inB_ex w201.heap.size w201
                refine wp_region_inB w201.heap.size (by kernel_rfl) (by kernel_rfl) ?_
                repeat (first
                  | go_big_quiet_skip
                  | (with_reducible refine quiet_slS rfl (.tmp 160) rfl ⟨SB, 2, none⟩ (by kernel_rfl) b4 y4.length d4 FP.out ?_ (by kernel_rfl); simp only [Act.put, List.setIfInBounds_toArray, List.set_cons_zero, List.set_cons_succ])
                  | (with_reducible refine quiet_int rfl (.tmp 163) rfl ⟨SB, 0, none⟩ (by kernel_rfl) ((i : Int)) FI.out ?_ (by kernel_rfl); simp only [Act.put, List.setIfInBounds_toArray, List.set_cons_zero, List.set_cons_succ])
                  | go_big_quiet_step ((first | (intro hw'; exact CQ.out _ hw') | (intro _; rfl))))
                refine wpQuiet_nil ?_
                intro wZ hwZ
                have hZZ : Below w201.heap.size w201 wZ := hwZ
                have B202 := Lib.hid (show Below w.heap.size w wZ from Below.trans B201.out (Below.mono hZZ (Below.size B201.out)))
                have GS_202 := Lib.hid ((Below.block hZZ S LS_201.out).trans GS_201.out)
                have LS_202 := Lib.hid (Nat.lt_of_lt_of_le LS_201.out (Below.size hZZ))
                have GM_202 := Lib.hid ((Below.block hZZ M LM_201.out).trans GM_201.out)
                have LM_202 := Lib.hid (Nat.lt_of_lt_of_le LM_201.out (Below.size hZZ))
                have GSB_202 := Lib.hid ((Below.block hZZ SB LSB_201.out).trans GSB_201.out)
                have LSB_202 := Lib.hid (Nat.lt_of_lt_of_le LSB_201.out (Below.size hZZ))
                have GU_202 := Lib.hid ((Below.block hZZ U LU_201.out).trans GU_201.out)
                have LU_202 := Lib.hid (Nat.lt_of_lt_of_le LU_201.out (Below.size hZZ))
                clear hZZ hwZ
                go_upto_region 42 with fail
                have LMU := Lib.hid (show M < U by rw [HU.out]; exact LM_200.out)
                have LSU := Lib.hid (show SB < U by rw [HU.out]; exact LSB_200.out)
                obtain ⟨K1, hK1⟩ : ∃ z, z = wkey x3 x4 := ⟨_, rfl⟩
                have K1L := Lib.hid (show K1.length = 32 by rw [hK1]; exact wkey_length _ _)
                have HK1 := Lib.hid hK1
                obtain ⟨K2, hK2⟩ : ∃ z, z = tfold K1 i n y4 := ⟨_, rfl⟩
                have K2L := Lib.hid (show K2.length = 32 by rw [hK2]; exact tfold_length _ _ _ _ K1L.out)
                have HK2 := Lib.hid hK2
                clear hK1 hK2
                obtain ⟨wd, hwd⟩ : ∃ z, z = wZ.drew := ⟨_, rfl⟩
                have hdr : Below wZ.heap.size wZ wd := by rw [hwd]; exact (Below.refl _ _).drew
                refine wp_region_held_drew (S := fun w' => Below U wd w') (by kernel_rfl) (by rw [← hwd]; exact Below.refl _ _) (fun hHeld => ?_)
                rw [← hwd] at hHeld ⊢
                clear hwd
                have B203 := Lib.hid (show Below w.heap.size w wd from Below.trans B202.out (Below.mono hdr (Below.size B202.out)))
                have GS_203 := Lib.hid ((Below.block hdr S LS_202.out).trans GS_202.out)
                have LS_203 := Lib.hid (Nat.lt_of_lt_of_le LS_202.out (Below.size hdr))
                have GM_203 := Lib.hid ((Below.block hdr M LM_202.out).trans GM_202.out)
                have LM_203 := Lib.hid (Nat.lt_of_lt_of_le LM_202.out (Below.size hdr))
                have GSB_203 := Lib.hid ((Below.block hdr SB LSB_202.out).trans GSB_202.out)
                have LSB_203 := Lib.hid (Nat.lt_of_lt_of_le LSB_202.out (Below.size hdr))
                have GU_203 := Lib.hid ((Below.block hdr U LU_202.out).trans GU_202.out)
                have LU_203 := Lib.hid (Nat.lt_of_lt_of_le LU_202.out (Below.size hdr))
                clear hdr
                have BV203 := Lib.hid (Below.refl U wd)
                refine wpAnyH_take (i := 0) (oi := _) (v := _) rfl (by kernel_rfl) (by kernel_rfl) (by kernel_rfl) (fun _ _ _ h => h) (yieldsIf_load_mid (by rfl) _ _ rfl _ _ rfl (x3.map vB) _ (fun w hw => range_of_row ((Below.block hw M LMU.out).trans GM_203.out)) Tryd.underlying23 rfl (by rw [List.length_map, ML.out]; exact dig_size)) hHeld ?_
                simp only [Act.put, List.getElem_toArray, List.getElem_cons_zero, List.getElem_cons_succ, List.setIfInBounds_toArray, List.set_cons_zero, List.set_cons_succ]
                refine wpAnyH_take (i := 1) (oi := _) (v := .pointer (some ⟨SB, 1, none⟩)) rfl (by kernel_rfl) (by kernel_rfl) (by kernel_rfl) (fun _ _ _ h => h) (Or.inl ⟨by rfl, fun w hw => by go_simp⟩) hHeld ?_
                simp only [Act.put, List.getElem_toArray, List.getElem_cons_zero, List.getElem_cons_succ, List.setIfInBounds_toArray, List.set_cons_zero, List.set_cons_succ]
                refine wpAnyH_take (i := 2) (oi := _) (v := .slice a4 x4.length c4) rfl (by kernel_rfl) (by kernel_rfl) (by kernel_rfl) (fun _ _ _ h => h) (Or.inl ⟨by rfl, fun w hw => by have hcc := (cellQ ((Below.block hw SB LSU.out).trans GSB_203.out)).2.1; go_simp⟩) hHeld ?_
                simp only [Act.put, List.getElem_toArray, List.getElem_cons_zero, List.getElem_cons_succ, List.setIfInBounds_toArray, List.set_cons_zero, List.set_cons_succ]
                refine wpAnyH_take (i := 4) (oi := _) (v := .pointer (some ⟨SB, 0, none⟩)) rfl (by kernel_rfl) (by kernel_rfl) (by kernel_rfl) (fun _ _ _ h => h) (Or.inl ⟨by rfl, fun w hw => by go_simp⟩) hHeld ?_
                simp only [Act.put, List.getElem_toArray, List.getElem_cons_zero, List.getElem_cons_succ, List.setIfInBounds_toArray, List.set_cons_zero, List.set_cons_succ]
                refine wpAnyH_take (i := 5) (oi := _) (v := .int .i64 (i : Int)) rfl (by kernel_rfl) (by kernel_rfl) (by kernel_rfl) (fun _ _ _ h => h) (Or.inl ⟨by rfl, fun w hw => by have hcc := (cellQ ((Below.block hw SB LSU.out).trans GSB_203.out)).1; go_simp⟩) hHeld ?_
                simp only [Act.put, List.getElem_toArray, List.getElem_cons_zero, List.getElem_cons_succ, List.setIfInBounds_toArray, List.set_cons_zero, List.set_cons_succ]
                refine wpAnyH_take (i := 6) (oi := _) (v := .int .i64 (n : Int)) rfl (by kernel_rfl) (by kernel_rfl) (by kernel_rfl) (fun _ _ _ h => h) (Or.inl ⟨by rfl, fun w hw => by go_simp⟩) hHeld ?_
                simp only [Act.put, List.getElem_toArray, List.getElem_cons_zero, List.getElem_cons_succ, List.setIfInBounds_toArray, List.set_cons_zero, List.set_cons_succ]
                refine wpAnyH_take (i := 7) (oi := _) (v := .pointer (some ⟨SB, 2, none⟩)) rfl (by kernel_rfl) (by kernel_rfl) (by kernel_rfl) (fun _ _ _ h => h) (Or.inl ⟨by rfl, fun w hw => by go_simp⟩) hHeld ?_
                simp only [Act.put, List.getElem_toArray, List.getElem_cons_zero, List.getElem_cons_succ, List.setIfInBounds_toArray, List.set_cons_zero, List.set_cons_succ]
                refine wpAnyH_take (i := 8) (oi := _) (v := .slice b4 y4.length d4) rfl (by kernel_rfl) (by kernel_rfl) (by kernel_rfl) (fun _ _ _ h => h) (Or.inl ⟨by rfl, fun w hw => by have hcc := (cellQ ((Below.block hw SB LSU.out).trans GSB_203.out)).2.2; go_simp⟩) hHeld ?_
                simp only [Act.put, List.getElem_toArray, List.getElem_cons_zero, List.getElem_cons_succ, List.setIfInBounds_toArray, List.set_cons_zero, List.set_cons_succ]
                refine wpAnyH_ready (rs := [3]) (by kernel_rfl) (by simp) ?_
                refine AllReadyH.cons (o := _) rfl (fun K hK => ?_) AllReadyH.nil
                have HK := Lib.hid hK
                clear hK
                go_simp
                go_at_call 25
                refine (RWKey_z x3 ML.out x4 H67.out N4.out a4 c4 e4 wd (R4.out.below B203.out) K1 HK1.out).mono ?_
                rintro e w204 ⟨rfl, hb204⟩
                have BV204 := Lib.hid (Below.trans BV203.out (Below.mono hb204 (Nat.le_of_lt LU_203.out)))
                have B204 := Lib.hid (show Below w.heap.size w w204 from Below.trans B203.out (Below.mono hb204 (Below.size B203.out)))
                have GS_204 := Lib.hid ((Below.block hb204 S LS_203.out).trans GS_203.out)
                have LS_204 := Lib.hid (Nat.lt_of_lt_of_le LS_203.out (Below.size hb204))
                have GM_204 := Lib.hid ((Below.block hb204 M LM_203.out).trans GM_203.out)
                have LM_204 := Lib.hid (Nat.lt_of_lt_of_le LM_203.out (Below.size hb204))
                have GSB_204 := Lib.hid ((Below.block hb204 SB LSB_203.out).trans GSB_203.out)
                have LSB_204 := Lib.hid (Nat.lt_of_lt_of_le LSB_203.out (Below.size hb204))
                have GU_204 := Lib.hid ((Below.block hb204 U LU_203.out).trans GU_203.out)
                have LU_204 := Lib.hid (Nat.lt_of_lt_of_le LU_203.out (Below.size hb204))
                clear hb204
                dsimp only
                refine HK.out _ _ BV204.out ?_
                clear HK K hHeld
                try simp only [Act.put, List.getElem_toArray, List.getElem_cons_zero, List.getElem_cons_succ, List.setIfInBounds_toArray, List.set_cons_zero, List.set_cons_succ]
                intro hHeld
                have HRF := Lib.hid (RFolded_calls n n i (Nat.le_refl _) HN1.out (by have := HN16.out; omega) (by have := HIN.out; rw [← HN.out] at this; exact this) K1 y4 K1L.out O4.out HPL.out b4 d4 f4 K4.out.1 K4.out.2 w204 (S4.out.below B204.out))
                rw [← HK2.out] at HRF
                refine wpAnyH_ready (rs := [9]) (by kernel_rfl) (by simp) ?_
                refine AllReadyH.cons (o := _) rfl (fun K hK => ?_) AllReadyH.nil
                have HK := Lib.hid hK
                clear hK
                go_simp
                go_at_call 24
                refine (HRF.out).mono ?_
                rintro e w205 ⟨rfl, hb205⟩
                have BV205 := Lib.hid (Below.trans BV204.out (Below.mono hb205 (Nat.le_of_lt LU_204.out)))
                have B205 := Lib.hid (show Below w.heap.size w w205 from Below.trans B204.out (Below.mono hb205 (Below.size B204.out)))
                have GS_205 := Lib.hid ((Below.block hb205 S LS_204.out).trans GS_204.out)
                have LS_205 := Lib.hid (Nat.lt_of_lt_of_le LS_204.out (Below.size hb205))
                have GM_205 := Lib.hid ((Below.block hb205 M LM_204.out).trans GM_204.out)
                have LM_205 := Lib.hid (Nat.lt_of_lt_of_le LM_204.out (Below.size hb205))
                have GSB_205 := Lib.hid ((Below.block hb205 SB LSB_204.out).trans GSB_204.out)
                have LSB_205 := Lib.hid (Nat.lt_of_lt_of_le LSB_204.out (Below.size hb205))
                have GU_205 := Lib.hid ((Below.block hb205 U LU_204.out).trans GU_204.out)
                have LU_205 := Lib.hid (Nat.lt_of_lt_of_le LU_204.out (Below.size hb205))
                clear HRF
                clear hb205
                dsimp only
                refine HK.out _ _ BV205.out ?_
                clear HK K hHeld
                try simp only [Act.put, List.getElem_toArray, List.getElem_cons_zero, List.getElem_cons_succ, List.setIfInBounds_toArray, List.set_cons_zero, List.set_cons_succ]
                intro hHeld
                obtain ⟨w206, hw206⟩ : ∃ z, z = w205.setRow U (dV K2) := ⟨_, rfl⟩
                have hon : Only w205 w206 U := by rw [hw206]; exact Only.setRow _ _ _
                have hbX : w.heap.size ≤ U := by rw [HU.out]; exact Below.size B200.out
                have B206 := Lib.hid (show Below w.heap.size w w206 by rw [hw206]; exact below_setRowW B205.out hbX _)
                have GS_206 := Lib.hid ((hon.2 S (by rw [HU.out]; exact Nat.ne_of_lt LS_200.out)).trans GS_205.out)
                have LS_206 := Lib.hid (show S < w206.heap.size by rw [hon.1]; exact LS_205.out)
                have GM_206 := Lib.hid ((hon.2 M (by rw [HU.out]; exact Nat.ne_of_lt LM_200.out)).trans GM_205.out)
                have LM_206 := Lib.hid (show M < w206.heap.size by rw [hon.1]; exact LM_205.out)
                have GSB_206 := Lib.hid (hon.blk GU_205.out GSB_205.out (by decide))
                have LSB_206 := Lib.hid (show SB < w206.heap.size by rw [hon.1]; exact LSB_205.out)
                have GU_206 := Lib.hid (show w206.heap[U]? = some (.cells (dV K2) 23 (0, 0)) by rw [hw206]; exact setRow_heap _ _ _ _ _ _ GU_205.out)
                have LU_206 := Lib.hid (show U < w206.heap.size by rw [hon.1]; exact LU_205.out)
                have Hw206 := Lib.hid hw206
                clear hw206 hon hbX
                have BV206 := Lib.hid (show Below U wd w206 by rw [Hw206.out]; exact below_setRowW BV205.out (Nat.le_refl _) _)
                refine wpAnyH_ready (rs := [10]) (by kernel_rfl) (by simp) ?_
                refine AllReadyH.cons (o := _) rfl (fun K hK => ?_) AllReadyH.nil
                have HK := Lib.hid hK
                clear hK
                refine stepDig rfl (.tmp 25) (.tmp 180) rfl U K2 K2L.out (by rfl) (by rfl) _ (dV_size ZL.out) _ GU_205.out ?_
                rw [← Hw206.out]
                refine HK.out _ _ BV206.out ?_
                clear HK K hHeld
                try simp only [Act.put, List.getElem_toArray, List.getElem_cons_zero, List.getElem_cons_succ, List.setIfInBounds_toArray, List.set_cons_zero, List.set_cons_succ]
                intro hHeld
                refine wpAnyH_done (by kernel_rfl) ?_ _
                clear hHeld
                have HRK := Lib.hid (show ∀ w', Rd w' a4 e4 (x4.flatten.map vB) → Rd w' b4 f4 (y4.flatten.map vB) → RoundsAt w' → _ from fun w' hr hp ho => Recover_z x3 ML.out x4 N4.out H67.out h h rfl HH.out n HN.out i i rfl (by rw [HN.out]; exact HIN.out) a4 b4 c4 y4.length d4 e4 f4 y4 O4.out HPL.out rfl w' hr hp ho)
                rw [← HK1.out, ← HK2.out] at HRK
                have HC67 := Lib.hid (show (67 : Nat) = x4.length from H67.out.symm)
                rw [HC67.out] at HRK
                have HRC := Lib.hid (HRK.out w206 (R4.out.below B206.out) (S4.out.below B206.out) (RO.out.at_ B206.out))
                go_wp2_with (first
                  | (refine at_ld 23 (.tmp 8) rfl ?_; (refine ld_digG rfl (.tmp 8) rfl (M) 0 (by rfl) x3 ML.out (range_of_row GM_206.out) ?_); simp only [Act.put, List.setIfInBounds_toArray, List.set_cons_zero, List.set_cons_succ])
                  | (refine at_ld 33 (.tmp 9) rfl ?_; (refine ld_sig rfl (.tmp 9) rfl SB (by rfl) (.int .i64 (i : Int)) (.slice a4 x4.length c4) (.slice b4 y4.length d4) _ _ GSB_206.out ?_); simp only [Act.put, List.setIfInBounds_toArray, List.set_cons_zero, List.set_cons_succ]))
                refine (HRC.out).mono ?_
                rintro e w207 ⟨rfl, hb207⟩
                have B207 := Lib.hid (show Below w.heap.size w w207 from Below.trans B206.out (Below.mono hb207 (Below.size B206.out)))
                have GS_207 := Lib.hid ((Below.block hb207 S LS_206.out).trans GS_206.out)
                have LS_207 := Lib.hid (Nat.lt_of_lt_of_le LS_206.out (Below.size hb207))
                have GM_207 := Lib.hid ((Below.block hb207 M LM_206.out).trans GM_206.out)
                have LM_207 := Lib.hid (Nat.lt_of_lt_of_le LM_206.out (Below.size hb207))
                have GSB_207 := Lib.hid ((Below.block hb207 SB LSB_206.out).trans GSB_206.out)
                have LSB_207 := Lib.hid (Nat.lt_of_lt_of_le LSB_206.out (Below.size hb207))
                have GU_207 := Lib.hid ((Below.block hb207 U LU_206.out).trans GU_206.out)
                have LU_207 := Lib.hid (Nat.lt_of_lt_of_le LU_206.out (Below.size hb207))
                clear HRC
                clear hb207
                obtain ⟨Y, hY⟩ : ∃ z, z = w207.heap.size := ⟨_, rfl⟩
                obtain ⟨w208, hw208⟩ : ∃ z, z = w207.alloc (.cells (dV K2) 23) := ⟨_, rfl⟩
                have st208 : Below w207.heap.size w207 w208 := by rw [hw208]; exact (Below.refl _ _).alloc (Nat.le_refl _) _
                have B208 := Lib.hid (show Below w.heap.size w w208 from Below.trans B207.out (Below.mono st208 (Below.size B207.out)))
                have GS_208 := Lib.hid ((Below.block st208 S LS_207.out).trans GS_207.out)
                have LS_208 := Lib.hid (Nat.lt_of_lt_of_le LS_207.out (Below.size st208))
                have GM_208 := Lib.hid ((Below.block st208 M LM_207.out).trans GM_207.out)
                have LM_208 := Lib.hid (Nat.lt_of_lt_of_le LM_207.out (Below.size st208))
                have GSB_208 := Lib.hid ((Below.block st208 SB LSB_207.out).trans GSB_207.out)
                have LSB_208 := Lib.hid (Nat.lt_of_lt_of_le LSB_207.out (Below.size st208))
                have GU_208 := Lib.hid ((Below.block st208 U LU_207.out).trans GU_207.out)
                have LU_208 := Lib.hid (Nat.lt_of_lt_of_le LU_207.out (Below.size st208))
                have GY_208 := Lib.hid (show w208.heap[Y]? = some (.cells (dV K2) 23 (0, 0)) by rw [hw208, hY]; exact heap_alloc_new _ _)
                have LY_208 := Lib.hid (lt_of_heap GY_208.out)
                have HY := Lib.hid hY
                have Hw208 := Lib.hid hw208
                clear hY hw208 st208
                go_wp2_with (first
                  | (refine at_st 23 (.tmp 26) (.tmp 186) rfl ?_; (refine st_new rfl (.tmp 26) (.tmp 186) rfl K2 K2L.out (by rfl) _ _ (by rfl) (by rfl) ?_); rw [← HY.out, ← Hw208.out]))
                refine (((Error_nil 0 true (by decide) w208).mono fun r w' h => (⟨h.1, by rw [← h.2]; exact Below.refl _ _⟩ : r = .returned (.bool true) ∧ Below w208.heap.size w208 w'))).mono ?_
                rintro e w209 ⟨rfl, hb209⟩
                have B209 := Lib.hid (show Below w.heap.size w w209 from Below.trans B208.out (Below.mono hb209 (Below.size B208.out)))
                have GS_209 := Lib.hid ((Below.block hb209 S LS_208.out).trans GS_208.out)
                have LS_209 := Lib.hid (Nat.lt_of_lt_of_le LS_208.out (Below.size hb209))
                have GM_209 := Lib.hid ((Below.block hb209 M LM_208.out).trans GM_208.out)
                have LM_209 := Lib.hid (Nat.lt_of_lt_of_le LM_208.out (Below.size hb209))
                have GSB_209 := Lib.hid ((Below.block hb209 SB LSB_208.out).trans GSB_208.out)
                have LSB_209 := Lib.hid (Nat.lt_of_lt_of_le LSB_208.out (Below.size hb209))
                have GU_209 := Lib.hid ((Below.block hb209 U LU_208.out).trans GU_208.out)
                have LU_209 := Lib.hid (Nat.lt_of_lt_of_le LU_208.out (Below.size hb209))
                have GY_209 := Lib.hid ((Below.block hb209 Y LY_208.out).trans GY_208.out)
                have LY_209 := Lib.hid (Nat.lt_of_lt_of_le LY_208.out (Below.size hb209))
                clear hb209
                go_wp2_with (first
                  | (refine at_ld 23 (.tmp 26) rfl ?_; (refine ld_digG rfl (.tmp 26) rfl (Y) 0 (by rfl) K2 K2L.out (range_of_row GY_209.out) ?_); simp only [Act.put, List.setIfInBounds_toArray, List.set_cons_zero, List.set_cons_succ])
                  | (refine at_ld 23 (.tmp 25) rfl ?_; (refine ld_digG rfl (.tmp 25) rfl (U) 0 (by rfl) K2 K2L.out (range_of_row GU_209.out) ?_); simp only [Act.put, List.setIfInBounds_toArray, List.set_cons_zero, List.set_cons_succ])
                  | (refine at_bin .eql 23 (.tmp 193) (.tmp 194) _ rfl ?_; (refine eq_digG rfl (.tmp 193) (.tmp 194) _ rfl K2 K2 (by rfl) (by rfl) K2L.out K2L.out ?_); rw [beq_self_eq_true]; simp only [Act.put, List.setIfInBounds_toArray, List.set_cons_zero, List.set_cons_succ]))
                go_ret
                exact ⟨rfl, B209.out⟩
              · have HPL := Lib.hid (show y4.length ≠ tlong i (2 ^ h) by rw [← HN.out]; exact hpl)
                have p1 : ((y4.length : Int) != ((tlong i n : Nat) : Int)) = true := by simp; omega
                have p2 : (y4.length != tlong i n) = true := by simp [hpl]
                clear hpl hbi
                have B200 := Lib.hid HI.out.2.2.2.2.2
                have LR_200 := Lib.hid HI.out.2.1
                have GS_200 := Lib.hid HI.out.2.2.1
                have LS_200 := Lib.hid (lt_of_heap GS_200.out)
                have GM_200 := Lib.hid HI.out.2.2.2.1
                have LM_200 := Lib.hid (lt_of_heap GM_200.out)
                have GSB_200 := Lib.hid HI.out.2.2.2.2.1
                have LSB_200 := Lib.hid (lt_of_heap GSB_200.out)
                clear HI
                go_upto_region 34 with fail
                obtain ⟨U, hU⟩ : ∃ z, z = wA.heap.size := ⟨_, rfl⟩
                obtain ⟨w201, hw201⟩ : ∃ z, z = wA.alloc (.cells (dV Z) 23) := ⟨_, rfl⟩
                have st201 : Below wA.heap.size wA w201 := by rw [hw201]; exact (Below.refl _ _).alloc (Nat.le_refl _) _
                have B201 := Lib.hid (show Below w.heap.size w w201 from Below.trans B200.out (Below.mono st201 (Below.size B200.out)))
                have GS_201 := Lib.hid ((Below.block st201 S LS_200.out).trans GS_200.out)
                have LS_201 := Lib.hid (Nat.lt_of_lt_of_le LS_200.out (Below.size st201))
                have GM_201 := Lib.hid ((Below.block st201 M LM_200.out).trans GM_200.out)
                have LM_201 := Lib.hid (Nat.lt_of_lt_of_le LM_200.out (Below.size st201))
                have GSB_201 := Lib.hid ((Below.block st201 SB LSB_200.out).trans GSB_200.out)
                have LSB_201 := Lib.hid (Nat.lt_of_lt_of_le LSB_200.out (Below.size st201))
                have GU_201 := Lib.hid (show w201.heap[U]? = some (.cells (dV Z) 23 (0, 0)) by rw [hw201, hU]; exact heap_alloc_new _ _)
                have LU_201 := Lib.hid (lt_of_heap GU_201.out)
                have HU := Lib.hid hU
                have Hw201 := Lib.hid hw201
                clear hU hw201 st201
                go_upto_region 35 with fail
                rw [ZT.out, ← HU.out, ← Hw201.out]
                have u0 := (cellQ GSB_201.out).1
                have u1 := (cellQ GSB_201.out).2.1
                have u2 := (cellQ GSB_201.out).2.2
                go_upto_region 39 with fail
                have FP := Lib.hid (fun w' (h : InB w201.heap.size w201 w') => (Below.cell h (p := ⟨SB, 2, none⟩) LSB_201.out).trans u2)
                have FI := Lib.hid (fun w' (h : InB w201.heap.size w201 w') => (Below.cell h (p := ⟨SB, 0, none⟩) LSB_201.out).trans u0)
                clear u0 u1 u2
                have CQ := Lib.hid (fun w' (h : InB w201.heap.size w201 w') => h.calm (CLG.out w'))
                have hex := inB_ex w201.heap.size w201
                refine wp_region_inB w201.heap.size (by kernel_rfl) (by kernel_rfl) ?_
                repeat (first
                  | go_big_quiet_skip
                  | (with_reducible refine quiet_slS rfl (.tmp 160) rfl ⟨SB, 2, none⟩ (by kernel_rfl) b4 y4.length d4 FP.out ?_ (by kernel_rfl); simp only [Act.put, List.setIfInBounds_toArray, List.set_cons_zero, List.set_cons_succ])
                  | (with_reducible refine quiet_int rfl (.tmp 163) rfl ⟨SB, 0, none⟩ (by kernel_rfl) ((i : Int)) FI.out ?_ (by kernel_rfl); simp only [Act.put, List.setIfInBounds_toArray, List.set_cons_zero, List.set_cons_succ])
                  | go_big_quiet_step ((first | (intro hw'; exact CQ.out _ hw') | (intro _; rfl))))
                refine wpQuiet_nil ?_
                intro wZ hwZ
                have hZZ : Below w201.heap.size w201 wZ := hwZ
                have B202 := Lib.hid (show Below w.heap.size w wZ from Below.trans B201.out (Below.mono hZZ (Below.size B201.out)))
                have GS_202 := Lib.hid ((Below.block hZZ S LS_201.out).trans GS_201.out)
                have LS_202 := Lib.hid (Nat.lt_of_lt_of_le LS_201.out (Below.size hZZ))
                have GM_202 := Lib.hid ((Below.block hZZ M LM_201.out).trans GM_201.out)
                have LM_202 := Lib.hid (Nat.lt_of_lt_of_le LM_201.out (Below.size hZZ))
                have GSB_202 := Lib.hid ((Below.block hZZ SB LSB_201.out).trans GSB_201.out)
                have LSB_202 := Lib.hid (Nat.lt_of_lt_of_le LSB_201.out (Below.size hZZ))
                have GU_202 := Lib.hid ((Below.block hZZ U LU_201.out).trans GU_201.out)
                have LU_202 := Lib.hid (Nat.lt_of_lt_of_le LU_201.out (Below.size hZZ))
                clear hZZ hwZ
                go_upto_region 43 with fail
                have HRC := Lib.hid (SRecover_path x3 ML.out x4 H67.out N4.out h HH.out i HIN.out a4 b4 c4 y4.length d4 _ HPL.out wZ (R4.out.below B202.out) (RO.out.at_ B202.out))
                rw [← HZ.out] at HRC
                go_wp2_with (first
                  | (refine at_ld 23 (.tmp 8) rfl ?_; (refine ld_digG rfl (.tmp 8) rfl (M) 0 (by rfl) x3 ML.out (range_of_row GM_202.out) ?_); simp only [Act.put, List.setIfInBounds_toArray, List.set_cons_zero, List.set_cons_succ])
                  | (refine at_ld 33 (.tmp 9) rfl ?_; (refine ld_sig rfl (.tmp 9) rfl SB (by rfl) (.int .i64 (i : Int)) (.slice a4 x4.length c4) (.slice b4 y4.length d4) _ _ GSB_202.out ?_); simp only [Act.put, List.setIfInBounds_toArray, List.set_cons_zero, List.set_cons_succ]))
                refine (HRC.out).mono ?_
                rintro e w203 ⟨rfl, hb203⟩
                have B203 := Lib.hid (show Below w.heap.size w w203 from Below.trans B202.out (Below.mono hb203 (Below.size B202.out)))
                have GS_203 := Lib.hid ((Below.block hb203 S LS_202.out).trans GS_202.out)
                have LS_203 := Lib.hid (Nat.lt_of_lt_of_le LS_202.out (Below.size hb203))
                have GM_203 := Lib.hid ((Below.block hb203 M LM_202.out).trans GM_202.out)
                have LM_203 := Lib.hid (Nat.lt_of_lt_of_le LM_202.out (Below.size hb203))
                have GSB_203 := Lib.hid ((Below.block hb203 SB LSB_202.out).trans GSB_202.out)
                have LSB_203 := Lib.hid (Nat.lt_of_lt_of_le LSB_202.out (Below.size hb203))
                have GU_203 := Lib.hid ((Below.block hb203 U LU_202.out).trans GU_202.out)
                have LU_203 := Lib.hid (Nat.lt_of_lt_of_le LU_202.out (Below.size hb203))
                clear HRC
                clear hb203
                obtain ⟨Y, hY⟩ : ∃ z, z = w203.heap.size := ⟨_, rfl⟩
                obtain ⟨w204, hw204⟩ : ∃ z, z = w203.alloc (.cells (dV Z) 23) := ⟨_, rfl⟩
                have st204 : Below w203.heap.size w203 w204 := by rw [hw204]; exact (Below.refl _ _).alloc (Nat.le_refl _) _
                have B204 := Lib.hid (show Below w.heap.size w w204 from Below.trans B203.out (Below.mono st204 (Below.size B203.out)))
                have GS_204 := Lib.hid ((Below.block st204 S LS_203.out).trans GS_203.out)
                have LS_204 := Lib.hid (Nat.lt_of_lt_of_le LS_203.out (Below.size st204))
                have GM_204 := Lib.hid ((Below.block st204 M LM_203.out).trans GM_203.out)
                have LM_204 := Lib.hid (Nat.lt_of_lt_of_le LM_203.out (Below.size st204))
                have GSB_204 := Lib.hid ((Below.block st204 SB LSB_203.out).trans GSB_203.out)
                have LSB_204 := Lib.hid (Nat.lt_of_lt_of_le LSB_203.out (Below.size st204))
                have GU_204 := Lib.hid ((Below.block st204 U LU_203.out).trans GU_203.out)
                have LU_204 := Lib.hid (Nat.lt_of_lt_of_le LU_203.out (Below.size st204))
                have GY_204 := Lib.hid (show w204.heap[Y]? = some (.cells (dV Z) 23 (0, 0)) by rw [hw204, hY]; exact heap_alloc_new _ _)
                have LY_204 := Lib.hid (lt_of_heap GY_204.out)
                have HY := Lib.hid hY
                have Hw204 := Lib.hid hw204
                clear hY hw204 st204
                go_wp2_with (first
                  | (refine at_st 23 (.tmp 26) (.tmp 186) rfl ?_; (refine st_new rfl (.tmp 26) (.tmp 186) rfl Z ZL.out (by rfl) _ _ (by rfl) (by rfl) ?_); rw [← HY.out, ← Hw204.out]))
                refine (Error_err 3 3 true (by decide) w204 (HG.out.at_ B204.out)).mono ?_
                rintro e w205 ⟨rfl, hb205⟩
                have B205 := Lib.hid (show Below w.heap.size w w205 from Below.trans B204.out (Below.mono hb205 (Below.size B204.out)))
                have GS_205 := Lib.hid ((Below.block hb205 S LS_204.out).trans GS_204.out)
                have LS_205 := Lib.hid (Nat.lt_of_lt_of_le LS_204.out (Below.size hb205))
                have GM_205 := Lib.hid ((Below.block hb205 M LM_204.out).trans GM_204.out)
                have LM_205 := Lib.hid (Nat.lt_of_lt_of_le LM_204.out (Below.size hb205))
                have GSB_205 := Lib.hid ((Below.block hb205 SB LSB_204.out).trans GSB_204.out)
                have LSB_205 := Lib.hid (Nat.lt_of_lt_of_le LSB_204.out (Below.size hb205))
                have GU_205 := Lib.hid ((Below.block hb205 U LU_204.out).trans GU_204.out)
                have LU_205 := Lib.hid (Nat.lt_of_lt_of_le LU_204.out (Below.size hb205))
                have GY_205 := Lib.hid ((Below.block hb205 Y LY_204.out).trans GY_204.out)
                have LY_205 := Lib.hid (Nat.lt_of_lt_of_le LY_204.out (Below.size hb205))
                clear hb205
                go_wp2_with (first
                  | (refine at_ld 23 (.tmp 26) rfl ?_; (refine ld_digG rfl (.tmp 26) rfl (Y) 0 (by rfl) Z ZL.out (range_of_row GY_205.out) ?_); simp only [Act.put, List.setIfInBounds_toArray, List.set_cons_zero, List.set_cons_succ])
                  | (refine at_ld 23 (.tmp 25) rfl ?_; (refine ld_digG rfl (.tmp 25) rfl (U) 0 (by rfl) Z ZL.out (range_of_row GU_205.out) ?_); simp only [Act.put, List.setIfInBounds_toArray, List.set_cons_zero, List.set_cons_succ])
                  | (refine at_bin .eql 23 (.tmp 193) (.tmp 194) _ rfl ?_; (refine eq_digG rfl (.tmp 193) (.tmp 194) _ rfl Z Z (by rfl) (by rfl) ZL.out ZL.out ?_); rw [beq_self_eq_true]; simp only [Act.put, List.setIfInBounds_toArray, List.set_cons_zero, List.set_cons_succ]))
                go_ret
                exact ⟨rfl, B205.out⟩
          · have H67 := Lib.hid h67
            have x1 : ((x4.length : Int) != 67) = true := by simp; omega
            have x2_ : (x4.length != 67) = true := by simp [h67]
            clear h67
            have B200 := Lib.hid HI.out.2.2.2.2.2
            have LR_200 := Lib.hid HI.out.2.1
            have GS_200 := Lib.hid HI.out.2.2.1
            have LS_200 := Lib.hid (lt_of_heap GS_200.out)
            have GM_200 := Lib.hid HI.out.2.2.2.1
            have LM_200 := Lib.hid (lt_of_heap GM_200.out)
            have GSB_200 := Lib.hid HI.out.2.2.2.2.1
            have LSB_200 := Lib.hid (lt_of_heap GSB_200.out)
            clear HI
            go_upto_region 34 with fail
            obtain ⟨U, hU⟩ : ∃ z, z = wA.heap.size := ⟨_, rfl⟩
            obtain ⟨w201, hw201⟩ : ∃ z, z = wA.alloc (.cells (dV Z) 23) := ⟨_, rfl⟩
            have st201 : Below wA.heap.size wA w201 := by rw [hw201]; exact (Below.refl _ _).alloc (Nat.le_refl _) _
            have B201 := Lib.hid (show Below w.heap.size w w201 from Below.trans B200.out (Below.mono st201 (Below.size B200.out)))
            have GS_201 := Lib.hid ((Below.block st201 S LS_200.out).trans GS_200.out)
            have LS_201 := Lib.hid (Nat.lt_of_lt_of_le LS_200.out (Below.size st201))
            have GM_201 := Lib.hid ((Below.block st201 M LM_200.out).trans GM_200.out)
            have LM_201 := Lib.hid (Nat.lt_of_lt_of_le LM_200.out (Below.size st201))
            have GSB_201 := Lib.hid ((Below.block st201 SB LSB_200.out).trans GSB_200.out)
            have LSB_201 := Lib.hid (Nat.lt_of_lt_of_le LSB_200.out (Below.size st201))
            have GU_201 := Lib.hid (show w201.heap[U]? = some (.cells (dV Z) 23 (0, 0)) by rw [hw201, hU]; exact heap_alloc_new _ _)
            have LU_201 := Lib.hid (lt_of_heap GU_201.out)
            have HU := Lib.hid hU
            have Hw201 := Lib.hid hw201
            clear hU hw201 st201
            go_upto_region 35 with fail
            rw [ZT.out, ← HU.out, ← Hw201.out]
            have u0 := (cellQ GSB_201.out).1
            have u1 := (cellQ GSB_201.out).2.1
            have u2 := (cellQ GSB_201.out).2.2
            go_upto_region 39 with fail
            have FP := Lib.hid (fun w' (h : InB w201.heap.size w201 w') => (Below.cell h (p := ⟨SB, 2, none⟩) LSB_201.out).trans u2)
            have FI := Lib.hid (fun w' (h : InB w201.heap.size w201 w') => (Below.cell h (p := ⟨SB, 0, none⟩) LSB_201.out).trans u0)
            clear u0 u1 u2
            have hex := inB_ex w201.heap.size w201
            refine wp_region_inB w201.heap.size (by kernel_rfl) (by kernel_rfl) ?_
            repeat (first
              | go_big_quiet_skip
              | go_big_quiet_step ((first | (intro _; rfl))))
            refine wpQuiet_nil ?_
            intro wZ hwZ
            have hZZ : Below w201.heap.size w201 wZ := hwZ
            have B202 := Lib.hid (show Below w.heap.size w wZ from Below.trans B201.out (Below.mono hZZ (Below.size B201.out)))
            have GS_202 := Lib.hid ((Below.block hZZ S LS_201.out).trans GS_201.out)
            have LS_202 := Lib.hid (Nat.lt_of_lt_of_le LS_201.out (Below.size hZZ))
            have GM_202 := Lib.hid ((Below.block hZZ M LM_201.out).trans GM_201.out)
            have LM_202 := Lib.hid (Nat.lt_of_lt_of_le LM_201.out (Below.size hZZ))
            have GSB_202 := Lib.hid ((Below.block hZZ SB LSB_201.out).trans GSB_201.out)
            have LSB_202 := Lib.hid (Nat.lt_of_lt_of_le LSB_201.out (Below.size hZZ))
            have GU_202 := Lib.hid ((Below.block hZZ U LU_201.out).trans GU_201.out)
            have LU_202 := Lib.hid (Nat.lt_of_lt_of_le LU_201.out (Below.size hZZ))
            clear hZZ hwZ
            go_upto_region 43 with fail
            have HRC := Lib.hid (SRecover_len x3 ML.out x4 H67.out h HH.out j4 a4 b4 c4 y4.length d4 wZ (RO.out.at_ B202.out))
            rw [← HZ.out] at HRC
            go_wp2_with (first
              | (refine at_ld 23 (.tmp 8) rfl ?_; (refine ld_digG rfl (.tmp 8) rfl (M) 0 (by rfl) x3 ML.out (range_of_row GM_202.out) ?_); simp only [Act.put, List.setIfInBounds_toArray, List.set_cons_zero, List.set_cons_succ])
              | (refine at_ld 33 (.tmp 9) rfl ?_; (refine ld_sig rfl (.tmp 9) rfl SB (by rfl) (.int .i64 j4) (.slice a4 x4.length c4) (.slice b4 y4.length d4) _ _ GSB_202.out ?_); simp only [Act.put, List.setIfInBounds_toArray, List.set_cons_zero, List.set_cons_succ]))
            refine (HRC.out).mono ?_
            rintro e w203 ⟨rfl, hb203⟩
            have B203 := Lib.hid (show Below w.heap.size w w203 from Below.trans B202.out (Below.mono hb203 (Below.size B202.out)))
            have GS_203 := Lib.hid ((Below.block hb203 S LS_202.out).trans GS_202.out)
            have LS_203 := Lib.hid (Nat.lt_of_lt_of_le LS_202.out (Below.size hb203))
            have GM_203 := Lib.hid ((Below.block hb203 M LM_202.out).trans GM_202.out)
            have LM_203 := Lib.hid (Nat.lt_of_lt_of_le LM_202.out (Below.size hb203))
            have GSB_203 := Lib.hid ((Below.block hb203 SB LSB_202.out).trans GSB_202.out)
            have LSB_203 := Lib.hid (Nat.lt_of_lt_of_le LSB_202.out (Below.size hb203))
            have GU_203 := Lib.hid ((Below.block hb203 U LU_202.out).trans GU_202.out)
            have LU_203 := Lib.hid (Nat.lt_of_lt_of_le LU_202.out (Below.size hb203))
            clear HRC
            clear hb203
            obtain ⟨Y, hY⟩ : ∃ z, z = w203.heap.size := ⟨_, rfl⟩
            obtain ⟨w204, hw204⟩ : ∃ z, z = w203.alloc (.cells (dV Z) 23) := ⟨_, rfl⟩
            have st204 : Below w203.heap.size w203 w204 := by rw [hw204]; exact (Below.refl _ _).alloc (Nat.le_refl _) _
            have B204 := Lib.hid (show Below w.heap.size w w204 from Below.trans B203.out (Below.mono st204 (Below.size B203.out)))
            have GS_204 := Lib.hid ((Below.block st204 S LS_203.out).trans GS_203.out)
            have LS_204 := Lib.hid (Nat.lt_of_lt_of_le LS_203.out (Below.size st204))
            have GM_204 := Lib.hid ((Below.block st204 M LM_203.out).trans GM_203.out)
            have LM_204 := Lib.hid (Nat.lt_of_lt_of_le LM_203.out (Below.size st204))
            have GSB_204 := Lib.hid ((Below.block st204 SB LSB_203.out).trans GSB_203.out)
            have LSB_204 := Lib.hid (Nat.lt_of_lt_of_le LSB_203.out (Below.size st204))
            have GU_204 := Lib.hid ((Below.block st204 U LU_203.out).trans GU_203.out)
            have LU_204 := Lib.hid (Nat.lt_of_lt_of_le LU_203.out (Below.size st204))
            have GY_204 := Lib.hid (show w204.heap[Y]? = some (.cells (dV Z) 23 (0, 0)) by rw [hw204, hY]; exact heap_alloc_new _ _)
            have LY_204 := Lib.hid (lt_of_heap GY_204.out)
            have HY := Lib.hid hY
            have Hw204 := Lib.hid hw204
            clear hY hw204 st204
            go_wp2_with (first
              | (refine at_st 23 (.tmp 26) (.tmp 186) rfl ?_; (refine st_new rfl (.tmp 26) (.tmp 186) rfl Z ZL.out (by rfl) _ _ (by rfl) (by rfl) ?_); rw [← HY.out, ← Hw204.out]))
            refine (Error_err 3 3 true (by decide) w204 (HG.out.at_ B204.out)).mono ?_
            rintro e w205 ⟨rfl, hb205⟩
            have B205 := Lib.hid (show Below w.heap.size w w205 from Below.trans B204.out (Below.mono hb205 (Below.size B204.out)))
            have GS_205 := Lib.hid ((Below.block hb205 S LS_204.out).trans GS_204.out)
            have LS_205 := Lib.hid (Nat.lt_of_lt_of_le LS_204.out (Below.size hb205))
            have GM_205 := Lib.hid ((Below.block hb205 M LM_204.out).trans GM_204.out)
            have LM_205 := Lib.hid (Nat.lt_of_lt_of_le LM_204.out (Below.size hb205))
            have GSB_205 := Lib.hid ((Below.block hb205 SB LSB_204.out).trans GSB_204.out)
            have LSB_205 := Lib.hid (Nat.lt_of_lt_of_le LSB_204.out (Below.size hb205))
            have GU_205 := Lib.hid ((Below.block hb205 U LU_204.out).trans GU_204.out)
            have LU_205 := Lib.hid (Nat.lt_of_lt_of_le LU_204.out (Below.size hb205))
            have GY_205 := Lib.hid ((Below.block hb205 Y LY_204.out).trans GY_204.out)
            have LY_205 := Lib.hid (Nat.lt_of_lt_of_le LY_204.out (Below.size hb205))
            clear hb205
            go_wp2_with (first
              | (refine at_ld 23 (.tmp 26) rfl ?_; (refine ld_digG rfl (.tmp 26) rfl (Y) 0 (by rfl) Z ZL.out (range_of_row GY_205.out) ?_); simp only [Act.put, List.setIfInBounds_toArray, List.set_cons_zero, List.set_cons_succ])
              | (refine at_ld 23 (.tmp 25) rfl ?_; (refine ld_digG rfl (.tmp 25) rfl (U) 0 (by rfl) Z ZL.out (range_of_row GU_205.out) ?_); simp only [Act.put, List.setIfInBounds_toArray, List.set_cons_zero, List.set_cons_succ])
              | (refine at_bin .eql 23 (.tmp 193) (.tmp 194) _ rfl ?_; (refine eq_digG rfl (.tmp 193) (.tmp 194) _ rfl Z Z (by rfl) (by rfl) ZL.out ZL.out ?_); rw [beq_self_eq_true]; simp only [Act.put, List.setIfInBounds_toArray, List.set_cons_zero, List.set_cons_succ]))
            go_ret
            exact ⟨rfl, B205.out⟩
end stampTells
end Go.Proofs.YtkioddmhjbaleaaDoor
