/- Whatever is asked of sieves, the program and the document answer alike. -/
import Derived.Test.YteikbbdkpeecaaaDoorRows
import Derived.Test.YteikbbdkpeecaaaDoorRWith
import Derived.Test.YteikbbdkpeecaaaDoorSieveNo
import Derived.Test.YteikbbdkpeecaaaDoorSame
import Derived.Test.YteikbbdkpeecaaaDoorSieveOpen2
import Derived.Test.YteikbbdkpeecaaaDoorFinalH
import Derived.Test.YteikbbdkpeecaaaDoorLaidRH
import Derived.WalkKit
import Derived.ProofKit
import Derived.OpenShut
import Derived.ShutString
import Derived.ChangeOld
import Derived.Below
namespace Go.Proofs.YteikbbdkpeecaaaDoor
open Go.ChangeShapes Go.WideShapes Go.ChangeAt Go.RowKit
open Go.ChangeMaps (open_string shut_string)
set_option linter.unusedVariables false
set_option linter.unusedSimpArgs false
namespace sieveTells

-- HOLE: the walk
theorem stepMake {P : Program} (w : World) {ops : Array Oper} {o : Oper} {a : Act} {K : Act → World → Prop} {Q : Exit → Act → World → Prop} {E : Prop}
    (hg : o.guard = none) (l c : Operand) (t : TypeId) (hop : o.op = Op.makeSlice t l c)
    (base : Nat) (e : TypeId) (i : TypeInfo) (z : Value) (size : Nat) (h1 : P.underlying t = some (.slice e)) (h2 : P.info? e = some i) (h3 : i.zero = some z) (h4 : i.size = size)
    (kl kc : IntKind) (L C : Int) (n : Nat) (hl : a.eval l = .int kl L) (hc : a.eval c = .int kc C) (hL : L = (n : Int)) (hC : C = (n : Int)) (b2 : i.bytes * n ≤ 281474976710656) (b3 : n ≤ maxLen) (b4 : base ≤ w.heap.size)
    (hK : ∀ w', w'.ownsRow base e size (.slice (some ⟨w.heap.size, 0, none⟩) n n) n (madeCells z.cells (n * size)).toList → w.grownBy w' none → K (a.put o.dst (.slice (some ⟨w.heap.size, 0, none⟩) n n)) w') :
    if Region.wanted o (yielded ops a.tmps) = true then Oper.wp P o a w K Q else E := by
  rw [if_pos (by unfold Region.wanted; rw [hg])]
  obtain ⟨w', hrun, r1, r2⟩ := run_make_full (P := P) w base t e i z size h1 h2 h3 h4 kl kc n b2 b3 b4
  subst hL
  subst hC
  unfold Oper.wp
  simp [execOp, hop, hl, hc, hrun, Result.andThen]
  exact hK _ r1 r2
theorem load_sv2 {p : Addr} {x y : Value} {w : World} (h : ∀ j v, ([x, y] : List Value)[j]? = some v → w.cell? ⟨p.block, 0 + j, none⟩ = some v) (hp : p = ⟨p.block, 0, none⟩) : (loadVar 24 p).run Tryd.prog w = .ok (.agg #[x, y]) w := by
  rw [hp]
  exact run_loadVar_mid w p.block 0 24 [x, y] _ h Tryd.underlying24 rfl (by kernel_rfl)
/-- an error as a value -/
def errV (n : Int) : Value := if n = 0 then .nilIface else .iface 25 (.int .i64 n)
theorem Err_calls (n : Int) (w : World) (hg : ErrVar w) : Calls Tryd.prog 9 #[errV n, .int .i64 n] w fun e w' => e = .returned (.bool true) ∧ Below w.heap.size w w' := by
  unfold errV
  by_cases h : n = 0
  · rw [if_pos h, h]
    exact (Error_nil 0 true (by decide) w).mono fun r w' h => ⟨h.1, by rw [← h.2]; exact Below.refl _ _⟩
  · rw [if_neg h]
    exact Error_err n n true (by simp) w hg
instance (n k : Int) : Decidable (NewOk n k) := by unfold NewOk; infer_instance
theorem New_any (n k : Int) : ∃ (L : Nat) (K E : Int), ((NewOk n k ∧ n = ((8 * L : Nat) : Int) ∧ K = k ∧ E = 0) ∨ (¬ NewOk n k ∧ L = 0 ∧ K = 0 ∧ E = 2)) ∧ L ≤ 1024 ∧ ∀ w, Calls Tryd.prog 8 #[.int .i64 n, .int .i64 k] w fun e w' => ∃ (a : Option Addr) (c e' : Nat), e = .returned (.tuple #[.agg #[.slice a L c, .int .i64 K], errV E]) ∧ Rd w' a e' ((List.replicate L (0 : UInt8)).map vB) ∧ Below w.heap.size w w' := by
  by_cases h : NewOk n k
  · have h' := h
    unfold NewOk at h'
    refine ⟨(n / 8).toNat, k, 0, .inl ⟨h, by omega, rfl, rfl⟩, by omega, fun w => ?_⟩
    have := New_ok (n / 8).toNat (by omega) (by omega) k (by omega) (by omega) w
    rw [show ((8 * (n / 8).toNat : Nat) : Int) = n by omega] at this
    exact this
  · refine ⟨0, 0, 2, .inr ⟨h, rfl, rfl, rfl⟩, by omega, fun w => (New_no n k h w).mono ?_⟩
    rintro e w' ⟨rfl, hb⟩
    exact ⟨none, 0, 0, rfl, .inl rfl, hb⟩
theorem rd_keepW {w w' : World} {a : Option Addr} {e : Nat} {l : List UInt8} {W : Nat} {p : Option Addr} {n c : Nat} {k : Int} {T : TypeId} {fr : Nat × Nat} (h : Rd w a e (l.map vB)) (hW : w.heap[W]? = some (.cells #[.slice p n c, .int .i64 k] T fr)) (hg : ∀ g, g ≠ W → w'.heap[g]? = w.heap[g]?) : Rd w' a e (l.map vB) := by
  rcases h with h | ⟨B, o, cs, f2, h0, h1, h2⟩
  · exact .inl h
  · by_cases hl : l = []
    · rw [hl]; exact .inl rfl
    · have hne : B ≠ W := fun he => by
        rw [he, hW] at h1
        simp only [Option.some.injEq, Obj.cells.injEq] at h1
        have hlt : 0 < (l.map vB).length := by rw [List.length_map]; exact List.length_pos_iff.2 hl
        have h3 := h2 0 hlt
        rw [← h1.1, List.getElem_map] at h3
        match o, h3 with
        | 0, h3 => simp [vB] at h3
        | 1, h3 => simp [vB] at h3
        | n + 2, h3 => simp at h3
      exact .inr ⟨B, o, cs, f2, h0, (hg B hne).trans h1, h2⟩
theorem rd_setW {w : World} {a : Option Addr} {e : Nat} {l : List UInt8} {W : Nat} {p : Option Addr} {n c : Nat} {k : Int} {T : TypeId} {fr : Nat × Nat} (h : Rd w a e (l.map vB)) (hW : w.heap[W]? = some (.cells #[.slice p n c, .int .i64 k] T fr)) (u v : Value) : Rd ((w.setCell ⟨W, 0, none⟩ u).setCell ⟨W, 1, none⟩ v) a e (l.map vB) :=
  rd_keepW h hW fun g hg => (Below.heap_setCell _ ⟨W, 1, none⟩ _ _ hg).trans (Below.heap_setCell _ ⟨W, 0, none⟩ _ _ hg)
theorem rd_setW1 {w : World} {a : Option Addr} {e : Nat} {l : List UInt8} {W : Nat} {p : Option Addr} {n c : Nat} {k : Int} {T : TypeId} {fr : Nat × Nat} (h : Rd w a e (l.map vB)) (hW : w.heap[W]? = some (.cells #[.slice p n c, .int .i64 k] T fr)) (v : Value) : Rd (w.setCell ⟨W, 1, none⟩ v) a e (l.map vB) :=
  rd_keepW h hW fun g hg => Below.heap_setCell _ ⟨W, 1, none⟩ _ _ hg
theorem set_two {w : World} {W : Nat} {a b : Value} {T : TypeId} {fr : Nat × Nat} (h : w.heap[W]? = some (.cells #[a, b] T fr)) (u v : Value) : ((w.setCell ⟨W, 0, none⟩ u).setCell ⟨W, 1, none⟩ v).heap[W]? = some (.cells #[u, v] T fr) := by
  have := heap_set_one (i := 1) (heap_set_one (i := 0) h u) v
  simpa using this
theorem set_snd {w : World} {W : Nat} {a b : Value} {T : TypeId} {fr : Nat × Nat} (h : w.heap[W]? = some (.cells #[a, b] T fr)) (v : Value) : (w.setCell ⟨W, 1, none⟩ v).heap[W]? = some (.cells #[a, v] T fr) := by
  have := heap_set_one (i := 1) h v
  simpa using this
theorem set_fst {w : World} {W : Nat} {a b : Value} {T : TypeId} {fr : Nat × Nat} (h : w.heap[W]? = some (.cells #[a, b] T fr)) (u : Value) : (w.setCell ⟨W, 0, none⟩ u).heap[W]? = some (.cells #[u, b] T fr) := by
  have := heap_set_one (i := 0) h u
  simpa using this
theorem hasAll_snoc (l : List UInt8) (ps : List Nat) (p : Nat) : hasAll l (ps ++ [p]) = (hasAll l ps && bitB l p) := by unfold hasAll; simp
def jt (x y : List UInt8) (k : Nat) : List UInt8 := (List.range k).map fun i => orX (x.getD i 0) (y.getD i 0)
theorem jt_succ (x y : List UInt8) (k : Nat) : jt x y (k + 1) = jt x y k ++ [orX (x.getD k 0) (y.getD k 0)] := by unfold jt; rw [List.range_succ, List.map_append]; rfl
theorem jt_all (x y : List UInt8) : jt x y x.length = joinB x y := rfl
structure JInv (wM wr : World) (W : Nat) (va : Option Addr) (k cv K : Nat) (x y : List UInt8) : Prop where
  cell : wr.heap[W]? = some (.cells #[.slice va k cv, .int .i64 (K : Int)] 24 (0, 0))
  own : wr.ownsRow wM.heap.size 5 1 (.slice va k cv) k ((jt x y k).map vB)
  bel : Below W wM wr
def F43 (j : Nat) : Bool := j == 16
theorem F43_in : ∀ j, F43 j = true → j ∈ [16] := fun j h => by simp [F43] at h; simp [h]
theorem Join_ok2 (x y : List UInt8) (hL0 : 0 < x.length) (hL : x.length ≤ 1024) (hy : y.length = x.length) (K : Nat) (hK1 : 1 ≤ K) (hK : K ≤ 8) (a : Option Addr) (c e : Nat) (b : Option Addr) (d f : Nat) (w : World) (h : TwoAt w a e x b f y) :
    Calls Tryd.prog 18 #[.agg #[.slice a x.length c, .int .i64 (K : Int)], .agg #[.slice b y.length d, .int .i64 (K : Int)]] w fun e w' => ∃ a' c' e', e = .returned (.tuple #[.agg #[.slice a' x.length c', .int .i64 (K : Int)], .nilIface]) ∧ Rd w' a' e' ((joinB x y).map vB) ∧ Below w.heap.size w w' := by
  have := Join_ok x y hL0 hL hy K hK1 hK a c e b d f w h
  rw [← hy] at this ⊢
  exact this
theorem BytesN_calls (w : World) : Calls Tryd.prog 10 #[.slice none 0 0, .slice none 0 0] w fun e w' => e = .returned (.bool true) ∧ Below w.heap.size w w' := by
  refine (Bytes_calls [] [] none none 0 0 0 0 w (.inl rfl) (.inl rfl) (by decide)).mono ?_
  rintro e w' ⟨rfl, n, rfl⟩
  exact ⟨rfl, below_drewN (Below.refl _ _) n⟩
theorem BytesE_calls (xs : List UInt8) (n : Nat) (hn : xs.length = n) (a b : Option Addr) (ca cb ea eb : Nat) (w : World) (ha : Rd w a ea (xs.map vB)) (hb : Rd w b eb (xs.map vB)) (hx : n ≤ 9223372036854775807) : Calls Tryd.prog 10 #[.slice a n ca, .slice b n cb] w fun e w' => e = .returned (.bool true) ∧ Below w.heap.size w w' := by
  subst hn
  refine (Bytes_calls xs xs a b ca cb ea eb w ha hb hx).mono ?_
  rintro e w' ⟨rfl, n, rfl⟩
  exact ⟨by simp, below_drewN (Below.refl _ _) n⟩
set_option maxRecDepth 20000 in
set_option maxHeartbeats 16000000 in
theorem walk (a0 a1 : Int) (x2 : List UInt8) (a2 : Option Addr) (c2 e2 : Nat) (j2 : Int) (x3 : List UInt8) (a3 : Option Addr) (c3 e3 : Nat) (j3 : Int) (x4 : List UInt8) (a4 : Option Addr) (c4 e4 : Nat) (w : World) (h0 : -9223372036854775808 ≤ a0 ∧ a0 ≤ 9223372036854775807) (h1 : -9223372036854775808 ≤ a1 ∧ a1 ≤ 9223372036854775807) (l2 : x2.length ≤ reachBytes) (b2 : -9223372036854775808 ≤ j2 ∧ j2 ≤ 9223372036854775807) (r2 : Rd w a2 e2 (x2.map vB)) (l3 : x3.length ≤ reachBytes) (b3 : -9223372036854775808 ≤ j3 ∧ j3 ≤ 9223372036854775807) (r3 : Rd w a3 e3 (x3.map vB)) (l4 : x4.length ≤ 140737488351232) (r4 : Rd w a4 e4 (x4.map vB)) (hro : RoundsAt w) (hg : ErrVar w) :
    Calls Tryd.prog 3 #[.int .i64 a0, .int .i64 a1, .agg #[.slice a2 x2.length c2, .int .i64 j2], .agg #[.slice a3 x3.length c3, .int .i64 j3], .slice a4 x4.length c4] w fun e w' => e = .returned (.bool true) ∧ Below w.heap.size w w' := by
  have l2 : x2.length ≤ 140737488351232 := l2
  have l3 : x3.length ≤ 140737488351232 := l3
  obtain ⟨L, K1, E1, hnew, hL, NC⟩ := New_any a0 a1
  obtain ⟨H, hH⟩ : ∃ H, H = w.heap.size := ⟨_, rfl⟩
  obtain ⟨v0, hv0⟩ : ∃ z, z = w.alloc (.cells #[.slice a2 x2.length c2, .int .i64 j2] 24) := ⟨_, rfl⟩
  obtain ⟨v1, hv1⟩ : ∃ z, z = v0.alloc (.cells #[.slice a3 x3.length c3, .int .i64 j3] 24) := ⟨_, rfl⟩
  have q0 : v0.heap.size = H + 1 := by rw [hv0, hH]; exact World.size_alloc _ _
  have q1 : v1.heap.size = H + 1 + 1 := by rw [hv1, World.size_alloc, q0]
  have s0 : Below (H) w v0 := by rw [hv0, hH]; exact (Below.refl _ _).alloc (Nat.le_refl _) _
  have s1 : Below (H + 1) v0 v1 := by rw [hv1, ← q0]; exact (Below.refl _ _).alloc (Nat.le_refl _) _
  have t1 : Below (H + 1 + 1) v1 v1 := Below.refl _ _
  have t0 : Below (H + 1) v0 v1 := s1.trans (t1.mono (by omega))
  have bL : Below H w v1 := s0.trans (t0.mono (by omega))
  have g0 : v1.heap[H]? = some (.cells #[.slice a2 x2.length c2, .int .i64 j2] 24 (0, 0)) := by
    have g : v0.heap[H]? = some (.cells #[.slice a2 x2.length c2, .int .i64 j2] 24 (0, 0)) := by rw [hv0, hH]; exact heap_alloc_new _ _
    exact (t0.block _ (by omega)).trans g
  have g1 : v1.heap[H + 1]? = some (.cells #[.slice a3 x3.length c3, .int .i64 j3] 24 (0, 0)) := by
    have g : v1.heap[H + 1]? = some (.cells #[.slice a3 x3.length c3, .int .i64 j3] 24 (0, 0)) := by rw [hv1, ← q0]; exact heap_alloc_new _ _
    exact (t1.block _ (by omega)).trans g
  have bW : Below w.heap.size w v1 := by rw [← hH]; exact bL
  have hsz : H + 1 < v1.heap.size := by omega
  have HH := Lib.hid hH
  have HW0 := Lib.hid hv0
  have HW1 := Lib.hid hv1
  have BL := Lib.hid bL
  have BW := Lib.hid bW
  have QL := Lib.hid q1
  have G0 := Lib.hid g0
  have G1 := Lib.hid g1
  clear hH hv0 hv1 q0 q1 s0 s1 t0 t1 g0 g1 bL bW
  have R2 := Lib.hid (r2.below BW.out)
  have R3 := Lib.hid (r3.below BW.out)
  have R4 := Lib.hid (r4.below BW.out)
  have RO := Lib.hid (hro.at_ BW.out)
  have EG := Lib.hid (hg.at_ BW.out)
  have HNEW := Lib.hid hnew
  have HNC := Lib.hid NC
  obtain ⟨nb, hnb⟩ : ∃ nb, nb = !(decide (NewOk a0 a1)) := ⟨_, rfl⟩
  have HNB := Lib.hid hnb
  clear r2 r3 r4 hro hg hnew NC hnb
  go_enter Tryd.func3, Tryd.ntmps3
  go_upto_region 4 with fail
  rw [← HH.out, ← HW0.out, ← HW1.out]
  go_cut [46] from 28 to 46 (fun s wx => s = .bool nb ∧ v1 = wx)
  case first =>
    by_cases q1 : a0 < 8
    · have yq1 : decide (a0 < 8) = true := decide_eq_true q1
      have hv : nb = true := by rw [HNB.out]; rw [decide_eq_false (show ¬ NewOk a0 a1 by unfold NewOk; omega)]; rfl
      subst hv
      go_wp2_with fail
      go_meet
      exact ⟨rfl, rfl⟩
    · have yq1 : decide (a0 < 8) = false := decide_eq_false q1
      by_cases q2 : 8192 < a0
      · have yq2 : decide (8192 < a0) = true := decide_eq_true q2
        have hv : nb = true := by rw [HNB.out]; rw [decide_eq_false (show ¬ NewOk a0 a1 by unfold NewOk; omega)]; rfl
        subst hv
        go_wp2_with fail
        go_meet
        exact ⟨rfl, rfl⟩
      · have yq2 : decide (8192 < a0) = false := decide_eq_false q2
        have e8 : a0.tmod 8 = a0 % 8 := Int.tmod_eq_emod_of_nonneg (by omega)
        by_cases q3 : ¬ a0 % 8 = 0
        · have yq3 : (a0 % 8 != 0) = true := by simpa using q3
          have hv : nb = true := by rw [HNB.out]; rw [decide_eq_false (show ¬ NewOk a0 a1 by unfold NewOk; omega)]; rfl
          subst hv
          go_wp2_with fail
          go_meet
          exact ⟨rfl, rfl⟩
        · have yq3 : (a0 % 8 != 0) = false := by simpa using q3
          by_cases q4 : a1 < 1
          · have yq4 : decide (a1 < 1) = true := decide_eq_true q4
            have hv : nb = true := by rw [HNB.out]; rw [decide_eq_false (show ¬ NewOk a0 a1 by unfold NewOk; omega)]; rfl
            subst hv
            go_wp2_with fail
            go_meet
            exact ⟨rfl, rfl⟩
          · have yq4 : decide (a1 < 1) = false := decide_eq_false q4
            by_cases q5 : 8 < a1
            · have yq5 : decide (8 < a1) = true := decide_eq_true q5
              have hv : nb = true := by rw [HNB.out]; rw [decide_eq_false (show ¬ NewOk a0 a1 by unfold NewOk; omega)]; rfl
              subst hv
              go_wp2_with fail
              go_meet
              exact ⟨rfl, rfl⟩
            · have yq5 : decide (8 < a1) = false := decide_eq_false q5
              have hv : nb = false := by rw [HNB.out]; rw [decide_eq_true (show NewOk a0 a1 by unfold NewOk; omega)]; rfl
              subst hv
              go_wp2_with fail
              go_meet
              exact ⟨rfl, rfl⟩
  case rest =>
  obtain ⟨rfl, rfl⟩ := hcut
  go_upto_if 46 with fail
  go_cut [11, 12, 13] from 47 to 49 (fun s t u wx => s = .int .i64 E1 ∧ t = .int .i64 (L : Int) ∧ u = .int .i64 K1 ∧ v1 = wx)
  case first =>
    cases nb with
    | false =>
      have hok : NewOk a0 a1 := by
        have := HNB.out
        rcases HNEW.out with h | h
        · exact h.1
        · rw [decide_eq_false h.1] at this; cases this
      obtain ⟨_, ha0, hk1, he1⟩ : NewOk a0 a1 ∧ a0 = ((8 * L : Nat) : Int) ∧ K1 = a1 ∧ E1 = 0 := by
        rcases HNEW.out with h | h
        · exact h
        · exact absurd hok h.1
      have e1 : a0.tdiv 8 = (L : Int) := by
        have : 0 ≤ a0 := by omega
        rw [Int.tdiv_eq_ediv_of_nonneg this]; omega
      have e2 : a0 / 8 = (L : Int) := by omega
      have e3 : IntKind.i64.wrap (L : Int) = (L : Int) := IntWalk.i64_in _ (by omega)
      have HA := Lib.hid (And.intro hk1 he1)
      clear hok ha0 hk1 he1
      go_wp2_with fail
      go_meet
      exact ⟨by rw [HA.out.2], rfl, by rw [HA.out.1], rfl⟩
    | true =>
      obtain ⟨hl0, hk1, he1⟩ : L = 0 ∧ K1 = 0 ∧ E1 = 2 := by
        rcases HNEW.out with h | h
        · have := HNB.out
          rw [decide_eq_true h.1] at this; cases this
        · exact h.2
      have HA := Lib.hid (And.intro hl0 (And.intro hk1 he1))
      clear hl0 hk1 he1
      go_wp2_with fail
      go_meet
      exact ⟨by rw [HA.out.2.2], by rw [HA.out.1]; rfl, by rw [HA.out.2.1], rfl⟩
  case rest =>
  obtain ⟨rfl, rfl, rfl, rfl⟩ := hcut
  clear HNB HNEW
  have B_v1 := Lib.hid (Below.refl v1.heap.size v1)
  have GA_v1 := G0
  have GB_v1 := G1
  have LA_v1 := Lib.hid (lt_of_heap G0.out)
  have LB_v1 := Lib.hid (lt_of_heap G1.out)
  have HCC := Lib.hid (HNC.out v1)
  go_wp2_with fail
  refine HCC.out.mono ?_
  rintro e w2 ⟨ax, cx, ex, rfl, rx, hb⟩
  clear HCC
  have B_w2 := Lib.hid (Below.trans B_v1.out (Below.mono hb (Below.size B_v1.out)))
  have GA_w2 := Lib.hid ((Below.block hb _ LA_v1.out).trans GA_v1.out)
  have LA_w2 := Lib.hid (Nat.lt_of_lt_of_le LA_v1.out (Below.size hb))
  have GB_w2 := Lib.hid ((Below.block hb _ LB_v1.out).trans GB_v1.out)
  have LB_w2 := Lib.hid (Nat.lt_of_lt_of_le LB_v1.out (Below.size hb))
  have RX_w2 := Lib.hid rx
  clear rx
  clear hb
  obtain ⟨X, hX⟩ : ∃ z, z = w2.heap.size := ⟨_, rfl⟩
  obtain ⟨w3, hw3⟩ : ∃ z, z = w2.alloc (.cells #[.slice ax L cx, .int .i64 K1] 24) := ⟨_, rfl⟩
  have hb : Below w2.heap.size w2 w3 := by rw [hw3]; exact (Below.refl _ _).alloc (Nat.le_refl _) _
  have B_w3 := Lib.hid (Below.trans B_w2.out (Below.mono hb (Below.size B_w2.out)))
  have GA_w3 := Lib.hid ((Below.block hb _ LA_w2.out).trans GA_w2.out)
  have LA_w3 := Lib.hid (Nat.lt_of_lt_of_le LA_w2.out (Below.size hb))
  have GB_w3 := Lib.hid ((Below.block hb _ LB_w2.out).trans GB_w2.out)
  have LB_w3 := Lib.hid (Nat.lt_of_lt_of_le LB_w2.out (Below.size hb))
  have RX_w3 := Lib.hid (RX_w2.out.below hb)
  have GX_w3 := Lib.hid (show w3.heap[X]? = some (.cells #[.slice ax L cx, .int .i64 K1] 24 (0, 0)) by rw [hw3, hX]; exact heap_alloc_new _ _)
  have LX_w3 := Lib.hid (lt_of_heap GX_w3.out)
  have NX := Lib.hid (show v1.heap.size ≤ X by rw [hX]; exact B_w2.out.size)
  have HX := Lib.hid hX
  have HWw3 := Lib.hid hw3
  clear hb hX hw3
  go_upto_region 9 with fail
  rw [← HX.out, ← HWw3.out]
  have HCC := Lib.hid (Err_calls E1 w3 (EG.out.at_ B_w3.out))
  go_wp2_with fail
  refine HCC.out.mono ?_
  rintro e w4 ⟨rfl, hb⟩
  clear HCC
  have B_w4 := Lib.hid (Below.trans B_w3.out (Below.mono hb (Below.size B_w3.out)))
  have GA_w4 := Lib.hid ((Below.block hb _ LA_w3.out).trans GA_w3.out)
  have LA_w4 := Lib.hid (Nat.lt_of_lt_of_le LA_w3.out (Below.size hb))
  have GB_w4 := Lib.hid ((Below.block hb _ LB_w3.out).trans GB_w3.out)
  have LB_w4 := Lib.hid (Nat.lt_of_lt_of_le LB_w3.out (Below.size hb))
  have GX_w4 := Lib.hid ((Below.block hb _ LX_w3.out).trans GX_w3.out)
  have LX_w4 := Lib.hid (Nat.lt_of_lt_of_le LX_w3.out (Below.size hb))
  have RX_w4 := Lib.hid (RX_w3.out.below hb)
  clear B_w2 GA_w2 LA_w2 GB_w2 LB_w2 RX_w2
  clear hb
  have cX0 : w4.cell? ⟨X, 0, none⟩ = some (.slice ax L cx) := by rw [cell_of_row _ _ _ _ _ _ GX_w4.out]; rfl
  have cX1 : w4.cell? ⟨X, 1, none⟩ = some (.int .i64 K1) := by rw [cell_of_row _ _ _ _ _ _ GX_w4.out]; rfl
  obtain ⟨i0, hi0, hz0, hs0, hb0⟩ := info_parts info_u8
  obtain ⟨wD, hwD⟩ : ∃ z, z = w4.drew := ⟨_, rfl⟩
  have bD : Below w4.heap.size w4 wD := by rw [hwD]; exact (Below.refl _ _).drew
  have HBD := Lib.hid bD
  have SX := Lib.hid (show wD.cell? ⟨X, 0, none⟩ = some (.slice ax L cx) from (bD.cell (p := ⟨X, 0, none⟩) LX_w4.out).trans cX0)
  have SX0 := Lib.hid cX0
  have HWD := Lib.hid hwD
  clear bD hwD cX0 cX1
  go_upto_region 10 with fail
  refine wp_region_held_drew (S := fun w' => w'.cell? ⟨X, 0, none⟩ = some (.slice ax L cx)) (by kernel_rfl) SX0.out (fun hHeld => ?_)
  rw [← HWD.out]
  clear hHeld
  have hHeld := SX.out
  refine wpAnyH_take (i := 0) (oi := _) (v := .pointer (some ⟨X, 0, none⟩)) rfl (by kernel_rfl) (by kernel_rfl) (by kernel_rfl) (fun _ _ _ h => h) (Or.inl ⟨by rfl, fun w hw => by go_simp⟩) hHeld ?_
  simp only [Act.put, List.getElem_toArray, List.getElem_cons_zero, List.getElem_cons_succ, List.setIfInBounds_toArray, List.set_cons_zero, List.set_cons_succ]
  refine wpAnyH_take (i := 1) (oi := _) (v := .slice ax L cx) rfl (by kernel_rfl) (by kernel_rfl) (by kernel_rfl) (fun _ _ _ h => h) (Or.inl ⟨by rfl, fun w hw => by go_simp⟩) hHeld ?_
  simp only [Act.put, List.getElem_toArray, List.getElem_cons_zero, List.getElem_cons_succ, List.setIfInBounds_toArray, List.set_cons_zero, List.set_cons_succ]
  refine wpAnyH_take (i := 2) (oi := _) (v := .int .i64 (L : Int)) rfl (by kernel_rfl) (by kernel_rfl) (by kernel_rfl) (fun _ _ _ h => h) (Or.inl ⟨by rfl, fun w hw => by go_simp⟩) hHeld ?_
  simp only [Act.put, List.getElem_toArray, List.getElem_cons_zero, List.getElem_cons_succ, List.setIfInBounds_toArray, List.set_cons_zero, List.set_cons_succ]
  refine wpAnyH_ready (rs := [3]) (by kernel_rfl) (by simp) ?_
  refine AllReadyH.cons (o := _) rfl (fun K hK => ?_) AllReadyH.nil
  have HK := Lib.hid hK
  clear hK
  refine stepMake wD rfl (.tmp 61) (.tmp 61) 22 rfl wD.heap.size 5 i0 (.int .u8 0) 1 Tryd.underlying22 hi0 hz0 hs0 .i64 .i64 (L : Int) (L : Int) L rfl rfl rfl rfl (by rw [hb0]; omega) (by simp only [maxLen]; omega) (Nat.le_refl _) ?_
  intro wM hownM hgrM
  rw [show (Value.int IntKind.u8 0).cells = #[.int .u8 0] from rfl, Nat.mul_one, made_one, zeros_map L] at hownM
  have hbM : Below wD.heap.size wD wM := (Below.refl _ wD).grown hgrM (Nat.le_refl _) (fun k hk => by cases hk)
  have BM := Lib.hid (HBD.out.trans (hbM.mono HBD.out.size))
  have SXM := Lib.hid (show wM.cell? ⟨X, 0, none⟩ = some (.slice ax L cx) from (hbM.cell (p := ⟨X, 0, none⟩) (Nat.lt_of_lt_of_le LX_w4.out HBD.out.size)).trans SX.out)
  have HBY := Lib.hid (BytesE_calls (List.replicate L (0 : UInt8)) L (by simp) ax (some ⟨wD.heap.size, 0, none⟩) cx L ex _ wM (RX_w4.out.below BM.out) (Rd.of_own hownM) (by omega))
  clear hownM hgrM hbM hHeld hi0 hz0 hs0 hb0
  refine HK.out _ _ SXM.out ?_
  clear HK K
  try simp only [Act.put, List.getElem_toArray, List.getElem_cons_zero, List.getElem_cons_succ, List.setIfInBounds_toArray, List.set_cons_zero, List.set_cons_succ]
  intro hHeld
  refine wpAnyH_ready (rs := [4]) (by kernel_rfl) (by simp) ?_
  refine AllReadyH.cons (o := _) rfl (fun K hK => ?_) AllReadyH.nil
  have HK := Lib.hid hK
  clear hK
  go_simp
  go_at_call 10
  refine HBY.out.mono ?_
  rintro e w99 ⟨rfl, hb99⟩
  dsimp only
  have hb := BM.out.trans (hb99.mono BM.out.size)
  have SXN := Lib.hid (show w99.cell? ⟨X, 0, none⟩ = some (.slice ax L cx) from (hb99.cell (p := ⟨X, 0, none⟩) (Nat.lt_of_lt_of_le LX_w4.out BM.out.size)).trans SXM.out)
  clear hb99 HBY hHeld
  refine HK.out _ _ SXN.out ?_
  clear HK K
  try simp only [Act.put, List.getElem_toArray, List.getElem_cons_zero, List.getElem_cons_succ, List.setIfInBounds_toArray, List.set_cons_zero, List.set_cons_succ]
  intro hHeld
  refine wpAnyH_take (i := 5) (oi := _) (v := .bool true) rfl (by kernel_rfl) (by kernel_rfl) (by kernel_rfl) (fun _ _ _ h => h) (Or.inl ⟨by rfl, fun w hw => by go_simp⟩) hHeld ?_
  simp only [Act.put, List.getElem_toArray, List.getElem_cons_zero, List.getElem_cons_succ, List.setIfInBounds_toArray, List.set_cons_zero, List.set_cons_succ]
  clear hHeld
  have B_w99 := Lib.hid (Below.trans B_w4.out (Below.mono hb (Below.size B_w4.out)))
  have GA_w99 := Lib.hid ((Below.block hb _ LA_w4.out).trans GA_w4.out)
  have LA_w99 := Lib.hid (Nat.lt_of_lt_of_le LA_w4.out (Below.size hb))
  have GB_w99 := Lib.hid ((Below.block hb _ LB_w4.out).trans GB_w4.out)
  have LB_w99 := Lib.hid (Nat.lt_of_lt_of_le LB_w4.out (Below.size hb))
  have GX_w99 := Lib.hid ((Below.block hb _ LX_w4.out).trans GX_w4.out)
  have LX_w99 := Lib.hid (Nat.lt_of_lt_of_le LX_w4.out (Below.size hb))
  have RX_w99 := Lib.hid (RX_w4.out.below hb)
  clear B_w3 GA_w3 LA_w3 GB_w3 LB_w3 GX_w3 LX_w3 RX_w3
  clear hb
  refine wpAnyH_done (by kernel_rfl) ?_ _
  have OAW := True.intro
  clear OAW
  by_cases hs : SvOk x2.length j2
  · have HSS0 := Lib.hid hs
    obtain ⟨⟨hx0, hx1⟩, hK1_, hK2_⟩ := hs
    obtain ⟨K, rfl⟩ : ∃ K : Nat, j2 = (K : Int) := ⟨j2.toNat, by omega⟩
    have HSS := Lib.hid HSS0.out
    have hK1 : 1 ≤ K := by omega
    have hK2 : K ≤ 8 := by omega
    have hx0 : 0 < x2.length := by omega
    clear HSS0 hK1_ hK2_
    have cX0 : w99.cell? ⟨X, 0, none⟩ = some (.slice ax L cx) := by rw [cell_of_row _ _ _ _ _ _ GX_w99.out]; rfl
    have cX1 : w99.cell? ⟨X, 1, none⟩ = some (.int .i64 K1) := by rw [cell_of_row _ _ _ _ _ _ GX_w99.out]; rfl
    have cA0 : w99.cell? ⟨H, 0, none⟩ = some (.slice a2 x2.length c2) := by rw [cell_of_row _ _ _ _ _ _ GA_w99.out]; rfl
    have cA1 : w99.cell? ⟨H, 1, none⟩ = some (.int .i64 (K : Int)) := by rw [cell_of_row _ _ _ _ _ _ GA_w99.out]; rfl
    have HCC := Lib.hid ((by have h := (SieveFault_calls x2.length (K : Int) l2 a2 c2 w99); rewrite [if_pos HSS.out] at h; exact h))
    go_wp2_with fail
    refine HCC.out.mono ?_
    rintro e w5 ⟨rfl, hb⟩
    clear HCC
    clear cX0 cX1
    clear cA0 cA1
    have B_w5 := Lib.hid (Below.trans B_w99.out (Below.mono hb (Below.size B_w99.out)))
    have GA_w5 := Lib.hid ((Below.block hb _ LA_w99.out).trans GA_w99.out)
    have LA_w5 := Lib.hid (Nat.lt_of_lt_of_le LA_w99.out (Below.size hb))
    have GB_w5 := Lib.hid ((Below.block hb _ LB_w99.out).trans GB_w99.out)
    have LB_w5 := Lib.hid (Nat.lt_of_lt_of_le LB_w99.out (Below.size hb))
    have GX_w5 := Lib.hid ((Below.block hb _ LX_w99.out).trans GX_w99.out)
    have LX_w5 := Lib.hid (Nat.lt_of_lt_of_le LX_w99.out (Below.size hb))
    clear B_w4 GA_w4 LA_w4 GB_w4 LB_w4 GX_w4 LX_w4 RX_w4
    clear hb
    have cA0 : w5.cell? ⟨H, 0, none⟩ = some (.slice a2 x2.length c2) := by rw [cell_of_row _ _ _ _ _ _ GA_w5.out]; rfl
    have cA1 : w5.cell? ⟨H, 1, none⟩ = some (.int .i64 (K : Int)) := by rw [cell_of_row _ _ _ _ _ _ GA_w5.out]; rfl
    have HCC := Lib.hid (Check_ok a2 x2.length c2 (K : Int) HSS.out w5)
    go_wp2_with fail
    refine HCC.out.mono ?_
    rintro e w6 ⟨rfl, hb⟩
    clear HCC
    clear cA0 cA1
    have B_w6 := Lib.hid (Below.trans B_w5.out (Below.mono hb (Below.size B_w5.out)))
    have GA_w6 := Lib.hid ((Below.block hb _ LA_w5.out).trans GA_w5.out)
    have LA_w6 := Lib.hid (Nat.lt_of_lt_of_le LA_w5.out (Below.size hb))
    have GB_w6 := Lib.hid ((Below.block hb _ LB_w5.out).trans GB_w5.out)
    have LB_w6 := Lib.hid (Nat.lt_of_lt_of_le LB_w5.out (Below.size hb))
    have GX_w6 := Lib.hid ((Below.block hb _ LX_w5.out).trans GX_w5.out)
    have LX_w6 := Lib.hid (Nat.lt_of_lt_of_le LX_w5.out (Below.size hb))
    clear B_w99 GA_w99 LA_w99 GB_w99 LB_w99 GX_w99 LX_w99
    clear hb
    have HCC := Lib.hid (Error_nil 0 true (by decide) w6)
    go_wp2_with fail
    refine HCC.out.mono ?_
    rintro e wq ⟨rfl, hq⟩
    subst hq
    clear HCC
    go_upto_region 15 with fail
    obtain ⟨W, hW⟩ : ∃ z, z = w6.heap.size := ⟨_, rfl⟩
    obtain ⟨w7, hw7⟩ : ∃ z, z = w6.alloc (.cells #[.slice none 0 0, .int .i64 0] 24) := ⟨_, rfl⟩
    have hb : Below w6.heap.size w6 w7 := by rw [hw7]; exact (Below.refl _ _).alloc (Nat.le_refl _) _
    have B_w7 := Lib.hid (Below.trans B_w6.out (Below.mono hb (Below.size B_w6.out)))
    have GA_w7 := Lib.hid ((Below.block hb _ LA_w6.out).trans GA_w6.out)
    have LA_w7 := Lib.hid (Nat.lt_of_lt_of_le LA_w6.out (Below.size hb))
    have GB_w7 := Lib.hid ((Below.block hb _ LB_w6.out).trans GB_w6.out)
    have LB_w7 := Lib.hid (Nat.lt_of_lt_of_le LB_w6.out (Below.size hb))
    have GX_w7 := Lib.hid ((Below.block hb _ LX_w6.out).trans GX_w6.out)
    have LX_w7 := Lib.hid (Nat.lt_of_lt_of_le LX_w6.out (Below.size hb))
    clear B_w5 GA_w5 LA_w5 GB_w5 LB_w5 GX_w5 LX_w5
    have GW_w7 := Lib.hid (show w7.heap[W]? = some (.cells #[.slice none 0 0, .int .i64 0] 24 (0, 0)) by rw [hw7, hW]; exact heap_alloc_new _ _)
    have LW_w7 := Lib.hid (lt_of_heap GW_w7.out)
    have NW := Lib.hid (show v1.heap.size ≤ W by rw [hW]; exact B_w6.out.size)
    have HW := Lib.hid hW
    have HWw7 := Lib.hid hw7
    clear hb hW hw7
    go_upto_region 18 with fail
    rw [← HW.out, ← HWw7.out]
    have OAW := Lib.hid (show H < W by have := NW.out; omega)
    have OBW := Lib.hid (show H + 1 < W by have := NW.out; omega)
    have cA0 : w7.cell? ⟨H, 0, none⟩ = some (.slice a2 x2.length c2) := by rw [cell_of_row _ _ _ _ _ _ GA_w7.out]; rfl
    have cA1 : w7.cell? ⟨H, 1, none⟩ = some (.int .i64 (K : Int)) := by rw [cell_of_row _ _ _ _ _ _ GA_w7.out]; rfl
    have HCC := Lib.hid (RWith_calls x2 hx0 hx1 K hK1 hK2 x4 l4 a2 c2 e2 a4 c4 e4 w7 (R2.out.below B_w7.out) (R4.out.below B_w7.out))
    go_wp2_with fail
    refine HCC.out.mono ?_
    rintro e w8 ⟨wa_, wc_, we_, rfl, rw_, hb⟩
    clear HCC
    clear cA0 cA1
    have B_w8 := Lib.hid (Below.trans B_w7.out (Below.mono hb (Below.size B_w7.out)))
    have GA_w8 := Lib.hid ((Below.block hb _ LA_w7.out).trans GA_w7.out)
    have LA_w8 := Lib.hid (Nat.lt_of_lt_of_le LA_w7.out (Below.size hb))
    have GB_w8 := Lib.hid ((Below.block hb _ LB_w7.out).trans GB_w7.out)
    have LB_w8 := Lib.hid (Nat.lt_of_lt_of_le LB_w7.out (Below.size hb))
    have GW_w8 := Lib.hid ((Below.block hb _ LW_w7.out).trans GW_w7.out)
    have LW_w8 := Lib.hid (Nat.lt_of_lt_of_le LW_w7.out (Below.size hb))
    clear B_w6 GA_w6 LA_w6 GB_w6 LB_w6 GX_w6 LX_w6
    have RW_w8 := Lib.hid rw_
    clear rw_
    clear hb
    have cW0 : w8.cell? ⟨W, 0, none⟩ = some (.slice none 0 0) := by rw [cell_of_row _ _ _ _ _ _ GW_w8.out]; rfl
    have cW1 : w8.cell? ⟨W, 1, none⟩ = some (.int .i64 0) := by rw [cell_of_row _ _ _ _ _ _ GW_w8.out]; rfl
    have fW0 : w8.frozen? ⟨W, 0, none⟩ = false := frozen_of_row _ _ _ _ _ GW_w8.out
    have fW1 : w8.frozen? ⟨W, 1, none⟩ = false := frozen_of_row _ _ _ _ _ GW_w8.out
    obtain ⟨w9, hw9⟩ : ∃ z, z = (w8.setCell ⟨W, 0, none⟩ (.slice wa_ x2.length wc_)).setCell ⟨W, 1, none⟩ (.int .i64 (K : Int)) := ⟨_, rfl⟩
    have hs : w9.heap.size = w8.heap.size := by rw [hw9]; simp
    have hbW : Below W w8 w9 := by rw [hw9]; exact ((Below.refl _ _).setCell (p := ⟨W, 0, none⟩) (Nat.le_refl _) _).setCell (p := ⟨W, 1, none⟩) (Nat.le_refl _) _
    have B_w9 := Lib.hid (Below.trans B_w8.out (Below.mono hbW NW.out))
    have GA_w9 := Lib.hid ((hbW.block _ OAW.out).trans GA_w8.out)
    have LA_w9 := Lib.hid (show H < w9.heap.size by rw [hs]; exact LA_w8.out)
    have GB_w9 := Lib.hid ((hbW.block _ OBW.out).trans GB_w8.out)
    have LB_w9 := Lib.hid (show H + 1 < w9.heap.size by rw [hs]; exact LB_w8.out)
    have GW_w9 := Lib.hid (show w9.heap[W]? = some (.cells #[.slice wa_ x2.length wc_, .int .i64 (K : Int)] 24 (0, 0)) by rw [hw9]; exact set_two GW_w8.out _ _)
    have LW_w9 := Lib.hid (show W < w9.heap.size by rw [hs]; exact LW_w8.out)
    have RW_w9 := Lib.hid (by have h := rd_setW (W := W) RW_w8.out GW_w8.out (.slice wa_ x2.length wc_) (.int .i64 (K : Int)); rewrite [← hw9] at h; exact h)
    have HWw9 := Lib.hid hw9
    have HBW_w9 := Lib.hid hbW
    clear hw9 hs hbW
    go_upto_region 19 with fail
    rw [← HWw9.out]
    clear cW0 cW1
    clear fW0 fW1
    obtain ⟨ps, hps⟩ : ∃ ps, ps = placesOf x2.length K x4 := ⟨_, rfl⟩
    have hpl : ps.length = K := by rw [hps]; exact placesOf_length _ _ _
    have hplt : ∀ p ∈ ps, p < 8 * x2.length := by rw [hps]; exact placesOf_lt _ hx0 _ _
    have HPS := Lib.hid hps
    have HPL := Lib.hid hpl
    have HPLT := Lib.hid hplt
    clear hps hpl hplt
    have cA0 : w9.cell? ⟨H, 0, none⟩ = some (.slice a2 x2.length c2) := by rw [cell_of_row _ _ _ _ _ _ GA_w9.out]; rfl
    have cA1 : w9.cell? ⟨H, 1, none⟩ = some (.int .i64 (K : Int)) := by rw [cell_of_row _ _ _ _ _ _ GA_w9.out]; rfl
    have HCC := Lib.hid ((by have h := RPlaces_calls x2.length hx0 hx1 K hK2 x4 l4 a2 c2 a4 c4 e4 w9 (R4.out.below B_w9.out); rewrite [← HPS.out] at h; exact h))
    go_wp2_with fail
    refine HCC.out.mono ?_
    rintro e w10 ⟨pa, pcp, rfl, hownp, hb⟩
    clear HCC
    clear cA0 cA1
    have B_w10 := Lib.hid (Below.trans B_w9.out (Below.mono hb (Below.size B_w9.out)))
    have GA_w10 := Lib.hid ((Below.block hb _ LA_w9.out).trans GA_w9.out)
    have LA_w10 := Lib.hid (Nat.lt_of_lt_of_le LA_w9.out (Below.size hb))
    have GB_w10 := Lib.hid ((Below.block hb _ LB_w9.out).trans GB_w9.out)
    have LB_w10 := Lib.hid (Nat.lt_of_lt_of_le LB_w9.out (Below.size hb))
    have GW_w10 := Lib.hid ((Below.block hb _ LW_w9.out).trans GW_w9.out)
    have LW_w10 := Lib.hid (Nat.lt_of_lt_of_le LW_w9.out (Below.size hb))
    have RW_w10 := Lib.hid (RW_w9.out.below hb)
    clear B_w7 GA_w7 LA_w7 GB_w7 LB_w7 GW_w7 LW_w7
    clear hb
    rw [HPL.out] at hownp ⊢
    obtain ⟨pg, rfl, hpg⟩ := own_some hownp (by omega : 0 < K)
    have HPG : Hid (∀ j, j < K → w10.cell? ⟨pg, j, none⟩ = some (.int .i64 ((ps.getD j 0 : Nat) : Int))) := Lib.hid (fun j hj => by
      have := (own_cell hownp (k := j) (by rw [List.length_map, HPL.out]; exact hj)).1
      rw [this, List.getElem_map, List.getD_eq_getElem?_getD, List.getElem?_eq_getElem (by rw [HPL.out]; exact hj)]; rfl)
    have LPG := Lib.hid (show pg < w10.heap.size from (hownp.lt pg rfl).2)
    clear hownp hpg
    go_wp2_with fail
    go_loopw [19, 21] (fun q i wr => ∃ k : Nat, k ≤ K ∧ i = .int .i64 k ∧ q = .bool (hasAll x2 (ps.take k)) ∧ Hid (Below w10.heap.size w10 wr)) (fun _ i _ => K - (intOf i).toNat)
    case atStart => exact ⟨0, Nat.zero_le _, rfl, rfl, Lib.hid (Below.refl _ _)⟩
    case round =>
      obtain ⟨k, hk, rfl, rfl, HBI⟩ := hrel
      by_cases hlt : k < K
      · obtain ⟨p, hp⟩ : ∃ p, p = ps.getD k 0 := ⟨_, rfl⟩
        have hkp : k < ps.length := by rw [HPL.out]; exact hlt
        have hpe : p = ps[k] := by rw [hp, List.getD_eq_getElem?_getD, List.getElem?_eq_getElem hkp]; rfl
        have hp8 : p < 8 * x2.length := by rw [hpe]; exact HPLT.out _ (List.getElem_mem _)
        have htk : ps.take (k + 1) = ps.take k ++ [p] := by rw [hpe]; exact List.take_succ_eq_append_getElem hkp
        obtain ⟨q, hq⟩ : ∃ q, q = bitB x2 p := ⟨_, rfl⟩
        obtain ⟨hA, hhA⟩ : ∃ z, z = hasAll x2 (ps.take k) := ⟨_, rfl⟩
        have hnx : hasAll x2 (ps.take (k + 1)) = (hA && q) := by rw [htk, hasAll_snoc, ← hhA, ← hq]
        have bw : Below v1.heap.size v1 wr := B_w10.out.trans (HBI.out.mono B_w10.out.size)
        have bo : ∀ w', InB wr.heap.size wr w' → Calls Tryd.prog 15 #[.agg #[.slice a2 x2.length c2, .int .i64 (K : Int)], .int .i64 (p : Int)] w' fun e w'' => e = .returned (.bool q) ∧ InB wr.heap.size wr w'' := fun w' h => InB.call h (Nat.le_refl _) (by
          have := BitOf_calls x2 (by omega) p hp8 (K : Int) a2 c2 _ w' ((R2.out.below bw).below h)
          rw [hq]; exact this)
        have HBO := Lib.hid bo
        have FA := Lib.hid (show ∀ w', InB wr.heap.size wr w' → (loadVar 24 ⟨H, 0, none⟩).run Tryd.prog w' = .ok (.agg #[.slice a2 x2.length c2, .int .i64 (K : Int)]) w' from fun w' h => by
          have g := (Below.block h H (Nat.lt_of_lt_of_le LA_w10.out HBI.out.size)).trans ((HBI.out.block _ LA_w10.out).trans GA_w10.out)
          exact load_sv (by rw [cell_of_row _ _ _ _ _ _ g]; rfl) (by rw [cell_of_row _ _ _ _ _ _ g]; rfl) rfl rfl rfl)
        have FP := Lib.hid (show ∀ w', InB wr.heap.size wr w' → w'.cell? ⟨pg, k, none⟩ = some (.int .i64 (p : Int)) from fun w' h => (Below.cell h (p := ⟨pg, k, none⟩) (Nat.lt_of_lt_of_le LPG.out HBI.out.size)).trans ((HBI.out.cell (p := ⟨pg, k, none⟩) LPG.out).trans (by rw [hp]; exact HPG.out k hlt)))
        have k0 : (0 : Int) ≤ (k : Int) := by omega
        have k1 : (k : Int) < (K : Int) := by omega
        rw [← hhA]
        have HNX := Lib.hid hnx
        clear hp hpe hp8 htk hhA hq hnx bo bw hkp
        cases hA with
        | true =>
          go_upto_region 23 with fail
          have hex := inB_ex wr.heap.size wr
          refine wp_region_inB wr.heap.size (by kernel_rfl) (by kernel_rfl) ?_
          repeat (first
            | (with_reducible refine quiet_cell1 rfl (.tmp 7) rfl ⟨H, 0, none⟩ (by kernel_rfl) (.agg #[.slice a2 x2.length c2, .int .i64 (K : Int)]) FA.out ?_ (by kernel_rfl); simp only [Act.put, List.setIfInBounds_toArray, List.set_cons_zero, List.set_cons_succ])
            | (with_reducible refine quiet_int rfl (.tmp 103) rfl ⟨pg, k, none⟩ (by kernel_rfl) (p : Int) FP.out ?_ (by kernel_rfl); simp only [Act.put, List.setIfInBounds_toArray, List.set_cons_zero, List.set_cons_succ])
            | go_big_quiet_step ((first | (intro hw'; exact HBO.out _ hw') | (intro _; rfl))))
          refine wpQuiet_nil ?_
          intro wZ hwZ
          have BX := Lib.hid (HBI.out.trans (Below.mono hwZ HBI.out.size))
          clear hwZ hex
          go_wp2_with fail
          go_roundw
          case rel => exact ⟨k + 1, hlt, by go_num, by rw [HNX.out, Bool.true_and], BX⟩
          case measure => simp [intOf]; omega
        | false =>
          go_upto_region 23 with fail
          have hex := inB_ex wr.heap.size wr
          refine wp_region_inB wr.heap.size (by kernel_rfl) (by kernel_rfl) ?_
          repeat (first
            | go_big_quiet_step ((first | (intro _; rfl))))
          refine wpQuiet_nil ?_
          intro wZ hwZ
          have BX := Lib.hid (HBI.out.trans (Below.mono hwZ HBI.out.size))
          clear hwZ hex
          go_wp2_with fail
          go_roundw
          case rel => exact ⟨k + 1, hlt, by go_num, by rw [HNX.out, Bool.false_and], BX⟩
          case measure => simp [intOf]; omega
      · obtain rfl : k = K := by omega
        obtain ⟨wL, hwL⟩ : ∃ z, z = wr := ⟨_, rfl⟩
        rw [← hwL] at HBI ⊢
        clear hwL
        obtain ⟨hh, hhh⟩ : ∃ z, z = hasAll x2 (placesOf x2.length k x4) := ⟨_, rfl⟩
        have e9 : hasAll x2 (ps.take k) = hh := by rw [hhh, List.take_of_length_le (by rw [HPL.out]; exact Nat.le_refl _), HPS.out]
        rw [e9]
        have HHH := Lib.hid hhh
        have hb := HBI.out
        clear hhh e9 HBI LPG HPG HPLT
        have B_wL := Lib.hid (Below.trans B_w10.out (Below.mono hb (Below.size B_w10.out)))
        have GA_wL := Lib.hid ((Below.block hb _ LA_w10.out).trans GA_w10.out)
        have LA_wL := Lib.hid (Nat.lt_of_lt_of_le LA_w10.out (Below.size hb))
        have GB_wL := Lib.hid ((Below.block hb _ LB_w10.out).trans GB_w10.out)
        have LB_wL := Lib.hid (Nat.lt_of_lt_of_le LB_w10.out (Below.size hb))
        have GW_wL := Lib.hid ((Below.block hb _ LW_w10.out).trans GW_w10.out)
        have LW_wL := Lib.hid (Nat.lt_of_lt_of_le LW_w10.out (Below.size hb))
        have RW_wL := Lib.hid (RW_w10.out.below hb)
        clear B_w9 GA_w9 LA_w9 GB_w9 LB_w9 GW_w9 LW_w9 RW_w9
        clear hb
        have cA0 : wL.cell? ⟨H, 0, none⟩ = some (.slice a2 x2.length c2) := by rw [cell_of_row _ _ _ _ _ _ GA_wL.out]; rfl
        have cA1 : wL.cell? ⟨H, 1, none⟩ = some (.int .i64 (k : Int)) := by rw [cell_of_row _ _ _ _ _ _ GA_wL.out]; rfl
        have HCC := Lib.hid (Add_ok x2 hx0 hx1 k hK1 hK2 x4 l4 a2 c2 e2 a4 c4 e4 wL ⟨(R2.out.below B_wL.out), (R4.out.below B_wL.out), RO.out.at_ B_wL.out⟩)
        go_wp2_with fail
        refine HCC.out.mono ?_
        rintro e w11 ⟨ya, yc, ye, rfl, ry, hb⟩
        clear HCC
        clear cA0 cA1
        have B_w11 := Lib.hid (Below.trans B_wL.out (Below.mono hb (Below.size B_wL.out)))
        have GA_w11 := Lib.hid ((Below.block hb _ LA_wL.out).trans GA_wL.out)
        have LA_w11 := Lib.hid (Nat.lt_of_lt_of_le LA_wL.out (Below.size hb))
        have GB_w11 := Lib.hid ((Below.block hb _ LB_wL.out).trans GB_wL.out)
        have LB_w11 := Lib.hid (Nat.lt_of_lt_of_le LB_wL.out (Below.size hb))
        have GW_w11 := Lib.hid ((Below.block hb _ LW_wL.out).trans GW_wL.out)
        have LW_w11 := Lib.hid (Nat.lt_of_lt_of_le LW_wL.out (Below.size hb))
        have RW_w11 := Lib.hid (RW_wL.out.below hb)
        clear B_w10 GA_w10 LA_w10 GB_w10 LB_w10 GW_w10 LW_w10 RW_w10
        have RY_w11 := Lib.hid ry
        clear ry
        clear hb
        obtain ⟨Y, hY⟩ : ∃ z, z = w11.heap.size := ⟨_, rfl⟩
        obtain ⟨w12, hw12⟩ : ∃ z, z = w11.alloc (.cells #[.slice ya x2.length yc, .int .i64 (k : Int)] 24) := ⟨_, rfl⟩
        have hb : Below w11.heap.size w11 w12 := by rw [hw12]; exact (Below.refl _ _).alloc (Nat.le_refl _) _
        have B_w12 := Lib.hid (Below.trans B_w11.out (Below.mono hb (Below.size B_w11.out)))
        have GA_w12 := Lib.hid ((Below.block hb _ LA_w11.out).trans GA_w11.out)
        have LA_w12 := Lib.hid (Nat.lt_of_lt_of_le LA_w11.out (Below.size hb))
        have GB_w12 := Lib.hid ((Below.block hb _ LB_w11.out).trans GB_w11.out)
        have LB_w12 := Lib.hid (Nat.lt_of_lt_of_le LB_w11.out (Below.size hb))
        have GW_w12 := Lib.hid ((Below.block hb _ LW_w11.out).trans GW_w11.out)
        have LW_w12 := Lib.hid (Nat.lt_of_lt_of_le LW_w11.out (Below.size hb))
        have RW_w12 := Lib.hid (RW_w11.out.below hb)
        have RY_w12 := Lib.hid (RY_w11.out.below hb)
        clear B_wL GA_wL LA_wL GB_wL LB_wL GW_wL LW_wL RW_wL
        have GY_w12 := Lib.hid (show w12.heap[Y]? = some (.cells #[.slice ya x2.length yc, .int .i64 (k : Int)] 24 (0, 0)) by rw [hw12, hY]; exact heap_alloc_new _ _)
        have LY_w12 := Lib.hid (lt_of_heap GY_w12.out)
        have NY := Lib.hid (show v1.heap.size ≤ Y by rw [hY]; exact B_w11.out.size)
        have HY := Lib.hid hY
        have HWw12 := Lib.hid hw12
        clear hb hY hw12
        go_upto_region 25 with fail
        rw [← HY.out, ← HWw12.out]
        have HCC := Lib.hid (Error_nil 0 true (by decide) w12)
        go_wp2_with fail
        refine HCC.out.mono ?_
        rintro e wq ⟨rfl, hq⟩
        subst hq
        clear HCC
        have cY0 : w12.cell? ⟨Y, 0, none⟩ = some (.slice ya x2.length yc) := by rw [cell_of_row _ _ _ _ _ _ GY_w12.out]; rfl
        have cY1 : w12.cell? ⟨Y, 1, none⟩ = some (.int .i64 (k : Int)) := by rw [cell_of_row _ _ _ _ _ _ GY_w12.out]; rfl
        have cW0 : w12.cell? ⟨W, 0, none⟩ = some (.slice wa_ x2.length wc_) := by rw [cell_of_row _ _ _ _ _ _ GW_w12.out]; rfl
        have cW1 : w12.cell? ⟨W, 1, none⟩ = some (.int .i64 (k : Int)) := by rw [cell_of_row _ _ _ _ _ _ GW_w12.out]; rfl
        have HCC := Lib.hid (BytesE_calls (addAll x2 (placesOf x2.length k x4)) x2.length (addAll_length _ _) ya wa_ yc wc_ ye we_ w12 RY_w12.out RW_w12.out (by omega))
        go_wp2_with fail
        refine HCC.out.mono ?_
        rintro e w13 ⟨rfl, hb⟩
        clear HCC
        clear cY0 cY1
        clear cW0 cW1
        have B_w13 := Lib.hid (Below.trans B_w12.out (Below.mono hb (Below.size B_w12.out)))
        have GA_w13 := Lib.hid ((Below.block hb _ LA_w12.out).trans GA_w12.out)
        have LA_w13 := Lib.hid (Nat.lt_of_lt_of_le LA_w12.out (Below.size hb))
        have GB_w13 := Lib.hid ((Below.block hb _ LB_w12.out).trans GB_w12.out)
        have LB_w13 := Lib.hid (Nat.lt_of_lt_of_le LB_w12.out (Below.size hb))
        have GW_w13 := Lib.hid ((Below.block hb _ LW_w12.out).trans GW_w12.out)
        have LW_w13 := Lib.hid (Nat.lt_of_lt_of_le LW_w12.out (Below.size hb))
        have GY_w13 := Lib.hid ((Below.block hb _ LY_w12.out).trans GY_w12.out)
        have LY_w13 := Lib.hid (Nat.lt_of_lt_of_le LY_w12.out (Below.size hb))
        have RW_w13 := Lib.hid (RW_w12.out.below hb)
        have RY_w13 := Lib.hid (RY_w12.out.below hb)
        clear B_w11 GA_w11 LA_w11 GB_w11 LB_w11 GW_w11 LW_w11 RW_w11 RY_w11
        clear hb
        have cY0 : w13.cell? ⟨Y, 0, none⟩ = some (.slice ya x2.length yc) := by rw [cell_of_row _ _ _ _ _ _ GY_w13.out]; rfl
        have cY1 : w13.cell? ⟨Y, 1, none⟩ = some (.int .i64 (k : Int)) := by rw [cell_of_row _ _ _ _ _ _ GY_w13.out]; rfl
        have cW0 : w13.cell? ⟨W, 0, none⟩ = some (.slice wa_ x2.length wc_) := by rw [cell_of_row _ _ _ _ _ _ GW_w13.out]; rfl
        have cW1 : w13.cell? ⟨W, 1, none⟩ = some (.int .i64 (k : Int)) := by rw [cell_of_row _ _ _ _ _ _ GW_w13.out]; rfl
        have cA0 : w13.cell? ⟨H, 0, none⟩ = some (.slice a2 x2.length c2) := by rw [cell_of_row _ _ _ _ _ _ GA_w13.out]; rfl
        have cA1 : w13.cell? ⟨H, 1, none⟩ = some (.int .i64 (k : Int)) := by rw [cell_of_row _ _ _ _ _ _ GA_w13.out]; rfl
        have HCC := Lib.hid ((by have h := Has_ok x2 hx0 hx1 k hK1 hK2 x4 l4 a2 c2 e2 a4 c4 e4 w13 ⟨(R2.out.below B_w13.out), (R4.out.below B_w13.out), RO.out.at_ B_w13.out⟩; rewrite [← HHH.out] at h; exact h))
        go_wp2_with fail
        refine HCC.out.mono ?_
        rintro e w14 ⟨rfl, hb⟩
        clear HCC
        clear cA0 cA1
        have B_w14 := Lib.hid (Below.trans B_w13.out (Below.mono hb (Below.size B_w13.out)))
        have GA_w14 := Lib.hid ((Below.block hb _ LA_w13.out).trans GA_w13.out)
        have LA_w14 := Lib.hid (Nat.lt_of_lt_of_le LA_w13.out (Below.size hb))
        have GB_w14 := Lib.hid ((Below.block hb _ LB_w13.out).trans GB_w13.out)
        have LB_w14 := Lib.hid (Nat.lt_of_lt_of_le LB_w13.out (Below.size hb))
        have GW_w14 := Lib.hid ((Below.block hb _ LW_w13.out).trans GW_w13.out)
        have LW_w14 := Lib.hid (Nat.lt_of_lt_of_le LW_w13.out (Below.size hb))
        have GY_w14 := Lib.hid ((Below.block hb _ LY_w13.out).trans GY_w13.out)
        have LY_w14 := Lib.hid (Nat.lt_of_lt_of_le LY_w13.out (Below.size hb))
        have RW_w14 := Lib.hid (RW_w13.out.below hb)
        have RY_w14 := Lib.hid (RY_w13.out.below hb)
        clear B_w12 GA_w12 LA_w12 GB_w12 LB_w12 GW_w12 LW_w12 GY_w12 LY_w12 RW_w12 RY_w12
        clear hb
        clear cY0 cY1
        clear cW0 cW1
        have HCC := Lib.hid (Error_nil 0 true (by decide) w14)
        go_wp2_with fail
        refine HCC.out.mono ?_
        rintro e wq ⟨rfl, hq⟩
        subst hq
        clear HCC
        by_cases ht : SvOk x3.length j3
        · have HTY := Lib.hid ht
          clear ht
          have cB0 : w14.cell? ⟨H + 1, 0, none⟩ = some (.slice a3 x3.length c3) := by rw [cell_of_row _ _ _ _ _ _ GB_w14.out]; rfl
          have cB1 : w14.cell? ⟨H + 1, 1, none⟩ = some (.int .i64 j3) := by rw [cell_of_row _ _ _ _ _ _ GB_w14.out]; rfl
          have HCC := Lib.hid ((by have h := (SieveFault_calls x3.length j3 l3 a3 c3 w14); rewrite [if_pos HTY.out] at h; exact h))
          go_wp2_with fail
          refine HCC.out.mono ?_
          rintro e w15 ⟨rfl, hb⟩
          clear HCC
          clear cB0 cB1
          have B_w15 := Lib.hid (Below.trans B_w14.out (Below.mono hb (Below.size B_w14.out)))
          have GA_w15 := Lib.hid ((Below.block hb _ LA_w14.out).trans GA_w14.out)
          have LA_w15 := Lib.hid (Nat.lt_of_lt_of_le LA_w14.out (Below.size hb))
          have GB_w15 := Lib.hid ((Below.block hb _ LB_w14.out).trans GB_w14.out)
          have LB_w15 := Lib.hid (Nat.lt_of_lt_of_le LB_w14.out (Below.size hb))
          have GW_w15 := Lib.hid ((Below.block hb _ LW_w14.out).trans GW_w14.out)
          have LW_w15 := Lib.hid (Nat.lt_of_lt_of_le LW_w14.out (Below.size hb))
          have GY_w15 := Lib.hid ((Below.block hb _ LY_w14.out).trans GY_w14.out)
          have LY_w15 := Lib.hid (Nat.lt_of_lt_of_le LY_w14.out (Below.size hb))
          have RW_w15 := Lib.hid (RW_w14.out.below hb)
          have RY_w15 := Lib.hid (RY_w14.out.below hb)
          clear B_w13 GA_w13 LA_w13 GB_w13 LB_w13 GW_w13 LW_w13 GY_w13 LY_w13 RW_w13 RY_w13
          clear hb
          by_cases hlen : x2.length = x3.length
          · have z1 : ((x2.length : Int) != (x3.length : Int)) = false := by rw [hlen]; simp
            have z1b : (x2.length != x3.length) = false := by rw [hlen]; simp
            have HLEN := Lib.hid hlen
            clear hlen
            by_cases hkj : (k : Int) = j3
            · obtain rfl := hkj
              have cA0 : w15.cell? ⟨H, 0, none⟩ = some (.slice a2 x2.length c2) := by rw [cell_of_row _ _ _ _ _ _ GA_w15.out]; rfl
              have cA1 : w15.cell? ⟨H, 1, none⟩ = some (.int .i64 (k : Int)) := by rw [cell_of_row _ _ _ _ _ _ GA_w15.out]; rfl
              have cB0 : w15.cell? ⟨H + 1, 0, none⟩ = some (.slice a3 x3.length c3) := by rw [cell_of_row _ _ _ _ _ _ GB_w15.out]; rfl
              have cB1 : w15.cell? ⟨H + 1, 1, none⟩ = some (.int .i64 (k : Int)) := by rw [cell_of_row _ _ _ _ _ _ GB_w15.out]; rfl
              have cW0 : w15.cell? ⟨W, 0, none⟩ = some (.slice wa_ x2.length wc_) := by rw [cell_of_row _ _ _ _ _ _ GW_w15.out]; rfl
              have cW1 : w15.cell? ⟨W, 1, none⟩ = some (.int .i64 (k : Int)) := by rw [cell_of_row _ _ _ _ _ _ GW_w15.out]; rfl
              have fW0 : w15.frozen? ⟨W, 0, none⟩ = false := frozen_of_row _ _ _ _ _ GW_w15.out
              have fW1 : w15.frozen? ⟨W, 1, none⟩ = false := frozen_of_row _ _ _ _ _ GW_w15.out
              obtain ⟨w16, hw16⟩ : ∃ z, z = (w15.setCell ⟨W, 0, none⟩ (.slice none 0 0)).setCell ⟨W, 1, none⟩ (.int .i64 0) := ⟨_, rfl⟩
              have hs : w16.heap.size = w15.heap.size := by rw [hw16]; simp
              have hbW : Below W w15 w16 := by rw [hw16]; exact ((Below.refl _ _).setCell (p := ⟨W, 0, none⟩) (Nat.le_refl _) _).setCell (p := ⟨W, 1, none⟩) (Nat.le_refl _) _
              have B_w16 := Lib.hid (Below.trans B_w15.out (Below.mono hbW NW.out))
              have GA_w16 := Lib.hid ((hbW.block _ OAW.out).trans GA_w15.out)
              have LA_w16 := Lib.hid (show H < w16.heap.size by rw [hs]; exact LA_w15.out)
              have GB_w16 := Lib.hid ((hbW.block _ OBW.out).trans GB_w15.out)
              have LB_w16 := Lib.hid (show H + 1 < w16.heap.size by rw [hs]; exact LB_w15.out)
              have GW_w16 := Lib.hid (show w16.heap[W]? = some (.cells #[.slice none 0 0, .int .i64 0] 24 (0, 0)) by rw [hw16]; exact set_two GW_w15.out _ _)
              have LW_w16 := Lib.hid (show W < w16.heap.size by rw [hs]; exact LW_w15.out)
              have RW_w16 := Lib.hid (by have h := rd_setW (W := W) RW_w15.out GW_w15.out (.slice none 0 0) (.int .i64 0); rewrite [← hw16] at h; exact h)
              have RY_w16 := Lib.hid (by have h := rd_setW (W := W) RY_w15.out GW_w15.out (.slice none 0 0) (.int .i64 0); rewrite [← hw16] at h; exact h)
              have HWw16 := Lib.hid hw16
              have HBW_w16 := Lib.hid hbW
              clear hw16 hs hbW
              go_upto_region 39 with fail
              rw [← HWw16.out]
              clear cW0 cW1
              clear fW0 fW1
              clear cA0 cA1
              clear cB0 cB1
              have cA0 : w16.cell? ⟨H, 0, none⟩ = some (.slice a2 x2.length c2) := by rw [cell_of_row _ _ _ _ _ _ GA_w16.out]; rfl
              have cA1 : w16.cell? ⟨H, 1, none⟩ = some (.int .i64 (k : Int)) := by rw [cell_of_row _ _ _ _ _ _ GA_w16.out]; rfl
              have cW0 : w16.cell? ⟨W, 0, none⟩ = some (.slice none 0 0) := by rw [cell_of_row _ _ _ _ _ _ GW_w16.out]; rfl
              have cW1 : w16.cell? ⟨W, 1, none⟩ = some (.int .i64 0) := by rw [cell_of_row _ _ _ _ _ _ GW_w16.out]; rfl
              have fW0 : w16.frozen? ⟨W, 0, none⟩ = false := frozen_of_row _ _ _ _ _ GW_w16.out
              have fW1 : w16.frozen? ⟨W, 1, none⟩ = false := frozen_of_row _ _ _ _ _ GW_w16.out
              obtain ⟨w17, hw17⟩ : ∃ z, z = w16.setCell ⟨W, 1, none⟩ (.int .i64 (k : Int)) := ⟨_, rfl⟩
              have hs : w17.heap.size = w16.heap.size := by rw [hw17]; simp
              have hbW : Below W w16 w17 := by rw [hw17]; exact (Below.refl _ _).setCell (p := ⟨W, 1, none⟩) (Nat.le_refl _) _
              have B_w17 := Lib.hid (Below.trans B_w16.out (Below.mono hbW NW.out))
              have GA_w17 := Lib.hid ((hbW.block _ OAW.out).trans GA_w16.out)
              have LA_w17 := Lib.hid (show H < w17.heap.size by rw [hs]; exact LA_w16.out)
              have GB_w17 := Lib.hid ((hbW.block _ OBW.out).trans GB_w16.out)
              have LB_w17 := Lib.hid (show H + 1 < w17.heap.size by rw [hs]; exact LB_w16.out)
              have GW_w17 := Lib.hid (show w17.heap[W]? = some (.cells #[.slice none 0 0, .int .i64 (k : Int)] 24 (0, 0)) by rw [hw17]; exact set_snd GW_w16.out _)
              have LW_w17 := Lib.hid (show W < w17.heap.size by rw [hs]; exact LW_w16.out)
              have RW_w17 := Lib.hid (by have h := rd_setW1 (W := W) RW_w16.out GW_w16.out (.int .i64 (k : Int)); rewrite [← hw17] at h; exact h)
              have RY_w17 := Lib.hid (by have h := rd_setW1 (W := W) RY_w16.out GW_w16.out (.int .i64 (k : Int)); rewrite [← hw17] at h; exact h)
              have HWw17 := Lib.hid hw17
              have HBW_w17 := Lib.hid hbW
              clear hw17 hs hbW
              go_upto_region 40 with fail
              rw [← HWw17.out]
              clear cW0 cW1
              clear fW0 fW1
              clear cA0 cA1
              have LM := Lib.hid (show W + 1 ≤ w17.heap.size from LW_w17.out)
              go_wp2_with fail
              go_loopw [26] (fun i wr => ∃ (q : Nat) (va : Option Addr) (cv : Nat), q ≤ x2.length ∧ i = .int .i64 q ∧ Hid (JInv w17 wr W va q cv k x2 x3)) (fun i _ => x2.length - (intOf i).toNat)
              case atStart => exact ⟨0, none, 0, Nat.zero_le _, rfl, Lib.hid ⟨GW_w17.out, World.ownsRow_nil _ _ _ _, Below.refl _ _⟩⟩
              case round =>
                obtain ⟨q, va, cv, hq, rfl, HJ⟩ := hrel
                obtain ⟨wJ, rfl⟩ : ∃ z, z = wr := ⟨_, rfl⟩
                have GA_r := Lib.hid ((HJ.out.bel.block _ OAW.out).trans GA_w17.out)
                have GB_r := Lib.hid ((HJ.out.bel.block _ OBW.out).trans GB_w17.out)
                by_cases hlt : q < x2.length
                · have hz0 : (0 : Int) ≤ (q : Int) := by omega
                  have hz1 : (q : Int) < (x2.length : Int) := by omega
                  have hz2 : (q : Int) < (x3.length : Int) := by rw [← HLEN.out]; exact hz1
                  have e4 : IntKind.i64.wrap ((q : Int) + 1) = (q : Int) + 1 := IntWalk.i64_in _ (by omega)
                  obtain ⟨X, hX⟩ : ∃ X, X = x2.getD q 0 := ⟨_, rfl⟩
                  obtain ⟨Y, hY⟩ : ∃ Y, Y = x3.getD q 0 := ⟨_, rfl⟩
                  have hor := or_bytes X Y
                  have bl : Below v1.heap.size v1 wJ := B_w17.out.trans (HJ.out.bel.mono NW.out)
                  obtain ⟨sb, so, ha, hsb, hca⟩ := R2.out.bytes hlt
                  obtain ⟨tb, tO, hat, htb, hcb⟩ := R3.out.bytes (k := q) (by have := HLEN.out; omega)
                  have ca := (bl.cell (p := ⟨sb, so + q, none⟩) hsb).trans (hca q hlt)
                  have cb := (bl.cell (p := ⟨tb, tO + q, none⟩) htb).trans (hcb q (by have := HLEN.out; omega))
                  rw [show x2[q] = X by rw [hX, List.getD_eq_getElem?_getD, List.getElem?_eq_getElem hlt]; rfl] at ca
                  rw [show x3[q]'(by have := HLEN.out; omega) = Y by rw [hY, List.getD_eq_getElem?_getD, List.getElem?_eq_getElem (by have := HLEN.out; omega)]; rfl] at cb
                  have HXY := Lib.hid (And.intro hX hY)
                  have HSB := Lib.hid (show sb < W from Nat.lt_of_lt_of_le hsb NW.out)
                  have HTB := Lib.hid (show tb < W from Nat.lt_of_lt_of_le htb NW.out)
                  clear hX hY hca hcb bl hsb htb
                  subst ha
                  subst hat
                  have cA0 : wJ.cell? ⟨H, 0, none⟩ = some (.slice (some ⟨sb, so, none⟩) x2.length c2) := by rw [cell_of_row _ _ _ _ _ _ GA_r.out]; rfl
                  have cB0 : wJ.cell? ⟨H + 1, 0, none⟩ = some (.slice (some ⟨tb, tO, none⟩) x3.length c3) := by rw [cell_of_row _ _ _ _ _ _ GB_r.out]; rfl
                  have cW0 : wJ.cell? ⟨W, 0, none⟩ = some (.slice va q cv) := by rw [cell_of_row _ _ _ _ _ _ HJ.out.cell]; rfl
                  have KS := Lib.hid (show ∀ w', Below (W + 1) wJ w' → w'.cell? ⟨W, 0, none⟩ = some (.slice va q cv) ∧ w'.cell? ⟨H, 0, none⟩ = some (.slice (some ⟨sb, so, none⟩) x2.length c2) ∧ w'.cell? ⟨H + 1, 0, none⟩ = some (.slice (some ⟨tb, tO, none⟩) x3.length c3) ∧ w'.cell? ⟨sb, so + q, none⟩ = some (.int .u8 (X.toNat : Int)) ∧ w'.cell? ⟨tb, tO + q, none⟩ = some (.int .u8 (Y.toNat : Int)) from fun w' hb => ⟨(hb.cell (p := ⟨W, 0, none⟩) (Nat.lt_succ_self _)).trans cW0, (hb.cell (p := ⟨H, 0, none⟩) (Nat.lt_succ_of_lt OAW.out)).trans cA0, (hb.cell (p := ⟨H + 1, 0, none⟩) (Nat.lt_succ_of_lt OBW.out)).trans cB0, (hb.cell (p := ⟨sb, so + q, none⟩) (Nat.lt_succ_of_lt HSB.out)).trans ca, (hb.cell (p := ⟨tb, tO + q, none⟩) (Nat.lt_succ_of_lt HTB.out)).trans cb⟩)
                  have LWA := Lib.hid (lt_of_heap HJ.out.cell)
                  have hFs := F43_in
                  go_upto_region 43 with fail
                  clear cA0 cB0 cW0 ca cb
                  refine wp_region_final_drew F43 (fun w' => w'.cell? ⟨W, 0, none⟩ = some (.slice va q cv) ∧ w'.cell? ⟨H, 0, none⟩ = some (.slice (some ⟨sb, so, none⟩) x2.length c2) ∧ w'.cell? ⟨H + 1, 0, none⟩ = some (.slice (some ⟨tb, tO, none⟩) x3.length c3) ∧ w'.cell? ⟨sb, so + q, none⟩ = some (.int .u8 (X.toNat : Int)) ∧ w'.cell? ⟨tb, tO + q, none⟩ = some (.int .u8 (Y.toNat : Int))) (by kernel_rfl) (KS.out wJ.drew ((Below.refl _ _).drew)) (fun hHeld => ?_)
                  obtain ⟨wX0, hwX0⟩ : ∃ z, z = wJ.drew := ⟨_, rfl⟩
                  have BX0 := Lib.hid (show Below (W + 1) wJ wX0 by rw [hwX0]; exact (Below.refl _ _).drew)
                  have OX0 := Lib.hid (show wX0.ownsRow w17.heap.size 5 1 (.slice va q cv) q ((jt x2 x3 q).map vB) by rw [hwX0]; exact HJ.out.own)
                  have SX0 := Lib.hid (show wX0.heap.size = wJ.heap.size by rw [hwX0]; rfl)
                  rw [← hwX0] at hHeld ⊢
                  clear hwX0
                  refine wpAnyF_take (fs := [16]) (i := 0) (oi := _) (v := .pointer (some ⟨W, 0, none⟩)) rfl (by kernel_rfl) (by kernel_rfl) (by kernel_rfl) hFs rfl (by kernel_rfl) (fun _ _ _ h => h) (Or.inl ⟨by rfl, fun w hw => by go_simp⟩) hHeld ?_
                  simp only [Act.put, List.getElem_toArray, List.getElem_cons_zero, List.getElem_cons_succ, List.setIfInBounds_toArray, List.set_cons_zero, List.set_cons_succ]
                  refine wpAnyF_take (fs := [16]) (i := 1) (oi := _) (v := .slice va q cv) rfl (by kernel_rfl) (by kernel_rfl) (by kernel_rfl) hFs rfl (by kernel_rfl) (fun _ _ _ h => h) (Or.inl ⟨by rfl, fun w hw => by have hc := hw.1; clear hw; go_simp⟩) hHeld ?_
                  simp only [Act.put, List.getElem_toArray, List.getElem_cons_zero, List.getElem_cons_succ, List.setIfInBounds_toArray, List.set_cons_zero, List.set_cons_succ]
                  refine wpAnyF_take (fs := [16]) (i := 2) (oi := _) (v := .pointer (some ⟨H, 0, none⟩)) rfl (by kernel_rfl) (by kernel_rfl) (by kernel_rfl) hFs rfl (by kernel_rfl) (fun _ _ _ h => h) (Or.inl ⟨by rfl, fun w hw => by go_simp⟩) hHeld ?_
                  simp only [Act.put, List.getElem_toArray, List.getElem_cons_zero, List.getElem_cons_succ, List.setIfInBounds_toArray, List.set_cons_zero, List.set_cons_succ]
                  refine wpAnyF_take (fs := [16]) (i := 3) (oi := _) (v := .slice (some ⟨sb, so, none⟩) x2.length c2) rfl (by kernel_rfl) (by kernel_rfl) (by kernel_rfl) hFs rfl (by kernel_rfl) (fun _ _ _ h => h) (Or.inl ⟨by rfl, fun w hw => by have hc := hw.2.1; clear hw; go_simp⟩) hHeld ?_
                  simp only [Act.put, List.getElem_toArray, List.getElem_cons_zero, List.getElem_cons_succ, List.setIfInBounds_toArray, List.set_cons_zero, List.set_cons_succ]
                  refine wpAnyF_take (fs := [16]) (i := 4) (oi := _) (v := .int .i64 (q : Int)) rfl (by kernel_rfl) (by kernel_rfl) (by kernel_rfl) hFs rfl (by kernel_rfl) (fun _ _ _ h => h) (Or.inl ⟨by rfl, fun w hw => by go_simp⟩) hHeld ?_
                  simp only [Act.put, List.getElem_toArray, List.getElem_cons_zero, List.getElem_cons_succ, List.setIfInBounds_toArray, List.set_cons_zero, List.set_cons_succ]
                  refine wpAnyF_take (fs := [16]) (i := 5) (oi := _) (v := .pointer (some ⟨sb, so + q, none⟩)) rfl (by kernel_rfl) (by kernel_rfl) (by kernel_rfl) hFs rfl (by kernel_rfl) (fun _ _ _ h => h) (Or.inl ⟨by rfl, fun w hw => by go_simp⟩) hHeld ?_
                  simp only [Act.put, List.getElem_toArray, List.getElem_cons_zero, List.getElem_cons_succ, List.setIfInBounds_toArray, List.set_cons_zero, List.set_cons_succ]
                  refine wpAnyF_take (fs := [16]) (i := 6) (oi := _) (v := .int .u8 (X.toNat : Int)) rfl (by kernel_rfl) (by kernel_rfl) (by kernel_rfl) hFs rfl (by kernel_rfl) (fun _ _ _ h => h) (Or.inl ⟨by rfl, fun w hw => by have hc := hw.2.2.2.1; clear hw; go_simp⟩) hHeld ?_
                  simp only [Act.put, List.getElem_toArray, List.getElem_cons_zero, List.getElem_cons_succ, List.setIfInBounds_toArray, List.set_cons_zero, List.set_cons_succ]
                  refine wpAnyF_take (fs := [16]) (i := 7) (oi := _) (v := .pointer (some ⟨H + 1, 0, none⟩)) rfl (by kernel_rfl) (by kernel_rfl) (by kernel_rfl) hFs rfl (by kernel_rfl) (fun _ _ _ h => h) (Or.inl ⟨by rfl, fun w hw => by go_simp⟩) hHeld ?_
                  simp only [Act.put, List.getElem_toArray, List.getElem_cons_zero, List.getElem_cons_succ, List.setIfInBounds_toArray, List.set_cons_zero, List.set_cons_succ]
                  refine wpAnyF_take (fs := [16]) (i := 8) (oi := _) (v := .slice (some ⟨tb, tO, none⟩) x3.length c3) rfl (by kernel_rfl) (by kernel_rfl) (by kernel_rfl) hFs rfl (by kernel_rfl) (fun _ _ _ h => h) (Or.inl ⟨by rfl, fun w hw => by have hc := hw.2.2.1; clear hw; go_simp⟩) hHeld ?_
                  simp only [Act.put, List.getElem_toArray, List.getElem_cons_zero, List.getElem_cons_succ, List.setIfInBounds_toArray, List.set_cons_zero, List.set_cons_succ]
                  refine wpAnyF_take (fs := [16]) (i := 9) (oi := _) (v := .int .i64 (q : Int)) rfl (by kernel_rfl) (by kernel_rfl) (by kernel_rfl) hFs rfl (by kernel_rfl) (fun _ _ _ h => h) (Or.inl ⟨by rfl, fun w hw => by go_simp⟩) hHeld ?_
                  simp only [Act.put, List.getElem_toArray, List.getElem_cons_zero, List.getElem_cons_succ, List.setIfInBounds_toArray, List.set_cons_zero, List.set_cons_succ]
                  refine wpAnyF_take (fs := [16]) (i := 10) (oi := _) (v := .pointer (some ⟨tb, tO + q, none⟩)) rfl (by kernel_rfl) (by kernel_rfl) (by kernel_rfl) hFs rfl (by kernel_rfl) (fun _ _ _ h => h) (Or.inl ⟨by rfl, fun w hw => by go_simp⟩) hHeld ?_
                  simp only [Act.put, List.getElem_toArray, List.getElem_cons_zero, List.getElem_cons_succ, List.setIfInBounds_toArray, List.set_cons_zero, List.set_cons_succ]
                  refine wpAnyF_take (fs := [16]) (i := 11) (oi := _) (v := .int .u8 (Y.toNat : Int)) rfl (by kernel_rfl) (by kernel_rfl) (by kernel_rfl) hFs rfl (by kernel_rfl) (fun _ _ _ h => h) (Or.inl ⟨by rfl, fun w hw => by have hc := hw.2.2.2.2; clear hw; go_simp⟩) hHeld ?_
                  simp only [Act.put, List.getElem_toArray, List.getElem_cons_zero, List.getElem_cons_succ, List.setIfInBounds_toArray, List.set_cons_zero, List.set_cons_succ]
                  refine wpAnyF_take (fs := [16]) (i := 12) (oi := _) (v := .int .u8 ((orX X Y).toNat : Int)) rfl (by kernel_rfl) (by kernel_rfl) (by kernel_rfl) hFs rfl (by kernel_rfl) (fun _ _ _ h => h) (Or.inl ⟨by rfl, fun w hw => by go_simp⟩) hHeld ?_
                  simp only [Act.put, List.getElem_toArray, List.getElem_cons_zero, List.getElem_cons_succ, List.setIfInBounds_toArray, List.set_cons_zero, List.set_cons_succ]
                  refine wpAnyF_ready (rs := [13]) (by kernel_rfl) (by simp) ?_
                  refine AllReadyF.cons (o := _) rfl (fun K9 hK => ?_) AllReadyF.nil
                  have HK := Lib.hid hK
                  clear hK
                  go_simp
                  obtain ⟨IB, hIB⟩ : ∃ z, z = wX0.heap.size := ⟨_, rfl⟩
                  rw [← hIB]
                  obtain ⟨wX1, hwX1⟩ : ∃ z, z = wX0.alloc (.cells #[.int .u8 ((orX X Y).toNat : Int)] 5) := ⟨_, rfl⟩
                  rw [← hwX1]
                  have bs : Below wX0.heap.size wX0 wX1 := by rw [hwX1]; exact (Below.refl _ _).alloc (Nat.le_refl _) _
                  have sz1 : wX0.heap.size ≤ wX1.heap.size := bs.size
                  have BX1 := Lib.hid (show Below (W + 1) wJ wX1 from BX0.out.trans (bs.mono (by have := SX0.out; have := LWA.out; omega)))
                  have OX1 := Lib.hid (own_below OX0.out bs)
                  have RX1 := Lib.hid (show Rd wX1 (some ⟨IB, 0, none⟩) 5 ([orX X Y].map vB) from .inr ⟨IB, 0, _, _, rfl, (by rw [hwX1, hIB]; exact heap_alloc_new _ _), fun i hi => by
                    obtain rfl : i = 0 := by simp at hi; omega
                    rfl⟩)
                  have LX1 := Lib.hid (show w17.heap.size ≤ wX1.heap.size by have := SX0.out; have := HJ.out.bel.size; omega)
                  clear hwX1 hIB bs sz1
                  have hS := KS.out _ BX1.out
                  clear hHeld
                  refine HK.out _ _ (fun _ => hS) ?_
                  clear HK K9
                  try simp only [Act.put, List.getElem_toArray, List.getElem_cons_zero, List.getElem_cons_succ, List.setIfInBounds_toArray, List.set_cons_zero, List.set_cons_succ]
                  have hHeld := hS
                  clear hS
                  refine wpAnyF_ready (rs := [14]) (by kernel_rfl) (by simp) ?_
                  refine AllReadyF.cons (o := _) rfl (fun K9 hK => ?_) AllReadyF.nil
                  have HK := Lib.hid hK
                  clear hK
                  refine stepAppRw 22 5 (.int .u8 0) 1 1 Tryd.underlying22 info_byte rfl (by omega) rfl (.tmp 190) (.tmp 202) rfl w17.heap.size _ q _ (by rfl) OX1.out ⟨IB, 0, none⟩ 1 _ ([orX X Y].map vB) (by rfl) _ RX1.out (by simp) (one_bytes [orX X Y]) (by omega) (by omega) (by omega) LX1.out _ rfl ?_
                  intro gI cI wX2 hown hgrow hat _
                  have BX2 := Lib.hid (show Below (W + 1) wJ wX2 from below_grow BX1.out (own_low OX1.out LM.out) hgrow (Nat.le_trans LM.out LX1.out))
                  have OX2 := Lib.hid hown
                  clear hown hgrow hat
                  have hS := KS.out _ BX2.out
                  clear hHeld
                  refine HK.out _ _ (fun _ => hS) ?_
                  clear HK K9
                  try simp only [Act.put, List.getElem_toArray, List.getElem_cons_zero, List.getElem_cons_succ, List.setIfInBounds_toArray, List.set_cons_zero, List.set_cons_succ]
                  have hHeld := hS
                  clear hS
                  refine wpAnyF_ready (rs := [15]) (by kernel_rfl) (by simp) ?_
                  refine AllReadyF.cons (o := _) rfl (fun K9 hK => ?_) AllReadyF.nil
                  have HK := Lib.hid hK
                  clear hK
                  go_simp
                  have hS := KS.out _ BX2.out
                  clear hHeld
                  refine HK.out _ _ (fun _ => hS) ?_
                  clear HK K9
                  try simp only [Act.put, List.getElem_toArray, List.getElem_cons_zero, List.getElem_cons_succ, List.setIfInBounds_toArray, List.set_cons_zero, List.set_cons_succ]
                  have hHeld := hS
                  clear hS
                  refine wpAnyF_ready (rs := [16]) (by kernel_rfl) (by simp) ?_
                  refine AllReadyF.cons (o := _) rfl (fun K9 hK => ?_) AllReadyF.nil
                  have HK := Lib.hid hK
                  clear hK
                  have GX2 := Lib.hid ((BX2.out.block W (Nat.lt_succ_self _)).trans HJ.out.cell)
                  have cW0 : wX2.cell? ⟨W, 0, none⟩ = some (.slice va q cv) := by rw [cell_of_row _ _ _ _ _ _ GX2.out]; rfl
                  have fW0 : wX2.frozen? ⟨W, 0, none⟩ = false := frozen_of_row _ _ _ _ _ GX2.out
                  go_simp
                  obtain ⟨wX3, hwX3⟩ : ∃ z, z = wX2.setCell ⟨W, 0, none⟩ (.slice (some ⟨gI, 0, none⟩) (q + 1) cI) := ⟨_, rfl⟩
                  rw [← hwX3]
                  have HN : Hid (JInv w17 wX3 W (some ⟨gI, 0, none⟩) (q + 1) cI k x2 x3) := Lib.hid ⟨by rw [hwX3]; exact set_fst GX2.out _, by
                    rw [jt_succ, List.map_append, ← HXY.out.1, ← HXY.out.2, hwX3]
                    exact own_far OX2.out ⟨W, 0, none⟩ _ (fun h => by have := (OX2.out.lt gI rfl).1; have := LM.out; simp at h; omega), by rw [hwX3]; exact (HJ.out.bel.trans (BX2.out.mono (Nat.le_succ _))).setCell (p := ⟨W, 0, none⟩) (Nat.le_refl _) _⟩
                  clear cW0 fW0 hwX3
                  refine HK.out _ _ (fun h => absurd (h 16 rfl) (by decide)) ?_
                  clear HK K9 hHeld
                  try simp only [Act.put, List.getElem_toArray, List.getElem_cons_zero, List.getElem_cons_succ, List.setIfInBounds_toArray, List.set_cons_zero, List.set_cons_succ]
                  refine wpAnyF_done (by kernel_rfl) ?_ _
                  clear KS
                  go_wp2_with fail
                  go_roundw
                  case rel => exact ⟨q + 1, _, _, hlt, by go_num, HN⟩
                  case measure => simp [intOf]; omega
                · obtain rfl : q = x2.length := by omega
                  have GA_wJ := Lib.hid ((HJ.out.bel.block _ OAW.out).trans GA_w17.out)
                  have LA_wJ := Lib.hid (lt_of_heap GA_wJ.out)
                  have GB_wJ := Lib.hid ((HJ.out.bel.block _ OBW.out).trans GB_w17.out)
                  have LB_wJ := Lib.hid (lt_of_heap GB_wJ.out)
                  have GW_wJ := Lib.hid HJ.out.cell
                  have LW_wJ := Lib.hid (lt_of_heap GW_wJ.out)
                  have RJ_wJ := Lib.hid (Rd.of_own HJ.out.own)
                  have B_wJ := Lib.hid (B_w17.out.trans (HJ.out.bel.mono NW.out))
                  clear HJ GA_r GB_r
                  have cA0 : wJ.cell? ⟨H, 0, none⟩ = some (.slice a2 x2.length c2) := by rw [cell_of_row _ _ _ _ _ _ GA_wJ.out]; rfl
                  have cA1 : wJ.cell? ⟨H, 1, none⟩ = some (.int .i64 (k : Int)) := by rw [cell_of_row _ _ _ _ _ _ GA_wJ.out]; rfl
                  have cB0 : wJ.cell? ⟨H + 1, 0, none⟩ = some (.slice a3 x3.length c3) := by rw [cell_of_row _ _ _ _ _ _ GB_wJ.out]; rfl
                  have cB1 : wJ.cell? ⟨H + 1, 1, none⟩ = some (.int .i64 (k : Int)) := by rw [cell_of_row _ _ _ _ _ _ GB_wJ.out]; rfl
                  have HCC := Lib.hid (Join_ok2 x2 x3 hx0 hx1 HLEN.out.symm k hK1 hK2 a2 c2 e2 a3 c3 e3 wJ ⟨(R2.out.below B_wJ.out), (R3.out.below B_wJ.out)⟩)
                  go_wp2_with fail
                  refine HCC.out.mono ?_
                  rintro e w18 ⟨za, zc, ze, rfl, rz, hb⟩
                  clear HCC
                  clear cB0 cB1 cA0 cA1
                  have B_w18 := Lib.hid (Below.trans B_wJ.out (Below.mono hb (Below.size B_wJ.out)))
                  have GA_w18 := Lib.hid ((Below.block hb _ LA_wJ.out).trans GA_wJ.out)
                  have LA_w18 := Lib.hid (Nat.lt_of_lt_of_le LA_wJ.out (Below.size hb))
                  have GB_w18 := Lib.hid ((Below.block hb _ LB_wJ.out).trans GB_wJ.out)
                  have LB_w18 := Lib.hid (Nat.lt_of_lt_of_le LB_wJ.out (Below.size hb))
                  have GW_w18 := Lib.hid ((Below.block hb _ LW_wJ.out).trans GW_wJ.out)
                  have LW_w18 := Lib.hid (Nat.lt_of_lt_of_le LW_wJ.out (Below.size hb))
                  have RJ_w18 := Lib.hid (RJ_wJ.out.below hb)
                  have RZ_w18 := Lib.hid rz
                  clear rz
                  clear hb
                  obtain ⟨Z, hZ⟩ : ∃ z, z = w18.heap.size := ⟨_, rfl⟩
                  obtain ⟨w19, hw19⟩ : ∃ z, z = w18.alloc (.cells #[.slice za x2.length zc, .int .i64 (k : Int)] 24) := ⟨_, rfl⟩
                  have hb : Below w18.heap.size w18 w19 := by rw [hw19]; exact (Below.refl _ _).alloc (Nat.le_refl _) _
                  have B_w19 := Lib.hid (Below.trans B_w18.out (Below.mono hb (Below.size B_w18.out)))
                  have GA_w19 := Lib.hid ((Below.block hb _ LA_w18.out).trans GA_w18.out)
                  have LA_w19 := Lib.hid (Nat.lt_of_lt_of_le LA_w18.out (Below.size hb))
                  have GB_w19 := Lib.hid ((Below.block hb _ LB_w18.out).trans GB_w18.out)
                  have LB_w19 := Lib.hid (Nat.lt_of_lt_of_le LB_w18.out (Below.size hb))
                  have GW_w19 := Lib.hid ((Below.block hb _ LW_w18.out).trans GW_w18.out)
                  have LW_w19 := Lib.hid (Nat.lt_of_lt_of_le LW_w18.out (Below.size hb))
                  have RJ_w19 := Lib.hid (RJ_w18.out.below hb)
                  have RZ_w19 := Lib.hid (RZ_w18.out.below hb)
                  clear B_wJ GA_wJ LA_wJ GB_wJ LB_wJ GW_wJ LW_wJ RJ_wJ
                  have GZ_w19 := Lib.hid (show w19.heap[Z]? = some (.cells #[.slice za x2.length zc, .int .i64 (k : Int)] 24 (0, 0)) by rw [hw19, hZ]; exact heap_alloc_new _ _)
                  have LZ_w19 := Lib.hid (lt_of_heap GZ_w19.out)
                  have NZ := Lib.hid (show v1.heap.size ≤ Z by rw [hZ]; exact B_w18.out.size)
                  have HZ := Lib.hid hZ
                  have HWw19 := Lib.hid hw19
                  clear hb hZ hw19
                  go_upto_region 45 with fail
                  rw [← HZ.out, ← HWw19.out]
                  have HCC := Lib.hid (Error_nil 0 true (by decide) w19)
                  go_wp2_with fail
                  refine HCC.out.mono ?_
                  rintro e wq ⟨rfl, hq⟩
                  subst hq
                  clear HCC
                  have cZ0 : w19.cell? ⟨Z, 0, none⟩ = some (.slice za x2.length zc) := by rw [cell_of_row _ _ _ _ _ _ GZ_w19.out]; rfl
                  have cZ1 : w19.cell? ⟨Z, 1, none⟩ = some (.int .i64 (k : Int)) := by rw [cell_of_row _ _ _ _ _ _ GZ_w19.out]; rfl
                  have cW0 : w19.cell? ⟨W, 0, none⟩ = some (.slice va x2.length cv) := by rw [cell_of_row _ _ _ _ _ _ GW_w19.out]; rfl
                  have cW1 : w19.cell? ⟨W, 1, none⟩ = some (.int .i64 (k : Int)) := by rw [cell_of_row _ _ _ _ _ _ GW_w19.out]; rfl
                  have HCC := Lib.hid (BytesE_calls (joinB x2 x3) x2.length (joinB_length _ _) za va zc cv ze 5 w19 RZ_w19.out (by rw [← jt_all]; exact RJ_w19.out) (by omega))
                  go_wp2_with fail
                  refine HCC.out.mono ?_
                  rintro e w20 ⟨rfl, hb⟩
                  clear HCC
                  clear cZ0 cZ1
                  clear cW0 cW1
                  have B_w20 := Lib.hid (Below.trans B_w19.out (Below.mono hb (Below.size B_w19.out)))
                  have GA_w20 := Lib.hid ((Below.block hb _ LA_w19.out).trans GA_w19.out)
                  have LA_w20 := Lib.hid (Nat.lt_of_lt_of_le LA_w19.out (Below.size hb))
                  have GB_w20 := Lib.hid ((Below.block hb _ LB_w19.out).trans GB_w19.out)
                  have LB_w20 := Lib.hid (Nat.lt_of_lt_of_le LB_w19.out (Below.size hb))
                  have GW_w20 := Lib.hid ((Below.block hb _ LW_w19.out).trans GW_w19.out)
                  have LW_w20 := Lib.hid (Nat.lt_of_lt_of_le LW_w19.out (Below.size hb))
                  have GZ_w20 := Lib.hid ((Below.block hb _ LZ_w19.out).trans GZ_w19.out)
                  have LZ_w20 := Lib.hid (Nat.lt_of_lt_of_le LZ_w19.out (Below.size hb))
                  have RJ_w20 := Lib.hid (RJ_w19.out.below hb)
                  have RZ_w20 := Lib.hid (RZ_w19.out.below hb)
                  clear B_w18 GA_w18 LA_w18 GB_w18 LB_w18 GW_w18 LW_w18 RJ_w18 RZ_w18
                  clear hb
                  have cZ0 : w20.cell? ⟨Z, 0, none⟩ = some (.slice za x2.length zc) := by rw [cell_of_row _ _ _ _ _ _ GZ_w20.out]; rfl
                  have cZ1 : w20.cell? ⟨Z, 1, none⟩ = some (.int .i64 (k : Int)) := by rw [cell_of_row _ _ _ _ _ _ GZ_w20.out]; rfl
                  have cW0 : w20.cell? ⟨W, 0, none⟩ = some (.slice va x2.length cv) := by rw [cell_of_row _ _ _ _ _ _ GW_w20.out]; rfl
                  have cW1 : w20.cell? ⟨W, 1, none⟩ = some (.int .i64 (k : Int)) := by rw [cell_of_row _ _ _ _ _ _ GW_w20.out]; rfl
                  have FB := Lib.hid (BW.out.trans (Below.mono B_w20.out BW.out.size))
                  go_wp2_with fail
                  go_ret
                  exact ⟨by simp, FB.out⟩
            · have z2 : ((k : Int) != j3) = true := by simpa using hkj
              have HM := Lib.hid (show ¬ (x2.length = x3.length ∧ (k : Int) = j3) from fun h => hkj h.2)
              clear hkj
              have cA0 : w15.cell? ⟨H, 0, none⟩ = some (.slice a2 x2.length c2) := by rw [cell_of_row _ _ _ _ _ _ GA_w15.out]; rfl
              have cA1 : w15.cell? ⟨H, 1, none⟩ = some (.int .i64 (k : Int)) := by rw [cell_of_row _ _ _ _ _ _ GA_w15.out]; rfl
              have cB0 : w15.cell? ⟨H + 1, 0, none⟩ = some (.slice a3 x3.length c3) := by rw [cell_of_row _ _ _ _ _ _ GB_w15.out]; rfl
              have cB1 : w15.cell? ⟨H + 1, 1, none⟩ = some (.int .i64 j3) := by rw [cell_of_row _ _ _ _ _ _ GB_w15.out]; rfl
              have cW0 : w15.cell? ⟨W, 0, none⟩ = some (.slice wa_ x2.length wc_) := by rw [cell_of_row _ _ _ _ _ _ GW_w15.out]; rfl
              have cW1 : w15.cell? ⟨W, 1, none⟩ = some (.int .i64 (k : Int)) := by rw [cell_of_row _ _ _ _ _ _ GW_w15.out]; rfl
              have fW0 : w15.frozen? ⟨W, 0, none⟩ = false := frozen_of_row _ _ _ _ _ GW_w15.out
              have fW1 : w15.frozen? ⟨W, 1, none⟩ = false := frozen_of_row _ _ _ _ _ GW_w15.out
              obtain ⟨w16, hw16⟩ : ∃ z, z = (w15.setCell ⟨W, 0, none⟩ (.slice none 0 0)).setCell ⟨W, 1, none⟩ (.int .i64 0) := ⟨_, rfl⟩
              have hs : w16.heap.size = w15.heap.size := by rw [hw16]; simp
              have hbW : Below W w15 w16 := by rw [hw16]; exact ((Below.refl _ _).setCell (p := ⟨W, 0, none⟩) (Nat.le_refl _) _).setCell (p := ⟨W, 1, none⟩) (Nat.le_refl _) _
              have B_w16 := Lib.hid (Below.trans B_w15.out (Below.mono hbW NW.out))
              have GA_w16 := Lib.hid ((hbW.block _ OAW.out).trans GA_w15.out)
              have LA_w16 := Lib.hid (show H < w16.heap.size by rw [hs]; exact LA_w15.out)
              have GB_w16 := Lib.hid ((hbW.block _ OBW.out).trans GB_w15.out)
              have LB_w16 := Lib.hid (show H + 1 < w16.heap.size by rw [hs]; exact LB_w15.out)
              have GW_w16 := Lib.hid (show w16.heap[W]? = some (.cells #[.slice none 0 0, .int .i64 0] 24 (0, 0)) by rw [hw16]; exact set_two GW_w15.out _ _)
              have LW_w16 := Lib.hid (show W < w16.heap.size by rw [hs]; exact LW_w15.out)
              have RW_w16 := Lib.hid (by have h := rd_setW (W := W) RW_w15.out GW_w15.out (.slice none 0 0) (.int .i64 0); rewrite [← hw16] at h; exact h)
              have RY_w16 := Lib.hid (by have h := rd_setW (W := W) RY_w15.out GW_w15.out (.slice none 0 0) (.int .i64 0); rewrite [← hw16] at h; exact h)
              have HWw16 := Lib.hid hw16
              have HBW_w16 := Lib.hid hbW
              clear hw16 hs hbW
              go_upto_region 38 with fail
              rw [← HWw16.out]
              clear cW0 cW1
              clear fW0 fW1
              clear cA0 cA1
              clear cB0 cB1
              have cA0 : w16.cell? ⟨H, 0, none⟩ = some (.slice a2 x2.length c2) := by rw [cell_of_row _ _ _ _ _ _ GA_w16.out]; rfl
              have cA1 : w16.cell? ⟨H, 1, none⟩ = some (.int .i64 (k : Int)) := by rw [cell_of_row _ _ _ _ _ _ GA_w16.out]; rfl
              have cB0 : w16.cell? ⟨H + 1, 0, none⟩ = some (.slice a3 x3.length c3) := by rw [cell_of_row _ _ _ _ _ _ GB_w16.out]; rfl
              have cB1 : w16.cell? ⟨H + 1, 1, none⟩ = some (.int .i64 j3) := by rw [cell_of_row _ _ _ _ _ _ GB_w16.out]; rfl
              have HCC := Lib.hid (Join_no3 x2.length x3.length (k : Int) j3 HSS.out HTY.out HM.out a2 c2 a3 c3 w16)
              go_wp2_with fail
              refine HCC.out.mono ?_
              rintro e w17 ⟨rfl, hb⟩
              clear HCC
              clear cA0 cA1
              clear cB0 cB1
              have B_w17 := Lib.hid (Below.trans B_w16.out (Below.mono hb (Below.size B_w16.out)))
              have GA_w17 := Lib.hid ((Below.block hb _ LA_w16.out).trans GA_w16.out)
              have LA_w17 := Lib.hid (Nat.lt_of_lt_of_le LA_w16.out (Below.size hb))
              have GB_w17 := Lib.hid ((Below.block hb _ LB_w16.out).trans GB_w16.out)
              have LB_w17 := Lib.hid (Nat.lt_of_lt_of_le LB_w16.out (Below.size hb))
              have GW_w17 := Lib.hid ((Below.block hb _ LW_w16.out).trans GW_w16.out)
              have LW_w17 := Lib.hid (Nat.lt_of_lt_of_le LW_w16.out (Below.size hb))
              have RW_w17 := Lib.hid (RW_w16.out.below hb)
              have RY_w17 := Lib.hid (RY_w16.out.below hb)
              clear B_w14 GA_w14 LA_w14 GB_w14 LB_w14 GW_w14 LW_w14 GY_w14 LY_w14 RW_w14 RY_w14
              clear hb
              obtain ⟨Z, hZ⟩ : ∃ z, z = w17.heap.size := ⟨_, rfl⟩
              obtain ⟨w18, hw18⟩ : ∃ z, z = w17.alloc (.cells #[.slice none 0 0, .int .i64 0] 24) := ⟨_, rfl⟩
              have hb : Below w17.heap.size w17 w18 := by rw [hw18]; exact (Below.refl _ _).alloc (Nat.le_refl _) _
              have B_w18 := Lib.hid (Below.trans B_w17.out (Below.mono hb (Below.size B_w17.out)))
              have GA_w18 := Lib.hid ((Below.block hb _ LA_w17.out).trans GA_w17.out)
              have LA_w18 := Lib.hid (Nat.lt_of_lt_of_le LA_w17.out (Below.size hb))
              have GB_w18 := Lib.hid ((Below.block hb _ LB_w17.out).trans GB_w17.out)
              have LB_w18 := Lib.hid (Nat.lt_of_lt_of_le LB_w17.out (Below.size hb))
              have GW_w18 := Lib.hid ((Below.block hb _ LW_w17.out).trans GW_w17.out)
              have LW_w18 := Lib.hid (Nat.lt_of_lt_of_le LW_w17.out (Below.size hb))
              have RW_w18 := Lib.hid (RW_w17.out.below hb)
              have RY_w18 := Lib.hid (RY_w17.out.below hb)
              clear B_w16 GA_w16 LA_w16 GB_w16 LB_w16 GW_w16 LW_w16 RW_w16 RY_w16
              have GZ_w18 := Lib.hid (show w18.heap[Z]? = some (.cells #[.slice none 0 0, .int .i64 0] 24 (0, 0)) by rw [hw18, hZ]; exact heap_alloc_new _ _)
              have LZ_w18 := Lib.hid (lt_of_heap GZ_w18.out)
              have NZ := Lib.hid (show v1.heap.size ≤ Z by rw [hZ]; exact B_w17.out.size)
              have HZ := Lib.hid hZ
              have HWw18 := Lib.hid hw18
              clear hb hZ hw18
              go_upto_region 45 with fail
              rw [← HZ.out, ← HWw18.out]
              have HCC := Lib.hid (Error_err 3 3 true (by decide) w18 (EG.out.at_ B_w18.out))
              go_wp2_with fail
              refine HCC.out.mono ?_
              rintro e w19 ⟨rfl, hb⟩
              clear HCC
              have B_w19 := Lib.hid (Below.trans B_w18.out (Below.mono hb (Below.size B_w18.out)))
              have GA_w19 := Lib.hid ((Below.block hb _ LA_w18.out).trans GA_w18.out)
              have LA_w19 := Lib.hid (Nat.lt_of_lt_of_le LA_w18.out (Below.size hb))
              have GB_w19 := Lib.hid ((Below.block hb _ LB_w18.out).trans GB_w18.out)
              have LB_w19 := Lib.hid (Nat.lt_of_lt_of_le LB_w18.out (Below.size hb))
              have GW_w19 := Lib.hid ((Below.block hb _ LW_w18.out).trans GW_w18.out)
              have LW_w19 := Lib.hid (Nat.lt_of_lt_of_le LW_w18.out (Below.size hb))
              have GZ_w19 := Lib.hid ((Below.block hb _ LZ_w18.out).trans GZ_w18.out)
              have LZ_w19 := Lib.hid (Nat.lt_of_lt_of_le LZ_w18.out (Below.size hb))
              have RW_w19 := Lib.hid (RW_w18.out.below hb)
              have RY_w19 := Lib.hid (RY_w18.out.below hb)
              clear B_w17 GA_w17 LA_w17 GB_w17 LB_w17 GW_w17 LW_w17 RW_w17 RY_w17
              clear hb
              have cZ0 : w19.cell? ⟨Z, 0, none⟩ = some (.slice none 0 0) := by rw [cell_of_row _ _ _ _ _ _ GZ_w19.out]; rfl
              have cZ1 : w19.cell? ⟨Z, 1, none⟩ = some (.int .i64 0) := by rw [cell_of_row _ _ _ _ _ _ GZ_w19.out]; rfl
              have cW0 : w19.cell? ⟨W, 0, none⟩ = some (.slice none 0 0) := by rw [cell_of_row _ _ _ _ _ _ GW_w19.out]; rfl
              have cW1 : w19.cell? ⟨W, 1, none⟩ = some (.int .i64 0) := by rw [cell_of_row _ _ _ _ _ _ GW_w19.out]; rfl
              have HCC := Lib.hid (BytesN_calls w19)
              go_wp2_with fail
              refine HCC.out.mono ?_
              rintro e w20 ⟨rfl, hb⟩
              clear HCC
              clear cZ0 cZ1
              clear cW0 cW1
              have B_w20 := Lib.hid (Below.trans B_w19.out (Below.mono hb (Below.size B_w19.out)))
              have GA_w20 := Lib.hid ((Below.block hb _ LA_w19.out).trans GA_w19.out)
              have LA_w20 := Lib.hid (Nat.lt_of_lt_of_le LA_w19.out (Below.size hb))
              have GB_w20 := Lib.hid ((Below.block hb _ LB_w19.out).trans GB_w19.out)
              have LB_w20 := Lib.hid (Nat.lt_of_lt_of_le LB_w19.out (Below.size hb))
              have GW_w20 := Lib.hid ((Below.block hb _ LW_w19.out).trans GW_w19.out)
              have LW_w20 := Lib.hid (Nat.lt_of_lt_of_le LW_w19.out (Below.size hb))
              have GZ_w20 := Lib.hid ((Below.block hb _ LZ_w19.out).trans GZ_w19.out)
              have LZ_w20 := Lib.hid (Nat.lt_of_lt_of_le LZ_w19.out (Below.size hb))
              have RW_w20 := Lib.hid (RW_w19.out.below hb)
              have RY_w20 := Lib.hid (RY_w19.out.below hb)
              clear B_w18 GA_w18 LA_w18 GB_w18 LB_w18 GW_w18 LW_w18 GZ_w18 LZ_w18 RW_w18 RY_w18
              clear hb
              have cZ0 : w20.cell? ⟨Z, 0, none⟩ = some (.slice none 0 0) := by rw [cell_of_row _ _ _ _ _ _ GZ_w20.out]; rfl
              have cZ1 : w20.cell? ⟨Z, 1, none⟩ = some (.int .i64 0) := by rw [cell_of_row _ _ _ _ _ _ GZ_w20.out]; rfl
              have cW0 : w20.cell? ⟨W, 0, none⟩ = some (.slice none 0 0) := by rw [cell_of_row _ _ _ _ _ _ GW_w20.out]; rfl
              have cW1 : w20.cell? ⟨W, 1, none⟩ = some (.int .i64 0) := by rw [cell_of_row _ _ _ _ _ _ GW_w20.out]; rfl
              have FB := Lib.hid (BW.out.trans (Below.mono B_w20.out BW.out.size))
              go_wp2_with fail
              go_ret
              exact ⟨by simp, FB.out⟩
          · have z1 : ((x2.length : Int) != (x3.length : Int)) = true := by simp; omega
            have z1b : (x2.length != x3.length) = true := by simpa using hlen
            have HM := Lib.hid (show ¬ (x2.length = x3.length ∧ (k : Int) = j3) from fun h => hlen h.1)
            clear hlen
            have cA0 : w15.cell? ⟨H, 0, none⟩ = some (.slice a2 x2.length c2) := by rw [cell_of_row _ _ _ _ _ _ GA_w15.out]; rfl
            have cA1 : w15.cell? ⟨H, 1, none⟩ = some (.int .i64 (k : Int)) := by rw [cell_of_row _ _ _ _ _ _ GA_w15.out]; rfl
            have cB0 : w15.cell? ⟨H + 1, 0, none⟩ = some (.slice a3 x3.length c3) := by rw [cell_of_row _ _ _ _ _ _ GB_w15.out]; rfl
            have cB1 : w15.cell? ⟨H + 1, 1, none⟩ = some (.int .i64 j3) := by rw [cell_of_row _ _ _ _ _ _ GB_w15.out]; rfl
            have cW0 : w15.cell? ⟨W, 0, none⟩ = some (.slice wa_ x2.length wc_) := by rw [cell_of_row _ _ _ _ _ _ GW_w15.out]; rfl
            have cW1 : w15.cell? ⟨W, 1, none⟩ = some (.int .i64 (k : Int)) := by rw [cell_of_row _ _ _ _ _ _ GW_w15.out]; rfl
            have fW0 : w15.frozen? ⟨W, 0, none⟩ = false := frozen_of_row _ _ _ _ _ GW_w15.out
            have fW1 : w15.frozen? ⟨W, 1, none⟩ = false := frozen_of_row _ _ _ _ _ GW_w15.out
            obtain ⟨w16, hw16⟩ : ∃ z, z = (w15.setCell ⟨W, 0, none⟩ (.slice none 0 0)).setCell ⟨W, 1, none⟩ (.int .i64 0) := ⟨_, rfl⟩
            have hs : w16.heap.size = w15.heap.size := by rw [hw16]; simp
            have hbW : Below W w15 w16 := by rw [hw16]; exact ((Below.refl _ _).setCell (p := ⟨W, 0, none⟩) (Nat.le_refl _) _).setCell (p := ⟨W, 1, none⟩) (Nat.le_refl _) _
            have B_w16 := Lib.hid (Below.trans B_w15.out (Below.mono hbW NW.out))
            have GA_w16 := Lib.hid ((hbW.block _ OAW.out).trans GA_w15.out)
            have LA_w16 := Lib.hid (show H < w16.heap.size by rw [hs]; exact LA_w15.out)
            have GB_w16 := Lib.hid ((hbW.block _ OBW.out).trans GB_w15.out)
            have LB_w16 := Lib.hid (show H + 1 < w16.heap.size by rw [hs]; exact LB_w15.out)
            have GW_w16 := Lib.hid (show w16.heap[W]? = some (.cells #[.slice none 0 0, .int .i64 0] 24 (0, 0)) by rw [hw16]; exact set_two GW_w15.out _ _)
            have LW_w16 := Lib.hid (show W < w16.heap.size by rw [hs]; exact LW_w15.out)
            have RW_w16 := Lib.hid (by have h := rd_setW (W := W) RW_w15.out GW_w15.out (.slice none 0 0) (.int .i64 0); rewrite [← hw16] at h; exact h)
            have RY_w16 := Lib.hid (by have h := rd_setW (W := W) RY_w15.out GW_w15.out (.slice none 0 0) (.int .i64 0); rewrite [← hw16] at h; exact h)
            have HWw16 := Lib.hid hw16
            have HBW_w16 := Lib.hid hbW
            clear hw16 hs hbW
            go_upto_region 38 with fail
            rw [← HWw16.out]
            clear cW0 cW1
            clear fW0 fW1
            clear cA0 cA1
            clear cB0 cB1
            have cA0 : w16.cell? ⟨H, 0, none⟩ = some (.slice a2 x2.length c2) := by rw [cell_of_row _ _ _ _ _ _ GA_w16.out]; rfl
            have cA1 : w16.cell? ⟨H, 1, none⟩ = some (.int .i64 (k : Int)) := by rw [cell_of_row _ _ _ _ _ _ GA_w16.out]; rfl
            have cB0 : w16.cell? ⟨H + 1, 0, none⟩ = some (.slice a3 x3.length c3) := by rw [cell_of_row _ _ _ _ _ _ GB_w16.out]; rfl
            have cB1 : w16.cell? ⟨H + 1, 1, none⟩ = some (.int .i64 j3) := by rw [cell_of_row _ _ _ _ _ _ GB_w16.out]; rfl
            have HCC := Lib.hid (Join_no3 x2.length x3.length (k : Int) j3 HSS.out HTY.out HM.out a2 c2 a3 c3 w16)
            go_wp2_with fail
            refine HCC.out.mono ?_
            rintro e w17 ⟨rfl, hb⟩
            clear HCC
            clear cA0 cA1
            clear cB0 cB1
            have B_w17 := Lib.hid (Below.trans B_w16.out (Below.mono hb (Below.size B_w16.out)))
            have GA_w17 := Lib.hid ((Below.block hb _ LA_w16.out).trans GA_w16.out)
            have LA_w17 := Lib.hid (Nat.lt_of_lt_of_le LA_w16.out (Below.size hb))
            have GB_w17 := Lib.hid ((Below.block hb _ LB_w16.out).trans GB_w16.out)
            have LB_w17 := Lib.hid (Nat.lt_of_lt_of_le LB_w16.out (Below.size hb))
            have GW_w17 := Lib.hid ((Below.block hb _ LW_w16.out).trans GW_w16.out)
            have LW_w17 := Lib.hid (Nat.lt_of_lt_of_le LW_w16.out (Below.size hb))
            have RW_w17 := Lib.hid (RW_w16.out.below hb)
            have RY_w17 := Lib.hid (RY_w16.out.below hb)
            clear B_w14 GA_w14 LA_w14 GB_w14 LB_w14 GW_w14 LW_w14 GY_w14 LY_w14 RW_w14 RY_w14
            clear hb
            obtain ⟨Z, hZ⟩ : ∃ z, z = w17.heap.size := ⟨_, rfl⟩
            obtain ⟨w18, hw18⟩ : ∃ z, z = w17.alloc (.cells #[.slice none 0 0, .int .i64 0] 24) := ⟨_, rfl⟩
            have hb : Below w17.heap.size w17 w18 := by rw [hw18]; exact (Below.refl _ _).alloc (Nat.le_refl _) _
            have B_w18 := Lib.hid (Below.trans B_w17.out (Below.mono hb (Below.size B_w17.out)))
            have GA_w18 := Lib.hid ((Below.block hb _ LA_w17.out).trans GA_w17.out)
            have LA_w18 := Lib.hid (Nat.lt_of_lt_of_le LA_w17.out (Below.size hb))
            have GB_w18 := Lib.hid ((Below.block hb _ LB_w17.out).trans GB_w17.out)
            have LB_w18 := Lib.hid (Nat.lt_of_lt_of_le LB_w17.out (Below.size hb))
            have GW_w18 := Lib.hid ((Below.block hb _ LW_w17.out).trans GW_w17.out)
            have LW_w18 := Lib.hid (Nat.lt_of_lt_of_le LW_w17.out (Below.size hb))
            have RW_w18 := Lib.hid (RW_w17.out.below hb)
            have RY_w18 := Lib.hid (RY_w17.out.below hb)
            clear B_w16 GA_w16 LA_w16 GB_w16 LB_w16 GW_w16 LW_w16 RW_w16 RY_w16
            have GZ_w18 := Lib.hid (show w18.heap[Z]? = some (.cells #[.slice none 0 0, .int .i64 0] 24 (0, 0)) by rw [hw18, hZ]; exact heap_alloc_new _ _)
            have LZ_w18 := Lib.hid (lt_of_heap GZ_w18.out)
            have NZ := Lib.hid (show v1.heap.size ≤ Z by rw [hZ]; exact B_w17.out.size)
            have HZ := Lib.hid hZ
            have HWw18 := Lib.hid hw18
            clear hb hZ hw18
            go_upto_region 45 with fail
            rw [← HZ.out, ← HWw18.out]
            have HCC := Lib.hid (Error_err 3 3 true (by decide) w18 (EG.out.at_ B_w18.out))
            go_wp2_with fail
            refine HCC.out.mono ?_
            rintro e w19 ⟨rfl, hb⟩
            clear HCC
            have B_w19 := Lib.hid (Below.trans B_w18.out (Below.mono hb (Below.size B_w18.out)))
            have GA_w19 := Lib.hid ((Below.block hb _ LA_w18.out).trans GA_w18.out)
            have LA_w19 := Lib.hid (Nat.lt_of_lt_of_le LA_w18.out (Below.size hb))
            have GB_w19 := Lib.hid ((Below.block hb _ LB_w18.out).trans GB_w18.out)
            have LB_w19 := Lib.hid (Nat.lt_of_lt_of_le LB_w18.out (Below.size hb))
            have GW_w19 := Lib.hid ((Below.block hb _ LW_w18.out).trans GW_w18.out)
            have LW_w19 := Lib.hid (Nat.lt_of_lt_of_le LW_w18.out (Below.size hb))
            have GZ_w19 := Lib.hid ((Below.block hb _ LZ_w18.out).trans GZ_w18.out)
            have LZ_w19 := Lib.hid (Nat.lt_of_lt_of_le LZ_w18.out (Below.size hb))
            have RW_w19 := Lib.hid (RW_w18.out.below hb)
            have RY_w19 := Lib.hid (RY_w18.out.below hb)
            clear B_w17 GA_w17 LA_w17 GB_w17 LB_w17 GW_w17 LW_w17 RW_w17 RY_w17
            clear hb
            have cZ0 : w19.cell? ⟨Z, 0, none⟩ = some (.slice none 0 0) := by rw [cell_of_row _ _ _ _ _ _ GZ_w19.out]; rfl
            have cZ1 : w19.cell? ⟨Z, 1, none⟩ = some (.int .i64 0) := by rw [cell_of_row _ _ _ _ _ _ GZ_w19.out]; rfl
            have cW0 : w19.cell? ⟨W, 0, none⟩ = some (.slice none 0 0) := by rw [cell_of_row _ _ _ _ _ _ GW_w19.out]; rfl
            have cW1 : w19.cell? ⟨W, 1, none⟩ = some (.int .i64 0) := by rw [cell_of_row _ _ _ _ _ _ GW_w19.out]; rfl
            have HCC := Lib.hid (BytesN_calls w19)
            go_wp2_with fail
            refine HCC.out.mono ?_
            rintro e w20 ⟨rfl, hb⟩
            clear HCC
            clear cZ0 cZ1
            clear cW0 cW1
            have B_w20 := Lib.hid (Below.trans B_w19.out (Below.mono hb (Below.size B_w19.out)))
            have GA_w20 := Lib.hid ((Below.block hb _ LA_w19.out).trans GA_w19.out)
            have LA_w20 := Lib.hid (Nat.lt_of_lt_of_le LA_w19.out (Below.size hb))
            have GB_w20 := Lib.hid ((Below.block hb _ LB_w19.out).trans GB_w19.out)
            have LB_w20 := Lib.hid (Nat.lt_of_lt_of_le LB_w19.out (Below.size hb))
            have GW_w20 := Lib.hid ((Below.block hb _ LW_w19.out).trans GW_w19.out)
            have LW_w20 := Lib.hid (Nat.lt_of_lt_of_le LW_w19.out (Below.size hb))
            have GZ_w20 := Lib.hid ((Below.block hb _ LZ_w19.out).trans GZ_w19.out)
            have LZ_w20 := Lib.hid (Nat.lt_of_lt_of_le LZ_w19.out (Below.size hb))
            have RW_w20 := Lib.hid (RW_w19.out.below hb)
            have RY_w20 := Lib.hid (RY_w19.out.below hb)
            clear B_w18 GA_w18 LA_w18 GB_w18 LB_w18 GW_w18 LW_w18 GZ_w18 LZ_w18 RW_w18 RY_w18
            clear hb
            have cZ0 : w20.cell? ⟨Z, 0, none⟩ = some (.slice none 0 0) := by rw [cell_of_row _ _ _ _ _ _ GZ_w20.out]; rfl
            have cZ1 : w20.cell? ⟨Z, 1, none⟩ = some (.int .i64 0) := by rw [cell_of_row _ _ _ _ _ _ GZ_w20.out]; rfl
            have cW0 : w20.cell? ⟨W, 0, none⟩ = some (.slice none 0 0) := by rw [cell_of_row _ _ _ _ _ _ GW_w20.out]; rfl
            have cW1 : w20.cell? ⟨W, 1, none⟩ = some (.int .i64 0) := by rw [cell_of_row _ _ _ _ _ _ GW_w20.out]; rfl
            have FB := Lib.hid (BW.out.trans (Below.mono B_w20.out BW.out.size))
            go_wp2_with fail
            go_ret
            exact ⟨by simp, FB.out⟩
        · have HTN := Lib.hid ht
          clear ht
          have cB0 : w14.cell? ⟨H + 1, 0, none⟩ = some (.slice a3 x3.length c3) := by rw [cell_of_row _ _ _ _ _ _ GB_w14.out]; rfl
          have cB1 : w14.cell? ⟨H + 1, 1, none⟩ = some (.int .i64 j3) := by rw [cell_of_row _ _ _ _ _ _ GB_w14.out]; rfl
          have HCC := Lib.hid ((by have h := (SieveFault_calls x3.length j3 l3 a3 c3 w14); rewrite [if_neg HTN.out] at h; exact h))
          go_wp2_with fail
          refine HCC.out.mono ?_
          rintro e w15 ⟨rfl, hb⟩
          clear HCC
          clear cB0 cB1
          have B_w15 := Lib.hid (Below.trans B_w14.out (Below.mono hb (Below.size B_w14.out)))
          have GA_w15 := Lib.hid ((Below.block hb _ LA_w14.out).trans GA_w14.out)
          have LA_w15 := Lib.hid (Nat.lt_of_lt_of_le LA_w14.out (Below.size hb))
          have GB_w15 := Lib.hid ((Below.block hb _ LB_w14.out).trans GB_w14.out)
          have LB_w15 := Lib.hid (Nat.lt_of_lt_of_le LB_w14.out (Below.size hb))
          have GW_w15 := Lib.hid ((Below.block hb _ LW_w14.out).trans GW_w14.out)
          have LW_w15 := Lib.hid (Nat.lt_of_lt_of_le LW_w14.out (Below.size hb))
          have GY_w15 := Lib.hid ((Below.block hb _ LY_w14.out).trans GY_w14.out)
          have LY_w15 := Lib.hid (Nat.lt_of_lt_of_le LY_w14.out (Below.size hb))
          have RW_w15 := Lib.hid (RW_w14.out.below hb)
          have RY_w15 := Lib.hid (RY_w14.out.below hb)
          clear B_w13 GA_w13 LA_w13 GB_w13 LB_w13 GW_w13 LW_w13 GY_w13 LY_w13 RW_w13 RY_w13
          clear hb
          have cW0 : w15.cell? ⟨W, 0, none⟩ = some (.slice wa_ x2.length wc_) := by rw [cell_of_row _ _ _ _ _ _ GW_w15.out]; rfl
          have cW1 : w15.cell? ⟨W, 1, none⟩ = some (.int .i64 (k : Int)) := by rw [cell_of_row _ _ _ _ _ _ GW_w15.out]; rfl
          have fW0 : w15.frozen? ⟨W, 0, none⟩ = false := frozen_of_row _ _ _ _ _ GW_w15.out
          have fW1 : w15.frozen? ⟨W, 1, none⟩ = false := frozen_of_row _ _ _ _ _ GW_w15.out
          obtain ⟨w16, hw16⟩ : ∃ z, z = (w15.setCell ⟨W, 0, none⟩ (.slice none 0 0)).setCell ⟨W, 1, none⟩ (.int .i64 0) := ⟨_, rfl⟩
          have hs : w16.heap.size = w15.heap.size := by rw [hw16]; simp
          have hbW : Below W w15 w16 := by rw [hw16]; exact ((Below.refl _ _).setCell (p := ⟨W, 0, none⟩) (Nat.le_refl _) _).setCell (p := ⟨W, 1, none⟩) (Nat.le_refl _) _
          have B_w16 := Lib.hid (Below.trans B_w15.out (Below.mono hbW NW.out))
          have GA_w16 := Lib.hid ((hbW.block _ OAW.out).trans GA_w15.out)
          have LA_w16 := Lib.hid (show H < w16.heap.size by rw [hs]; exact LA_w15.out)
          have GB_w16 := Lib.hid ((hbW.block _ OBW.out).trans GB_w15.out)
          have LB_w16 := Lib.hid (show H + 1 < w16.heap.size by rw [hs]; exact LB_w15.out)
          have GW_w16 := Lib.hid (show w16.heap[W]? = some (.cells #[.slice none 0 0, .int .i64 0] 24 (0, 0)) by rw [hw16]; exact set_two GW_w15.out _ _)
          have LW_w16 := Lib.hid (show W < w16.heap.size by rw [hs]; exact LW_w15.out)
          have RW_w16 := Lib.hid (by have h := rd_setW (W := W) RW_w15.out GW_w15.out (.slice none 0 0) (.int .i64 0); rewrite [← hw16] at h; exact h)
          have RY_w16 := Lib.hid (by have h := rd_setW (W := W) RY_w15.out GW_w15.out (.slice none 0 0) (.int .i64 0); rewrite [← hw16] at h; exact h)
          have HWw16 := Lib.hid hw16
          have HBW_w16 := Lib.hid hbW
          clear hw16 hs hbW
          go_upto_region 38 with fail
          rw [← HWw16.out]
          clear cW0 cW1
          clear fW0 fW1
          have cA0 : w16.cell? ⟨H, 0, none⟩ = some (.slice a2 x2.length c2) := by rw [cell_of_row _ _ _ _ _ _ GA_w16.out]; rfl
          have cA1 : w16.cell? ⟨H, 1, none⟩ = some (.int .i64 (k : Int)) := by rw [cell_of_row _ _ _ _ _ _ GA_w16.out]; rfl
          have cB0 : w16.cell? ⟨H + 1, 0, none⟩ = some (.slice a3 x3.length c3) := by rw [cell_of_row _ _ _ _ _ _ GB_w16.out]; rfl
          have cB1 : w16.cell? ⟨H + 1, 1, none⟩ = some (.int .i64 j3) := by rw [cell_of_row _ _ _ _ _ _ GB_w16.out]; rfl
          have HCC := Lib.hid (Join_no2 x2.length x3.length (k : Int) j3 HSS.out HTN.out a2 c2 a3 c3 w16)
          go_wp2_with fail
          refine HCC.out.mono ?_
          rintro e w17 ⟨rfl, hb⟩
          clear HCC
          clear cA0 cA1
          clear cB0 cB1
          have B_w17 := Lib.hid (Below.trans B_w16.out (Below.mono hb (Below.size B_w16.out)))
          have GA_w17 := Lib.hid ((Below.block hb _ LA_w16.out).trans GA_w16.out)
          have LA_w17 := Lib.hid (Nat.lt_of_lt_of_le LA_w16.out (Below.size hb))
          have GB_w17 := Lib.hid ((Below.block hb _ LB_w16.out).trans GB_w16.out)
          have LB_w17 := Lib.hid (Nat.lt_of_lt_of_le LB_w16.out (Below.size hb))
          have GW_w17 := Lib.hid ((Below.block hb _ LW_w16.out).trans GW_w16.out)
          have LW_w17 := Lib.hid (Nat.lt_of_lt_of_le LW_w16.out (Below.size hb))
          have RW_w17 := Lib.hid (RW_w16.out.below hb)
          have RY_w17 := Lib.hid (RY_w16.out.below hb)
          clear B_w14 GA_w14 LA_w14 GB_w14 LB_w14 GW_w14 LW_w14 GY_w14 LY_w14 RW_w14 RY_w14
          clear hb
          obtain ⟨Z, hZ⟩ : ∃ z, z = w17.heap.size := ⟨_, rfl⟩
          obtain ⟨w18, hw18⟩ : ∃ z, z = w17.alloc (.cells #[.slice none 0 0, .int .i64 0] 24) := ⟨_, rfl⟩
          have hb : Below w17.heap.size w17 w18 := by rw [hw18]; exact (Below.refl _ _).alloc (Nat.le_refl _) _
          have B_w18 := Lib.hid (Below.trans B_w17.out (Below.mono hb (Below.size B_w17.out)))
          have GA_w18 := Lib.hid ((Below.block hb _ LA_w17.out).trans GA_w17.out)
          have LA_w18 := Lib.hid (Nat.lt_of_lt_of_le LA_w17.out (Below.size hb))
          have GB_w18 := Lib.hid ((Below.block hb _ LB_w17.out).trans GB_w17.out)
          have LB_w18 := Lib.hid (Nat.lt_of_lt_of_le LB_w17.out (Below.size hb))
          have GW_w18 := Lib.hid ((Below.block hb _ LW_w17.out).trans GW_w17.out)
          have LW_w18 := Lib.hid (Nat.lt_of_lt_of_le LW_w17.out (Below.size hb))
          have RW_w18 := Lib.hid (RW_w17.out.below hb)
          have RY_w18 := Lib.hid (RY_w17.out.below hb)
          clear B_w16 GA_w16 LA_w16 GB_w16 LB_w16 GW_w16 LW_w16 RW_w16 RY_w16
          have GZ_w18 := Lib.hid (show w18.heap[Z]? = some (.cells #[.slice none 0 0, .int .i64 0] 24 (0, 0)) by rw [hw18, hZ]; exact heap_alloc_new _ _)
          have LZ_w18 := Lib.hid (lt_of_heap GZ_w18.out)
          have NZ := Lib.hid (show v1.heap.size ≤ Z by rw [hZ]; exact B_w17.out.size)
          have HZ := Lib.hid hZ
          have HWw18 := Lib.hid hw18
          clear hb hZ hw18
          go_upto_region 45 with fail
          rw [← HZ.out, ← HWw18.out]
          have HCC := Lib.hid (Error_err 2 2 true (by decide) w18 (EG.out.at_ B_w18.out))
          go_wp2_with fail
          refine HCC.out.mono ?_
          rintro e w19 ⟨rfl, hb⟩
          clear HCC
          have B_w19 := Lib.hid (Below.trans B_w18.out (Below.mono hb (Below.size B_w18.out)))
          have GA_w19 := Lib.hid ((Below.block hb _ LA_w18.out).trans GA_w18.out)
          have LA_w19 := Lib.hid (Nat.lt_of_lt_of_le LA_w18.out (Below.size hb))
          have GB_w19 := Lib.hid ((Below.block hb _ LB_w18.out).trans GB_w18.out)
          have LB_w19 := Lib.hid (Nat.lt_of_lt_of_le LB_w18.out (Below.size hb))
          have GW_w19 := Lib.hid ((Below.block hb _ LW_w18.out).trans GW_w18.out)
          have LW_w19 := Lib.hid (Nat.lt_of_lt_of_le LW_w18.out (Below.size hb))
          have GZ_w19 := Lib.hid ((Below.block hb _ LZ_w18.out).trans GZ_w18.out)
          have LZ_w19 := Lib.hid (Nat.lt_of_lt_of_le LZ_w18.out (Below.size hb))
          have RW_w19 := Lib.hid (RW_w18.out.below hb)
          have RY_w19 := Lib.hid (RY_w18.out.below hb)
          clear B_w17 GA_w17 LA_w17 GB_w17 LB_w17 GW_w17 LW_w17 RW_w17 RY_w17
          clear hb
          have cZ0 : w19.cell? ⟨Z, 0, none⟩ = some (.slice none 0 0) := by rw [cell_of_row _ _ _ _ _ _ GZ_w19.out]; rfl
          have cZ1 : w19.cell? ⟨Z, 1, none⟩ = some (.int .i64 0) := by rw [cell_of_row _ _ _ _ _ _ GZ_w19.out]; rfl
          have cW0 : w19.cell? ⟨W, 0, none⟩ = some (.slice none 0 0) := by rw [cell_of_row _ _ _ _ _ _ GW_w19.out]; rfl
          have cW1 : w19.cell? ⟨W, 1, none⟩ = some (.int .i64 0) := by rw [cell_of_row _ _ _ _ _ _ GW_w19.out]; rfl
          have HCC := Lib.hid (BytesN_calls w19)
          go_wp2_with fail
          refine HCC.out.mono ?_
          rintro e w20 ⟨rfl, hb⟩
          clear HCC
          clear cZ0 cZ1
          clear cW0 cW1
          have B_w20 := Lib.hid (Below.trans B_w19.out (Below.mono hb (Below.size B_w19.out)))
          have GA_w20 := Lib.hid ((Below.block hb _ LA_w19.out).trans GA_w19.out)
          have LA_w20 := Lib.hid (Nat.lt_of_lt_of_le LA_w19.out (Below.size hb))
          have GB_w20 := Lib.hid ((Below.block hb _ LB_w19.out).trans GB_w19.out)
          have LB_w20 := Lib.hid (Nat.lt_of_lt_of_le LB_w19.out (Below.size hb))
          have GW_w20 := Lib.hid ((Below.block hb _ LW_w19.out).trans GW_w19.out)
          have LW_w20 := Lib.hid (Nat.lt_of_lt_of_le LW_w19.out (Below.size hb))
          have GZ_w20 := Lib.hid ((Below.block hb _ LZ_w19.out).trans GZ_w19.out)
          have LZ_w20 := Lib.hid (Nat.lt_of_lt_of_le LZ_w19.out (Below.size hb))
          have RW_w20 := Lib.hid (RW_w19.out.below hb)
          have RY_w20 := Lib.hid (RY_w19.out.below hb)
          clear B_w18 GA_w18 LA_w18 GB_w18 LB_w18 GW_w18 LW_w18 GZ_w18 LZ_w18 RW_w18 RY_w18
          clear hb
          have cZ0 : w20.cell? ⟨Z, 0, none⟩ = some (.slice none 0 0) := by rw [cell_of_row _ _ _ _ _ _ GZ_w20.out]; rfl
          have cZ1 : w20.cell? ⟨Z, 1, none⟩ = some (.int .i64 0) := by rw [cell_of_row _ _ _ _ _ _ GZ_w20.out]; rfl
          have cW0 : w20.cell? ⟨W, 0, none⟩ = some (.slice none 0 0) := by rw [cell_of_row _ _ _ _ _ _ GW_w20.out]; rfl
          have cW1 : w20.cell? ⟨W, 1, none⟩ = some (.int .i64 0) := by rw [cell_of_row _ _ _ _ _ _ GW_w20.out]; rfl
          have FB := Lib.hid (BW.out.trans (Below.mono B_w20.out BW.out.size))
          go_wp2_with fail
          go_ret
          exact ⟨by simp, FB.out⟩
  · have HSN := Lib.hid hs
    clear hs
    have cX0 : w99.cell? ⟨X, 0, none⟩ = some (.slice ax L cx) := by rw [cell_of_row _ _ _ _ _ _ GX_w99.out]; rfl
    have cX1 : w99.cell? ⟨X, 1, none⟩ = some (.int .i64 K1) := by rw [cell_of_row _ _ _ _ _ _ GX_w99.out]; rfl
    have cA0 : w99.cell? ⟨H, 0, none⟩ = some (.slice a2 x2.length c2) := by rw [cell_of_row _ _ _ _ _ _ GA_w99.out]; rfl
    have cA1 : w99.cell? ⟨H, 1, none⟩ = some (.int .i64 j2) := by rw [cell_of_row _ _ _ _ _ _ GA_w99.out]; rfl
    have HCC := Lib.hid ((by have h := (SieveFault_calls x2.length j2 l2 a2 c2 w99); rewrite [if_neg HSN.out] at h; exact h))
    go_wp2_with fail
    refine HCC.out.mono ?_
    rintro e w5 ⟨rfl, hb⟩
    clear HCC
    clear cX0 cX1
    clear cA0 cA1
    have B_w5 := Lib.hid (Below.trans B_w99.out (Below.mono hb (Below.size B_w99.out)))
    have GA_w5 := Lib.hid ((Below.block hb _ LA_w99.out).trans GA_w99.out)
    have LA_w5 := Lib.hid (Nat.lt_of_lt_of_le LA_w99.out (Below.size hb))
    have GB_w5 := Lib.hid ((Below.block hb _ LB_w99.out).trans GB_w99.out)
    have LB_w5 := Lib.hid (Nat.lt_of_lt_of_le LB_w99.out (Below.size hb))
    have GX_w5 := Lib.hid ((Below.block hb _ LX_w99.out).trans GX_w99.out)
    have LX_w5 := Lib.hid (Nat.lt_of_lt_of_le LX_w99.out (Below.size hb))
    clear B_w4 GA_w4 LA_w4 GB_w4 LB_w4 GX_w4 LX_w4 RX_w4
    clear hb
    have cA0 : w5.cell? ⟨H, 0, none⟩ = some (.slice a2 x2.length c2) := by rw [cell_of_row _ _ _ _ _ _ GA_w5.out]; rfl
    have cA1 : w5.cell? ⟨H, 1, none⟩ = some (.int .i64 j2) := by rw [cell_of_row _ _ _ _ _ _ GA_w5.out]; rfl
    have HCC := Lib.hid (Check_no a2 x2.length c2 j2 HSN.out w5)
    go_wp2_with fail
    refine HCC.out.mono ?_
    rintro e w6 ⟨rfl, hb⟩
    clear HCC
    clear cA0 cA1
    have B_w6 := Lib.hid (Below.trans B_w5.out (Below.mono hb (Below.size B_w5.out)))
    have GA_w6 := Lib.hid ((Below.block hb _ LA_w5.out).trans GA_w5.out)
    have LA_w6 := Lib.hid (Nat.lt_of_lt_of_le LA_w5.out (Below.size hb))
    have GB_w6 := Lib.hid ((Below.block hb _ LB_w5.out).trans GB_w5.out)
    have LB_w6 := Lib.hid (Nat.lt_of_lt_of_le LB_w5.out (Below.size hb))
    have GX_w6 := Lib.hid ((Below.block hb _ LX_w5.out).trans GX_w5.out)
    have LX_w6 := Lib.hid (Nat.lt_of_lt_of_le LX_w5.out (Below.size hb))
    clear B_w99 GA_w99 LA_w99 GB_w99 LB_w99 GX_w99 LX_w99
    clear hb
    have HCC := Lib.hid (Error_err 2 2 true (by decide) w6 (EG.out.at_ B_w6.out))
    go_wp2_with fail
    refine HCC.out.mono ?_
    rintro e w7 ⟨rfl, hb⟩
    clear HCC
    have B_w7 := Lib.hid (Below.trans B_w6.out (Below.mono hb (Below.size B_w6.out)))
    have GA_w7 := Lib.hid ((Below.block hb _ LA_w6.out).trans GA_w6.out)
    have LA_w7 := Lib.hid (Nat.lt_of_lt_of_le LA_w6.out (Below.size hb))
    have GB_w7 := Lib.hid ((Below.block hb _ LB_w6.out).trans GB_w6.out)
    have LB_w7 := Lib.hid (Nat.lt_of_lt_of_le LB_w6.out (Below.size hb))
    have GX_w7 := Lib.hid ((Below.block hb _ LX_w6.out).trans GX_w6.out)
    have LX_w7 := Lib.hid (Nat.lt_of_lt_of_le LX_w6.out (Below.size hb))
    clear B_w5 GA_w5 LA_w5 GB_w5 LB_w5 GX_w5 LX_w5
    clear hb
    go_upto_region 15 with fail
    obtain ⟨W, hW⟩ : ∃ z, z = w7.heap.size := ⟨_, rfl⟩
    obtain ⟨w8, hw8⟩ : ∃ z, z = w7.alloc (.cells #[.slice none 0 0, .int .i64 0] 24) := ⟨_, rfl⟩
    have hb : Below w7.heap.size w7 w8 := by rw [hw8]; exact (Below.refl _ _).alloc (Nat.le_refl _) _
    have B_w8 := Lib.hid (Below.trans B_w7.out (Below.mono hb (Below.size B_w7.out)))
    have GA_w8 := Lib.hid ((Below.block hb _ LA_w7.out).trans GA_w7.out)
    have LA_w8 := Lib.hid (Nat.lt_of_lt_of_le LA_w7.out (Below.size hb))
    have GB_w8 := Lib.hid ((Below.block hb _ LB_w7.out).trans GB_w7.out)
    have LB_w8 := Lib.hid (Nat.lt_of_lt_of_le LB_w7.out (Below.size hb))
    have GX_w8 := Lib.hid ((Below.block hb _ LX_w7.out).trans GX_w7.out)
    have LX_w8 := Lib.hid (Nat.lt_of_lt_of_le LX_w7.out (Below.size hb))
    clear B_w6 GA_w6 LA_w6 GB_w6 LB_w6 GX_w6 LX_w6
    have GW_w8 := Lib.hid (show w8.heap[W]? = some (.cells #[.slice none 0 0, .int .i64 0] 24 (0, 0)) by rw [hw8, hW]; exact heap_alloc_new _ _)
    have LW_w8 := Lib.hid (lt_of_heap GW_w8.out)
    have NW := Lib.hid (show v1.heap.size ≤ W by rw [hW]; exact B_w7.out.size)
    have HW := Lib.hid hW
    have HWw8 := Lib.hid hw8
    clear hb hW hw8
    go_upto_region 24 with fail
    rw [← HW.out, ← HWw8.out]
    have OAW := Lib.hid (show H < W by have := NW.out; omega)
    have OBW := Lib.hid (show H + 1 < W by have := NW.out; omega)
    have cA0 : w8.cell? ⟨H, 0, none⟩ = some (.slice a2 x2.length c2) := by rw [cell_of_row _ _ _ _ _ _ GA_w8.out]; rfl
    have cA1 : w8.cell? ⟨H, 1, none⟩ = some (.int .i64 j2) := by rw [cell_of_row _ _ _ _ _ _ GA_w8.out]; rfl
    have HCC := Lib.hid (Add_no x2.length j2 a2 c2 a4 x4.length c4 HSN.out w8)
    go_wp2_with fail
    refine HCC.out.mono ?_
    rintro e w9 ⟨rfl, hb⟩
    clear HCC
    clear cA0 cA1
    have B_w9 := Lib.hid (Below.trans B_w8.out (Below.mono hb (Below.size B_w8.out)))
    have GA_w9 := Lib.hid ((Below.block hb _ LA_w8.out).trans GA_w8.out)
    have LA_w9 := Lib.hid (Nat.lt_of_lt_of_le LA_w8.out (Below.size hb))
    have GB_w9 := Lib.hid ((Below.block hb _ LB_w8.out).trans GB_w8.out)
    have LB_w9 := Lib.hid (Nat.lt_of_lt_of_le LB_w8.out (Below.size hb))
    have GW_w9 := Lib.hid ((Below.block hb _ LW_w8.out).trans GW_w8.out)
    have LW_w9 := Lib.hid (Nat.lt_of_lt_of_le LW_w8.out (Below.size hb))
    clear B_w7 GA_w7 LA_w7 GB_w7 LB_w7 GX_w7 LX_w7
    clear hb
    obtain ⟨Y, hY⟩ : ∃ z, z = w9.heap.size := ⟨_, rfl⟩
    obtain ⟨w10, hw10⟩ : ∃ z, z = w9.alloc (.cells #[.slice none 0 0, .int .i64 0] 24) := ⟨_, rfl⟩
    have hb : Below w9.heap.size w9 w10 := by rw [hw10]; exact (Below.refl _ _).alloc (Nat.le_refl _) _
    have B_w10 := Lib.hid (Below.trans B_w9.out (Below.mono hb (Below.size B_w9.out)))
    have GA_w10 := Lib.hid ((Below.block hb _ LA_w9.out).trans GA_w9.out)
    have LA_w10 := Lib.hid (Nat.lt_of_lt_of_le LA_w9.out (Below.size hb))
    have GB_w10 := Lib.hid ((Below.block hb _ LB_w9.out).trans GB_w9.out)
    have LB_w10 := Lib.hid (Nat.lt_of_lt_of_le LB_w9.out (Below.size hb))
    have GW_w10 := Lib.hid ((Below.block hb _ LW_w9.out).trans GW_w9.out)
    have LW_w10 := Lib.hid (Nat.lt_of_lt_of_le LW_w9.out (Below.size hb))
    clear B_w8 GA_w8 LA_w8 GB_w8 LB_w8 GW_w8 LW_w8
    have GY_w10 := Lib.hid (show w10.heap[Y]? = some (.cells #[.slice none 0 0, .int .i64 0] 24 (0, 0)) by rw [hw10, hY]; exact heap_alloc_new _ _)
    have LY_w10 := Lib.hid (lt_of_heap GY_w10.out)
    have NY := Lib.hid (show v1.heap.size ≤ Y by rw [hY]; exact B_w9.out.size)
    have HY := Lib.hid hY
    have HWw10 := Lib.hid hw10
    clear hb hY hw10
    go_upto_region 25 with fail
    rw [← HY.out, ← HWw10.out]
    have HCC := Lib.hid (Error_err 2 2 true (by decide) w10 (EG.out.at_ B_w10.out))
    go_wp2_with fail
    refine HCC.out.mono ?_
    rintro e w11 ⟨rfl, hb⟩
    clear HCC
    have B_w11 := Lib.hid (Below.trans B_w10.out (Below.mono hb (Below.size B_w10.out)))
    have GA_w11 := Lib.hid ((Below.block hb _ LA_w10.out).trans GA_w10.out)
    have LA_w11 := Lib.hid (Nat.lt_of_lt_of_le LA_w10.out (Below.size hb))
    have GB_w11 := Lib.hid ((Below.block hb _ LB_w10.out).trans GB_w10.out)
    have LB_w11 := Lib.hid (Nat.lt_of_lt_of_le LB_w10.out (Below.size hb))
    have GW_w11 := Lib.hid ((Below.block hb _ LW_w10.out).trans GW_w10.out)
    have LW_w11 := Lib.hid (Nat.lt_of_lt_of_le LW_w10.out (Below.size hb))
    have GY_w11 := Lib.hid ((Below.block hb _ LY_w10.out).trans GY_w10.out)
    have LY_w11 := Lib.hid (Nat.lt_of_lt_of_le LY_w10.out (Below.size hb))
    clear B_w9 GA_w9 LA_w9 GB_w9 LB_w9 GW_w9 LW_w9
    clear hb
    have cY0 : w11.cell? ⟨Y, 0, none⟩ = some (.slice none 0 0) := by rw [cell_of_row _ _ _ _ _ _ GY_w11.out]; rfl
    have cY1 : w11.cell? ⟨Y, 1, none⟩ = some (.int .i64 0) := by rw [cell_of_row _ _ _ _ _ _ GY_w11.out]; rfl
    have cW0 : w11.cell? ⟨W, 0, none⟩ = some (.slice none 0 0) := by rw [cell_of_row _ _ _ _ _ _ GW_w11.out]; rfl
    have cW1 : w11.cell? ⟨W, 1, none⟩ = some (.int .i64 0) := by rw [cell_of_row _ _ _ _ _ _ GW_w11.out]; rfl
    have HCC := Lib.hid (BytesN_calls w11)
    go_wp2_with fail
    refine HCC.out.mono ?_
    rintro e w12 ⟨rfl, hb⟩
    clear HCC
    clear cY0 cY1
    clear cW0 cW1
    have B_w12 := Lib.hid (Below.trans B_w11.out (Below.mono hb (Below.size B_w11.out)))
    have GA_w12 := Lib.hid ((Below.block hb _ LA_w11.out).trans GA_w11.out)
    have LA_w12 := Lib.hid (Nat.lt_of_lt_of_le LA_w11.out (Below.size hb))
    have GB_w12 := Lib.hid ((Below.block hb _ LB_w11.out).trans GB_w11.out)
    have LB_w12 := Lib.hid (Nat.lt_of_lt_of_le LB_w11.out (Below.size hb))
    have GW_w12 := Lib.hid ((Below.block hb _ LW_w11.out).trans GW_w11.out)
    have LW_w12 := Lib.hid (Nat.lt_of_lt_of_le LW_w11.out (Below.size hb))
    have GY_w12 := Lib.hid ((Below.block hb _ LY_w11.out).trans GY_w11.out)
    have LY_w12 := Lib.hid (Nat.lt_of_lt_of_le LY_w11.out (Below.size hb))
    clear B_w10 GA_w10 LA_w10 GB_w10 LB_w10 GW_w10 LW_w10 GY_w10 LY_w10
    clear hb
    have cY0 : w12.cell? ⟨Y, 0, none⟩ = some (.slice none 0 0) := by rw [cell_of_row _ _ _ _ _ _ GY_w12.out]; rfl
    have cY1 : w12.cell? ⟨Y, 1, none⟩ = some (.int .i64 0) := by rw [cell_of_row _ _ _ _ _ _ GY_w12.out]; rfl
    have cW0 : w12.cell? ⟨W, 0, none⟩ = some (.slice none 0 0) := by rw [cell_of_row _ _ _ _ _ _ GW_w12.out]; rfl
    have cW1 : w12.cell? ⟨W, 1, none⟩ = some (.int .i64 0) := by rw [cell_of_row _ _ _ _ _ _ GW_w12.out]; rfl
    have cA0 : w12.cell? ⟨H, 0, none⟩ = some (.slice a2 x2.length c2) := by rw [cell_of_row _ _ _ _ _ _ GA_w12.out]; rfl
    have cA1 : w12.cell? ⟨H, 1, none⟩ = some (.int .i64 j2) := by rw [cell_of_row _ _ _ _ _ _ GA_w12.out]; rfl
    have HCC := Lib.hid (Has_no x2.length j2 a2 c2 a4 x4.length c4 HSN.out w12)
    go_wp2_with fail
    refine HCC.out.mono ?_
    rintro e w13 ⟨rfl, hb⟩
    clear HCC
    clear cA0 cA1
    have B_w13 := Lib.hid (Below.trans B_w12.out (Below.mono hb (Below.size B_w12.out)))
    have GA_w13 := Lib.hid ((Below.block hb _ LA_w12.out).trans GA_w12.out)
    have LA_w13 := Lib.hid (Nat.lt_of_lt_of_le LA_w12.out (Below.size hb))
    have GB_w13 := Lib.hid ((Below.block hb _ LB_w12.out).trans GB_w12.out)
    have LB_w13 := Lib.hid (Nat.lt_of_lt_of_le LB_w12.out (Below.size hb))
    have GW_w13 := Lib.hid ((Below.block hb _ LW_w12.out).trans GW_w12.out)
    have LW_w13 := Lib.hid (Nat.lt_of_lt_of_le LW_w12.out (Below.size hb))
    have GY_w13 := Lib.hid ((Below.block hb _ LY_w12.out).trans GY_w12.out)
    have LY_w13 := Lib.hid (Nat.lt_of_lt_of_le LY_w12.out (Below.size hb))
    clear B_w11 GA_w11 LA_w11 GB_w11 LB_w11 GW_w11 LW_w11 GY_w11 LY_w11
    clear hb
    clear cY0 cY1
    clear cW0 cW1
    have HCC := Lib.hid (Error_err 2 2 true (by decide) w13 (EG.out.at_ B_w13.out))
    go_wp2_with fail
    refine HCC.out.mono ?_
    rintro e w14 ⟨rfl, hb⟩
    clear HCC
    have B_w14 := Lib.hid (Below.trans B_w13.out (Below.mono hb (Below.size B_w13.out)))
    have GA_w14 := Lib.hid ((Below.block hb _ LA_w13.out).trans GA_w13.out)
    have LA_w14 := Lib.hid (Nat.lt_of_lt_of_le LA_w13.out (Below.size hb))
    have GB_w14 := Lib.hid ((Below.block hb _ LB_w13.out).trans GB_w13.out)
    have LB_w14 := Lib.hid (Nat.lt_of_lt_of_le LB_w13.out (Below.size hb))
    have GW_w14 := Lib.hid ((Below.block hb _ LW_w13.out).trans GW_w13.out)
    have LW_w14 := Lib.hid (Nat.lt_of_lt_of_le LW_w13.out (Below.size hb))
    have GY_w14 := Lib.hid ((Below.block hb _ LY_w13.out).trans GY_w13.out)
    have LY_w14 := Lib.hid (Nat.lt_of_lt_of_le LY_w13.out (Below.size hb))
    clear B_w12 GA_w12 LA_w12 GB_w12 LB_w12 GW_w12 LW_w12 GY_w12 LY_w12
    clear hb
    have cW0 : w14.cell? ⟨W, 0, none⟩ = some (.slice none 0 0) := by rw [cell_of_row _ _ _ _ _ _ GW_w14.out]; rfl
    have cW1 : w14.cell? ⟨W, 1, none⟩ = some (.int .i64 0) := by rw [cell_of_row _ _ _ _ _ _ GW_w14.out]; rfl
    have fW0 : w14.frozen? ⟨W, 0, none⟩ = false := frozen_of_row _ _ _ _ _ GW_w14.out
    have fW1 : w14.frozen? ⟨W, 1, none⟩ = false := frozen_of_row _ _ _ _ _ GW_w14.out
    obtain ⟨w15, hw15⟩ : ∃ z, z = (w14.setCell ⟨W, 0, none⟩ (.slice none 0 0)).setCell ⟨W, 1, none⟩ (.int .i64 0) := ⟨_, rfl⟩
    have hs : w15.heap.size = w14.heap.size := by rw [hw15]; simp
    have hbW : Below W w14 w15 := by rw [hw15]; exact ((Below.refl _ _).setCell (p := ⟨W, 0, none⟩) (Nat.le_refl _) _).setCell (p := ⟨W, 1, none⟩) (Nat.le_refl _) _
    have B_w15 := Lib.hid (Below.trans B_w14.out (Below.mono hbW NW.out))
    have GA_w15 := Lib.hid ((hbW.block _ OAW.out).trans GA_w14.out)
    have LA_w15 := Lib.hid (show H < w15.heap.size by rw [hs]; exact LA_w14.out)
    have GB_w15 := Lib.hid ((hbW.block _ OBW.out).trans GB_w14.out)
    have LB_w15 := Lib.hid (show H + 1 < w15.heap.size by rw [hs]; exact LB_w14.out)
    have GW_w15 := Lib.hid (show w15.heap[W]? = some (.cells #[.slice none 0 0, .int .i64 0] 24 (0, 0)) by rw [hw15]; exact set_two GW_w14.out _ _)
    have LW_w15 := Lib.hid (show W < w15.heap.size by rw [hs]; exact LW_w14.out)
    have HWw15 := Lib.hid hw15
    have HBW_w15 := Lib.hid hbW
    clear hw15 hs hbW
    go_upto_region 38 with fail
    rw [← HWw15.out]
    clear cW0 cW1
    clear fW0 fW1
    have cA0 : w15.cell? ⟨H, 0, none⟩ = some (.slice a2 x2.length c2) := by rw [cell_of_row _ _ _ _ _ _ GA_w15.out]; rfl
    have cA1 : w15.cell? ⟨H, 1, none⟩ = some (.int .i64 j2) := by rw [cell_of_row _ _ _ _ _ _ GA_w15.out]; rfl
    have cB0 : w15.cell? ⟨H + 1, 0, none⟩ = some (.slice a3 x3.length c3) := by rw [cell_of_row _ _ _ _ _ _ GB_w15.out]; rfl
    have cB1 : w15.cell? ⟨H + 1, 1, none⟩ = some (.int .i64 j3) := by rw [cell_of_row _ _ _ _ _ _ GB_w15.out]; rfl
    have HCC := Lib.hid (Join_no1 x2.length x3.length j2 j3 HSN.out a2 c2 a3 c3 w15)
    go_wp2_with fail
    refine HCC.out.mono ?_
    rintro e w16 ⟨rfl, hb⟩
    clear HCC
    clear cA0 cA1
    clear cB0 cB1
    have B_w16 := Lib.hid (Below.trans B_w15.out (Below.mono hb (Below.size B_w15.out)))
    have GA_w16 := Lib.hid ((Below.block hb _ LA_w15.out).trans GA_w15.out)
    have LA_w16 := Lib.hid (Nat.lt_of_lt_of_le LA_w15.out (Below.size hb))
    have GB_w16 := Lib.hid ((Below.block hb _ LB_w15.out).trans GB_w15.out)
    have LB_w16 := Lib.hid (Nat.lt_of_lt_of_le LB_w15.out (Below.size hb))
    have GW_w16 := Lib.hid ((Below.block hb _ LW_w15.out).trans GW_w15.out)
    have LW_w16 := Lib.hid (Nat.lt_of_lt_of_le LW_w15.out (Below.size hb))
    clear B_w13 GA_w13 LA_w13 GB_w13 LB_w13 GW_w13 LW_w13 GY_w13 LY_w13
    clear hb
    obtain ⟨Z, hZ⟩ : ∃ z, z = w16.heap.size := ⟨_, rfl⟩
    obtain ⟨w17, hw17⟩ : ∃ z, z = w16.alloc (.cells #[.slice none 0 0, .int .i64 0] 24) := ⟨_, rfl⟩
    have hb : Below w16.heap.size w16 w17 := by rw [hw17]; exact (Below.refl _ _).alloc (Nat.le_refl _) _
    have B_w17 := Lib.hid (Below.trans B_w16.out (Below.mono hb (Below.size B_w16.out)))
    have GA_w17 := Lib.hid ((Below.block hb _ LA_w16.out).trans GA_w16.out)
    have LA_w17 := Lib.hid (Nat.lt_of_lt_of_le LA_w16.out (Below.size hb))
    have GB_w17 := Lib.hid ((Below.block hb _ LB_w16.out).trans GB_w16.out)
    have LB_w17 := Lib.hid (Nat.lt_of_lt_of_le LB_w16.out (Below.size hb))
    have GW_w17 := Lib.hid ((Below.block hb _ LW_w16.out).trans GW_w16.out)
    have LW_w17 := Lib.hid (Nat.lt_of_lt_of_le LW_w16.out (Below.size hb))
    clear B_w15 GA_w15 LA_w15 GB_w15 LB_w15 GW_w15 LW_w15
    have GZ_w17 := Lib.hid (show w17.heap[Z]? = some (.cells #[.slice none 0 0, .int .i64 0] 24 (0, 0)) by rw [hw17, hZ]; exact heap_alloc_new _ _)
    have LZ_w17 := Lib.hid (lt_of_heap GZ_w17.out)
    have NZ := Lib.hid (show v1.heap.size ≤ Z by rw [hZ]; exact B_w16.out.size)
    have HZ := Lib.hid hZ
    have HWw17 := Lib.hid hw17
    clear hb hZ hw17
    go_upto_region 45 with fail
    rw [← HZ.out, ← HWw17.out]
    have HCC := Lib.hid (Error_err 2 2 true (by decide) w17 (EG.out.at_ B_w17.out))
    go_wp2_with fail
    refine HCC.out.mono ?_
    rintro e w18 ⟨rfl, hb⟩
    clear HCC
    have B_w18 := Lib.hid (Below.trans B_w17.out (Below.mono hb (Below.size B_w17.out)))
    have GA_w18 := Lib.hid ((Below.block hb _ LA_w17.out).trans GA_w17.out)
    have LA_w18 := Lib.hid (Nat.lt_of_lt_of_le LA_w17.out (Below.size hb))
    have GB_w18 := Lib.hid ((Below.block hb _ LB_w17.out).trans GB_w17.out)
    have LB_w18 := Lib.hid (Nat.lt_of_lt_of_le LB_w17.out (Below.size hb))
    have GW_w18 := Lib.hid ((Below.block hb _ LW_w17.out).trans GW_w17.out)
    have LW_w18 := Lib.hid (Nat.lt_of_lt_of_le LW_w17.out (Below.size hb))
    have GZ_w18 := Lib.hid ((Below.block hb _ LZ_w17.out).trans GZ_w17.out)
    have LZ_w18 := Lib.hid (Nat.lt_of_lt_of_le LZ_w17.out (Below.size hb))
    clear B_w16 GA_w16 LA_w16 GB_w16 LB_w16 GW_w16 LW_w16
    clear hb
    have cZ0 : w18.cell? ⟨Z, 0, none⟩ = some (.slice none 0 0) := by rw [cell_of_row _ _ _ _ _ _ GZ_w18.out]; rfl
    have cZ1 : w18.cell? ⟨Z, 1, none⟩ = some (.int .i64 0) := by rw [cell_of_row _ _ _ _ _ _ GZ_w18.out]; rfl
    have cW0 : w18.cell? ⟨W, 0, none⟩ = some (.slice none 0 0) := by rw [cell_of_row _ _ _ _ _ _ GW_w18.out]; rfl
    have cW1 : w18.cell? ⟨W, 1, none⟩ = some (.int .i64 0) := by rw [cell_of_row _ _ _ _ _ _ GW_w18.out]; rfl
    have HCC := Lib.hid (BytesN_calls w18)
    go_wp2_with fail
    refine HCC.out.mono ?_
    rintro e w19 ⟨rfl, hb⟩
    clear HCC
    clear cZ0 cZ1
    clear cW0 cW1
    have B_w19 := Lib.hid (Below.trans B_w18.out (Below.mono hb (Below.size B_w18.out)))
    have GA_w19 := Lib.hid ((Below.block hb _ LA_w18.out).trans GA_w18.out)
    have LA_w19 := Lib.hid (Nat.lt_of_lt_of_le LA_w18.out (Below.size hb))
    have GB_w19 := Lib.hid ((Below.block hb _ LB_w18.out).trans GB_w18.out)
    have LB_w19 := Lib.hid (Nat.lt_of_lt_of_le LB_w18.out (Below.size hb))
    have GW_w19 := Lib.hid ((Below.block hb _ LW_w18.out).trans GW_w18.out)
    have LW_w19 := Lib.hid (Nat.lt_of_lt_of_le LW_w18.out (Below.size hb))
    have GZ_w19 := Lib.hid ((Below.block hb _ LZ_w18.out).trans GZ_w18.out)
    have LZ_w19 := Lib.hid (Nat.lt_of_lt_of_le LZ_w18.out (Below.size hb))
    clear B_w17 GA_w17 LA_w17 GB_w17 LB_w17 GW_w17 LW_w17 GZ_w17 LZ_w17
    clear hb
    have cZ0 : w19.cell? ⟨Z, 0, none⟩ = some (.slice none 0 0) := by rw [cell_of_row _ _ _ _ _ _ GZ_w19.out]; rfl
    have cZ1 : w19.cell? ⟨Z, 1, none⟩ = some (.int .i64 0) := by rw [cell_of_row _ _ _ _ _ _ GZ_w19.out]; rfl
    have cW0 : w19.cell? ⟨W, 0, none⟩ = some (.slice none 0 0) := by rw [cell_of_row _ _ _ _ _ _ GW_w19.out]; rfl
    have cW1 : w19.cell? ⟨W, 1, none⟩ = some (.int .i64 0) := by rw [cell_of_row _ _ _ _ _ _ GW_w19.out]; rfl
    have FB := Lib.hid (BW.out.trans (Below.mono B_w19.out BW.out.size))
    go_wp2_with fail
    go_ret
    exact ⟨by simp, FB.out⟩

set_option maxRecDepth 100000 in
theorem lifted (os : Os) (started : os.Started) (H : Type) (enc : TypeId × Value → H) :
    ReturnsInHanded {} Tryd.checked os 3 .any (fun w args => (Rows.sieveTellsSpec.pre enc Tryd.prog Tryd.f3 Rows.sieveTellsRow.domain false w args ∧ laidMetH Tryd.prog Laid.list w) ∧ sizedMet enc Tryd.prog Tryd.f3 (OpenSpec.ofChange Rows.sieveTellsSpec) false w args) (Rows.sieveTellsSpec.post enc Tryd.prog Tryd.f3 false true false false) := by
  refine returnsInHanded_of_change_and (C := Tryd.checked) (X := fun w _ => laidMetH Tryd.prog Laid.list w) (fun _ _ _ hh h => h.of_heap hh) Laid.own started (by kernel_rfl) Tryd.func3
    (ChangeSpec.witness_at (enc := enc) (C := Tryd.checked) (os := os) (X := fun w _ => laidMetH Tryd.prog Laid.list w) false (laidWorld os) #[.int .i64 0, .int .i64 0, .agg #[.slice none 0 0, .int .i64 0], .agg #[.slice none 0 0, .int .i64 0], .slice none 0 0] 8 rfl (by kernel_rfl) (by kernel_rfl) (by kernel_rfl) (by kernel_rfl) (by kernel_rfl) (laidWorld_met os _)) ?_
  intro W base args ds gs before hval0 hW _ hsz hL _
  have hro := rounds_of_laid hL
  have hg := handle_of_laid hL
  have hval : ∀ (j : Nat) t v, Tryd.f3.params[j]? = some t → args[j]? = some v → Value.okWide Tryd.prog W .any base t v := hval0
  have hW' := hW
  obtain ⟨p, q, hA0, hV, rfl, hfz, hnd⟩ := hW
  have hA : DataW.TrodAll enc Tryd.prog W 0 (fun _ => true) true Tryd.f3.params.toList args.toList ds p := hA0
  rw [Tryd.params3] at hA hval
  obtain ⟨v0, vs0, d0, ds0, p0, q0, hargs, rfl, rfl, h0, r0⟩ := trodAll_cons hA
  obtain ⟨v1, vs1, d1, ds1, p1, q1, rfl, rfl, rfl, h1, r1⟩ := trodAll_cons r0
  obtain ⟨v2, vs2, d2, ds2, p2, q2, rfl, rfl, rfl, h2, r2⟩ := trodAll_cons r1
  obtain ⟨v3, vs3, d3, ds3, p3, q3, rfl, rfl, rfl, h3, r3⟩ := trodAll_cons r2
  obtain ⟨v4, vs4, d4, ds4, p4, q4, rfl, rfl, rfl, h4, r4⟩ := trodAll_cons r3
  obtain ⟨rfl, rfl, rfl⟩ := trodAll_nil r4
  obtain rfl : args = #[v0, v1, v2, v3, v4] := by cases args; simp_all
  obtain ⟨rfl, rfl⟩ := trodVars_none hV
  have k0 := h0
  have lt0 : ∀ x ∈ p0, x.block < W.heap.size := by obtain ⟨m, hm⟩ := k0; exact DataW.trod_lt m _ _ _ hm
  obtain ⟨a0, rfl, _, _, w0⟩ := open_int Tryd.underlying3 (hval 0 3 v0 rfl rfl) h0
  have b0 := bounds_i64 w0
  have k1 := h1
  have lt1 : ∀ x ∈ p1, x.block < W.heap.size := by obtain ⟨m, hm⟩ := k1; exact DataW.trod_lt m _ _ _ hm
  obtain ⟨a1, rfl, _, _, w1⟩ := open_int Tryd.underlying3 (hval 1 3 v1 rfl rfl) h1
  have b1 := bounds_i64 w1
  have k2 := h2
  have lt2 : ∀ x ∈ p2, x.block < W.heap.size := by obtain ⟨m, hm⟩ := k2; exact DataW.trod_lt m _ _ _ hm
  obtain ⟨x2, a2, c2, e2, j2, rfl, l_2, b2, r_2, l2⟩ := open_sieve2 Tryd.underlying24 Tryd.underlying22 Tryd.underlying3 Tryd.underlying5 (by kernel_rfl) (by kernel_rfl) (by kernel_rfl) (by kernel_rfl) rfl rfl (by kernel_rfl) (fun n hn => of_decide_eq_true (List.all_eq_true.1 hsz n (DataW.weights_mem_each (j := 2) (by first | rfl | kernel_rfl) rfl n hn))) (hval 2 24 v2 rfl rfl) h2
  have k3 := h3
  have lt3 : ∀ x ∈ p3, x.block < W.heap.size := by obtain ⟨m, hm⟩ := k3; exact DataW.trod_lt m _ _ _ hm
  obtain ⟨x3, a3, c3, e3, j3, rfl, l_3, b3, r_3, l3⟩ := open_sieve2 Tryd.underlying24 Tryd.underlying22 Tryd.underlying3 Tryd.underlying5 (by kernel_rfl) (by kernel_rfl) (by kernel_rfl) (by kernel_rfl) rfl rfl (by kernel_rfl) (fun n hn => of_decide_eq_true (List.all_eq_true.1 hsz n (DataW.weights_mem_each (j := 3) (by first | rfl | kernel_rfl) rfl n hn))) (hval 3 24 v3 rfl rfl) h3
  have k4 := h4
  have lt4 : ∀ x ∈ p4, x.block < W.heap.size := by obtain ⟨m, hm⟩ := k4; exact DataW.trod_lt m _ _ _ hm
  obtain ⟨x4, a4, c4, e4, rfl, l_4, r_4⟩ := open_bytes Tryd.underlying22 Tryd.underlying5 (by kernel_rfl) (hval 4 22 v4 rfl rfl) h4
  have l4 : x4.length ≤ 140737488351232 := by have := trod_len (B := reachBytes) Tryd.underlying22 h4 (fun n hn => of_decide_eq_true (List.all_eq_true.1 hsz n (DataW.weights_mem_each (j := 4) (by first | rfl | kernel_rfl) rfl n hn))); rw [show Tryd.prog.bytesOf 5 = 1 by kernel_rfl, Nat.mul_one] at this; exact this
  clear hA0 hval0
  refine (walk a0 a1 x2 a2 c2 e2 j2 x3 a3 c3 e3 j3 x4 a4 c4 e4 W b0 b1 l2 b2 r_2 l3 b3 r_3 l4 r_4 hro hg).mono fun e W' ⟨he, bel⟩ => ?_
  subst he
  exact ⟨_, rfl, _, _, _, [], _, [], hW', trodAll_mk1 (shut_bool Tryd.underlying4 _), (trodAll_cons_mk (Below.trod Laid.laidOut (by kernel_rfl) (of_decide_eq_true (by kernel_rfl)) k0 bel lt0) (trodAll_cons_mk (Below.trod Laid.laidOut (by kernel_rfl) (of_decide_eq_true (by kernel_rfl)) k1 bel lt1) (trodAll_cons_mk (Below.trod Laid.laidOut (by kernel_rfl) (of_decide_eq_true (by kernel_rfl)) k2 bel lt2) (trodAll_cons_mk (Below.trod Laid.laidOut (by kernel_rfl) (of_decide_eq_true (by kernel_rfl)) k3 bel lt3) (trodAll_cons_mk (Below.trod Laid.laidOut (by kernel_rfl) (of_decide_eq_true (by kernel_rfl)) k4 bel lt4) trodAll_mk0))))), rfl, bel.frame _, fun h => by cases h⟩

theorem over : Rows.sieveTellsRow.holds Tryd.pinned (OpenSpec.ofChange Rows.sieveTellsSpec) :=
  OpenClaim.holds_of_wide 3 Tryd.f3 rfl rfl rfl rfl rfl rfl rfl ⟨rfl, rfl, rfl, rfl, rfl⟩ rfl rfl rfl rfl rfl (by kernel_rfl) Tryd.func3 (by kernel_rfl)
    (of_decide_eq_true (by kernel_rfl)) (by unfold Func.isWrapper; first | (rw [if_pos (by decide +kernel)]; kernel_rfl) | (rw [if_neg (by decide +kernel)]; exact ⟨rfl, rfl⟩))
    (fun os started H enc _ => lifted os started H enc)

theorem proved : Rows.SieveTellsCardSaid :=
  Claim7.holds_tied_plain_at .later [] [.data, .handle] true (true, "4f0e9677fe1ccb776bf052845ca0f76ca72d0c0d325736eacb132d69b7600c21") true
    over (fun _ h => by cases h) (by kernel_rfl) (fun _ h => by cases h) sieveTells_row_tie rfl ⟨rfl, rfl⟩ (by kernel_rfl) rfl
    (fun f fn hf hfn => by
      obtain rfl : f = 3 := Option.some.inj ((show Tryd.prog.funcNamed "oathbook/oathbooklaw4.SieveTells" = some 3 by kernel_rfl).symm.trans hf) |>.symm
      obtain rfl : fn = Tryd.f3 := (Option.some.inj (Tryd.func3.symm.trans hfn)).symm
      exact ⟨by kernel_rfl, stand_of_all (by kernel_rfl)⟩)
    (by kernel_rfl)
#print axioms proved
end sieveTells
end Go.Proofs.YteikbbdkpeecaaaDoor
