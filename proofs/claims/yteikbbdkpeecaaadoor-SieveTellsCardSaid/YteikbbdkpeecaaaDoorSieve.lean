/- Walks: sieve.Check and sieve.Has. -/
import Derived.Test.YteikbbdkpeecaaaDoorPlaces
namespace Go.Proofs.YteikbbdkpeecaaaDoor
open Go.RowKit Go.Shelf
set_option linter.unusedVariables false
set_option linter.unusedSimpArgs false
attribute [local go_sem] Oper.semAt_some
/-- a sieve as a value -/
def svV (a : Option Addr) (L c : Nat) (K : Int) : Array Value := #[.slice a L c, .int .i64 K]
def SvOk (L : Nat) (K : Int) : Prop := (1 ≤ L ∧ L ≤ 1024) ∧ 1 ≤ K ∧ K ≤ 8
theorem Check_ok (a : Option Addr) (L c : Nat) (K : Int) (h : SvOk L K) (w : World) : Calls Tryd.prog 12 #[.agg #[.slice a L c, .int .i64 K]] w fun e w' => e = .returned .nilIface ∧ Below w.heap.size w w' := by
  obtain ⟨⟨h1, h2⟩, h3, h4⟩ := h
  have z1 : decide ((L : Int) < 1) = false := decide_eq_false (by omega)
  have z2 : decide ((1024 : Int) < (L : Int)) = false := decide_eq_false (by omega)
  have z3 : decide (1024 < L) = false := decide_eq_false (by omega)
  have z4 : decide (K < 1) = false := decide_eq_false (by omega)
  have z5 : decide (8 < K) = false := decide_eq_false (by omega)
  have z6 : decide (L < 1) = false := decide_eq_false (by omega)
  go_enter Tryd.func12, Tryd.ntmps12
  go_wp2_with fail
  go_ret
  exact ⟨rfl, (Below.refl _ w).alloc (Nat.le_refl _) _⟩
theorem Check_no (a : Option Addr) (L c : Nat) (K : Int) (h : ¬ SvOk L K) (w : World) : Calls Tryd.prog 12 #[.agg #[.slice a L c, .int .i64 K]] w fun e w' => e = .returned (.iface 25 (.int .i64 2)) ∧ Below w.heap.size w w' := by
  have fin : ∀ w : World, Below w.heap.size w (w.alloc (.cells #[.slice a L c, .int .i64 K] 24)) := fun w => (Below.refl _ w).alloc (Nat.le_refl _) _
  by_cases h1 : L < 1
  · have z1 : decide ((L : Int) < 1) = true := decide_eq_true (by omega)
    have z6 : decide (L < 1) = true := decide_eq_true (by omega)
    clear h h1
    go_enter Tryd.func12, Tryd.ntmps12
    go_wp2_with fail
    go_ret
    exact ⟨rfl, fin _⟩
  · have z1 : decide ((L : Int) < 1) = false := decide_eq_false (by omega)
    have z6 : decide (L < 1) = false := decide_eq_false (by omega)
    by_cases h2 : 1024 < L
    · have z2 : decide ((1024 : Int) < (L : Int)) = true := decide_eq_true (by omega)
      have z3 : decide (1024 < L) = true := decide_eq_true (by omega)
      clear h h1 h2
      go_enter Tryd.func12, Tryd.ntmps12
      go_wp2_with fail
      go_ret
      exact ⟨rfl, fin _⟩
    · have z2 : decide ((1024 : Int) < (L : Int)) = false := decide_eq_false (by omega)
      have z3 : decide (1024 < L) = false := decide_eq_false (by omega)
      by_cases h3 : K < 1
      · have z4 : decide (K < 1) = true := decide_eq_true (by omega)
        clear h h1 h2 h3
        go_enter Tryd.func12, Tryd.ntmps12
        go_wp2_with fail
        go_ret
        exact ⟨rfl, fin _⟩
      · have z4 : decide (K < 1) = false := decide_eq_false (by omega)
        have z5 : decide (8 < K) = true := decide_eq_true (by unfold SvOk at h; omega)
        clear h h1 h2 h3
        go_enter Tryd.func12, Tryd.ntmps12
        go_wp2_with fail
        go_ret
        exact ⟨rfl, fin _⟩
/-- a sieve and bytes, where they lie -/
structure SvAt (w : World) (a : Option Addr) (c e : Nat) (bits : List UInt8) (ab : Option Addr) (cb eb : Nat) (b : List UInt8) : Prop where
  rs : Rd w a e (bits.map vB)
  rb : Rd w ab eb (b.map vB)
  ro : RoundsAt w
theorem SvAt.below {w w' : World} {a : Option Addr} {c e : Nat} {bits : List UInt8} {ab : Option Addr} {cb eb : Nat} {b : List UInt8} (h : SvAt w a c e bits ab cb eb b) (hb : Below w.heap.size w w') : SvAt w' a c e bits ab cb eb b := ⟨h.rs.below hb, h.rb.below hb, h.ro.at_ hb⟩
theorem rd_blk {w : World} {ab : Option Addr} {eb : Nat} {b : List UInt8} (h : Rd w ab eb (b.map vB)) : b = [] ∨ ∀ x, ab = some x → x.block < w.heap.size := by
  by_cases hb : b = []
  · exact .inl hb
  · exact .inr fun x hx => by subst hx; exact h.block_lt (by simpa using hb)
/-- every place of a list holds a set bit; some place does not -/
def AllSet (bits : List UInt8) (pre : List (PL bits.length)) : Prop := ∀ p ∈ pre, bitB bits p.1 = true
def SomeNot (bits : List UInt8) (pre : List (PL bits.length)) : Prop := ∃ p ∈ pre, bitB bits p.1 = false
theorem AllSet.nil (bits : List UInt8) : AllSet bits [] := by intro p hp; cases hp
theorem AllSet.snoc {bits : List UInt8} {pre : List (PL bits.length)} (h : AllSet bits pre) {p : PL bits.length} (hp : bitB bits p.1 = true) : AllSet bits (pre ++ [p]) := fun y hy => (List.mem_append.1 hy).elim (h y) (fun h => by rw [List.mem_singleton.1 h]; exact hp)
theorem SomeNot.snoc {bits : List UInt8} (pre : List (PL bits.length)) {p : PL bits.length} (hp : bitB bits p.1 = false) : SomeNot bits (pre ++ [p]) := ⟨p, List.mem_append.2 (.inr (by simp)), hp⟩
set_option maxRecDepth 100000 in
set_option maxHeartbeats 4000000 in
theorem Has_ok (bits : List UInt8) (hL0 : 0 < bits.length) (hL : bits.length ≤ 1024) (K : Nat) (hK1 : 1 ≤ K) (hK : K ≤ 8) (b : List UInt8) (hbl : b.length ≤ 140737488351232) (a : Option Addr) (c e : Nat) (ab : Option Addr) (cb eb : Nat) (w : World) (h : SvAt w a c e bits ab cb eb b) :
    Calls Tryd.prog 17 #[.agg #[.slice a bits.length c, .int .i64 (K : Int)], .slice ab b.length cb] w fun e w' => e = .returned (.tuple #[.bool (hasAll bits (placesOf bits.length K b)), .nilIface]) ∧ Below w.heap.size w w' := by
  obtain ⟨sb, so, hab, _, _⟩ := h.rs.bytes hL0
  subst hab
  obtain ⟨H, hH⟩ : ∃ H, H = w.heap.size := ⟨_, rfl⟩
  obtain ⟨w0, hw0⟩ : ∃ x, x = w.alloc (.cells #[.slice (some ⟨sb, so, none⟩) bits.length c, .int .i64 (K : Int)] 24) := ⟨_, rfl⟩
  obtain ⟨w1, hw1⟩ : ∃ x, x = w0.alloc (.cells #[.bool false] 4) := ⟨_, rfl⟩
  obtain ⟨w2, hw2⟩ : ∃ x, x = w1.alloc (.cells #[.nilIface] 27) := ⟨_, rfl⟩
  have q0 : w0.heap.size = H + 1 := by rw [hw0, hH]; exact World.size_alloc _ _
  have q1 : w1.heap.size = H + 1 + 1 := by rw [hw1, World.size_alloc, q0]
  have q2 : w2.heap.size = H + 1 + 1 + 1 := by rw [hw2, World.size_alloc, q1]
  have b0 : Below H w w0 := by rw [hw0, hH]; exact (Below.refl _ _).alloc (Nat.le_refl _) _
  have b01 : Below (H + 1) w0 w1 := by rw [hw1, ← q0]; exact (Below.refl _ _).alloc (Nat.le_refl _) _
  have b12 : Below (H + 1 + 1) w1 w2 := by rw [hw2, ← q1]; exact (Below.refl _ _).alloc (Nat.le_refl _) _
  have b2 : Below H w w2 := b0.trans ((b01.trans (b12.mono (by omega))).mono (by omega))
  have g0 : w2.heap[H]? = some (.cells #[.slice (some ⟨sb, so, none⟩) bits.length c, .int .i64 (K : Int)] 24 (0, 0)) := by
    have g : w0.heap[H]? = some (.cells #[.slice (some ⟨sb, so, none⟩) bits.length c, .int .i64 (K : Int)] 24 (0, 0)) := by rw [hw0, hH]; exact heap_alloc_new _ _
    exact (b12.block _ (by omega)).trans ((b01.block _ (by omega)).trans g)
  have g1 : w2.heap[H + 1]? = some (.cells #[.bool false] 4 (0, 0)) := by
    have g : w1.heap[H + 1]? = some (.cells #[.bool false] 4 (0, 0)) := by rw [hw1, ← q0]; exact heap_alloc_new _ _
    exact (b12.block _ (by omega)).trans g
  have g2 : w2.heap[H + 1 + 1]? = some (.cells #[.nilIface] 27 (0, 0)) := by rw [hw2, ← q1]; exact heap_alloc_new _ _
  have s0 : w2.cell? ⟨H, 0, none⟩ = some (.slice (some ⟨sb, so, none⟩) bits.length c) := by rw [cell_of_row _ _ _ _ _ _ g0]; rfl
  have s1 : w2.cell? ⟨H, 1, none⟩ = some (.int .i64 (K : Int)) := by rw [cell_of_row _ _ _ _ _ _ g0]; rfl
  have hat := h.below (show Below w.heap.size w w2 by rw [← hH]; exact b2)
  have CK := Check_ok (some ⟨sb, so, none⟩) bits.length c (K : Int) ⟨⟨by omega, by omega⟩, by omega, by omega⟩ w2
  have HW0 := Lib.hid hw0
  have HW1 := Lib.hid hw1
  have HW2 := Lib.hid hw2
  have HH := Lib.hid hH
  have B2 := Lib.hid b2
  have G0 := Lib.hid g0
  have G1 := Lib.hid g1
  have G2 := Lib.hid g2
  have HAT := Lib.hid hat
  have HCK := Lib.hid CK
  have Q2 := Lib.hid q2
  clear q0 q1 q2 b0 b01 b12 b2 g0 g1 g2 hat CK hw0 hw1 hw2 hH h
  refine (callsIn_wide (n := 6)).1 (callsIn_of_wp_marks Tryd.func17 rfl trivial ?_ rfl)
  simp only [Tryd.ntmps17, List.size_toArray, List.length_cons, List.length_nil, Nat.reduceAdd, Nat.reduceSub, Array.replicate_succ, Array.replicate_zero, List.push_toArray, List.append_toArray, List.nil_append, List.cons_append]
  refine wpIn_wide.2 ?_
  go_upto_region 1 with fail
  rw [← HH.out, ← HW0.out, ← HW1.out, ← HW2.out]
  go_wp2_with fail
  refine HCK.out.mono ?_
  rintro e3 w3 ⟨rfl, hb3⟩
  have c0 := (hb3.cell (p := ⟨H, 0, none⟩) (by rw [Q2.out]; show H < _; omega)).trans s0
  have c1 := (hb3.cell (p := ⟨H, 1, none⟩) (by rw [Q2.out]; show H < _; omega)).trans s1
  have B3 := Lib.hid hb3
  clear hb3 HCK s0 s1
  go_wp2_with fail
  refine (places_calls _ _ _ _ _ w3).mono ?_
  rintro e w4 ⟨rfl, rfl⟩
  obtain ⟨S, hS⟩ : ∃ S, S = w3.heap.size := ⟨_, rfl⟩
  obtain ⟨wL, hwL⟩ : ∃ x, x = (w3.alloc (.cells #[.slice (some ⟨sb, so, none⟩) bits.length c, .int .i64 (K : Int)] 24)).alloc (.cells #[.slice ab b.length cb] 22) := ⟨_, rfl⟩
  have qL : wL.heap.size = S + 2 := by rw [hwL, World.size_alloc, World.size_alloc, hS]
  have b3L : Below S w3 wL := by rw [hwL, hS]; exact ((Below.refl _ _).alloc (Nat.le_refl _) _).alloc (by rw [World.size_alloc]; omega) _
  have hS2 : w2.heap.size ≤ S := by rw [hS]; exact B3.out.size
  have b2L : Below w2.heap.size w2 wL := B3.out.trans (b3L.mono hS2)
  have gS : wL.heap[S]? = some (.cells #[.slice (some ⟨sb, so, none⟩) bits.length c, .int .i64 (K : Int)] 24 (0, 0)) := by
    rw [hwL]
    refine (Below.heap_alloc _ _ _ (by rw [World.size_alloc]; omega)).trans ?_
    rw [hS]; exact heap_alloc_new _ _
  have gB : wL.heap[S + 1]? = some (.cells #[.slice ab b.length cb] 22 (0, 0)) := by
    rw [hwL, show S + 1 = (w3.alloc (.cells #[.slice (some ⟨sb, so, none⟩) bits.length c, .int .i64 (K : Int)] 24)).heap.size by rw [World.size_alloc, hS]]
    exact heap_alloc_new _ _
  have hatL := HAT.out.below b2L
  have hpl : PlacesAt wL.heap.size wL.heap.size S (S + 1) bits.length K b (some ⟨sb, so, none⟩) c ab cb eb wL := ⟨by rw [cell_of_row _ _ _ _ _ _ gS]; rfl, by rw [cell_of_row _ _ _ _ _ _ gS]; rfl, by rw [cell_of_row _ _ _ _ _ _ gB]; rfl, hatL.rb, hatL.ro⟩
  have hblk : b = [] ∨ ∀ x, ab = some x → x.block < wL.heap.size ∧ x.block ≠ wL.heap.size := by
    rcases rd_blk hatL.rb with h | h
    · exact .inl h
    · exact .inr fun x hx => ⟨h x hx, by have := h x hx; omega⟩
  have hsq := places_stops (6 - 1) (by omega) wL.heap.size wL.heap.size S (S + 1) bits.length K hL0 hL hK b hbl (some ⟨sb, so, none⟩) c ab cb eb (by omega) (by omega) (by omega) (by omega) hatL.ro.lt (Nat.ne_of_lt hatL.ro.lt) hblk wL (Nat.le_refl _) hpl
  have k0 : wL.cell? ⟨H, 0, none⟩ = some (.slice (some ⟨sb, so, none⟩) bits.length c) := (b2L.cell (p := ⟨H, 0, none⟩) (by rw [Q2.out]; show H < _; omega)).trans (by rw [cell_of_row _ _ _ _ _ _ G0.out]; rfl)
  have k1 : wL.cell? ⟨H + 1, 0, none⟩ = some (.bool false) := (b2L.cell (p := ⟨H + 1, 0, none⟩) (by rw [Q2.out]; show H + 1 < _; omega)).trans (by rw [cell_of_row _ _ _ _ _ _ G1.out]; rfl)
  have k2 : wL.cell? ⟨H + 1 + 1, 0, none⟩ = some .nilIface := (b2L.cell (p := ⟨H + 1 + 1, 0, none⟩) (by rw [Q2.out]; show H + 1 + 1 < _; omega)).trans (by rw [cell_of_row _ _ _ _ _ _ G2.out]; rfl)
  have f1 : wL.frozen? ⟨H + 1, 0, none⟩ = false := (b2L.frozen (p := ⟨H + 1, 0, none⟩) (by rw [Q2.out]; show H + 1 < _; omega)).trans (frozen_of_row _ _ _ _ _ G1.out)
  have f2 : wL.frozen? ⟨H + 1 + 1, 0, none⟩ = false := (b2L.frozen (p := ⟨H + 1 + 1, 0, none⟩) (by rw [Q2.out]; show H + 1 + 1 < _; omega)).trans (frozen_of_row _ _ _ _ _ G2.out)
  have bL : Below H w wL := B2.out.trans (b2L.mono (by rw [Q2.out]; omega))
  have K0 := Lib.hid k0
  have K1 := Lib.hid k1
  have K2 := Lib.hid k2
  have F1 := Lib.hid f1
  have F2 := Lib.hid f2
  have BL := Lib.hid bL
  have HSQ := Lib.hid hsq
  have RS := Lib.hid hatL.rs
  have QL := Lib.hid qL
  have HSL : H + 1 + 1 < wL.heap.size := by rw [qL]; have := Q2.out; omega
  rw [← hS, ← hwL]
  clear hS hwL qL b3L hS2 b2L gS gB hatL hpl hblk hsq k0 k1 k2 f1 f2 bL c0 c1 B3 HAT B2 G0 G1 G2 HW0 HW1 HW2
  go_wp2_with fail
  refine (wpIn_wide (n := 6)).1 ?_
  refine wpIn_rangeFunc_ownF (F := Fence.wide) rfl (by omega) (gf := 47) (lb := #[.pointer (some ⟨S, 0, none⟩), .pointer (some ⟨S + 1, 0, none⟩)]) rfl trivial (enters_of Tryd.func47 (by kernel_rfl) rfl)
    HSQ.out ButOne.trans (butOne_b (Nat.le_refl _)) (Below.refl _ _) (fun _ => rfl)
    (fun pre W => AllSet bits pre ∧ Below wL.heap.size wL W)
    (fun cd pre W => (cd = .ret ∧ SomeNot bits pre ∧ W.cell? ⟨H + 1, 0, none⟩ = some (.bool false) ∧ W.cell? ⟨H + 1 + 1, 0, none⟩ = some .nilIface) ∧ Below H w W)
    (OwnFrom.and (Own.from (fun s A B row hs hg hr => hs) _) (ownFrom_below (Nat.le_refl _) (Nat.le_refl _)))
    (fun cd => OwnFrom.and (Own.from (fun s A B row hs hg hr => ⟨hs.1, hs.2.1, cell_kept hs.2.2.1 hg hr, cell_kept hs.2.2.2 hg hr⟩) _) (ownFrom_below (by rw [HH.out]; exact Nat.le_refl _) (by omega)))
    ⟨AllSet.nil _, Below.refl _ _⟩
    (fun x => { tmps := #[.agg #[.slice (some ⟨sb, so, none⟩) bits.length c, .int .i64 (K : Int)], .slice ab b.length cb, .pointer (some ⟨H, 0, none⟩), undef, .pointer (some ⟨H + 1, 0, none⟩), .pointer (some ⟨H + 1 + 1, 0, none⟩), .nilIface, .int .i64 (x.1 : Int), .agg #[.slice (some ⟨sb, so, none⟩) bits.length c, .int .i64 (K : Int)], .nilIface, .nilIface, .bool false, undef, .agg #[.slice (some ⟨sb, so, none⟩) bits.length c, .int .i64 (K : Int)], .slice ab b.length cb, .func (.func 47) #[] #[.pointer (some ⟨S, 0, none⟩), .pointer (some ⟨S + 1, 0, none⟩)], .int .i64 (x.1 : Int), undef, undef, undef, undef, undef, undef, undef, undef, undef, undef, undef], defers := [] }) ?assign ?body ?done ?stop
  case assign =>
    intro l x W K hK
    gi_wp2
    exact hK
  case body =>
    rintro l pre x W ⟨hpre, hbW⟩ hlen
    obtain ⟨p, hpL⟩ := x
    have hq9 : p / 8 < bits.length := by omega
    obtain ⟨b9, o9, hb9, _, hc9⟩ := (RS.out.below hbW).bytes hq9
    simp only [Option.some.injEq, Addr.mk.injEq, and_true] at hb9
    obtain ⟨rfl, rfl⟩ := hb9
    have c9 := hc9 (p / 8) hq9
    have hbit : bitB bits p = (bits[p / 8]'hq9).toNat.testBit (p % 8) := by
      unfold bitB
      rw [List.getD_eq_getElem?_getD, List.getElem?_eq_getElem hq9]; rfl
    rw [Nat.testBit_eq_decide_div_mod_eq] at hbit
    obtain ⟨X, hX⟩ : ∃ X, X = bits[p / 8]'hq9 := ⟨_, rfl⟩
    rw [← hX] at c9 hbit
    obtain ⟨q, hq⟩ : ∃ q, q = p / 8 := ⟨_, rfl⟩
    obtain ⟨r, hr⟩ : ∃ r, r = p % 8 := ⟨_, rfl⟩
    obtain ⟨T, hT⟩ : ∃ T, T = X.toNat / 2 ^ r := ⟨_, rfl⟩
    rw [← hq] at c9 hq9
    rw [← hr, ← hT] at hbit
    have hT256 : T < 256 := by rw [hT]; exact Nat.lt_of_le_of_lt (Nat.div_le_self _ _) X.toNat_lt
    have cH := (hbW.cell (p := ⟨H, 0, none⟩) (by show H < _; omega)).trans K0.out
    have e1 : (p : Int) / 8 = (q : Int) := by omega
    have e1t : (p : Int).tdiv 8 = (q : Int) := by rw [Int.tdiv_eq_ediv_of_nonneg (by omega)]; omega
    have e2 : (p : Int) % 8 = (r : Int) := by omega
    have e2t : (p : Int).tmod 8 = (r : Int) := by rw [Int.tmod_eq_emod_of_nonneg (by omega)]; omega
    have q0 : (0 : Int) ≤ (q : Int) := by omega
    have q1 : (q : Int) < (bits.length : Int) := by omega
    have r0 : (0 : Int) ≤ (r : Int) := by omega
    have r8 : (r : Int) ≤ 8 := by omega
    have e3 : (X.toNat : Int) / 2 ^ r = (T : Int) := by rw [hT, Int.natCast_ediv, Int.natCast_pow]; rfl
    have e4 := u8_and_nat T 1 hT256 (by decide)
    rw [Nat.and_one_is_mod] at e4
    have KP := Lib.hid hpre
    have HBW := Lib.hid hbW
    by_cases hone : T % 2 = 1
    · rw [hone] at e4 hbit
      have e5 : Go.bits .and .u8 (T : Int) 1 = 1 := e4
      have HB9 := Lib.hid hbit
      clear hc9 hX hq hr hT e4 hbit hone hpre hbW hlen
      gi_wp2
      exact ⟨KeepsOthers.refl _, ButOne.refl _ _ _, KP.out.snoc HB9.out, HBW.out⟩
    · have hz : T % 2 = 0 := by omega
      rw [hz] at e4 hbit
      have e5 : Go.bits .and .u8 (T : Int) 1 = 0 := e4
      have HB9 := Lib.hid hbit
      have d1 := (hbW.cell (p := ⟨H + 1, 0, none⟩) (by show H + 1 < _; omega)).trans K1.out
      have d2 := (hbW.cell (p := ⟨H + 1 + 1, 0, none⟩) (by show H + 1 + 1 < _; omega)).trans K2.out
      have g1 := (hbW.frozen (p := ⟨H + 1, 0, none⟩) (by show H + 1 < _; omega)).trans F1.out
      have g2 := (hbW.frozen (p := ⟨H + 1 + 1, 0, none⟩) (by show H + 1 + 1 < _; omega)).trans F2.out
      clear hc9 hX hq hr hT e4 hbit hone hz hpre hbW hlen
      gi_wp2
      refine ⟨(KeepsOthers.setCell _ _ _).trans (KeepsOthers.setCell _ _ _), ⟨rfl, SomeNot.snoc _ HB9.out, ?_, ?_⟩, ?_⟩
      · rw [World.cell?_setCell_far _ _ _ _ (by show H + 1 + 1 ≠ H + 1; omega)]
        exact World.cell?_setCell_same' _ _ _ (by rw [d1]; rfl)
      · exact World.cell?_setCell_same' _ _ _ (by rw [World.cell?_setCell_far _ _ _ _ (by show H + 1 ≠ H + 1 + 1; omega), d2]; rfl)
      · exact ((BL.out.trans (HBW.out.mono (by omega))).setCell (p := ⟨H + 1, 0, none⟩) (by show H ≤ H + 1; omega) _).setCell (p := ⟨H + 1 + 1, 0, none⟩) (by show H ≤ H + 1 + 1; omega) _
  case done =>
    rintro D ys W hD rfl ⟨hpre, hbW⟩ hK
    have d1 := (hbW.cell (p := ⟨H + 1, 0, none⟩) (by show H + 1 < _; omega)).trans K1.out
    have d2 := (hbW.cell (p := ⟨H + 1 + 1, 0, none⟩) (by show H + 1 + 1 < _; omega)).trans K2.out
    have g1 := (hbW.frozen (p := ⟨H + 1, 0, none⟩) (by show H + 1 < _; omega)).trans F1.out
    have g2 := (hbW.frozen (p := ⟨H + 1 + 1, 0, none⟩) (by show H + 1 + 1 < _; omega)).trans F2.out
    have hall : hasAll bits (placesOf bits.length K b) = true := by
      rw [← placesS_map bits.length hL0 K b]
      unfold hasAll
      rw [List.all_eq_true]
      intro p hp
      obtain ⟨q, hq, rfl⟩ := List.mem_map.1 hp
      exact hpre q hq
    have HBW := Lib.hid hbW
    have HK := Lib.hid hK
    have HDD := Lib.hid (show H + 1 + 1 < D ∧ wL.heap.size ≤ D by omega)
    have HALL := Lib.hid hall
    clear hpre hbW hK hD hall
    go_wp2_with fail
    have hK' := ((KeepsOthers.setCell W ⟨H + 1, 0, none⟩ (.bool true)).trans (KeepsOthers.setCell _ ⟨H + 1 + 1, 0, none⟩ .nilIface)).same D _ HK.out rfl
    refine ⟨by simp, .inl ⟨_, _, rfl, run_takeDeferred hK', ?_⟩⟩
    have n1 : ((W.setCell ⟨H + 1, 0, none⟩ (.bool true)).setCell ⟨H + 1 + 1, 0, none⟩ .nilIface).cell? ⟨H + 1, 0, none⟩ = some (.bool true) := by
      rw [World.cell?_setCell_far _ _ _ _ (by show H + 1 + 1 ≠ H + 1; omega)]
      exact World.cell?_setCell_same' _ _ _ (by rw [d1]; rfl)
    have n2 : ((W.setCell ⟨H + 1, 0, none⟩ (.bool true)).setCell ⟨H + 1 + 1, 0, none⟩ .nilIface).cell? ⟨H + 1 + 1, 0, none⟩ = some .nilIface :=
      World.cell?_setCell_same' _ _ _ (by rw [World.cell?_setCell_far _ _ _ _ (by show H + 1 ≠ H + 1 + 1; omega), d2]; rfl)
    have m1 := cell_kept n1 (grownBy_putObj' _ D (.deferred none)) (fun r e => by cases e; exact ⟨_, hK', rfl⟩)
    have m2 := cell_kept n2 (grownBy_putObj' _ D (.deferred none)) (fun r e => by cases e; exact ⟨_, hK', rfl⟩)
    have hBe : Below H w ((W.setCell ⟨H + 1, 0, none⟩ (.bool true)).setCell ⟨H + 1 + 1, 0, none⟩ .nilIface) := ((BL.out.trans (HBW.out.mono (by omega))).setCell (p := ⟨H + 1, 0, none⟩) (by show H ≤ H + 1; omega) _).setCell (p := ⟨H + 1 + 1, 0, none⟩) (by show H ≤ H + 1 + 1; omega) _
    refine ⟨.tuple #[.bool true, .nilIface], ?_, by rw [HALL.out], (by rw [← HH.out]; exact hBe.trans (belowK_b (w := w) (by rw [HH.out]; exact Nat.le_refl _) _ D _ _ (by have := HDD.out; have := HH.out; omega) hK' rfl rfl))⟩
    simp [results, Tryd.f17, go_sem, m1, m2]
  case stop =>
    rintro D cd pre W hD hpre ⟨⟨rfl, hex, hc1, hc2⟩, hB⟩ hK
    have hall : hasAll bits (placesOf bits.length K b) = false := by
      rw [← placesS_map bits.length hL0 K b]
      unfold hasAll
      rw [List.all_eq_false]
      obtain ⟨q, hq, hb⟩ := hex
      exact ⟨q.1, List.mem_map.2 ⟨q, hpre.subset hq, rfl⟩, by rw [hb]; decide⟩
    have HK := Lib.hid hK
    have HB := Lib.hid hB
    have HALL := Lib.hid hall
    have HDD := Lib.hid (show H + 1 + 1 < D ∧ wL.heap.size ≤ D by omega)
    clear hpre hex hB hD hK hall
    gi_wp2
    refine ⟨by simp, .inl ⟨_, _, rfl, run_takeDeferred HK.out, ?_⟩⟩
    have m1 := cell_kept hc1 (grownBy_putObj' _ D (.deferred none)) (fun r e => by cases e; exact ⟨_, HK.out, rfl⟩)
    have m2 := cell_kept hc2 (grownBy_putObj' _ D (.deferred none)) (fun r e => by cases e; exact ⟨_, HK.out, rfl⟩)
    refine ⟨.tuple #[.bool false, .nilIface], ?_, by rw [HALL.out], (by rw [← HH.out]; exact HB.out.trans (belowK_b (w := w) (by rw [HH.out]; exact Nat.le_refl _) _ D _ _ (by have := HDD.out; have := HH.out; omega) HK.out rfl rfl))⟩
    simp [results, Tryd.f17, go_sem, m1, m2]
end Go.Proofs.YteikbbdkpeecaaaDoor
