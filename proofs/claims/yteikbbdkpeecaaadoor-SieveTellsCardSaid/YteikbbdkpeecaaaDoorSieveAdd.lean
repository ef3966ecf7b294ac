/- Walks: sieve.Add. -/
import Derived.Test.YteikbbdkpeecaaaDoorSieve
import Derived.Test.YteikbbdkpeecaaaDoorClone
import Derived.Test.YteikbbdkpeecaaaDoorRoundTail
import Derived.Deep.RegionWith
import Derived.Stop.RegionWithIn
import Derived.Deep.DeepCutAuto
namespace Go.Proofs.YteikbbdkpeecaaaDoor
open Go.RowKit Go.Shelf
set_option linter.unusedVariables false
set_option linter.unusedSimpArgs false
attribute [local go_sem] Oper.semAt_some
theorem heap_set_one {w : World} {b i : Nat} {cs : Array Value} {T : TypeId} {fr : Nat × Nat} (hb : w.heap[b]? = some (.cells cs T fr)) (v : Value) :
    (w.setCell ⟨b, i, none⟩ v).heap[b]? = some (.cells (cs.setIfInBounds i v) T fr) := by
  simp [World.setCell, Array.getElem?_modify, hb]
/-- the bytes with all these places set -/
def setTo (bits : List UInt8) (pre : List (PL bits.length)) : List UInt8 := addAll bits (pre.map (·.1))
theorem setTo_length (bits : List UInt8) (pre : List (PL bits.length)) : (setTo bits pre).length = bits.length := addAll_length _ _
theorem setTo_nil (bits : List UInt8) : setTo bits [] = bits := rfl
theorem setTo_snoc (bits : List UInt8) (pre : List (PL bits.length)) (p : PL bits.length) : setTo bits (pre ++ [p]) = setB (setTo bits pre) p.1 := by
  unfold setTo addAll; rw [List.map_append, List.foldl_append]; rfl
theorem or_bit (X : UInt8) (r : Nat) (hr : r < 8) : Go.bits .or .u8 (X.toNat : Int) ((2 : Int) ^ r % 256) = ((orB X r).toNat : Int) := by
  have h1 : (2 : Nat) ^ r < 2 ^ 8 := Nat.pow_lt_pow_right (by omega) hr
  have h2 : ((2 : Int) ^ r % 256) = ((2 ^ r : Nat) : Int) := by
    rw [show ((2 : Int) ^ r) = ((2 ^ r : Nat) : Int) by rw [Int.natCast_pow]; rfl]
    generalize (2 : Nat) ^ r = t at h1
    omega
  rw [h2, orB_toNat X r hr]
  exact u8_or_nat _ _ X.toNat_lt h1
theorem own_low {w : World} {b b' : Nat} {e : TypeId} {size : Nat} {v : Value} {n : Nat} {xs : List Value} (h : w.ownsRow b e size v n xs) (hb : b' ≤ b) : w.ownsRow b' e size v n xs :=
  ⟨h.1, h.2.imp id fun ⟨g, cap, cur, hv, hg, r⟩ => ⟨g, cap, cur, hv, Nat.le_trans hb hg, r⟩⟩
theorem own_far {w : World} {b : Nat} {e : TypeId} {size g c n : Nat} {xs : List Value} (h : w.ownsRow b e size (.slice (some ⟨g, 0, none⟩) n c) n xs) (p : Addr) (u : Value) (hp : g ≠ p.block) : (w.setCell p u).ownsRow b e size (.slice (some ⟨g, 0, none⟩) n c) n xs := by
  refine ⟨h.1, h.2.imp id ?_⟩
  rintro ⟨g', cap, cur, hv, hg, hh, r⟩
  simp only [Value.slice.injEq, Option.some.injEq, Addr.mk.injEq, and_true] at hv
  obtain ⟨rfl, hc⟩ := hv
  exact ⟨g, cap, cur, by simp [hc], hg, (Below.heap_setCell _ _ _ _ hp).trans hh, r⟩
theorem own_one {w w' : World} {row : Option Nat} {b : Nat} {e : TypeId} {size g c n : Nat} {xs : List Value} (h : w.ownsRow b e size (.slice (some ⟨g, 0, none⟩) n c) n xs) (hg : w.grownBy w' row) (hr : ∀ r, row = some r → ∃ o : Obj, w.heap[r]? = some o ∧ o.isCells = false) : w'.ownsRow b e size (.slice (some ⟨g, 0, none⟩) n c) n xs := by
  refine h.kept hg (.inr ?_)
  intro he
  obtain ⟨o, ho, hc⟩ := hr g he.symm
  rcases h.2 with ⟨h1, _⟩ | ⟨g', cap, cur, hv, _, hh, _⟩
  · simp at h1
  · simp only [Value.slice.injEq, Option.some.injEq, Addr.mk.injEq, and_true] at hv
    obtain ⟨rfl, _⟩ := hv
    rw [hh] at ho
    cases ho
    simp [Obj.isCells] at hc
theorem own_bset {w : World} {base g n cap : Nat} {xs : List UInt8} (h : w.ownsRow base 5 1 (.slice (some ⟨g, 0, none⟩) n cap) n (xs.map vB)) (k : Nat) (z : UInt8) :
    (w.setCell ⟨g, k, none⟩ (.int .u8 z.toNat)).ownsRow base 5 1 (.slice (some ⟨g, 0, none⟩) n cap) n ((xs.set k z).map vB) := by
  have := own_set h k (.int .u8 z.toNat)
  rw [List.map_set]; exact this
theorem own_bget {w : World} {base g n cap : Nat} {xs : List UInt8} (h : w.ownsRow base 5 1 (.slice (some ⟨g, 0, none⟩) n cap) n (xs.map vB)) {k : Nat} (hk : k < xs.length) :
    w.cell? ⟨g, k, none⟩ = some (.int .u8 xs[k].toNat) ∧ w.frozen? ⟨g, k, none⟩ = false := by
  have := own_cell h (k := k) (by simpa using hk)
  simpa [vB] using this
/-- as Below, but that block Z may have changed too -/
structure BelowX (B Z : Nat) (w w' : World) : Prop where
  os : w'.os = w.os
  tape : w'.tape = w.tape
  output : w'.output = w.output
  keep : ButOne B Z w w'
theorem BelowX.refl (B Z : Nat) (w : World) : BelowX B Z w w := ⟨rfl, rfl, rfl, ButOne.refl _ _ _⟩
theorem BelowX.set {B Z : Nat} {w w' : World} (h : BelowX B Z w w') (k : Nat) (u : Value) : BelowX B Z w (w'.setCell ⟨Z, k, none⟩ u) :=
  ⟨h.os, h.tape, h.output, h.keep.trans ⟨by simp, fun i _ hi => Below.heap_setCell _ _ _ _ hi⟩⟩
theorem BelowX.drew {B Z : Nat} {w w' : World} (h : BelowX B Z w w') : BelowX B Z w w'.drew := ⟨h.os, h.tape, h.output, h.keep⟩
theorem BelowX.below {B Z H : Nat} {w w' : World} (h : BelowX B Z w w') (hB : H ≤ B) (hZ : H ≤ Z) : Below H w w' := ⟨h.os, h.tape, h.output, h.keep.1, fun k hk => h.keep.2 k (by omega) (by omega)⟩
theorem BelowX.from {β : Type} {B Z : Nat} {w : World} (hn : B ≤ w.heap.size) : OwnFrom B (fun (_ : β) W => BelowX B Z w W) := fun s W W' row hs hg hr =>
  ⟨hg.os.trans hs.os, hg.tape.trans hs.tape, hg.output.trans hs.output, hs.keep.trans ⟨hg.size, fun k hk hz => hg.block k (Nat.lt_of_lt_of_le hk (Nat.le_trans hn hs.keep.1)) (fun e => by have := (hr k e.symm).1; omega)⟩⟩
set_option maxRecDepth 100000 in
set_option maxHeartbeats 4000000 in
theorem Add_ok (bits : List UInt8) (hL0 : 0 < bits.length) (hL : bits.length ≤ 1024) (K : Nat) (hK1 : 1 ≤ K) (hK : K ≤ 8) (b : List UInt8) (hbl : b.length ≤ 140737488351232) (a : Option Addr) (c e : Nat) (ab : Option Addr) (cb eb : Nat) (w : World) (h : SvAt w a c e bits ab cb eb b) :
    Calls Tryd.prog 16 #[.agg #[.slice a bits.length c, .int .i64 (K : Int)], .slice ab b.length cb] w fun e w' => ∃ a' c' e', e = .returned (.tuple #[.agg #[.slice a' bits.length c', .int .i64 (K : Int)], .nilIface]) ∧ Rd w' a' e' ((addAll bits (placesOf bits.length K b)).map vB) ∧ Below w.heap.size w w' := by
  obtain ⟨H, hH⟩ : ∃ H, H = w.heap.size := ⟨_, rfl⟩
  obtain ⟨w0, hw0⟩ : ∃ x, x = w.alloc (.cells #[.slice a bits.length c, .int .i64 (K : Int)] 24) := ⟨_, rfl⟩
  obtain ⟨w1, hw1⟩ : ∃ x, x = w0.alloc (.cells #[.slice none 0 0, .int .i64 0] 24) := ⟨_, rfl⟩
  have q0 : w0.heap.size = H + 1 := by rw [hw0, hH]; exact World.size_alloc _ _
  have q1 : w1.heap.size = H + 1 + 1 := by rw [hw1, World.size_alloc, q0]
  have b0 : Below H w w0 := by rw [hw0, hH]; exact (Below.refl _ _).alloc (Nat.le_refl _) _
  have b01 : Below (H + 1) w0 w1 := by rw [hw1, ← q0]; exact (Below.refl _ _).alloc (Nat.le_refl _) _
  have b2 : Below H w w1 := b0.trans (b01.mono (by omega))
  have g0 : w1.heap[H]? = some (.cells #[.slice a bits.length c, .int .i64 (K : Int)] 24 (0, 0)) := by
    have g : w0.heap[H]? = some (.cells #[.slice a bits.length c, .int .i64 (K : Int)] 24 (0, 0)) := by rw [hw0, hH]; exact heap_alloc_new _ _
    exact (b01.block _ (by omega)).trans g
  have g1 : w1.heap[H + 1]? = some (.cells #[.slice none 0 0, .int .i64 0] 24 (0, 0)) := by rw [hw1, ← q0]; exact heap_alloc_new _ _
  have s0 : w1.cell? ⟨H, 0, none⟩ = some (.slice a bits.length c) := by rw [cell_of_row _ _ _ _ _ _ g0]; rfl
  have s1 : w1.cell? ⟨H, 1, none⟩ = some (.int .i64 (K : Int)) := by rw [cell_of_row _ _ _ _ _ _ g0]; rfl
  have hat := h.below (show Below w.heap.size w w1 by rw [← hH]; exact b2)
  have CK := Check_ok a bits.length c (K : Int) ⟨⟨by omega, by omega⟩, by omega, by omega⟩ w1
  have HW0 := Lib.hid hw0
  have HW1 := Lib.hid hw1
  have HH := Lib.hid hH
  have B2 := Lib.hid b2
  have G0 := Lib.hid g0
  have G1 := Lib.hid g1
  have HAT := Lib.hid hat
  have HCK := Lib.hid CK
  have Q2 := Lib.hid q1
  clear q0 q1 b0 b01 b2 g0 g1 hat CK hw0 hw1 hH h
  refine (callsIn_wide (n := 6)).1 (callsIn_of_wp_marks Tryd.func16 rfl trivial ?_ rfl)
  simp only [Tryd.ntmps16, List.size_toArray, List.length_cons, List.length_nil, Nat.reduceAdd, Nat.reduceSub, Array.replicate_succ, Array.replicate_zero, List.push_toArray, List.append_toArray, List.nil_append, List.cons_append]
  refine wpIn_wide.2 ?_
  go_wp2_with fail
  rw [← HH.out, ← HW0.out, ← HW1.out]
  refine HCK.out.mono ?_
  rintro e3 w3 ⟨rfl, hb3⟩
  have c0 := (hb3.cell (p := ⟨H, 0, none⟩) (by rw [Q2.out]; show H < _; omega)).trans s0
  have c1 := (hb3.cell (p := ⟨H, 1, none⟩) (by rw [Q2.out]; show H < _; omega)).trans s1
  have hat3 := HAT.out.below hb3
  have B3 := Lib.hid hb3
  have HAT3 := Lib.hid hat3
  clear hb3 HCK s0 s1 hat3 HAT
  go_wp2_with fail
  have hE : w1.heap.size ≤ w3.heap.size := B3.out.size
  have HE := Lib.hid hE
  clear hE
  have rd1 : Rd w3.drew a e (bits.map vB) := HAT3.out.rs.below ((Below.refl _ _).drew)
  have rd2 : Rd (w3.alloc (.cells #[.slice none 0 0, .int .i64 0] 24)).drew a e (bits.map vB) := HAT3.out.rs.below (((Below.refl _ _).alloc (Nat.le_refl _) _).drew)
  have HRD := Lib.hid (And.intro rd1 rd2)
  clear rd1 rd2
  have hHl : H < w3.heap.size := by have := HE.out; have := Q2.out; omega
  refine Code.wp_mono (Q := Exit.then (fun a9 wx => ∃ Y Z c4, a9 = { tmps := #[.agg #[.slice a bits.length c, .int .i64 (K : Int)], .slice ab b.length cb, .pointer (some ⟨H, 0, none⟩), undef, .pointer (some ⟨H + 1, 0, none⟩), .nilIface, .nilIface, .pointer (some ⟨Y, 0, none⟩), undef, .agg #[.slice a bits.length c, .int .i64 (K : Int)], .nilIface, .nilIface, .bool false, undef, undef, .pointer (some ⟨H, 0, none⟩), .slice a bits.length c, .slice (some ⟨Z, 0, none⟩) bits.length c4, .pointer (some ⟨H, 1, none⟩), .int .i64 (K : Int), .agg #[.slice (some ⟨Z, 0, none⟩) bits.length c4, .int .i64 (K : Int)], undef, undef, undef, undef, undef, undef, undef, undef, undef, undef, undef, undef, undef, undef, undef, undef], defers := [] }
      ∧ Y ≠ Z ∧ w3.heap.size ≤ Y ∧ wx.heap[Y]? = some (.cells #[.slice (some ⟨Z, 0, none⟩) bits.length c4, .int .i64 (K : Int)] 24 (0, 0)) ∧ wx.ownsRow w3.heap.size 5 1 (.slice (some ⟨Z, 0, none⟩) bits.length c4) bits.length (bits.map vB) ∧ Below w3.heap.size w3 wx) (fun _ _ _ => False)) ?rest ?first
  case first =>
    have HCA : Calls Tryd.prog 30 #[.slice a bits.length c] w3.drew fun e w' => ∃ Z c4, e = .returned (.slice (some ⟨Z, 0, none⟩) bits.length c4) ∧ w'.cell? ⟨H, 1, none⟩ = some (.int .i64 (K : Int)) ∧ (w'.alloc (.cells #[.slice none 0 0, .int .i64 0] 24)).cell? ⟨H, 1, none⟩ = some (.int .i64 (K : Int)) ∧ Hid (w'.ownsRow w3.heap.size 5 1 (.slice (some ⟨Z, 0, none⟩) bits.length c4) bits.length (bits.map vB) ∧ Below w3.heap.size w3 w') := by
      refine (Clone_calls bits a c e _ HRD.out.1 (by omega)).mono ?_
      rintro e4 w4 ⟨a4, c4, rfl, hown4, hb4⟩
      obtain ⟨Z, rfl, hZ⟩ := own_some hown4 hL0
      have k1 := (hb4.cell (p := ⟨H, 1, none⟩) hHl).trans c1
      exact ⟨Z, c4, rfl, k1, (((Below.refl w4.heap.size w4).alloc (Nat.le_refl _) (.cells #[.slice none 0 0, .int .i64 0] 24)).cell (p := ⟨H, 1, none⟩) (Nat.lt_of_lt_of_le hHl hb4.size)).trans k1, Lib.hid ⟨hown4, (Below.refl _ _).drew.trans hb4⟩⟩
    have HCB : Calls Tryd.prog 30 #[.slice a bits.length c] (w3.alloc (.cells #[.slice none 0 0, .int .i64 0] 24)).drew fun e w' => ∃ Z c4, e = .returned (.slice (some ⟨Z, 0, none⟩) bits.length c4) ∧ w'.cell? ⟨H, 1, none⟩ = some (.int .i64 (K : Int)) ∧ w'.cell? ⟨w3.heap.size, 0, none⟩ = some (.slice none 0 0) ∧ w'.cell? ⟨w3.heap.size, 1, none⟩ = some (.int .i64 0) ∧ w'.frozen? ⟨w3.heap.size, 0, none⟩ = false ∧ w'.frozen? ⟨w3.heap.size, 1, none⟩ = false ∧ Hid (w'.heap[w3.heap.size]? = some (.cells #[.slice none 0 0, .int .i64 0] 24) ∧ w3.heap.size + 1 ≤ Z ∧ w'.ownsRow w3.heap.size 5 1 (.slice (some ⟨Z, 0, none⟩) bits.length c4) bits.length (bits.map vB) ∧ Below w3.heap.size w3 w') := by
      refine (Clone_calls bits a c e _ HRD.out.2 (by omega)).mono ?_
      rintro e4 w4 ⟨a4, c4, rfl, hown4, hb4⟩
      obtain ⟨Z, rfl, hZ⟩ := own_some hown4 hL0
      have hs : (w3.alloc (.cells #[.slice none 0 0, .int .i64 0] 24)).drew.heap.size = w3.heap.size + 1 := World.size_alloc _ _
      rw [hs] at hZ hown4 hb4
      have k1 := ((hb4.cell (p := ⟨H, 1, none⟩) (by show H < _; omega)).trans (((Below.refl w3.heap.size w3).alloc (Nat.le_refl _) (.cells #[.slice none 0 0, .int .i64 0] 24)).cell (p := ⟨H, 1, none⟩) hHl)).trans c1
      have g : w4.heap[w3.heap.size]? = some (.cells #[.slice none 0 0, .int .i64 0] 24 (0, 0)) := (hb4.block w3.heap.size (by omega)).trans (heap_alloc_new _ _)
      exact ⟨Z, c4, rfl, k1, by rw [cell_of_row _ _ _ _ _ _ g]; rfl, by rw [cell_of_row _ _ _ _ _ _ g]; rfl, frozen_of_row _ _ _ _ _ g, frozen_of_row _ _ _ _ _ g, Lib.hid ⟨g, hZ, own_low hown4 (by omega), ((Below.refl w3.heap.size w3).alloc (Nat.le_refl _) (.cells #[.slice none 0 0, .int .i64 0] 24)).drew.trans (hb4.mono (by omega))⟩⟩
    have HA := Lib.hid HCA
    have HB := Lib.hid HCB
    clear HCA HCB
    have c0b : (w3.alloc (.cells #[.slice none 0 0, .int .i64 0] 24)).cell? ⟨H, 0, none⟩ = some (.slice a bits.length c) := (((Below.refl w3.heap.size w3).alloc (Nat.le_refl _) _).cell (p := ⟨H, 0, none⟩) hHl).trans c0
    have c1b : (w3.alloc (.cells #[.slice none 0 0, .int .i64 0] 24)).cell? ⟨H, 1, none⟩ = some (.int .i64 (K : Int)) := (((Below.refl w3.heap.size w3).alloc (Nat.le_refl _) _).cell (p := ⟨H, 1, none⟩) hHl).trans c1
    go_region_with (go_at_call 30; first | (with_reducible refine HA.out.mono ?_; rintro e4 w4 ⟨Z, c4, rfl, k1, k2, HOB⟩) | (with_reducible refine HB.out.mono ?_; rintro e4 w4 ⟨Z, c4, rfl, k1, m0, m1, m2, m3, HOB⟩))
    all_goals first
      | (obtain ⟨hown4, hb4⟩ := HOB.out
         exact ⟨_, Z, c4, rfl, fun h => by have := (hown4.lt Z rfl).2; omega, hb4.size, heap_alloc_new _ _, hown4.alloc _, hb4.alloc hb4.size _⟩)
      | (obtain ⟨hg, hZ, hown4, hb4⟩ := HOB.out
         exact ⟨_, Z, c4, rfl, (by omega), Nat.le_refl _, heap_set_one (i := 1) (heap_set_one (i := 0) hg _) _, own_far (own_far hown4 _ _ (by show Z ≠ w3.heap.size; omega)) _ _ (by show Z ≠ w3.heap.size; omega), (hb4.setCell (p := ⟨w3.heap.size, 0, none⟩) (Nat.le_refl _) _).setCell (p := ⟨w3.heap.size, 1, none⟩) (Nat.le_refl _) _⟩)
  case rest =>
    rintro e9 a9 wx hQ
    cases e9 with
    | normal =>
      obtain ⟨Y, Z, c4, rfl, hYZ, hY, hwY, hown, hbx⟩ := hQ
      have d0 := (hbx.cell (p := ⟨H, 0, none⟩) (by show H < _; omega)).trans c0
      have d1 := (hbx.cell (p := ⟨H, 1, none⟩) (by show H < _; omega)).trans c1
      go_wp2_with fail
      refine (places_calls _ _ _ _ _ wx).mono ?_
      rintro e w4 ⟨rfl, rfl⟩
      obtain ⟨S, hS⟩ : ∃ S, S = wx.heap.size := ⟨_, rfl⟩
      obtain ⟨wL, hwL⟩ : ∃ x, x = (wx.alloc (.cells #[.slice a bits.length c, .int .i64 (K : Int)] 24)).alloc (.cells #[.slice ab b.length cb] 22) := ⟨_, rfl⟩
      have qL : wL.heap.size = S + 2 := by rw [hwL, World.size_alloc, World.size_alloc, hS]
      have bxL : Below S wx wL := by rw [hwL, hS]; exact ((Below.refl _ _).alloc (Nat.le_refl _) _).alloc (by rw [World.size_alloc]; omega) _
      have hS3 : w3.heap.size ≤ S := by rw [hS]; exact hbx.size
      have b3L : Below w3.heap.size w3 wL := hbx.trans (bxL.mono hS3)
      have gS : wL.heap[S]? = some (.cells #[.slice a bits.length c, .int .i64 (K : Int)] 24 (0, 0)) := by
        rw [hwL]
        refine (Below.heap_alloc _ _ _ (by rw [World.size_alloc]; omega)).trans ?_
        rw [hS]; exact heap_alloc_new _ _
      have gB : wL.heap[S + 1]? = some (.cells #[.slice ab b.length cb] 22 (0, 0)) := by
        rw [hwL, show S + 1 = (wx.alloc (.cells #[.slice a bits.length c, .int .i64 (K : Int)] 24)).heap.size by rw [World.size_alloc, hS]]
        exact heap_alloc_new _ _
      have hatL := HAT3.out.below b3L
      have hpl : PlacesAt wL.heap.size Z S (S + 1) bits.length K b a c ab cb eb wL := ⟨by rw [cell_of_row _ _ _ _ _ _ gS]; rfl, by rw [cell_of_row _ _ _ _ _ _ gS]; rfl, by rw [cell_of_row _ _ _ _ _ _ gB]; rfl, hatL.rb, hatL.ro⟩
      obtain ⟨hZ3, hZS⟩ := hown.lt Z rfl
      rw [← hS] at hZS
      have hYS : Y < S := by rw [hS]; exact (Array.getElem?_eq_some_iff.1 hwY).1
      have hro3 := HAT3.out.ro.lt
      have hblk : b = [] ∨ ∀ x, ab = some x → x.block < wL.heap.size ∧ x.block ≠ Z := by
        rcases rd_blk HAT3.out.rb with h | h
        · exact .inl h
        · exact .inr fun x hx => by have := h x hx; omega
      have hsq := places_stops (6 - 1) (by omega) wL.heap.size Z S (S + 1) bits.length K hL0 hL hK b hbl a c ab cb eb (by omega) (by omega) (by omega) (by omega) hatL.ro.lt (by omega) hblk wL (Nat.le_refl _) hpl
      have hownL : wL.ownsRow w3.heap.size 5 1 (.slice (some ⟨Z, 0, none⟩) bits.length c4) bits.length (bits.map vB) := by rw [hwL]; exact (hown.alloc _).alloc _
      have gY : wL.heap[Y]? = some (.cells #[.slice (some ⟨Z, 0, none⟩) bits.length c4, .int .i64 (K : Int)] 24 (0, 0)) := (bxL.block Y hYS).trans hwY
      have kY0 : wL.cell? ⟨Y, 0, none⟩ = some (.slice (some ⟨Z, 0, none⟩) bits.length c4) := by rw [cell_of_row _ _ _ _ _ _ gY]; rfl
      have kY1 : wL.cell? ⟨Y, 1, none⟩ = some (.int .i64 (K : Int)) := by rw [cell_of_row _ _ _ _ _ _ gY]; rfl
      have bHL : Below H w wL := B2.out.trans ((B3.out.trans (b3L.mono HE.out)).mono (by rw [Q2.out]; omega))
      have kR : wL.heap[H + 1]? = some (.cells #[.slice none 0 0, .int .i64 0] 24 (0, 0)) := ((b3L.mono HE.out).block (H + 1) (by rw [Q2.out]; omega)).trans ((B3.out.block (H + 1) (by rw [Q2.out]; omega)).trans G1.out)
      have HKR := Lib.hid kR
      have HY0 := Lib.hid kY0
      have HY1 := Lib.hid kY1
      have HBL := Lib.hid bHL
      have HSQ := Lib.hid hsq
      have HOWN := Lib.hid hownL
      have HYL : Y < wL.heap.size := by omega
      have HZL : Z < wL.heap.size := by omega
      have HHZ : H + 1 < Z := by have := HE.out; have := Q2.out; omega
      have HHY : H + 1 < Y := by have := HE.out; have := Q2.out; omega
      rw [← hS, ← hwL]
      clear hS hwL qL bxL b3L gS gB hatL hpl hblk hsq hownL gY kY0 kY1 bHL kR d0 d1 c0 c1 B3 HAT3 B2 G0 G1 HW0 HW1 hown hbx hwY hZ3 hZS hro3 hS3 HE
      go_wp2_with fail
      refine (wpIn_wide (n := 6)).1 ?_
      refine wpIn_rangeFunc_ownF (F := Fence.wide) rfl (by omega) (gf := 47) (lb := #[.pointer (some ⟨S, 0, none⟩), .pointer (some ⟨S + 1, 0, none⟩)]) rfl trivial (enters_of Tryd.func47 (by kernel_rfl) rfl)
        HSQ.out ButOne.trans (butOne_b (Nat.le_refl _)) (Below.refl _ _) (fun _ => rfl)
        (fun pre W => W.ownsRow w3.heap.size 5 1 (.slice (some ⟨Z, 0, none⟩) bits.length c4) bits.length ((setTo bits pre).map vB) ∧ BelowX wL.heap.size Z wL W)
        (fun cd pre W => False)
        (fun s A B row hs hg hr => ⟨own_one hs.1 hg (fun r e => (hr r e).2), BelowX.from (β := List (PL bits.length)) (Nat.le_refl _) s A B row hs.2 hg hr⟩)
        (fun cd => fun s A B row hs hg hr => hs)
        ⟨HOWN.out, BelowX.refl _ _ _⟩
        (fun x => { tmps := #[.agg #[.slice a bits.length c, .int .i64 (K : Int)], .slice ab b.length cb, .pointer (some ⟨H, 0, none⟩), undef, .pointer (some ⟨H + 1, 0, none⟩), .nilIface, .nilIface, .pointer (some ⟨Y, 0, none⟩), .int .i64 (x.1 : Int), .agg #[.slice a bits.length c, .int .i64 (K : Int)], .nilIface, .nilIface, .bool false, undef, undef, .pointer (some ⟨H, 0, none⟩), .slice a bits.length c, .slice (some ⟨Z, 0, none⟩) bits.length c4, .pointer (some ⟨H, 1, none⟩), .int .i64 (K : Int), .agg #[.slice (some ⟨Z, 0, none⟩) bits.length c4, .int .i64 (K : Int)], .agg #[.slice a bits.length c, .int .i64 (K : Int)], .slice ab b.length cb, .func (.func 47) #[] #[.pointer (some ⟨S, 0, none⟩), .pointer (some ⟨S + 1, 0, none⟩)], .int .i64 (x.1 : Int), undef, undef, undef, undef, undef, undef, undef, undef, undef, undef, undef, undef], defers := [] }) ?assign ?body ?done ?stop
      case assign =>
        intro l x W K hK
        gi_wp2
        exact hK
      case body =>
        rintro l pre x W ⟨hown, hbW⟩ hlen
        obtain ⟨p, hpL⟩ := x
        have hq9 : p / 8 < (setTo bits pre).length := by rw [setTo_length]; omega
        obtain ⟨c9, f9⟩ := own_bget hown hq9
        have hcy := (hbW.keep.cell (p := ⟨Y, 0, none⟩) HYL hYZ).trans HY0.out
        obtain ⟨q, hq⟩ : ∃ q, q = p / 8 := ⟨_, rfl⟩
        obtain ⟨r, hr⟩ : ∃ r, r = p % 8 := ⟨_, rfl⟩
        obtain ⟨X, hX⟩ : ∃ X, X = (setTo bits pre)[p / 8]'hq9 := ⟨_, rfl⟩
        rw [← hX] at c9
        rw [← hq] at c9 f9
        have hqb : q < bits.length := by omega
        have e1 : (p : Int) / 8 = (q : Int) := by omega
        have e1t : (p : Int).tdiv 8 = (q : Int) := by rw [Int.tdiv_eq_ediv_of_nonneg (by omega)]; omega
        have e2 : (p : Int) % 8 = (r : Int) := by omega
        have e2t : (p : Int).tmod 8 = (r : Int) := by rw [Int.tmod_eq_emod_of_nonneg (by omega)]; omega
        have q0 : (0 : Int) ≤ (q : Int) := by omega
        have q1 : (q : Int) < (bits.length : Int) := by omega
        have r0 : (0 : Int) ≤ (r : Int) := by omega
        have r8 : (r : Int) ≤ 8 := by omega
        have ew1 : IntKind.i64.wrap (q : Int) = (q : Int) := IntWalk.i64_in _ (by omega)
        have ew2 : IntKind.i64.wrap (r : Int) = (r : Int) := IntWalk.i64_in _ (by omega)
        have hmx : Tryd.prog.follows .mixedOrders = true := by kernel_rfl
        have HOW := Lib.hid hown
        have HBW := Lib.hid hbW
        have HX := Lib.hid hX
        have HQ := Lib.hid hq
        have HR := Lib.hid hr
        have HPL := Lib.hid hpL
        clear hown hbW hX hq hr hlen
        gi_wp2
        refine wpIn_round_still_tail 11 hmx (by kernel_rfl) (fun ⟨_, _, h⟩ => h) (by kernel_rfl) ?_
        simp only [List.take_succ_cons, List.take_zero, List.drop_succ_cons, List.drop_zero]
        repeat still_step
        refine wpStill_nil ?_
        change wpList _ _ _ _ _ W.drew
        go_wp2_with fail
        have hor : Go.bits .or .u8 (X.toNat : Int) ((2 : Int) ^ r % 256) = ((orB X r).toNat : Int) := or_bit X r (by omega)
        rw [hor]
        have hset : setTo bits (pre ++ [⟨p, hpL⟩]) = (setTo bits pre).set q (orB X r) := by
          rw [setTo_snoc]
          unfold setB
          rw [HQ.out, HR.out, HX.out, List.getD_eq_getElem?_getD, List.getElem?_eq_getElem hq9]; rfl
        exact ⟨(KeepsOthers.setCell _ _ _).trans (KeepsOthers.drew _), ⟨by simp, fun k _ hk => Below.heap_setCell _ _ _ _ (by show k ≠ Z; exact hk)⟩, by rw [hset]; exact own_bset HOW.out q (orB X r), (HBW.out.set q _).drew⟩
      case done =>
        rintro D ys W hD rfl ⟨hown, hbW⟩ hK
        have hset : setTo bits (placesS bits.length hL0 K b) = addAll bits (placesOf bits.length K b) := by unfold setTo; rw [placesS_map]
        rw [hset] at hown
        have cy0 := (hbW.keep.cell (p := ⟨Y, 0, none⟩) HYL hYZ).trans HY0.out
        have cy1 := (hbW.keep.cell (p := ⟨Y, 1, none⟩) HYL hYZ).trans HY1.out
        have gR : W.heap[H + 1]? = some (.cells #[.slice none 0 0, .int .i64 0] 24 (0, 0)) := (hbW.keep.2 (H + 1) (by omega) (by omega)).trans HKR.out
        have r0 : W.cell? ⟨H + 1, 0, none⟩ = some (.slice none 0 0) := by rw [cell_of_row _ _ _ _ _ _ gR]; rfl
        have r1 : W.cell? ⟨H + 1, 1, none⟩ = some (.int .i64 0) := by rw [cell_of_row _ _ _ _ _ _ gR]; rfl
        have t0 : W.frozen? ⟨H + 1, 0, none⟩ = false := frozen_of_row _ _ _ _ _ gR
        have t1 : W.frozen? ⟨H + 1, 1, none⟩ = false := frozen_of_row _ _ _ _ _ gR
        have HK := Lib.hid hK
        have HOW := Lib.hid hown
        have HBW := Lib.hid hbW
        have HGR := Lib.hid gR
        have HDD := Lib.hid (show H + 1 + 1 < D ∧ wL.heap.size ≤ D by omega)
        clear hset hown hbW hK hD gR
        go_wp2_with fail
        have hK' := ((KeepsOthers.setCell W ⟨H + 1, 0, none⟩ (.slice (some ⟨Z, 0, none⟩) bits.length c4)).trans (KeepsOthers.setCell _ ⟨H + 1, 1, none⟩ (.int .i64 (K : Int)))).same D _ HK.out rfl
        refine ⟨by simp, .inl ⟨_, _, rfl, run_takeDeferred hK', ?_⟩⟩
        have g1 : ((W.setCell ⟨H + 1, 0, none⟩ (.slice (some ⟨Z, 0, none⟩) bits.length c4)).setCell ⟨H + 1, 1, none⟩ (.int .i64 (K : Int))).heap[H + 1]? = some (.cells #[.slice (some ⟨Z, 0, none⟩) bits.length c4, .int .i64 (K : Int)] 24 (0, 0)) := heap_set_one (i := 1) (heap_set_one (i := 0) HGR.out _) _
        have hBe : Below H w ((W.setCell ⟨H + 1, 0, none⟩ (.slice (some ⟨Z, 0, none⟩) bits.length c4)).setCell ⟨H + 1, 1, none⟩ (.int .i64 (K : Int))) := ((HBL.out.trans (HBW.out.below (by omega) (by omega))).setCell (p := ⟨H + 1, 0, none⟩) (by show H ≤ H + 1; omega) _).setCell (p := ⟨H + 1, 1, none⟩) (by show H ≤ H + 1; omega) _
        have hoe := own_far (own_far HOW.out ⟨H + 1, 0, none⟩ (.slice (some ⟨Z, 0, none⟩) bits.length c4) (by show Z ≠ H + 1; omega)) ⟨H + 1, 1, none⟩ (.int .i64 (K : Int)) (by show Z ≠ H + 1; omega)
        have hoe2 := own_one hoe (grownBy_putObj' _ D (.deferred none)) (fun r e => by cases e; exact ⟨_, hK', rfl⟩)
        have m1 : (((W.setCell ⟨H + 1, 0, none⟩ (.slice (some ⟨Z, 0, none⟩) bits.length c4)).setCell ⟨H + 1, 1, none⟩ (.int .i64 (K : Int))).putObj D (.deferred none)).cell? ⟨H + 1, 0, none⟩ = some (.slice (some ⟨Z, 0, none⟩) bits.length c4) := cell_kept (by rw [cell_of_row _ _ _ _ _ _ g1]; rfl) (grownBy_putObj' _ D (.deferred none)) (fun r e => by cases e; exact ⟨_, hK', rfl⟩)
        have m2 : (((W.setCell ⟨H + 1, 0, none⟩ (.slice (some ⟨Z, 0, none⟩) bits.length c4)).setCell ⟨H + 1, 1, none⟩ (.int .i64 (K : Int))).putObj D (.deferred none)).cell? ⟨H + 1, 1, none⟩ = some (.int .i64 (K : Int)) := cell_kept (by rw [cell_of_row _ _ _ _ _ _ g1]; rfl) (grownBy_putObj' _ D (.deferred none)) (fun r e => by cases e; exact ⟨_, hK', rfl⟩)
        refine ⟨.tuple #[.agg #[.slice (some ⟨Z, 0, none⟩) bits.length c4, .int .i64 (K : Int)], .nilIface], ?_, some ⟨Z, 0, none⟩, c4, 5, rfl, Rd.of_own hoe2, (by rw [← HH.out]; exact hBe.trans (belowK_b (w := w) (by rw [HH.out]; exact Nat.le_refl _) _ D _ _ (by have := HDD.out; have := HH.out; omega) hK' rfl rfl))⟩
        simp [results, Tryd.f16, go_sem, m1, m2]
      case stop =>
        rintro D cd pre W hD hpre h hK
        exact h.elim
    | _ => exact hQ.elim
end Go.Proofs.YteikbbdkpeecaaaDoor
