/- Of two notes that differ, the bytes of neither begin those of the other. -/
import Derived.Test.YtpfpcklonkgkeaaRows
import Derived.StillTailTactics
import Derived.Deep.RegionHeld3
import Derived.SizedLaws
import Derived.Test.YtpfpcklonkgkeaaOpen
import Derived.Test.YtpfpcklonkgkeaaRec
import Derived.Test.YtpfpcklonkgkeaaWrite
import Derived.Test.YtpfpcklonkgkeaaSame
import Derived.Test.YtpfpcklonkgkeaaApartLaw
import Derived.ShutString
import Derived.ChangeOld
import Derived.Below
namespace Go.Proofs.Ytpfpcklonkgkeaa
open Go.ChangeShapes Go.WideShapes Go.ChangeAt Go.RowKit
open Go.ChangeMaps (open_string shut_string)
set_option linter.unusedVariables false
namespace noteApart
theorem own : ownKnob Try.prog.godebug = none := by kernel_rfl
theorem laidOut : laidOutB Try.prog = true := by kernel_rfl

-- HOLE: the walk
set_option linter.unusedSimpArgs false
theorem one_write (W : World) : Calls Try.prog 16 #[.agg #[.string ⟨#[97]⟩, .int .u8 0, .int .u8 0, .int .u8 0, .int .u8 0, .int .u8 0, .int .u8 0, .int .u8 0, .int .u8 0, .int .u8 0, .int .u8 0, .int .u8 0, .int .u8 0, .int .u8 0, .int .u8 0, .int .u8 0, .int .u8 0, .int .u8 0, .int .u8 0, .int .u8 0, .int .u8 0, .int .u8 0, .int .u8 0, .int .u8 0, .int .u8 0, .int .u8 0, .int .u8 0, .int .u8 0, .int .u8 0, .int .u8 0, .int .u8 0, .int .u8 0, .int .u8 0, .int .i64 3]] W fun e w' => (∃ a cap, e = .returned (.tuple #[.slice a 38 cap, .nilIface])) ∧ Below W.heap.size W w' := by
  have h := Write_calls ⟨#[97]⟩ (List.replicate 32 0) 3 rfl (by decide) (by omega) W
  refine h.mono ?_
  rintro e w' ⟨hb, ⟨_, _, _, a, cap, he, _⟩ | ⟨h, _⟩⟩
  · exact ⟨⟨a, cap, he⟩, hb⟩
  · exfalso
    rcases h with h | h | h
    · rw [show named ⟨#[97]⟩ = true by decide +kernel] at h; cases h
    · omega
    · omega
theorem own_cap {w : World} {base : Nat} {e : TypeId} {size : Nat} {a : Option Addr} {n cap : Nat} {xs : List Value} (h : w.ownsRow base e size (.slice a n cap) n xs) : n ≤ cap ∧ cap ≤ 9223372036854775807 := by
  obtain ⟨hl, h⟩ := h
  rcases h with ⟨h, _⟩ | ⟨g', cap', cur, hv, hb, hg, hn, hm, hs, ht⟩
  · simp only [Value.slice.injEq] at h
    omega
  · simp only [Value.slice.injEq] at hv
    obtain ⟨_, _, rfl⟩ := hv
    simp only [maxLen] at hm
    exact ⟨hn, by omega⟩
set_option maxRecDepth 20000 in
set_option maxHeartbeats 8000000 in
theorem walk (s0 : ByteArray) (y0 : List UInt8) (a0 : Int) (s1 : ByteArray) (y1 : List UInt8) (a1 : Int) (w : World) (n0 : y0.length = 32) (l0 : s0.size ≤ 9223372036854775807) (h0 : -9223372036854775808 ≤ a0 ∧ a0 ≤ 9223372036854775807) (n1 : y1.length = 32) (l1 : s1.size ≤ 9223372036854775807) (h1 : -9223372036854775808 ≤ a1 ∧ a1 ≤ 9223372036854775807) :
    Calls Try.prog 6 #[.agg (nV s0 y0 a0), .agg (nV s1 y1 a1)] w fun e w' => e = .returned (.bool true) ∧ Below w.heap.size w w' := by
  have FC := one_write ((w.alloc (.cells (nV s0 y0 a0) 43)).alloc (.cells (nV s1 y1 a1) 43))
  have b0 : Below w.heap.size w ((w.alloc (.cells (nV s0 y0 a0) 43)).alloc (.cells (nV s1 y1 a1) 43)) := ((Below.refl _ _).alloc (Nat.le_refl _) _).alloc (by rw [World.size_alloc]; omega) _
  have z0 : ((w.alloc (.cells (nV s0 y0 a0) 43)).alloc (.cells (nV s1 y1 a1) 43)).heap.size = w.heap.size + 1 + 1 := by simp
  have c0 : ((w.alloc (.cells (nV s0 y0 a0) 43)).alloc (.cells (nV s1 y1 a1) 43)).heap[w.heap.size]? = some (.cells (nV s0 y0 a0) 43 (0, 0)) := (Below.heap_alloc _ _ _ (by rw [World.size_alloc]; omega)).trans (heap_alloc_new _ _)
  have c1 : ((w.alloc (.cells (nV s0 y0 a0) 43)).alloc (.cells (nV s1 y1 a1) 43)).heap[w.heap.size + 1]? = some (.cells (nV s1 y1 a1) 43 (0, 0)) := by
    have := heap_alloc_new (w.alloc (.cells (nV s0 y0 a0) 43)) (.cells (nV s1 y1 a1) 43)
    rw [World.size_alloc] at this
    exact this
  have B0 := Lib.hid b0
  have Z0 := Lib.hid z0
  have C0 := Lib.hid c0
  have C1 := Lib.hid c1
  have N0 := Lib.hid n0
  have N1 := Lib.hid n1
  clear b0 z0 c0 c1 n0 n1
  go_enter Try.func6, Try.ntmps6
  go_wp2_with fail
  generalize (Value.agg #[.string ⟨#[97]⟩, .int .u8 0, .int .u8 0, .int .u8 0, .int .u8 0, .int .u8 0, .int .u8 0, .int .u8 0, .int .u8 0, .int .u8 0, .int .u8 0, .int .u8 0, .int .u8 0, .int .u8 0, .int .u8 0, .int .u8 0, .int .u8 0, .int .u8 0, .int .u8 0, .int .u8 0, .int .u8 0, .int .u8 0, .int .u8 0, .int .u8 0, .int .u8 0, .int .u8 0, .int .u8 0, .int .u8 0, .int .u8 0, .int .u8 0, .int .u8 0, .int .u8 0, .int .u8 0, .int .i64 3]) = z at FC ⊢
  refine FC.mono ?_; rintro e w1 ⟨⟨x1, k1, rfl⟩, hb1⟩
  clear FC
  have zs := Z0.out
  have hs1 := hb1.size
  rw [zs] at hs1
  have d0 : w1.heap[w.heap.size]? = some (.cells (nV s0 y0 a0) 43 (0, 0)) := (hb1.block _ (by omega)).trans C0.out
  have d1 : w1.heap[w.heap.size + 1]? = some (.cells (nV s1 y1 a1) 43 (0, 0)) := (hb1.block _ (by omega)).trans C1.out
  have b1 : Below w.heap.size w w1 := B0.out.trans (hb1.mono (by omega))
  obtain ⟨O, hO⟩ : ∃ O, O = w.heap.size := ⟨_, rfl⟩
  rw [← hO] at d0 d1 b1 hs1 ⊢
  clear C0 C1 Z0 B0 hb1 zs
  have D1 := Lib.hid d1
  have B1 := Lib.hid b1
  have D0 := Lib.hid d0
  have HO := Lib.hid hO
  clear d0 d1 b1 hO
  have WC := Write_calls s0 y0 a0 N0.out l0 h0 w1
  go_wp2_with (refine ld_rec noteT rfl (.tmp 2) rfl O (by rfl) s0 y0 a0 N0.out _ _ D0.out ?_)
  refine WC.mono ?_; rintro e w2 ⟨hb2, hx⟩
  clear WC
  have hs2 := hb2.size
  have e0 : w2.heap[O]? = some (.cells (nV s0 y0 a0) 43 (0, 0)) := (hb2.block _ (by omega)).trans D0.out
  have e1 : w2.heap[O + 1]? = some (.cells (nV s1 y1 a1) 43 (0, 0)) := (hb2.block _ (by omega)).trans D1.out
  have b2 : Below O w w2 := B1.out.trans (hb2.mono (by omega))
  have E0 := Lib.hid e0
  have E1 := Lib.hid e1
  have B2 := Lib.hid b2
  have HX := Lib.hid hx
  clear D0 D1 B1 hb2 e0 e1 b2 hx
  have WC := Write_calls s1 y1 a1 N1.out l1 h1 w2
  obtain hx | ⟨_, c, rfl⟩ := HX.out
  · obtain ⟨NA, ta, tb, xa, ca, rfl, hA⟩ := hx
    have NA := Lib.hid NA
    have TA := Lib.hid (show 0 ≤ a0 ∧ a0 < 4294967296 from ⟨ta, tb⟩)
    have HA := Lib.hid hA
    clear ta tb hA HX
    go_wp2_with (refine ld_rec noteT rfl (.tmp 3) rfl (O + 1) (by rfl) s1 y1 a1 N1.out _ _ E1.out ?_)
    refine WC.mono ?_; rintro e w3 ⟨hb3, hx⟩
    clear WC
    have hs3 := hb3.size
    have b3 : Below O w w3 := B2.out.trans (hb3.mono (by omega))
    have B3 := Lib.hid b3
    obtain hx | ⟨_, c, rfl⟩ := hx
    · obtain ⟨NB, ta, tb, xb, cb, rfl, hB⟩ := hx
      have NB := Lib.hid NB
      have TB := Lib.hid (show 0 ≤ a1 ∧ a1 < 4294967296 from ⟨ta, tb⟩)
      clear ta tb
      have f0 : w3.heap[O]? = some (.cells (nV s0 y0 a0) 43 (0, 0)) := (hb3.block _ (by omega)).trans E0.out
      have f1 : w3.heap[O + 1]? = some (.cells (nV s1 y1 a1) 43 (0, 0)) := (hb3.block _ (by omega)).trans E1.out
      have F0 := Lib.hid f0
      have F1 := Lib.hid f1
      have RA := Rd.of_own (own_below HA.out hb3)
      have RB := Rd.of_own hB
      have ka := (own_cap HA.out).1
      have kb := (own_cap hB).1
      clear hb3 b3 f0 f1 hB HA
      have EQ := fun w => rec_eq noteT (s := s0) (s' := s1) (key := y0) (key' := y1) (t := a0) (t' := a1) N0.out N1.out w
      obtain ⟨q, hq⟩ : ∃ q, decide (s0 = s1 ∧ y0 = y1 ∧ a0 = a1) = q := ⟨_, rfl⟩
      rw [hq] at EQ
      cases q with
      | true =>
        clear hq
        go_wp2_with (first
          | (refine ld_recG noteT (by rfl) (.tmp 2) rfl O (by rfl) s0 y0 a0 N0.out _ _ F0.out ?_)
          | (refine ld_recG noteT (by rfl) (.tmp 3) rfl (O + 1) (by rfl) s1 y1 a1 N1.out _ _ F1.out ?_))
        go_ret
        exact ⟨rfl, by rw [← HO.out]; exact B3.out⟩
      | false =>
        have hq2 := of_decide_eq_false hq
        have HQ := Lib.hid hq2
        clear hq hq2
        have hp := named_size NA.out
        have hr := named_size NB.out
        by_cases hlt : s1.size < s0.size
        · have q1 : decide (s1.size < s0.size) = true := decide_eq_true hlt
          have q2 : decide ((s1.size : Int) < (s0.size : Int)) = true := by rw [decide_eq_true_eq]; omega
          have SC := Bytes_calls (noteB s1 y1 a1.toNat) ((noteB s0 y0 a0.toNat).take (noteB s1 y1 a1.toNat).length) xb xa cb ca _ _ w3 RB (by rw [List.map_take]; exact RA.take _) (by rw [noteB_length _ _ _ N1.out]; omega)
          rw [List.length_take, noteB_length _ _ _ N1.out, noteB_length _ _ _ N0.out, Nat.min_eq_left (by omega), decide_eq_false (fun h => by rcases TA.out with ⟨t1, t2⟩; rcases TB.out with ⟨t3, t4⟩; obtain ⟨g1, g2, g3⟩ := note_apart (t := a1.toNat) (t' := a0.toNat) N1.out N0.out hr.2 hp.2 (by omega) (by omega) (by rw [noteB_length _ _ _ N1.out]; exact h); exact HQ.out ⟨g1.symm, g2.symm, by omega⟩)] at SC
          have ka2 : s1.size + 37 ≤ ca := by omega
          clear hlt
          go_wp2_with (first
            | (refine ld_recG noteT (by rfl) (.tmp 2) rfl O (by rfl) s0 y0 a0 N0.out _ _ F0.out ?_)
            | (refine ld_recG noteT (by rfl) (.tmp 3) rfl (O + 1) (by rfl) s1 y1 a1 N1.out _ _ F1.out ?_))
          refine SC.mono ?_; rintro e w4 ⟨rfl, nd, rfl⟩
          clear SC
          go_wp2_with fail
          go_ret
          exact ⟨rfl, by rw [← HO.out]; exact below_drewN B3.out nd⟩
        · have q1 : decide (s1.size < s0.size) = false := decide_eq_false hlt
          have q2 : decide ((s1.size : Int) < (s0.size : Int)) = false := by rw [decide_eq_false]; omega
          have SC := Bytes_calls (noteB s0 y0 a0.toNat) ((noteB s1 y1 a1.toNat).take (noteB s0 y0 a0.toNat).length) xa xb ca cb _ _ w3 RA (by rw [List.map_take]; exact RB.take _) (by rw [noteB_length _ _ _ N0.out]; omega)
          rw [List.length_take, noteB_length _ _ _ N1.out, noteB_length _ _ _ N0.out, Nat.min_eq_left (by omega), decide_eq_false (fun h => by rcases TA.out with ⟨t1, t2⟩; rcases TB.out with ⟨t3, t4⟩; obtain ⟨g1, g2, g3⟩ := note_apart (t := a0.toNat) (t' := a1.toNat) N0.out N1.out hp.2 hr.2 (by omega) (by omega) (by rw [noteB_length _ _ _ N0.out]; exact h); exact HQ.out ⟨g1, g2, by omega⟩)] at SC
          have ka2 : s0.size + 37 ≤ cb := by omega
          clear hlt
          go_wp2_with (first
            | (refine ld_recG noteT (by rfl) (.tmp 2) rfl O (by rfl) s0 y0 a0 N0.out _ _ F0.out ?_)
            | (refine ld_recG noteT (by rfl) (.tmp 3) rfl (O + 1) (by rfl) s1 y1 a1 N1.out _ _ F1.out ?_))
          refine SC.mono ?_; rintro e w4 ⟨rfl, nd, rfl⟩
          clear SC
          go_wp2_with fail
          go_ret
          exact ⟨rfl, by rw [← HO.out]; exact below_drewN B3.out nd⟩
    · clear hb3 b3
      go_wp2_with fail
      go_ret
      exact ⟨rfl, by rw [← HO.out]; exact B3.out⟩
  · clear HX
    go_wp2_with (refine ld_rec noteT rfl (.tmp 3) rfl (O + 1) (by rfl) s1 y1 a1 N1.out _ _ E1.out ?_)
    refine WC.mono ?_; rintro e w3 ⟨hb3, hx⟩
    clear WC
    have hs3 := hb3.size
    have b3 : Below O w w3 := B2.out.trans (hb3.mono (by omega))
    have B3 := Lib.hid b3
    obtain ⟨_, _, _, xb, cb, rfl, _⟩ | ⟨_, c, rfl⟩ := hx
    · clear hb3 b3
      go_wp2_with fail
      go_ret
      exact ⟨rfl, by rw [← HO.out]; exact B3.out⟩
    · clear hb3 b3
      go_wp2_with fail
      go_ret
      exact ⟨rfl, by rw [← HO.out]; exact B3.out⟩

set_option maxRecDepth 100000 in
theorem lifted (os : Os) (started : os.Started) (H : Type) (enc : TypeId × Value → H) :
    ReturnsInHanded {} Try.checked os 6 .any (Rows.noteApartSpec.pre6 enc Try.prog Try.f6 Rows.noteApartRow.domain false) (Rows.noteApartSpec.post enc Try.prog Try.f6 false true false false) := by
  refine returnsInHanded_of_change (C := Try.checked) own started (by kernel_rfl) Try.func6
    (ChangeSpec.witness6 (enc := enc) (C := Try.checked) false ⟨#[], #[.agg #[.string ⟨#[]⟩, .int .u8 0, .int .u8 0, .int .u8 0, .int .u8 0, .int .u8 0, .int .u8 0, .int .u8 0, .int .u8 0, .int .u8 0, .int .u8 0, .int .u8 0, .int .u8 0, .int .u8 0, .int .u8 0, .int .u8 0, .int .u8 0, .int .u8 0, .int .u8 0, .int .u8 0, .int .u8 0, .int .u8 0, .int .u8 0, .int .u8 0, .int .u8 0, .int .u8 0, .int .u8 0, .int .u8 0, .int .u8 0, .int .u8 0, .int .u8 0, .int .u8 0, .int .u8 0, .int .i64 0], .agg #[.string ⟨#[]⟩, .int .u8 0, .int .u8 0, .int .u8 0, .int .u8 0, .int .u8 0, .int .u8 0, .int .u8 0, .int .u8 0, .int .u8 0, .int .u8 0, .int .u8 0, .int .u8 0, .int .u8 0, .int .u8 0, .int .u8 0, .int .u8 0, .int .u8 0, .int .u8 0, .int .u8 0, .int .u8 0, .int .u8 0, .int .u8 0, .int .u8 0, .int .u8 0, .int .u8 0, .int .u8 0, .int .u8 0, .int .u8 0, .int .u8 0, .int .u8 0, .int .u8 0, .int .u8 0, .int .i64 0]], []⟩ 8 (by kernel_rfl) (by kernel_rfl) (by kernel_rfl) (by kernel_rfl)) ?_
  intro W base args ds gs before hval0 hW hcnd _
  have hval : ∀ (j : Nat) t v, Try.f6.params[j]? = some t → args[j]? = some v → Value.okWide Try.prog W .any base t v := hval0
  have hW' := hW
  obtain ⟨p, q, hA0, hV, rfl, hfz, hnd⟩ := hW
  have hA : DataW.TrodAll enc Try.prog W 0 (fun _ => true) true Try.f6.params.toList args.toList ds p := hA0
  rw [Try.params6] at hA hval
  obtain ⟨v0, vs0, d0, ds0, p0, q0, hargs, rfl, rfl, h0, r0⟩ := trodAll_cons hA
  obtain ⟨v1, vs1, d1, ds1, p1, q1, rfl, rfl, rfl, h1, r1⟩ := trodAll_cons r0
  obtain ⟨rfl, rfl, rfl⟩ := trodAll_nil r1
  obtain rfl : args = #[v0, v1] := by cases args; simp_all
  obtain ⟨rfl, rfl⟩ := trodVars_none hV
  have k0 := h0
  have lt0 : ∀ x ∈ p0, x.block < W.heap.size := by obtain ⟨m, hm⟩ := k0; exact DataW.trod_lt m _ _ _ hm
  obtain ⟨s0, y0, a0, rfl, n0, l0, b0⟩ := open_rec noteT (hval 0 43 v0 rfl rfl) h0
  have k1 := h1
  have lt1 : ∀ x ∈ p1, x.block < W.heap.size := by obtain ⟨m, hm⟩ := k1; exact DataW.trod_lt m _ _ _ hm
  obtain ⟨s1, y1, a1, rfl, n1, l1, b1⟩ := open_rec noteT (hval 1 43 v1 rfl rfl) h1
  clear hA0 hval0
  refine (walk s0 y0 a0 s1 y1 a1 W n0 l0 b0 n1 l1 b1).mono fun e W' ⟨he, bel⟩ => ?_
  subst he
  exact ⟨_, rfl, _, _, _, [], _, [], hW', trodAll_mk1 (shut_bool Try.underlying4 _), (trodAll_cons_mk (Below.trod laidOut (by kernel_rfl) (of_decide_eq_true (by kernel_rfl)) k0 bel lt0) (trodAll_cons_mk (Below.trod laidOut (by kernel_rfl) (of_decide_eq_true (by kernel_rfl)) k1 bel lt1) trodAll_mk0)), rfl, bel.frame _, fun h => by cases h⟩

theorem over : Rows.noteApartRow.holds Try.pinned (OpenSpec.ofChange Rows.noteApartSpec) :=
  OpenClaim.holds_of_wide 6 Try.f6 rfl rfl rfl rfl rfl rfl rfl ⟨rfl, rfl, rfl, rfl, rfl⟩ rfl rfl rfl rfl rfl (by kernel_rfl) Try.func6 (by kernel_rfl)
    (of_decide_eq_true (by kernel_rfl)) (by unfold Func.isWrapper; first | (rw [if_pos (by decide +kernel)]; kernel_rfl) | (rw [if_neg (by decide +kernel)]; exact ⟨rfl, rfl⟩))
    (fun os started H enc _ => lifted os started H enc)

theorem proved : Rows.NoteApartSaid := over
#print axioms proved
end noteApart
end Go.Proofs.Ytpfpcklonkgkeaa
