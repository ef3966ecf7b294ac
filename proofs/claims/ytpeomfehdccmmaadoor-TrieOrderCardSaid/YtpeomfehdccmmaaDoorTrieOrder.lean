/- THE ORDER IS NO MATTER: oathbooklaw2.TrieOrder answers true at every input. -/
import Derived.Test.YtpeomfehdccmmaaDoorRows
import Derived.Test.YtpeomfehdccmmaaDoorTrieOrdLaw
import Derived.Test.YtpeomfehdccmmaaDoorTrieLeafed
import Derived.Test.YtpeomfehdccmmaaDoorLaidRH
import Derived.WalkKit
import Derived.ProofKit
import Derived.OpenShut
import Derived.ShutString
import Derived.ChangeOld
import Derived.Below
namespace Go.Proofs.YtpeomfehdccmmaaDoor
open Go.ChangeShapes Go.WideShapes Go.ChangeAt Go.RowKit
open Go.ChangeMaps (open_string shut_string)
set_option linter.unusedVariables false
namespace trieOrder

-- HOLE: the walk
set_option maxRecDepth 20000 in
set_option maxHeartbeats 16000000 in
theorem walk (x0 : List En) (a0 : Option Addr) (c0 e0 : Nat) (x1 : List Int) (a1 : Option Addr) (c1 e1 : Nat) (w : World) (l0 : x0.length ≤ c0) (m0 : c0 ≤ 9223372036854775807) (n0 : ∀ e ∈ x0, EnW e) (r0 : Rd w a0 e0 (cellsE x0)) (l1 : x1.length ≤ 9223372036854775807) (n1 : ∀ n ∈ x1, -9223372036854775808 ≤ n ∧ n ≤ 9223372036854775807) (r1 : Rd w a1 e1 (x1.map vI)) (hro : RoundsAt w) (hg : ErrVar w) :
    Calls Tryd.prog 8 #[.slice a0 x0.length c0, .slice a1 x1.length c1] w fun e w' => e = .returned (.bool true) ∧ Below w.heap.size w w' := by
  obtain ⟨Z, hZ⟩ : ∃ Z, Z = nz := ⟨_, rfl⟩
  have zl : Z.length = 32 := by rw [hZ]; rfl
  have zlit : (#[.int .u8 0, .int .u8 0, .int .u8 0, .int .u8 0, .int .u8 0, .int .u8 0, .int .u8 0, .int .u8 0, .int .u8 0, .int .u8 0, .int .u8 0, .int .u8 0, .int .u8 0, .int .u8 0, .int .u8 0, .int .u8 0, .int .u8 0, .int .u8 0, .int .u8 0, .int .u8 0, .int .u8 0, .int .u8 0, .int .u8 0, .int .u8 0, .int .u8 0, .int .u8 0, .int .u8 0, .int .u8 0, .int .u8 0, .int .u8 0, .int .u8 0, .int .u8 0] : Array Value) = dV Z := by rw [hZ]; exact zdig
  have ZL := Lib.hid zl
  have ZT := Lib.hid zlit
  have HZ := Lib.hid hZ
  clear zl zlit hZ
  have LE := Lib.hid (Leafed_calls w hro)
  have RO := Lib.hid hro
  have HG := Lib.hid hg
  have HL := Lib.hid (show ∀ e ∈ x0, e.val.length = 32 from fun e he => (n0 e he).1)
  replace r0 := Lib.hid r0
  replace r1 := Lib.hid r1
  replace n0 := Lib.hid n0
  replace n1 := Lib.hid n1
  clear hro hg
  by_cases hf0 : mapF x0 = 0
  · have TRO0 := fun w' hr ho => TRoot_ok x0 n0.out a0 c0 e0 l0 m0 w' hr hf0 ho
    obtain ⟨R0, hR0⟩ : ∃ R, R = rootD x0 := ⟨_, rfl⟩
    have R0L := Lib.hid (show R0.length = 32 by rw [hR0]; exact rootD_length x0)
    rw [← hR0] at TRO0
    have HF0 := Lib.hid hf0
    have HR0 := Lib.hid hR0
    have h64 := (apart_ok x0 hf0).1
    clear hR0 hf0
    by_cases hlen : x1.length = x0.length
    · have z9 : ((x1.length : Int) != (x0.length : Int)) = false := by rw [bne_eq_false_iff_eq]; omega
      have hle : x1.length ≤ 64 := by omega
      have HLEN := Lib.hid hlen
      clear hlen
      go_enter Tryd.func8, Tryd.ntmps8
      go_wp2_with fail
      refine (LE.out).mono ?_
      rintro e w1 ⟨rfl, hb1⟩
      have B1 := Lib.hid (show Below w.heap.size w w1 from hb1)
      clear hb1
      go_wp2_with fail
      refine (TRO0 w1 (r0.out.below B1.out) (RO.out.at_ B1.out)).mono ?_
      rintro e w2 ⟨rfl, hb2⟩
      have B2 := Lib.hid (show Below w.heap.size w w2 from B1.out.trans (Below.mono hb2 B1.out.size))
      clear hb2
      obtain ⟨X, hX⟩ : ∃ z, z = w2.heap.size := ⟨_, rfl⟩
      obtain ⟨w3, hw3⟩ : ∃ z, z = w2.alloc (.cells (dV R0) 23) := ⟨_, rfl⟩
      have st3 : Below w2.heap.size w2 w3 := by rw [hw3]; exact (Below.refl _ _).alloc (Nat.le_refl _) _
      have B3 := Lib.hid (show Below w.heap.size w w3 from B2.out.trans (Below.mono st3 B2.out.size))
      have GX_3 := Lib.hid (show w3.heap[X]? = some (.cells (dV R0) 23 (0, 0)) by rw [hw3, hX]; exact heap_alloc_new _ _)
      have LX := Lib.hid (lt_of_heap GX_3.out)
      have HX := Lib.hid hX
      have Hw3 := Lib.hid hw3
      clear hX hw3 st3
      go_wp2_with (first
        | ((refine st_new rfl (.tmp 6) (.tmp 18) rfl R0 R0L.out (by rfl) _ _ (by rfl) (by rfl) ?_); rw [← HX.out, ← Hw3.out]))
      obtain ⟨B, hB⟩ : ∃ B, B = w3.heap.size := ⟨_, rfl⟩
      have HB := Lib.hid hB
      have RS := Lib.hid (r0.out.below B3.out)
      have IS := Lib.hid (r1.out.below B3.out)
      have hwB : w.heap.size ≤ B := by rw [hB]; exact B3.out.size
      have hXB : X < B := by rw [hB]; exact LX.out
      clear hB
      go_loopw [8, 9] (fun v i wr => ∃ (j : Nat) (av : Option Addr) (cp : Nat), j ≤ x1.length ∧ i = .int .i64 j ∧ v = .slice av j cp ∧ wr.ownsRow B 35 33 (.slice av j cp) j (cellsE (pickE x0 (x1.take j))) ∧ (∀ o ∈ x1.take j, 0 ≤ o ∧ o < (x0.length : Int)) ∧ Below B w3 wr) (fun _ i _ => x1.length - (intOf i).toNat)
      case atStart => exact ⟨0, none, 0, Nat.zero_le _, rfl, rfl, World.ownsRow_nil _ _ _ _, fun o ho => by simp at ho, Below.refl _ _⟩
      case round =>
        obtain ⟨j, av, cp, hj, rfl, rfl, hown, hin, hbl⟩ := hrel
        obtain ⟨wA, rfl⟩ : ∃ z, z = wr := ⟨_, rfl⟩
        have hsr : B ≤ wA.heap.size := by rw [HB.out]; exact hbl.size
        have hblw : Below w3.heap.size w3 wA := by rw [← HB.out]; exact hbl
        by_cases hlt : j < x1.length
        · obtain ⟨b1, o1, hb1, hbl1, hc1⟩ := (IS.out.below hblw).ints hlt
          subst hb1
          have cj := hc1 j hlt
          have j0 : (0 : Int) ≤ (j : Int) := by omega
          have j1 : (j : Int) < (x1.length : Int) := by omega
          have e4 : IntKind.i64.wrap ((j : Int) + 1) = (j : Int) + 1 := IntWalk.i64_in _ (by omega)
          have htk : x1.take (j + 1) = x1.take j ++ [x1[j]] := List.take_succ_eq_append_getElem hlt
          obtain ⟨o, ho⟩ : ∃ o, o = x1[j] := ⟨_, rfl⟩
          rw [← ho] at cj htk
          have HTK := Lib.hid htk
          have HO := Lib.hid hown
          have HIN := Lib.hid hin
          have HBL := Lib.hid hbl
          have FIN := Lib.hid (B3.out.trans (hblw.mono (by rw [← HB.out]; exact hwB)))
          have RA := Lib.hid (RS.out.below hblw)
          clear htk hown hin hbl ho hc1
          by_cases hneg : o < 0
          · have z1 : decide (o < 0) = true := decide_eq_true hneg
            clear hneg
            go_wp2_with fail
            go_ret
            exact ⟨rfl, FIN.out⟩
          · have z1 : decide (o < 0) = false := decide_eq_false hneg
            by_cases hge : (x0.length : Int) ≤ o
            · have z2 : decide ((x0.length : Int) ≤ o) = true := decide_eq_true hge
              clear hge
              go_wp2_with fail
              go_ret
              exact ⟨rfl, FIN.out⟩
            · have z2 : decide ((x0.length : Int) ≤ o) = false := decide_eq_false hge
              obtain ⟨q, rfl⟩ : ∃ q : Nat, o = (q : Int) := ⟨o.toNat, by omega⟩
              have hq : q < x0.length := by omega
              obtain ⟨b, of_, hbb, hb, hrg⟩ := RA.out.ent HL.out hq
              subst hbb
              have he32 := HL.out _ (List.getElem_mem hq)
              obtain ⟨E, hE⟩ : ∃ E, E = x0[q] := ⟨_, rfl⟩
              have hpk : pickE x0 (x1.take (j + 1)) = pickE x0 (x1.take j) ++ [E] := by
                rw [HTK.out, pickE_snoc, Int.toNat_natCast, List.getD_eq_getElem?_getD, List.getElem?_eq_getElem hq, hE]; rfl
              rw [← hE] at hrg he32
              have q0 : (0 : Int) ≤ (q : Int) := by omega
              have q1 : (q : Int) < (x0.length : Int) := by omega
              have HRG := Lib.hid hrg
              have H32 := Lib.hid he32
              have HPK := Lib.hid hpk
              have hins : Hid (∀ o ∈ x1.take (j + 1), 0 ≤ o ∧ o < (x0.length : Int)) := Lib.hid (fun o ho => by
                rw [HTK.out] at ho
                rcases List.mem_append.1 ho with h | h
                · exact HIN.out o h
                · rw [List.mem_singleton.1 h]; exact ⟨q0, q1⟩)
              clear hrg he32 hpk hE hb hge hneg
              go_wp2_with (first
                | ((refine ld_entG rfl (.tmp 55) rfl b (of_ + q * 33) (by rfl) E H32.out HRG.out ?_); simp only [Act.put, List.setIfInBounds_toArray, List.set_cons_zero, List.set_cons_succ])
                | ((refine wpl_build1 40 35 _ 33 40 Tryd.underlying40 info_entz (by omega) (by omega) rfl (.tmp 56) rfl (eV E.key E.val) (by rfl) (eVs H32.out) ?_); simp only [Act.put, List.setIfInBounds_toArray, List.set_cons_zero, List.set_cons_succ])
                | (at_builtin; refine appAllw 40 35 (.agg (eV 0 nz)) 33 40 Tryd.underlying40 info_entz (eV_size 0 nz rfl) (by omega) rfl (.tmp 49) (.tmp 57) (by rfl) B _ j _ (by rfl) (HO.out.alloc _) (some ⟨wA.heap.size, 0, none⟩) 1 1 (cellsE [E]) (by rfl) _ (Rd.ent1 wA E) (by rw [cellsE_one, eL_length H32.out]) (cellsE_one_all _) (by omega) (by omega) (by rw [World.size_alloc]; omega) ?_; intro av3 cp3 w9 hown9 hb9; rw [← cellsE_append, ← HPK.out] at hown9; have O9 := Lib.hid hown9; have B9 := Lib.hid (HBL.out.trans (Below.trans ((Below.refl _ wA).alloc hsr _) hb9)); clear hown9 hb9))
              go_roundw
              case rel => exact ⟨j + 1, av3, cp3, hlt, by go_num, rfl, O9.out, hins.out, B9.out⟩
              case measure => simp [intOf]; omega
        · obtain rfl : j = x1.length := by omega
          rw [List.take_of_length_le (Nat.le_refl _)] at hown hin
          obtain ⟨ys, hys⟩ : ∃ ys, ys = pickE x0 x1 := ⟨_, rfl⟩
          have hyl : ys.length = x1.length := by rw [hys]; exact pickE_length x0 x1
          have hyw : ∀ e ∈ ys, EnW e := fun e he => n0.out e (by rw [hys] at he; exact pickE_mem x0 x1 hin e he)
          have hyk : ∀ e ∈ ys, KeyOk e.key := fun e he => (apart_ok x0 HF0.out).2.1 e (by rw [hys] at he; exact pickE_mem x0 x1 hin e he)
          have hsame : Apart ys → rootD ys = R0 := fun hap => by
            rw [HR0.out]
            unfold rootD
            congr 1
            funext q
            refine leafF_same _ _ hap (apart_ok x0 HF0.out).2.2 (fun e => ?_) q
            rw [hys] at hap ⊢
            exact pick_same x0 x1 hin HLEN.out hap e
          rw [← hys] at hown
          have rY := Rd.of_own hown
          have hcp : x1.length ≤ cp ∧ cp ≤ 9223372036854775807 := by
            rcases hown.2 with ⟨h1, _⟩ | ⟨g9, c9, cur9, h1, _, _, h5, h2, h3, h4⟩
            · simp only [Value.slice.injEq] at h1; omega
            · simp only [Value.slice.injEq] at h1; simp only [maxLen] at h2; omega
          have B20 := Lib.hid (B3.out.trans (hblw.mono (by rw [← HB.out]; exact hwB)))
          have GX_20 := Lib.hid ((hblw.block X LX.out).trans GX_3.out)
          have LX20 := Lib.hid (Nat.lt_of_lt_of_le LX.out hblw.size)
          by_cases hfy : mapF ys = 0
          · have TRY := TRoot_ok ys hyw av cp _ (by rw [hyl]; exact hcp.1) hcp.2 wA rY hfy (RO.out.at_ B20.out)
            rw [hyl, hsame (apart_ok ys hfy).2.2] at TRY
            have HTRY := Lib.hid TRY
            clear TRY hsame hyw hyk rY hown hin hbl hblw hfy hyl hys hcp
            go_wp2_with fail
            refine (HTRY.out).mono ?_
            rintro e w21 ⟨rfl, hb21⟩
            have B21 := Lib.hid (show Below w.heap.size w w21 from B20.out.trans (Below.mono hb21 B20.out.size))
            have GX_21 := Lib.hid ((hb21.block X LX20.out).trans GX_20.out)
            have LX20_21 := Lib.hid (Nat.lt_of_lt_of_le LX20.out hb21.size)
            clear hb21
            obtain ⟨Y, hY⟩ : ∃ z, z = w21.heap.size := ⟨_, rfl⟩
            obtain ⟨w22, hw22⟩ : ∃ z, z = w21.alloc (.cells (dV R0) 23) := ⟨_, rfl⟩
            have st22 : Below w21.heap.size w21 w22 := by rw [hw22]; exact (Below.refl _ _).alloc (Nat.le_refl _) _
            have B22 := Lib.hid (show Below w.heap.size w w22 from B21.out.trans (Below.mono st22 B21.out.size))
            have GX_22 := Lib.hid ((st22.block X LX20_21.out).trans GX_21.out)
            have LX20_21_22 := Lib.hid (Nat.lt_of_lt_of_le LX20_21.out st22.size)
            have GY_22 := Lib.hid (show w22.heap[Y]? = some (.cells (dV R0) 23 (0, 0)) by rw [hw22, hY]; exact heap_alloc_new _ _)
            have LY := Lib.hid (lt_of_heap GY_22.out)
            have HY := Lib.hid hY
            have Hw22 := Lib.hid hw22
            clear hY hw22 st22
            go_wp2_with (first
              | ((refine st_new rfl (.tmp 10) (.tmp 62) rfl R0 R0L.out (by rfl) _ _ (by rfl) (by rfl) ?_); rw [← HY.out, ← Hw22.out]))
            refine (((Error_nil 7 false (by decide) w22).mono fun r w' h => (⟨h.1, by rw [← h.2]; exact Below.refl _ _⟩ : r = .returned (.bool false) ∧ Below w22.heap.size w22 w'))).mono ?_
            rintro e w23 ⟨rfl, hb23⟩
            have B23 := Lib.hid (show Below w.heap.size w w23 from B22.out.trans (Below.mono hb23 B22.out.size))
            have GX_23 := Lib.hid ((hb23.block X LX20_21_22.out).trans GX_22.out)
            have LX20_21_22_23 := Lib.hid (Nat.lt_of_lt_of_le LX20_21_22.out hb23.size)
            have GY_23 := Lib.hid ((hb23.block Y LY.out).trans GY_22.out)
            have LY_23 := Lib.hid (Nat.lt_of_lt_of_le LY.out hb23.size)
            clear hb23
            have ERR := Lib.hid (show (R0 == R0) = true by simp)
            go_wp2_with (first
              | ((refine ld_digG rfl (.tmp 10) rfl (Y) 0 (by rfl) R0 R0L.out (range_of_row GY_23.out) ?_); simp only [Act.put, List.setIfInBounds_toArray, List.set_cons_zero, List.set_cons_succ])
              | ((refine ld_digG rfl (.tmp 6) rfl (X) 0 (by rfl) R0 R0L.out (range_of_row GX_23.out) ?_); simp only [Act.put, List.setIfInBounds_toArray, List.set_cons_zero, List.set_cons_succ])
              | ((refine eq_digG rfl (.tmp 71) (.tmp 72) _ rfl R0 R0 (by rfl) (by rfl) R0L.out R0L.out ?_); rw [ERR.out]; simp only [Act.put, List.setIfInBounds_toArray, List.set_cons_zero, List.set_cons_succ]))
            go_ret
            exact ⟨rfl, B23.out⟩
          · have hf7 : mapF ys = 7 := by
              unfold mapF at hfy ⊢
              rw [if_neg (by omega)] at hfy ⊢
              rcases scan_val ys [] hyk with h | h
              · exact absurd h hfy
              · exact h
            have TRY := TRoot_bad ys hyw av cp _ (by rw [hyl]; exact hcp.1) hcp.2 wA rY 7 hf7 (by decide)
            rw [hyl, ← HZ.out] at TRY
            have HTRY := Lib.hid TRY
            clear TRY hsame hyw hyk rY hown hin hbl hblw hfy hyl hys hcp hf7
            go_wp2_with fail
            refine (HTRY.out).mono ?_
            rintro e w21 ⟨rfl, hb21⟩
            have B21 := Lib.hid (show Below w.heap.size w w21 from B20.out.trans (Below.mono hb21 B20.out.size))
            have GX_21 := Lib.hid ((hb21.block X LX20.out).trans GX_20.out)
            have LX20_21 := Lib.hid (Nat.lt_of_lt_of_le LX20.out hb21.size)
            clear hb21
            obtain ⟨Y, hY⟩ : ∃ z, z = w21.heap.size := ⟨_, rfl⟩
            obtain ⟨w22, hw22⟩ : ∃ z, z = w21.alloc (.cells (dV Z) 23) := ⟨_, rfl⟩
            have st22 : Below w21.heap.size w21 w22 := by rw [hw22]; exact (Below.refl _ _).alloc (Nat.le_refl _) _
            have B22 := Lib.hid (show Below w.heap.size w w22 from B21.out.trans (Below.mono st22 B21.out.size))
            have GX_22 := Lib.hid ((st22.block X LX20_21.out).trans GX_21.out)
            have LX20_21_22 := Lib.hid (Nat.lt_of_lt_of_le LX20_21.out st22.size)
            have GY_22 := Lib.hid (show w22.heap[Y]? = some (.cells (dV Z) 23 (0, 0)) by rw [hw22, hY]; exact heap_alloc_new _ _)
            have LY := Lib.hid (lt_of_heap GY_22.out)
            have HY := Lib.hid hY
            have Hw22 := Lib.hid hw22
            clear hY hw22 st22
            go_wp2_with (first
              | ((refine st_new rfl (.tmp 10) (.tmp 62) rfl Z ZL.out (by rfl) _ _ (by rfl) (by rfl) ?_); rw [← HY.out, ← Hw22.out]))
            refine (Error_err 7 7 true (by decide) w22 (HG.out.at_ B22.out)).mono ?_
            rintro e w23 ⟨rfl, hb23⟩
            have B23 := Lib.hid (show Below w.heap.size w w23 from B22.out.trans (Below.mono hb23 B22.out.size))
            have GX_23 := Lib.hid ((hb23.block X LX20_21_22.out).trans GX_22.out)
            have LX20_21_22_23 := Lib.hid (Nat.lt_of_lt_of_le LX20_21_22.out hb23.size)
            have GY_23 := Lib.hid ((hb23.block Y LY.out).trans GY_22.out)
            have LY_23 := Lib.hid (Nat.lt_of_lt_of_le LY.out hb23.size)
            clear hb23
            go_wp2_with fail
            go_ret
            exact ⟨rfl, B23.out⟩
    · have z9 : ((x1.length : Int) != (x0.length : Int)) = true := by rw [bne_iff_ne]; omega
      clear hlen
      go_enter Tryd.func8, Tryd.ntmps8
      go_wp2_with fail
      refine (LE.out).mono ?_
      rintro e w1 ⟨rfl, hb1⟩
      have B1 := Lib.hid (show Below w.heap.size w w1 from hb1)
      clear hb1
      go_wp2_with fail
      refine (TRO0 w1 (r0.out.below B1.out) (RO.out.at_ B1.out)).mono ?_
      rintro e w2 ⟨rfl, hb2⟩
      have B2 := Lib.hid (show Below w.heap.size w w2 from B1.out.trans (Below.mono hb2 B1.out.size))
      clear hb2
      obtain ⟨X, hX⟩ : ∃ z, z = w2.heap.size := ⟨_, rfl⟩
      obtain ⟨w3, hw3⟩ : ∃ z, z = w2.alloc (.cells (dV R0) 23) := ⟨_, rfl⟩
      have st3 : Below w2.heap.size w2 w3 := by rw [hw3]; exact (Below.refl _ _).alloc (Nat.le_refl _) _
      have B3 := Lib.hid (show Below w.heap.size w w3 from B2.out.trans (Below.mono st3 B2.out.size))
      have GX_3 := Lib.hid (show w3.heap[X]? = some (.cells (dV R0) 23 (0, 0)) by rw [hw3, hX]; exact heap_alloc_new _ _)
      have LX := Lib.hid (lt_of_heap GX_3.out)
      have HX := Lib.hid hX
      have Hw3 := Lib.hid hw3
      clear hX hw3 st3
      go_wp2_with (first
        | ((refine st_new rfl (.tmp 6) (.tmp 18) rfl R0 R0L.out (by rfl) _ _ (by rfl) (by rfl) ?_); rw [← HX.out, ← Hw3.out]))
      go_ret
      exact ⟨rfl, B3.out⟩
  · obtain ⟨f, hff⟩ : ∃ f, f = mapF x0 := ⟨_, rfl⟩
    have TRB0 := fun w' hr => TRoot_bad x0 n0.out a0 c0 e0 l0 m0 w' hr f hff.symm (by rw [hff]; exact hf0)
    rw [← HZ.out] at TRB0
    clear hff hf0
    go_enter Tryd.func8, Tryd.ntmps8
    go_wp2_with fail
    refine (LE.out).mono ?_
    rintro e w1 ⟨rfl, hb1⟩
    have B1 := Lib.hid (show Below w.heap.size w w1 from hb1)
    clear hb1
    go_wp2_with fail
    refine (TRB0 w1 (r0.out.below B1.out)).mono ?_
    rintro e w2 ⟨rfl, hb2⟩
    have B2 := Lib.hid (show Below w.heap.size w w2 from B1.out.trans (Below.mono hb2 B1.out.size))
    clear hb2
    obtain ⟨X, hX⟩ : ∃ z, z = w2.heap.size := ⟨_, rfl⟩
    obtain ⟨w3, hw3⟩ : ∃ z, z = w2.alloc (.cells (dV Z) 23) := ⟨_, rfl⟩
    have st3 : Below w2.heap.size w2 w3 := by rw [hw3]; exact (Below.refl _ _).alloc (Nat.le_refl _) _
    have B3 := Lib.hid (show Below w.heap.size w w3 from B2.out.trans (Below.mono st3 B2.out.size))
    have GX_3 := Lib.hid (show w3.heap[X]? = some (.cells (dV Z) 23 (0, 0)) by rw [hw3, hX]; exact heap_alloc_new _ _)
    have LX := Lib.hid (lt_of_heap GX_3.out)
    have HX := Lib.hid hX
    have Hw3 := Lib.hid hw3
    clear hX hw3 st3
    go_wp2_with (first
      | ((refine st_new rfl (.tmp 6) (.tmp 18) rfl Z ZL.out (by rfl) _ _ (by rfl) (by rfl) ?_); rw [← HX.out, ← Hw3.out]))
    go_ret
    exact ⟨rfl, B3.out⟩

set_option maxRecDepth 100000 in
theorem lifted (os : Os) (started : os.Started) (H : Type) (enc : TypeId × Value → H) :
    ReturnsInHanded {} Tryd.checked os 8 .any (fun w args => (Rows.trieOrderSpec.pre enc Tryd.prog Tryd.f8 Rows.trieOrderRow.domain false w args ∧ laidMetH Tryd.prog Laid.list w) ∧ sizedMet enc Tryd.prog Tryd.f8 (OpenSpec.ofChange Rows.trieOrderSpec) false w args) (Rows.trieOrderSpec.post enc Tryd.prog Tryd.f8 false true false false) := by
  refine returnsInHanded_of_change_and (C := Tryd.checked) (X := fun w _ => laidMetH Tryd.prog Laid.list w) (fun _ _ _ hh h => h.of_heap hh) Laid.own started (by kernel_rfl) Tryd.func8
    (ChangeSpec.witness_at (enc := enc) (C := Tryd.checked) (os := os) (X := fun w _ => laidMetH Tryd.prog Laid.list w) false (laidWorld os) #[.slice none 0 0, .slice none 0 0] 8 rfl (by kernel_rfl) (by kernel_rfl) (by kernel_rfl) (by kernel_rfl) (by kernel_rfl) (laidWorld_met os _)) ?_
  intro W base args ds gs before hval0 hW _ hsz hL _
  have hro := rounds_of_laid hL
  have hg := handle_of_laid hL
  have hval : ∀ (j : Nat) t v, Tryd.f8.params[j]? = some t → args[j]? = some v → Value.okWide Tryd.prog W .any base t v := hval0
  have hW' := hW
  obtain ⟨p, q, hA0, hV, rfl, hfz, hnd⟩ := hW
  have hA : DataW.TrodAll enc Tryd.prog W 0 (fun _ => true) true Tryd.f8.params.toList args.toList ds p := hA0
  rw [Tryd.params8] at hA hval
  obtain ⟨v0, vs0, d0, ds0, p0, q0, hargs, rfl, rfl, h0, r0⟩ := trodAll_cons hA
  obtain ⟨v1, vs1, d1, ds1, p1, q1, rfl, rfl, rfl, h1, r1⟩ := trodAll_cons r0
  obtain ⟨rfl, rfl, rfl⟩ := trodAll_nil r1
  obtain rfl : args = #[v0, v1] := by cases args; simp_all
  obtain ⟨rfl, rfl⟩ := trodVars_none hV
  have k0 := h0
  have lt0 : ∀ x ∈ p0, x.block < W.heap.size := by obtain ⟨m, hm⟩ := k0; exact DataW.trod_lt m _ _ _ hm
  obtain ⟨x0, a0, c0, e0, rfl, l0, m0, n0, r_0⟩ := open_ents Tryd.underlying40 Tryd.underlying35 Tryd.underlying3 Tryd.underlying23 Tryd.underlying5 (by kernel_rfl) (by kernel_rfl) (by kernel_rfl) (by kernel_rfl) rfl rfl (hval 0 40 v0 rfl rfl) h0
  have k1 := h1
  have lt1 : ∀ x ∈ p1, x.block < W.heap.size := by obtain ⟨m, hm⟩ := k1; exact DataW.trod_lt m _ _ _ hm
  obtain ⟨x1, a1, c1, e1, rfl, l1, n1, r_1⟩ := open_nums Tryd.underlying51 Tryd.underlying3 (by kernel_rfl) (hval 1 51 v1 rfl rfl) h1
  clear hA0 hval0
  refine (walk x0 a0 c0 e0 x1 a1 c1 e1 W l0 m0 n0 r_0 l1 n1 r_1 hro hg).mono fun e W' ⟨he, bel⟩ => ?_
  subst he
  exact ⟨_, rfl, _, _, _, [], _, [], hW', trodAll_mk1 (shut_bool Tryd.underlying4 _), (trodAll_cons_mk (Below.trod Laid.laidOut (by kernel_rfl) (of_decide_eq_true (by kernel_rfl)) k0 bel lt0) (trodAll_cons_mk (Below.trod Laid.laidOut (by kernel_rfl) (of_decide_eq_true (by kernel_rfl)) k1 bel lt1) trodAll_mk0)), rfl, bel.frame _, fun h => by cases h⟩

theorem over : Rows.trieOrderRow.holds Tryd.pinned (OpenSpec.ofChange Rows.trieOrderSpec) :=
  OpenClaim.holds_of_wide 8 Tryd.f8 rfl rfl rfl rfl rfl rfl rfl ⟨rfl, rfl, rfl, rfl, rfl⟩ rfl rfl rfl rfl rfl (by kernel_rfl) Tryd.func8 (by kernel_rfl)
    (of_decide_eq_true (by kernel_rfl)) (by unfold Func.isWrapper; first | (rw [if_pos (by decide +kernel)]; kernel_rfl) | (rw [if_neg (by decide +kernel)]; exact ⟨rfl, rfl⟩))
    (fun os started H enc _ => lifted os started H enc)

theorem proved : Rows.TrieOrderCardSaid :=
  Claim7.holds_tied_plain_at .later [] [.data, .handle] true (true, "dc8737acee50ade5d9e6156f300c62d149993f3a6545deb441f0e2b50ff31829") true
    over (fun _ h => by cases h) (by kernel_rfl) (fun _ h => by cases h) trieOrder_row_tie rfl ⟨rfl, rfl⟩ (by kernel_rfl) rfl
    (fun f fn hf hfn => by
      obtain rfl : f = 8 := Option.some.inj ((show Tryd.prog.funcNamed "oathbook/oathbooklaw2.TrieOrder" = some 8 by kernel_rfl).symm.trans hf) |>.symm
      obtain rfl : fn = Tryd.f8 := (Option.some.inj (Tryd.func8.symm.trans hfn)).symm
      exact ⟨by kernel_rfl, stand_of_all (by kernel_rfl)⟩)
    (by kernel_rfl)
#print axioms proved
end trieOrder
end Go.Proofs.YtpeomfehdccmmaaDoor
