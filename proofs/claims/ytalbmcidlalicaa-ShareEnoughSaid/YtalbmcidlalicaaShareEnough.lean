/- SHAMIR: so many shares are enough: oathbooklaw2.ShareEnough answers true at every input. -/
import Derived.Test.YtalbmcidlalicaaRows
import Derived.Test.YtalbmcidlalicaaEnoughLaw
import Derived.Test.YtalbmcidlalicaaCodeCells
import Derived.Test.YtalbmcidlalicaaMem3
import Derived.Test.YtalbmcidlalicaaOpen
import Derived.ShutString
import Derived.ChangeOld
import Derived.Below
namespace Go.Proofs.Ytalbmcidlalicaa
open Go.ChangeShapes Go.WideShapes Go.ChangeAt Go.RowKit
open Go.ChangeMaps (open_string shut_string)
set_option linter.unusedVariables false
namespace shareEnough
theorem own : ownKnob Try.prog.godebug = none := by kernel_rfl
theorem laidOut : laidOutB Try.prog = true := by kernel_rfl

-- HOLE: the walk
set_option maxHeartbeats 4000000 in
theorem walk (x0 : List UInt8) (a0 : Option Addr) (c0 e0 : Nat) (a1 : Int) (x2 : List (List UInt8)) (a2 : Option Addr) (c2 e2 : Nat) (v2 : List Value) (x3 : List Int) (a3 : Option Addr) (c3 e3 : Nat) (w : World) (l0 : x0.length ≤ 9223372036854775807) (r0 : Rd w a0 e0 (x0.map vB)) (h1 : -9223372036854775808 ≤ a1 ∧ a1 ≤ 9223372036854775807) (l2 : x2.length ≤ 9223372036854775807) (r2 : Rd w a2 e2 v2) (m2 : AreB (fun _ _ => True) w x2 v2) (l3 : x3.length ≤ 9223372036854775807) (n3 : ∀ n ∈ x3, -9223372036854775808 ≤ n ∧ n ≤ 9223372036854775807) (r3 : Rd w a3 e3 (x3.map vI)) :
    Calls Try.prog 8 #[.slice a0 x0.length c0, .int .i64 a1, .slice a2 x2.length c2, .slice a3 x3.length c3] w fun e w' => e = .returned (.bool true) ∧ Below w.heap.size w w' := by
  by_cases hfa : splitF x0 a1 x2 = 0
  · obtain ⟨na, nb, lx, lm, allm⟩ := splitF_zero hfa
    obtain ⟨n, rfl⟩ : ∃ n : Nat, a1 = n := ⟨a1.toNat, by omega⟩
    have CA := fun w ha hb hv => Split_ok hfa a0 c0 e0 a2 c2 e2 v2 w ha hb hv l0 l2
    simp only [Int.toNat_natCast] at CA
    clear hfa allm
    by_cases hlen : x3.length < x2.length + 1
    · have q1 : decide ((x3.length : Int) < (x2.length : Int) + 1) = true := by rw [decide_eq_true_eq]; omega
      go_enter Try.func8, Try.ntmps8
      go_wp2_with fail
      refine (split_calls _).mono ?_; rintro e w1 ⟨rfl, hb1⟩
      go_wp2_with fail
      refine (CA _ (r0.below hb1) (r2.below hb1) (m2.below hb1)).mono ?_; rintro e w2 ⟨xa, xcap, xvs, rfl, hb2, _, _, xr, xA⟩
      have hb12 := hb1.trans (hb2.mono hb1.size)
      go_wp2_with fail
      go_ret
      exact ⟨rfl, hb12⟩
    · have q1 : decide ((x3.length : Int) < (x2.length : Int) + 1) = false := by rw [decide_eq_false]; omega
      by_cases h20 : 20 < x3.length
      · have q2 : decide ((20 : Int) < (x3.length : Int)) = true := by rw [decide_eq_true_eq]; omega
        go_enter Try.func8, Try.ntmps8
        go_wp2_with fail
        refine (split_calls _).mono ?_; rintro e w1 ⟨rfl, hb1⟩
        go_wp2_with fail
        refine (CA _ (r0.below hb1) (r2.below hb1) (m2.below hb1)).mono ?_; rintro e w2 ⟨xa, xcap, xvs, rfl, hb2, _, _, xr, xA⟩
        have hb12 := hb1.trans (hb2.mono hb1.size)
        go_wp2_with fail
        go_ret
        exact ⟨rfl, hb12⟩
      · have q2 : decide ((20 : Int) < (x3.length : Int)) = false := by rw [decide_eq_false]; omega
        go_enter Try.func8, Try.ntmps8
        go_wp2_with fail
        refine (split_calls _).mono ?_; rintro e w1 ⟨rfl, hb1⟩
        go_wp2_with fail
        refine (CA _ (r0.below hb1) (r2.below hb1) (m2.below hb1)).mono ?_; rintro e w2 ⟨xa, xcap, xvs, rfl, hb2, _, _, xr, xA⟩
        clear CA
        have hb12 := hb1.trans (hb2.mono hb1.size)
        have hs12 := hb12.size
        have xA2 : AreS (fun _ _ => True) w2 (splitOf x0 n x2) xvs := xA.mono fun _ _ _ _ => trivial
        have lsx : (splitOf x0 n x2).length = n := splitOf_length _ _ _
        have vx : 2 * n ≤ xvs.length := by rw [xA2.1]; omega
        have r32 := r3.below hb12
        have Hlx := Lib.hid lsx
        clear lsx xA
        go_wp2_with fail
        go_loopw [12, 13] (fun v i wr => ∃ k : Nat, k ≤ x3.length ∧ i = .int .i64 k ∧ wr.ownsRow w2.heap.size 36 2 v k (cellsS xvs x3 k) ∧ Below w2.heap.size w2 wr ∧ (∀ i, i < k → 0 ≤ x3.getD i 0 ∧ x3.getD i 0 < n) ∧ (x3.take k).Nodup) (fun _ i _ => x3.length - (intOf i).toNat)
        case atStart => exact ⟨0, Nat.zero_le _, rfl, World.ownsRow_nil _ _ _ _, Below.refl _ _, fun i hi => by omega, by simp⟩
        case round =>
          obtain ⟨k, hk, rfl, hown, hbl, hin, hnd⟩ := hrel
          have Hin := Lib.hid hin
          have Hnd := Lib.hid hnd
          have hsz := hbl.size
          clear hin hnd
          by_cases hlt : k < x3.length
          · obtain ⟨bw, ow, rfl, hbw, hcw⟩ := r32.ints hlt
            have cw : wr.cell? ⟨bw, ow + k, none⟩ = some (.int .i64 x3[k]) := (hbl.cell (p := ⟨bw, ow + k, none⟩) hbw).trans (hcw k hlt)
            have Hcw := Lib.hid hcw
            have e1 : x3.getD k 0 = x3[k] := by rw [List.getD_eq_getElem?_getD, List.getElem?_eq_getElem hlt]; rfl
            have hb := n3 x3[k] (List.getElem_mem _)
            have HE := Lib.hid e1
            have i0 : (0 : Int) ≤ (k : Int) := by omega
            have i1 : (k : Int) < (x3.length : Int) := by omega
            clear hcw e1
            generalize hz : x3[k] = z at *
            have HZ := Lib.hid hz
            clear hz
            have hbf : Below w.heap.size w wr := hb12.trans (hbl.mono hs12)
            by_cases z0 : z < 0
            · go_wp2
              go_ret
              exact ⟨rfl, hbf⟩
            · by_cases z1 : (n : Int) ≤ z
              · go_wp2
                go_ret
                exact ⟨rfl, hbf⟩
              · obtain ⟨zn, rfl⟩ : ∃ zn : Nat, z = zn := ⟨z.toNat, by omega⟩
                have hzn : zn < n := by omega
                go_wp2
                obtain ⟨wo, rfl⟩ : ∃ wo : World, wo = wr := ⟨_, rfl⟩
                go_loopw [14] (fun i wr => ∃ m n' : Nat, m ≤ k ∧ i = .int .i64 m ∧ (∀ i, i < m → x3.getD i 0 ≠ zn) ∧ wr = wo.drewN n') (fun i _ => k - (intOf i).toNat)
                case atStart => exact ⟨0, 0, Nat.zero_le _, rfl, fun i hi => by omega, rfl⟩
                case round =>
                  obtain ⟨m, n', hm, rfl, hne, rfl⟩ := hrel
                  have Hne := Lib.hid hne
                  clear hne
                  by_cases hmk : m < k
                  · have hm2 : m < x3.length := by omega
                    have cm : wo.cell? ⟨bw, ow + m, none⟩ = some (.int .i64 x3[m]) := (hbl.cell (p := ⟨bw, ow + m, none⟩) hbw).trans (Hcw.out m hm2)
                    have em : x3.getD m 0 = x3[m] := by rw [List.getD_eq_getElem?_getD, List.getElem?_eq_getElem hm2]; rfl
                    have Em := Lib.hid em
                    clear em
                    generalize x3[m] = y at *
                    have j0 : (0 : Int) ≤ (m : Int) := by omega
                    have j1 : (m : Int) < (x3.length : Int) := by omega
                    by_cases hy : y = zn
                    · have t1 : (y == (zn : Int)) = true := by rw [beq_iff_eq]; exact hy
                      go_wp2_with fail
                      go_quiet (fail)
                      go_wp2
                      go_ret
                      exact ⟨rfl, below_drewN (below_drewN hbf _) _⟩
                    · have t1 : (y == (zn : Int)) = false := by rw [beq_eq_false_iff_ne]; exact hy
                      go_wp2_with fail
                      go_quiet (fail)
                      go_wp2
                      go_round
                      case rel => exact ⟨m + 1, _, by omega, by go_num, fun i hi => if h : i < m then Hne.out i h else (show i = m by omega) ▸ (by rw [Em.out]; exact hy), rfl⟩
                      case measure => simp [intOf] <;> omega
                  · obtain rfl : m = k := by omega
                    obtain ⟨W0, hW0⟩ : ∃ W0, wo.drewN n' = W0 := ⟨_, rfl⟩
                    obtain ⟨bx, ox, rfl, hbx, hcx⟩ := xr.cell (k := 2 * zn + 1) (by omega)
                    obtain ⟨g0, ax, cx, ex, g1, _⟩ := xA2.getD (i := zn) (by rw [Hlx.out]; exact hzn)
                    have cx0 := hcx (2 * zn) (by omega)
                    have cx1 := hcx (2 * zn + 1) (by omega)
                    have d0 : xvs.getD (2 * zn) undef = xvs[2 * zn]'(by omega) := by rw [List.getD_eq_getElem?_getD, List.getElem?_eq_getElem (by omega)]; rfl
                    have d1 : xvs.getD (2 * zn + 1) undef = xvs[2 * zn + 1]'(by omega) := by rw [List.getD_eq_getElem?_getD, List.getElem?_eq_getElem (by omega)]; rfl
                    rw [← d0, g0] at cx0
                    rw [← d1, g1] at cx1
                    have e2' : ox + 2 * zn = ox + zn * 2 := by omega
                    have e3' : ox + (2 * zn + 1) = ox + zn * 2 + 1 := by omega
                    rw [e2'] at cx0
                    rw [e3'] at cx1
                    have hW : Below w2.heap.size w2 W0 := by rw [← hW0]; exact below_drewN hbl _
                    have f1 : W0.cell? ⟨bw, ow + m, none⟩ = some (.int .i64 zn) := by rw [← hW0]; exact cw
                    have f2 : W0.cell? ⟨bx, ox + zn * 2, none⟩ = some (.int .u8 ((splitOf x0 n x2).getD zn default).at_.toNat) := (hW.cell (p := ⟨bx, ox + zn * 2, none⟩) hbx).trans cx0
                    have f3 : W0.cell? ⟨bx, ox + zn * 2 + 1, none⟩ = some (.slice ax ((splitOf x0 n x2).getD zn default).data.length cx) := (hW.cell (p := ⟨bx, ox + zn * 2 + 1, none⟩) hbx).trans cx1
                    have hce : cellsS xvs x3 (m + 1) = cellsS xvs x3 m ++ [.int .u8 ((splitOf x0 n x2).getD zn default).at_.toNat, .slice ax ((splitOf x0 n x2).getD zn default).data.length cx] := by
                      rw [cellsS_succ, HE.out, Int.toNat_natCast, g0, g1]; rfl
                    generalize (splitOf x0 n x2).getD zn default = sx at *
                    have ho : W0.ownsRow w2.heap.size 36 2 u12 m (cellsS xvs x3 m) := by rw [← hW0]; exact own_drewN hown _
                    have hW2 : w2.heap.size ≤ W0.heap.size := hW.size
                    have hnd' : (x3.take (m + 1)).Nodup := by
                      rw [List.take_succ_eq_append_getElem hlt, List.nodup_append]
                      refine ⟨Hnd.out, by simp, fun a ha b hb' e => ?_⟩
                      obtain rfl : b = x3[m] := by simpa using hb'
                      obtain ⟨i, hi, he⟩ := List.mem_iff_getElem.1 ha
                      have hi' : i < m := by simp at hi; omega
                      rw [List.getElem_take] at he
                      have h5 := Hne.out i hi'
                      rw [List.getD_eq_getElem?_getD, List.getElem?_eq_getElem (show i < x3.length by omega)] at h5
                      exact h5 (by rw [← HZ.out, ← e, ← he]; rfl)
                    have hin' : ∀ i, i < m + 1 → 0 ≤ x3.getD i 0 ∧ x3.getD i 0 < n := by
                      intro i hi
                      by_cases h : i < m
                      · exact Hin.out i h
                      · obtain rfl : i = m := by omega
                        rw [HE.out]; omega
                    have Hnd' := Lib.hid hnd'
                    have Hin' := Lib.hid hin'
                    have Hce := Lib.hid hce
                    clear hnd' hin' hce g0 g1 d0 d1 e2' e3' cx0 cx1 hcx
                    have k0 : (0 : Int) ≤ (zn : Int) := by omega
                    have k1 : (zn : Int) < (n : Int) := by omega
                    rw [hW0]
                    clear hW0
                    go_wp2_with (at_builtin; refine appN 31 36 (.agg #[.int .u8 0, .slice none 0 0]) 2 32 Try.underlying31 info_share rfl (by omega) (by omega) rfl _ _ rfl w2.heap.size _ m (cellsS xvs x3 m) rfl (ho.alloc _) W0.heap.size 1 [.int .u8 sx.at_.toNat, .slice ax sx.data.length cx] rfl rfl (two_cells (by simp) (by simp)) (by simp [Value.oneCell']) (by omega) (by simp; omega) _ rfl ?_; intro g cap w' hown' hgrow hat hlt')
                    have hb' : Below w2.heap.size w2 w' := below_grow (hW.alloc (by omega) _) (ho.alloc _) hgrow (by simp; omega)
                    clear hgrow hat hlt' f1 f2 f3
                    go_wp2
                    go_roundw
                    case rel => exact ⟨m + 1, by omega, by go_num, by rw [Hce.out]; exact hown', hb', Hin'.out, Hnd'.out⟩
                    case measure => simp [intOf] <;> omega
          · obtain rfl : k = x3.length := by omega
            have hbf : Below w.heap.size w wr := hb12.trans (hbl.mono hs12)
            obtain ⟨a12, cap12, rfl⟩ := own_slice hown
            have hcap := own_cap hown
            have hta : x3.take x3.length = x3 := List.take_of_length_le (Nat.le_refl _)
            have hS := cellsS_are (which := x3) xA2 Hlx.out x3.length Hin.out (Nat.le_refl _)
            have hnn : ((x3.take x3.length).map Int.toNat).Nodup := toNat_nodup Hnd.out (take_mem fun i hi => (Hin.out i hi).1)
            have hltn : ∀ j ∈ (x3.take x3.length).map Int.toNat, j < n := by
              intro j hj
              obtain ⟨z, hz, rfl⟩ := List.mem_map.1 hj
              have := take_mem (P := fun z => 0 ≤ z ∧ z < n) Hin.out z hz
              omega
            rw [hta] at hS hnn hltn
            rw [pick_at x0 n x2 _ hltn] at hS
            have hat : ((x3.map Int.toNat).map fun j => UInt8.ofNat (j + 1)).Nodup := succ_nodup hnn (fun i hi => by have := hltn i hi; omega)
            have hal : ((x3.map Int.toNat).map fun j => UInt8.ofNat (j + 1)).length = x3.length := by simp
            have h00 : ∀ x ∈ (x3.map Int.toNat).map fun j => UInt8.ofNat (j + 1), x.toNat ≠ 0 := by
              intro x hx
              obtain ⟨j, hj, rfl⟩ := List.mem_map.1 hx
              have := hltn j hj
              simp
              omega
            generalize ((x3.map Int.toNat).map fun j => UInt8.ofNat (j + 1)) = at_ at *
            have hj := join_at x0 x2 at_ hat (by omega)
            have hf := at_fault x0 x2 at_ hat h00 x3.length (by omega)
            have hh : ((at_.map (shareOf x0 x2)).headD default).data.length = x0.length := by
              cases at_ with
              | nil => simp at hal; omega
              | cons x xs => exact shareOf_length _ _ _
            have hsl : (at_.map (shareOf x0 x2)).length = x3.length := by simp [hal]
            have JC := Join_calls (at_.map (shareOf x0 x2)) x3.length x0.length a12 cap12 36 (cellsS xvs x3 x3.length) wr (Rd.of_own hown) (hS.below hbl) hcap.1 hcap.2 (by omega) (by omega) (by omega) (by omega) hh (by omega)
            generalize at_.map (shareOf x0 x2) = ss at *
            clear hS hnn hltn hat hal h00 hta hh hsl hown
            go_wp2_with fail
            refine JC.mono ?_; rintro e w3 ⟨hb3, h3⟩
            rcases h3 with ⟨_, ga, gcap, rfl, gown⟩ | ⟨h3, _⟩
            · rw [hj] at gown ⊢
              have hb13 := hbf.trans (hb3.mono hbf.size)
              have BC := Bytes_calls x0 x0 ga a0 gcap c0 5 e0 w3 (Rd.of_own gown) (r0.below hb13) (by omega)
              simp only [decide_true] at BC
              clear JC hj hf gown
              go_wp2_with fail
              refine BC.mono ?_; rintro e w4 ⟨rfl, nq, rfl⟩
              go_wp2_with fail
              go_ret
              exact ⟨rfl, below_drewN hb13 _⟩
            · exact absurd hf h3
  · have CA := fun w ha hb hv => Split_no hfa a0 c0 e0 a2 c2 e2 v2 w ha hb hv l0 l2
    clear hfa
    go_enter Try.func8, Try.ntmps8
    go_wp2_with fail
    refine (split_calls _).mono ?_; rintro e w1 ⟨rfl, hb1⟩
    go_wp2_with fail
    refine (CA _ (r0.below hb1) (r2.below hb1) (m2.below hb1)).mono ?_; rintro e w2 ⟨rfl, hb2⟩
    have hb12 := hb1.trans (hb2.mono hb1.size)
    go_wp2_with fail
    go_ret
    exact ⟨rfl, hb12⟩

set_option maxRecDepth 100000 in
theorem lifted (os : Os) (started : os.Started) (H : Type) (enc : TypeId × Value → H) :
    ReturnsInHanded {} Try.checked os 8 .any (Rows.shareEnoughSpec.pre6 enc Try.prog Try.f8 Rows.shareEnoughRow.domain false) (Rows.shareEnoughSpec.post enc Try.prog Try.f8 false true false false) := by
  refine returnsInHanded_of_change (C := Try.checked) own started (by kernel_rfl) Try.func8
    (ChangeSpec.witness6 (enc := enc) (C := Try.checked) false ⟨#[], #[.slice none 0 0, .int .i64 0, .slice none 0 0, .slice none 0 0], []⟩ 8 (by kernel_rfl) (by kernel_rfl) (by kernel_rfl) (by kernel_rfl)) ?_
  intro W base args ds gs before hval0 hW hcnd _
  have hval : ∀ (j : Nat) t v, Try.f8.params[j]? = some t → args[j]? = some v → Value.okWide Try.prog W .any base t v := hval0
  have hW' := hW
  obtain ⟨p, q, hA0, hV, rfl, hfz, hnd⟩ := hW
  have hA : DataW.TrodAll enc Try.prog W 0 (fun _ => true) true Try.f8.params.toList args.toList ds p := hA0
  rw [Try.params8] at hA hval
  obtain ⟨v0, vs0, d0, ds0, p0, q0, hargs, rfl, rfl, h0, r0⟩ := trodAll_cons hA
  obtain ⟨v1, vs1, d1, ds1, p1, q1, rfl, rfl, rfl, h1, r1⟩ := trodAll_cons r0
  obtain ⟨v2, vs2, d2, ds2, p2, q2, rfl, rfl, rfl, h2, r2⟩ := trodAll_cons r1
  obtain ⟨v3, vs3, d3, ds3, p3, q3, rfl, rfl, rfl, h3, r3⟩ := trodAll_cons r2
  obtain ⟨rfl, rfl, rfl⟩ := trodAll_nil r3
  obtain rfl : args = #[v0, v1, v2, v3] := by cases args; simp_all
  obtain ⟨rfl, rfl⟩ := trodVars_none hV
  have k0 := h0
  have lt0 : ∀ x ∈ p0, x.block < W.heap.size := by obtain ⟨m, hm⟩ := k0; exact DataW.trod_lt m _ _ _ hm
  obtain ⟨x0, a0, c0, e0, rfl, l0, r_0⟩ := open_bytes Try.underlying30 Try.underlying5 (by kernel_rfl) (hval 0 30 v0 rfl rfl) h0
  have k1 := h1
  have lt1 : ∀ x ∈ p1, x.block < W.heap.size := by obtain ⟨m, hm⟩ := k1; exact DataW.trod_lt m _ _ _ hm
  obtain ⟨a1, rfl, _, _, w1⟩ := open_int Try.underlying3 (hval 1 3 v1 rfl rfl) h1
  have b1 := bounds_i64 w1
  have k2 := h2
  have lt2 : ∀ x ∈ p2, x.block < W.heap.size := by obtain ⟨m, hm⟩ := k2; exact DataW.trod_lt m _ _ _ hm
  obtain ⟨x2, a2, c2, e2, u2, rfl, l2, r_2, m2⟩ := open_rows Try.underlying37 Try.underlying30 Try.underlying5 (by kernel_rfl) (by kernel_rfl) (hval 2 37 v2 rfl rfl) h2
  have k3 := h3
  have lt3 : ∀ x ∈ p3, x.block < W.heap.size := by obtain ⟨m, hm⟩ := k3; exact DataW.trod_lt m _ _ _ hm
  obtain ⟨x3, a3, c3, e3, rfl, l3, n3, r_3⟩ := open_nums Try.underlying47 Try.underlying3 (by kernel_rfl) (hval 3 47 v3 rfl rfl) h3
  clear hA0 hval0
  refine (walk x0 a0 c0 e0 a1 x2 a2 c2 e2 u2 x3 a3 c3 e3 W l0 r_0 b1 l2 r_2 m2 l3 n3 r_3).mono fun e W' ⟨he, bel⟩ => ?_
  subst he
  exact ⟨_, rfl, _, _, _, [], _, [], hW', trodAll_mk1 (shut_bool Try.underlying4 _), (trodAll_cons_mk (Below.trod laidOut (by kernel_rfl) (of_decide_eq_true (by kernel_rfl)) k0 bel lt0) (trodAll_cons_mk (Below.trod laidOut (by kernel_rfl) (of_decide_eq_true (by kernel_rfl)) k1 bel lt1) (trodAll_cons_mk (Below.trod laidOut (by kernel_rfl) (of_decide_eq_true (by kernel_rfl)) k2 bel lt2) (trodAll_cons_mk (Below.trod laidOut (by kernel_rfl) (of_decide_eq_true (by kernel_rfl)) k3 bel lt3) trodAll_mk0)))), rfl, bel.frame _, fun h => by cases h⟩

theorem over : Rows.shareEnoughRow.holds Try.pinned (OpenSpec.ofChange Rows.shareEnoughSpec) :=
  OpenClaim.holds_of_wide 8 Try.f8 rfl rfl rfl rfl rfl rfl rfl ⟨rfl, rfl, rfl, rfl, rfl⟩ rfl rfl rfl rfl rfl (by kernel_rfl) Try.func8 (by kernel_rfl)
    (of_decide_eq_true (by kernel_rfl)) (by unfold Func.isWrapper; first | (rw [if_pos (by decide +kernel)]; kernel_rfl) | (rw [if_neg (by decide +kernel)]; exact ⟨rfl, rfl⟩))
    (fun os started H enc _ => lifted os started H enc)

theorem proved : Rows.ShareEnoughSaid := over
#print axioms proved
end shareEnough
end Go.Proofs.Ytalbmcidlalicaa
