/- REED AND SOLOMON: of the rows that some were spread to any as many as those tell those again: oathbooklaw2.CodeAny answers true at every input. -/
import Derived.Test.YtalbmcidlalicaaRows
import Derived.Test.YtalbmcidlalicaaCodeCells
import Derived.Test.YtalbmcidlalicaaMem3
import Derived.Test.YtalbmcidlalicaaOpen
import Derived.ShutString
import Derived.ChangeOld
import Derived.Below
namespace Go.Proofs.Ytalbmcidlalicaa
open Go.ChangeShapes Go.WideShapes Go.ChangeAt Go.RowKit
open Go.ChangeMaps (open_string shut_string)
set_option linter.unusedVariables false
namespace codeAny
theorem own : ownKnob Try.prog.godebug = none := by kernel_rfl
theorem laidOut : laidOutB Try.prog = true := by kernel_rfl

-- HOLE: the walk
set_option maxHeartbeats 4000000 in
theorem walk (x0 : List (List UInt8)) (a0 : Option Addr) (c0 e0 : Nat) (v0 : List Value) (a1 : Int) (x2 : List Int) (a2 : Option Addr) (c2 e2 : Nat) (w : World) (l0 : x0.length ≤ 9223372036854775807) (r0 : Rd w a0 e0 v0) (m0 : AreB (fun _ _ => True) w x0 v0) (h1 : -9223372036854775808 ≤ a1 ∧ a1 ≤ 9223372036854775807) (l2 : x2.length ≤ 9223372036854775807) (n2 : ∀ n ∈ x2, -9223372036854775808 ≤ n ∧ n ≤ 9223372036854775807) (r2 : Rd w a2 e2 (x2.map vI)) :
    Calls Try.prog 7 #[.slice a0 x0.length c0, .int .i64 a1, .slice a2 x2.length c2] w fun e w' => e = .returned (.bool true) ∧ Below w.heap.size w w' := by
  have FC := Spread_fact
  by_cases hfa : spreadF x0 a1 = 0
  · obtain ⟨za, ka, na, La, alla⟩ := spreadF_zero hfa
    obtain ⟨n, rfl⟩ : ∃ n : Nat, a1 = n := ⟨a1.toNat, by omega⟩
    have CA := fun w hb hv => Spread_ok hfa a0 c0 e0 v0 w hb hv l0
    simp only [Int.toNat_natCast] at CA
    have HL := Lib.hid alla
    clear hfa alla
    by_cases hlen : x2.length < x0.length
    · have q1 : decide (x2.length < x0.length) = true := by rw [decide_eq_true_eq]; exact hlen
      go_enter Try.func7, Try.ntmps7
      go_wp2_with fail
      refine (FC _).mono ?_; rintro e w1 ⟨fa, fcap, fvs, rfl, hb1, fr, fA⟩
      go_wp2_with fail
      refine (CA _ (r0.below hb1) (m0.below hb1)).mono ?_; rintro e w2 ⟨xa, xcap, xvs, rfl, hb2, xr, xA⟩
      have hb12 := hb1.trans (hb2.mono hb1.size)
      go_wp2_with fail
      go_ret
      exact ⟨rfl, hb12⟩
    · have q1 : decide (x2.length < x0.length) = false := by rw [decide_eq_false]; exact hlen
      go_enter Try.func7, Try.ntmps7
      go_wp2_with fail
      refine (FC _).mono ?_; rintro e w1 ⟨fa, fcap, fvs, rfl, hb1, fr, fA⟩
      clear FC
      go_wp2_with fail
      refine (CA _ (r0.below hb1) (m0.below hb1)).mono ?_; rintro e w2 ⟨xa, xcap, xvs, rfl, hb2, xr, xA⟩
      clear CA
      have hb12 := hb1.trans (hb2.mono hb1.size)
      have hs12 := hb12.size
      have xA2 : AreB (fun _ _ => True) w2 (spreadOf x0 n) xvs := xA.mono fun _ _ _ _ => trivial
      have lx : (spreadOf x0 n).length = n := spreadOf_length _ _ (by omega)
      have vx : n ≤ xvs.length := by rw [xA2.1]; omega
      have r22 := r2.below hb12
      have Hlx := Lib.hid lx
      clear lx fr fA xA
      go_wp2_with fail
      go_loopw [11, 12] (fun v i wr => ∃ k : Nat, k ≤ x0.length ∧ i = .int .i64 k ∧ wr.ownsRow w2.heap.size 36 2 v k (cellsOf xvs x2 k) ∧ Below w2.heap.size w2 wr ∧ (∀ i, i < k → 0 ≤ x2.getD i 0 ∧ x2.getD i 0 < n) ∧ (x2.take k).Nodup) (fun _ i _ => x0.length - (intOf i).toNat)
      case atStart => exact ⟨0, Nat.zero_le _, rfl, World.ownsRow_nil _ _ _ _, Below.refl _ _, fun i hi => by omega, by simp⟩
      case round =>
        obtain ⟨k, hk, rfl, hown, hbl, hin, hnd⟩ := hrel
        have Hin := Lib.hid hin
        have Hnd := Lib.hid hnd
        have hsz := hbl.size
        clear hin hnd
        by_cases hlt : k < x0.length
        · have hk2 : k < x2.length := by omega
          obtain ⟨bw, ow, rfl, hbw, hcw⟩ := r22.ints hk2
          have cw : wr.cell? ⟨bw, ow + k, none⟩ = some (.int .i64 x2[k]) := (hbl.cell (p := ⟨bw, ow + k, none⟩) hbw).trans (hcw k hk2)
          have Hcw := Lib.hid hcw
          have e1 : x2.getD k 0 = x2[k] := by rw [List.getD_eq_getElem?_getD, List.getElem?_eq_getElem hk2]; rfl
          have hb := n2 x2[k] (List.getElem_mem _)
          have HE := Lib.hid e1
          have i0 : (0 : Int) ≤ (k : Int) := by omega
          have i1 : (k : Int) < (x2.length : Int) := by omega
          clear hcw e1
          generalize hz : x2[k] = z at *
          have HZ := Lib.hid hz
          clear hz
          have hbf : Below w.heap.size w wr := hb12.trans (hbl.mono hs12)
          by_cases z0 : z < 0
          · go_wp2
            go_ret
            exact ⟨rfl, hbf⟩
          · by_cases z1 : (n : Int) ≤ z
            · go_wp2
              go_ret
              exact ⟨rfl, hbf⟩
            · obtain ⟨zn, rfl⟩ : ∃ zn : Nat, z = zn := ⟨z.toNat, by omega⟩
              have hzn : zn < n := by omega
              go_wp2
              obtain ⟨wo, rfl⟩ : ∃ wo : World, wo = wr := ⟨_, rfl⟩
              go_loopw [13] (fun i wr => ∃ m n' : Nat, m ≤ k ∧ i = .int .i64 m ∧ (∀ i, i < m → x2.getD i 0 ≠ zn) ∧ wr = wo.drewN n') (fun i _ => k - (intOf i).toNat)
              case atStart => exact ⟨0, 0, Nat.zero_le _, rfl, fun i hi => by omega, rfl⟩
              case round =>
                obtain ⟨m, n', hm, rfl, hne, rfl⟩ := hrel
                have Hne := Lib.hid hne
                clear hne
                by_cases hmk : m < k
                · have hm2 : m < x2.length := by omega
                  have cm : wo.cell? ⟨bw, ow + m, none⟩ = some (.int .i64 x2[m]) := (hbl.cell (p := ⟨bw, ow + m, none⟩) hbw).trans (Hcw.out m hm2)
                  have em : x2.getD m 0 = x2[m] := by rw [List.getD_eq_getElem?_getD, List.getElem?_eq_getElem hm2]; rfl
                  have Em := Lib.hid em
                  clear em
                  generalize x2[m] = y at *
                  have j0 : (0 : Int) ≤ (m : Int) := by omega
                  have j1 : (m : Int) < (x2.length : Int) := by omega
                  by_cases hy : y = zn
                  · have t1 : (y == (zn : Int)) = true := by rw [beq_iff_eq]; exact hy
                    go_wp2_with fail
                    go_quiet (fail)
                    go_wp2
                    go_ret
                    exact ⟨rfl, below_drewN (below_drewN hbf _) _⟩
                  · have t1 : (y == (zn : Int)) = false := by rw [beq_eq_false_iff_ne]; exact hy
                    go_wp2_with fail
                    go_quiet (fail)
                    go_wp2
                    go_round
                    case rel => exact ⟨m + 1, _, by omega, by go_num, fun i hi => if h : i < m then Hne.out i h else (show i = m by omega) ▸ (by rw [Em.out]; exact hy), rfl⟩
                    case measure => simp [intOf] <;> omega
                · obtain rfl : m = k := by omega
                  go_wp2_with fail
                  obtain ⟨W0, hW0⟩ : ∃ W0, wo.drewN n' = W0 := ⟨_, rfl⟩
                  obtain ⟨bx, ox, rfl, hbx, hcx⟩ := xr.cell (k := zn) (by omega)
                  have cx0 := hcx zn (by omega)
                  have hvx : xvs.getD zn undef = xvs[zn]'(by omega) := by rw [List.getD_eq_getElem?_getD, List.getElem?_eq_getElem (by omega)]; rfl
                  have Hvx := Lib.hid hvx
                  generalize xvs[zn]'(by omega) = vx at *
                  obtain ⟨ax, cx, ex, rfl, _⟩ := (hvx ▸ xA2.isB (i := zn) (by rw [Hlx.out]; exact hzn))
                  have hW : Below w2.heap.size w2 W0 := by rw [← hW0]; exact below_drewN hbl _
                  have c1 : W0.cell? ⟨bw, ow + m, none⟩ = some (.int .i64 zn) := by rw [← hW0]; exact cw
                  have c2 : W0.cell? ⟨bx, ox + zn, none⟩ = some (.slice ax ((spreadOf x0 n).getD zn []).length cx) := (hW.cell (p := ⟨bx, ox + zn, none⟩) hbx).trans cx0
                  generalize ((spreadOf x0 n).getD zn []).length = Lx at *
                  have ho : W0.ownsRow w2.heap.size 36 2 u11 m (cellsOf xvs x2 m) := by rw [← hW0]; exact own_drewN hown _
                  have ne1 : some bw ≠ u11.ownBlock := fun e => by have := (ho.lt bw e.symm).1; omega
                  have ne2 : some bx ≠ u11.ownBlock := fun e => by have := (ho.lt bx e.symm).1; omega
                  have hW2 : w2.heap.size ≤ W0.heap.size := hW.size
                  have Hcf : IntKind.u8.wrap (zn : Int) = zn := by rw [IntKind.wrap_u8]; omega
                  have hnd' : (x2.take (m + 1)).Nodup := by
                    rw [List.take_succ_eq_append_getElem hk2, List.nodup_append]
                    refine ⟨Hnd.out, by simp, fun a ha b hb' e => ?_⟩
                    obtain rfl : b = x2[m] := by simpa using hb'
                    obtain ⟨i, hi, he⟩ := List.mem_iff_getElem.1 ha
                    have hi' : i < m := by simp at hi; omega
                    rw [List.getElem_take] at he
                    have h5 := Hne.out i hi'
                    rw [List.getD_eq_getElem?_getD, List.getElem?_eq_getElem (show i < x2.length by omega)] at h5
                    exact h5 (by rw [← HZ.out, ← e, ← he]; rfl)
                  have hin' : ∀ i, i < m + 1 → 0 ≤ x2.getD i 0 ∧ x2.getD i 0 < n := by
                    intro i hi
                    by_cases h : i < m
                    · exact Hin.out i h
                    · obtain rfl : i = m := by omega
                      rw [HE.out]; omega
                  have hce : cellsOf xvs x2 (m + 1) = cellsOf xvs x2 m ++ [.int .u8 zn, .slice ax Lx cx] := by
                    rw [cellsOf_succ, HE.out, ← Hvx.out]; rfl
                  have Hnd' := Lib.hid hnd'
                  have Hin' := Lib.hid hin'
                  have Hce := Lib.hid hce
                  clear hnd' hin' hce
                  rw [hW0]
                  clear hW0
                  go_region_held3 (fun w' => w'.cell? ⟨bw, ow + m, none⟩ = some (.int .i64 zn) ∧ w'.cell? ⟨bx, ox + zn, none⟩ = some (.slice ax Lx cx)) (first | go_keep | (refine ⟨?_, ?_⟩ <;> (rw [hgrow.cell_far _ (by simp; omega) (by assumption)]; simp [*])))
                    ((refine stepAppN 31 36 (.agg #[.int .u8 0, .slice none 0 0]) 2 32 Try.underlying31 info_share rfl (by omega) (by omega) (by rfl) (.tmp 78) (.tmp 92) (by rfl) w2.heap.size u11 m (cellsOf xvs x2 m) (by rfl) ((own_drew ho).alloc _) W0.heap.size 1 [.int .u8 zn, .slice ax Lx cx] (by rfl) rfl (two_cells (by simp) (by simp)) (by simp [Value.oneCell']) (by omega) (by simp; omega) _ rfl ?_; intro g cap w' hown' hgrow hat hlt'))
                  all_goals
                    have hb' : Below w2.heap.size w2 w' := below_grow (hW.drew.alloc (by simp; omega) _) ((own_drew ho).alloc _) hgrow (by simp; omega)
                    clear hgrow hat hlt' c1 c2
                    go_wp2
                    go_roundw
                  all_goals first
                    | exact ⟨m + 1, by omega, by go_num, by rw [Hce.out]; exact hown', hb', Hin'.out, Hnd'.out⟩
                    | (simp [intOf] <;> omega)
        · obtain rfl : k = x0.length := by omega
          have hbf : Below w.heap.size w wr := hb12.trans (hbl.mono hs12)
          obtain ⟨a11, cap11, rfl⟩ := own_slice hown
          have hlen' : x0.length ≤ x2.length := by omega
          have hxl : ((x2.take x0.length).map Int.toNat).length = x0.length := by simp; omega
          have hnn : ((x2.take x0.length).map Int.toNat).Nodup := toNat_nodup Hnd.out (take_mem fun i hi => (Hin.out i hi).1)
          have hltn : ∀ j ∈ (x2.take x0.length).map Int.toNat, j < n := by
            intro j hj
            obtain ⟨z, hz, rfl⟩ := List.mem_map.1 hj
            have := take_mem (P := fun z => 0 ≤ z ∧ z < n) Hin.out z hz
            omega
          have hS := cellsOf_are (which := x2) xA2 Hlx.out (by omega) x0.length Hin.out hlen'
          have hcap := own_cap hown
          have hgs := gather_spread x0 n _ _ za (by omega) (by omega) HL.out hxl hnn hltn
          have hpf := picked_fault x0 n _ _ za (by omega) (by omega) HL.out hnn hltn x0.length (by omega)
          have hpl : (picked (spreadOf x0 n) ((x2.take x0.length).map Int.toNat)).length = x0.length := by rw [picked_length, hxl]
          have hhd : ((picked (spreadOf x0 n) ((x2.take x0.length).map Int.toNat)).headD default).data.length ≤ 140737488355328 := by
            have hsl := spreadOf_length x0 n (by omega)
            have hh : (x0.headD []).length = (x0.headD []).length := rfl
            cases hq : (x2.take x0.length).map Int.toNat with
            | nil => rw [hq] at hxl; simp at hxl; omega
            | cons j js =>
              have := hltn j (by rw [hq]; exact List.mem_cons_self ..)
              have := spread_row_length x0 n _ hh HL.out _ (getD_mem (d := []) (show j < (spreadOf x0 n).length by omega))
              show ((spreadOf x0 n).getD j []).length ≤ _
              omega
          generalize picked (spreadOf x0 n) ((x2.take x0.length).map Int.toNat) = ss at *
          have GC := Gather_any ss x0.length a11 cap11 36 (cellsOf xvs x2 x0.length) wr (Rd.of_own hown) (hS.below hbl) (by omega) (by omega) hhd
          have hgf : gatherF ss x0.length = 0 := by
            unfold gatherF
            rw [if_neg (by omega), if_neg (by omega)]
            exact hpf
          rw [hpl] at GC
          clear hnn hltn hS hxl hpf hhd hpl
          go_wp2_with fail
          refine GC.mono ?_; rintro e w3 ⟨hb3, h3⟩
          rcases h3 with ⟨_, ga, gcap, gvs, rfl, gr, gA⟩ | ⟨h3, _⟩
          · rw [Int.toNat_natCast, hgs] at gA
            have hb13 := hbf.trans (hb3.mono hbf.size)
            have RC := Rows_calls x0 x0 ga a0 gcap c0 30 e0 gvs v0 w3 gr (gA.mono fun _ _ _ _ => trivial) (r0.below hb13) (m0.below hb13) (by omega)
            simp only [decide_true] at RC
            clear GC hgf hgs gr gA
            go_wp2_with fail
            refine RC.mono ?_; rintro e w4 ⟨rfl, nq, rfl⟩
            go_wp2_with fail
            go_ret
            exact ⟨rfl, below_drewN hb13 _⟩
          · exact absurd hgf h3
  · have CA := fun w hb hv => Spread_no hfa a0 c0 e0 v0 w hb hv l0
    clear hfa
    go_enter Try.func7, Try.ntmps7
    go_wp2_with fail
    refine (FC _).mono ?_; rintro e w1 ⟨fa, fcap, fvs, rfl, hb1, fr, fA⟩
    go_wp2_with fail
    refine (CA _ (r0.below hb1) (m0.below hb1)).mono ?_; rintro e w2 ⟨rfl, hb2⟩
    have hb12 := hb1.trans (hb2.mono hb1.size)
    go_wp2_with fail
    go_ret
    exact ⟨rfl, hb12⟩


set_option maxRecDepth 100000 in
theorem lifted (os : Os) (started : os.Started) (H : Type) (enc : TypeId × Value → H) :
    ReturnsInHanded {} Try.checked os 7 .any (Rows.codeAnySpec.pre6 enc Try.prog Try.f7 Rows.codeAnyRow.domain false) (Rows.codeAnySpec.post enc Try.prog Try.f7 false true false false) := by
  refine returnsInHanded_of_change (C := Try.checked) own started (by kernel_rfl) Try.func7
    (ChangeSpec.witness6 (enc := enc) (C := Try.checked) false ⟨#[], #[.slice none 0 0, .int .i64 0, .slice none 0 0], []⟩ 8 (by kernel_rfl) (by kernel_rfl) (by kernel_rfl) (by kernel_rfl)) ?_
  intro W base args ds gs before hval0 hW hcnd _
  have hval : ∀ (j : Nat) t v, Try.f7.params[j]? = some t → args[j]? = some v → Value.okWide Try.prog W .any base t v := hval0
  have hW' := hW
  obtain ⟨p, q, hA0, hV, rfl, hfz, hnd⟩ := hW
  have hA : DataW.TrodAll enc Try.prog W 0 (fun _ => true) true Try.f7.params.toList args.toList ds p := hA0
  rw [Try.params7] at hA hval
  obtain ⟨v0, vs0, d0, ds0, p0, q0, hargs, rfl, rfl, h0, r0⟩ := trodAll_cons hA
  obtain ⟨v1, vs1, d1, ds1, p1, q1, rfl, rfl, rfl, h1, r1⟩ := trodAll_cons r0
  obtain ⟨v2, vs2, d2, ds2, p2, q2, rfl, rfl, rfl, h2, r2⟩ := trodAll_cons r1
  obtain ⟨rfl, rfl, rfl⟩ := trodAll_nil r2
  obtain rfl : args = #[v0, v1, v2] := by cases args; simp_all
  obtain ⟨rfl, rfl⟩ := trodVars_none hV
  have k0 := h0
  have lt0 : ∀ x ∈ p0, x.block < W.heap.size := by obtain ⟨m, hm⟩ := k0; exact DataW.trod_lt m _ _ _ hm
  obtain ⟨x0, a0, c0, e0, u0, rfl, l0, r_0, m0⟩ := open_rows Try.underlying37 Try.underlying30 Try.underlying5 (by kernel_rfl) (by kernel_rfl) (hval 0 37 v0 rfl rfl) h0
  have k1 := h1
  have lt1 : ∀ x ∈ p1, x.block < W.heap.size := by obtain ⟨m, hm⟩ := k1; exact DataW.trod_lt m _ _ _ hm
  obtain ⟨a1, rfl, _, _, w1⟩ := open_int Try.underlying3 (hval 1 3 v1 rfl rfl) h1
  have b1 := bounds_i64 w1
  have k2 := h2
  have lt2 : ∀ x ∈ p2, x.block < W.heap.size := by obtain ⟨m, hm⟩ := k2; exact DataW.trod_lt m _ _ _ hm
  obtain ⟨x2, a2, c2, e2, rfl, l2, n2, r_2⟩ := open_nums Try.underlying47 Try.underlying3 (by kernel_rfl) (hval 2 47 v2 rfl rfl) h2
  clear hA0 hval0
  refine (walk x0 a0 c0 e0 u0 a1 x2 a2 c2 e2 W l0 r_0 m0 b1 l2 n2 r_2).mono fun e W' ⟨he, bel⟩ => ?_
  subst he
  exact ⟨_, rfl, _, _, _, [], _, [], hW', trodAll_mk1 (shut_bool Try.underlying4 _), (trodAll_cons_mk (Below.trod laidOut (by kernel_rfl) (of_decide_eq_true (by kernel_rfl)) k0 bel lt0) (trodAll_cons_mk (Below.trod laidOut (by kernel_rfl) (of_decide_eq_true (by kernel_rfl)) k1 bel lt1) (trodAll_cons_mk (Below.trod laidOut (by kernel_rfl) (of_decide_eq_true (by kernel_rfl)) k2 bel lt2) trodAll_mk0))), rfl, bel.frame _, fun h => by cases h⟩

theorem over : Rows.codeAnyRow.holds Try.pinned (OpenSpec.ofChange Rows.codeAnySpec) :=
  OpenClaim.holds_of_wide 7 Try.f7 rfl rfl rfl rfl rfl rfl rfl ⟨rfl, rfl, rfl, rfl, rfl⟩ rfl rfl rfl rfl rfl (by kernel_rfl) Try.func7 (by kernel_rfl)
    (of_decide_eq_true (by kernel_rfl)) (by unfold Func.isWrapper; first | (rw [if_pos (by decide +kernel)]; kernel_rfl) | (rw [if_neg (by decide +kernel)]; exact ⟨rfl, rfl⟩))
    (fun os started H enc _ => lifted os started H enc)

theorem proved : Rows.CodeAnySaid := over
#print axioms proved
end codeAny
end Go.Proofs.Ytalbmcidlalicaa
