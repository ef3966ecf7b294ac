/- SHAMIR: the sum of shares is a share of the sum: oathbooklaw2.ShareSums answers true at every input. -/
import Derived.Test.YtalbmcidlalicaaRows
import Derived.Test.YtalbmcidlalicaaSumsLaw
import Derived.Test.YtalbmcidlalicaaMem4
import Derived.Test.YtalbmcidlalicaaOpen
import Derived.ShutString
import Derived.ChangeOld
import Derived.Below
namespace Go.Proofs.Ytalbmcidlalicaa
open Go.ChangeShapes Go.WideShapes Go.ChangeAt Go.RowKit
open Go.ChangeMaps (open_string shut_string)
set_option linter.unusedVariables false
namespace shareSums
theorem own : ownKnob Try.prog.godebug = none := by kernel_rfl
theorem laidOut : laidOutB Try.prog = true := by kernel_rfl

-- HOLE: the walk
set_option maxRecDepth 20000 in
set_option maxHeartbeats 8000000 in
theorem walk (x0 : List UInt8) (a0 : Option Addr) (c0 e0 : Nat) (x1 : List UInt8) (a1 : Option Addr) (c1 e1 : Nat) (a2 : Int) (x3 : List (List UInt8)) (a3 : Option Addr) (c3 e3 : Nat) (v3 : List Value) (x4 : List (List UInt8)) (a4 : Option Addr) (c4 e4 : Nat) (v4 : List Value) (w : World) (l0 : x0.length ≤ 9223372036854775807) (r0 : Rd w a0 e0 (x0.map vB)) (l1 : x1.length ≤ 9223372036854775807) (r1 : Rd w a1 e1 (x1.map vB)) (h2 : -9223372036854775808 ≤ a2 ∧ a2 ≤ 9223372036854775807) (l3 : x3.length ≤ 9223372036854775807) (r3 : Rd w a3 e3 v3) (m3 : AreB (fun _ _ => True) w x3 v3) (l4 : x4.length ≤ 9223372036854775807) (r4 : Rd w a4 e4 v4) (m4 : AreB (fun _ _ => True) w x4 v4) :
    Calls Try.prog 9 #[.slice a0 x0.length c0, .slice a1 x1.length c1, .int .i64 a2, .slice a3 x3.length c3, .slice a4 x4.length c4] w fun e w' => e = .returned (.bool true) ∧ Below w.heap.size w w' := by
  by_cases hfa : splitF x0 a2 x3 = 0
  · obtain ⟨na, nb, lx, lm, allm⟩ := splitF_zero hfa
    obtain ⟨n, rfl⟩ : ∃ n : Nat, a2 = n := ⟨a2.toNat, by omega⟩
    have CA := fun w ha hb hv => Split_ok hfa a0 c0 e0 a3 c3 e3 v3 w ha hb hv l0 l3
    simp only [Int.toNat_natCast] at CA
    clear hfa allm
    by_cases hfb : splitF x1 n x4 = 0
    · obtain ⟨_, _, ly, ly2, ally⟩ := splitF_zero hfb
      have CB := fun w ha hb hv => Split_ok hfb a1 c1 e1 a4 c4 e4 v4 w ha hb hv l1 l4
      simp only [Int.toNat_natCast] at CB
      clear hfb ally
      by_cases hab : x0.length = x1.length
      · have q1 : ((x0.length : Int) != (x1.length : Int)) = false := by rw [bne_eq_false_iff_eq]; omega
        by_cases hpq : x3.length = x4.length
        · have q2 : ((x3.length : Int) != (x4.length : Int)) = false := by rw [bne_eq_false_iff_eq]; omega
          have Hab := Lib.hid hab
          have Hpq := Lib.hid hpq
          clear hab hpq
          by_cases hnp : n ≤ x3.length
          · have q3 : decide (n ≤ x3.length) = true := by rw [decide_eq_true_eq]; exact hnp
            go_enter Try.func9, Try.ntmps9
            go_wp2_with fail
            refine (split_calls _).mono ?_; rintro e w1 ⟨rfl, hb1⟩
            go_wp2_with fail
            refine (CA _ (r0.below hb1) (r3.below hb1) (m3.below hb1)).mono ?_; rintro e w2 ⟨xa, xcap, xvs, rfl, hb2, _, _, xr, xA⟩
            clear CA
            have hb12 := hb1.trans (hb2.mono hb1.size)
            go_wp2_with fail
            refine (CB _ (r1.below hb12) (r4.below hb12) (m4.below hb12)).mono ?_; rintro e w3 ⟨ya, ycap, yvs, rfl, hb3, _, _, yr, yA⟩
            clear CB
            have hb13 := hb12.trans (hb3.mono hb12.size)
            go_wp2_with fail
            go_ret
            exact ⟨rfl, hb13⟩
          · have q3 : decide (n ≤ x3.length) = false := by rw [decide_eq_false]; exact hnp
            go_enter Try.func9, Try.ntmps9
            go_wp2_with fail
            refine (split_calls _).mono ?_; rintro e w1 ⟨rfl, hb1⟩
            go_wp2_with fail
            refine (CA _ (r0.below hb1) (r3.below hb1) (m3.below hb1)).mono ?_; rintro e w2 ⟨xa, xcap, xvs, rfl, hb2, _, _, xr, xA⟩
            clear CA
            have hb12 := hb1.trans (hb2.mono hb1.size)
            go_wp2_with fail
            refine (CB _ (r1.below hb12) (r4.below hb12) (m4.below hb12)).mono ?_; rintro e w3 ⟨ya, ycap, yvs, rfl, hb3, _, _, yr, yA⟩
            clear CB
            have hb13 := hb12.trans (hb3.mono hb12.size)
            go_wp2_with fail
            have hs13 := hb13.size
            have hs23 := hb3.size
            have xr3 := xr.below hb3
            have yr3 := yr
            have xA3 : AreS (fun _ _ => True) w3 (splitOf x0 n x3) xvs := (xA.mono fun _ _ _ _ => trivial).below hb3
            have yA3 : AreS (fun _ _ => True) w3 (splitOf x1 n x4) yvs := yA.mono fun _ _ _ _ => trivial
            have r03 := r0.below hb13
            have r13 := r1.below hb13
            have HX := Lib.hid xA3
            have HY := Lib.hid yA3
            clear xA yA xr xA3 yA3 hb3 hb2 hb12
            go_loopw [16, 17] (fun v i wr => ∃ k : Nat, k ≤ n ∧ i = .int .i64 k ∧ (∃ cs, wr.ownsRow w3.heap.size 36 2 v k cs ∧ AreS (fun b e => e = 5 ∧ w3.heap.size ≤ b) wr (((ones n).map (polySh x0.length (sumF x0 x1 x3 x4))).take k) cs) ∧ Below w3.heap.size w3 wr) (fun _ i _ => n - (intOf i).toNat)
            case atStart => exact ⟨0, Nat.zero_le _, rfl, ⟨[], World.ownsRow_nil _ _ _ _, AreS.nil⟩, Below.refl _ _⟩
            case round =>
              obtain ⟨k, hk, rfl, ⟨cs, hown, hA⟩, hbl⟩ := hrel
              have hsz := hbl.size
              by_cases hkn : k < n
              · obtain ⟨X, hX⟩ : ∃ X : UInt8, X = UInt8.ofNat (k + 1) := ⟨_, rfl⟩
                obtain ⟨bx, ox, ax, cx, ex, rfl, hbx, hx0, hx1, hxr, _, _⟩ := AreS.cells xr3 HX.out (k := k) (by rw [splitOf_length]; exact hkn)
                obtain ⟨by_, oy, ay, cy, ey, rfl, hby, hy0, hy1, hyr, _, _⟩ := AreS.cells yr3 HY.out (k := k) (by rw [splitOf_length]; exact hkn)
                have gx : (splitOf x0 n x3)[k]'(by rw [splitOf_length]; exact hkn) = shareOf x0 x3 X := by rw [hX]; simp [splitOf]
                have gy : (splitOf x1 n x4)[k]'(by rw [splitOf_length]; exact hkn) = shareOf x1 x4 X := by rw [hX]; simp [splitOf]
                rw [gx] at hx0 hx1 hxr
                rw [gy] at hy1 hyr
                rw [shareOf_length] at hx1 hy1
                have e1 : ox + 2 * k = ox + k * 2 := by omega
                have e2' : ox + (2 * k + 1) = ox + k * 2 + 1 := by omega
                have e3' : oy + (2 * k + 1) = oy + k * 2 + 1 := by omega
                rw [e1] at hx0
                rw [e2'] at hx1
                rw [e3'] at hy1
                have f0 : wr.cell? ⟨bx, ox + k * 2, none⟩ = some (.int .u8 X.toNat) := (hbl.cell (p := ⟨bx, ox + k * 2, none⟩) hbx).trans hx0
                have HX1 := Lib.hid hx1
                have HY1 := Lib.hid hy1
                have HXd := Lib.hid hxr
                have HYd := Lib.hid hyr
                have HXX := Lib.hid hX
                have k0 : (0 : Int) ≤ (k : Int) := by omega
                have k1 : (k : Int) < (n : Int) := by omega
                clear gx gy e1 e2' e3' hx0 hx1 hy0 hy1 hxr hyr hX
                go_wp2
                obtain ⟨wo, rfl⟩ : ∃ wo : World, wo = wr := ⟨_, rfl⟩
                obtain ⟨B, hB⟩ : ∃ B, B = wo.heap.size := ⟨_, rfl⟩
                rw [← hB]
                have HB := Lib.hid hB
                clear hB
                go_loopw [19] (fun i wr => ∃ (m : Nat) (v : Value), m ≤ x0.length ∧ i = .int .i64 m ∧ wr.heap[B]? = some (.cells #[.int .u8 X.toNat, v] 36) ∧ wr.ownsRow (B + 1) 5 1 v m (((polySh x0.length (sumF x0 x1 x3 x4) X).data.take m).map vB) ∧ Below wo.heap.size wo wr) (fun i _ => x0.length - (intOf i).toNat)
                case atStart => exact ⟨0, _, Nat.zero_le _, rfl, by rw [HB.out]; exact heap_alloc_new _ _, World.ownsRow_nil _ _ _ _, (Below.refl _ _).alloc (Nat.le_refl _) _⟩
                case round =>
                  obtain ⟨m, v, hm, rfl, hBc, hownv, hbo⟩ := hrel
                  have hbsz := lt_of_heap hBc
                  have cB0 : wr.cell? ⟨B, 0, none⟩ = some (.int .u8 X.toNat) := by rw [cell_of_row wr B 0 _ _ _ hBc]; rfl
                  have cB1 : wr.cell? ⟨B, 1, none⟩ = some v := by rw [cell_of_row wr B 1 _ _ _ hBc]; rfl
                  have hos := hbo.size
                  obtain ⟨av, capv, rfl⟩ := own_slice hownv
                  by_cases hml : m < x0.length
                  · have hb3r : Below w3.heap.size w3 wr := hbl.trans (hbo.mono hsz)
                    have hml1 : m < x1.length := by rw [← Hab.out]; exact hml
                    obtain ⟨bu, ou, rfl, hbu, hcu⟩ := HXd.out.bytes (k := m) (by rw [shareOf_length]; exact hml)
                    obtain ⟨bz, oz, rfl, hbz, hcz⟩ := HYd.out.bytes (k := m) (by rw [shareOf_length]; exact hml1)
                    have hu := hcu m (by rw [shareOf_length]; exact hml)
                    have hz := hcz m (by rw [shareOf_length]; exact hml1)
                    have gu : (shareOf x0 x3 X).data[m]'(by rw [shareOf_length]; exact hml) = Gf.val (coefs x0 x3 m) X := by simp [shareOf]
                    have gz : (shareOf x1 x4 X).data[m]'(by rw [shareOf_length]; exact hml1) = Gf.val (coefs x1 x4 m) X := by simp [shareOf]
                    rw [gu] at hu
                    rw [gz] at hz
                    have hst := polySh_take x0.length (sumF x0 x1 x3 x4) X m hml
                    have hsu : sumF x0 x1 x3 x4 m X = Gf.add (Gf.val (coefs x0 x3 m) X) (Gf.val (coefs x1 x4 m) X) := rfl
                    rw [hsu] at hst
                    generalize Gf.val (coefs x0 x3 m) X = u at *
                    generalize Gf.val (coefs x1 x4 m) X = z at *
                    have Hst := Lib.hid hst
                    obtain ⟨W0, hW0⟩ : ∃ W0, W0 = wr := ⟨_, rfl⟩
                    have neB : some B ≠ (Value.slice av m capv).ownBlock := fun e => own_ne hownv (Nat.lt_succ_self B) B e.symm rfl
                    have hBo : wo.heap.size ≤ B := by rw [HB.out]; exact Nat.le_refl _
                    have d1 : wr.cell? ⟨bx, ox + k * 2 + 1, none⟩ = some (.slice (some ⟨bu, ou, none⟩) x0.length cx) := (hb3r.cell (p := ⟨bx, ox + k * 2 + 1, none⟩) hbx).trans HX1.out
                    have d2 : wr.cell? ⟨by_, oy + k * 2 + 1, none⟩ = some (.slice (some ⟨bz, oz, none⟩) x1.length cy) := (hb3r.cell (p := ⟨by_, oy + k * 2 + 1, none⟩) hby).trans HY1.out
                    have d3 : wr.cell? ⟨bu, ou + m, none⟩ = some (.int .u8 u.toNat) := (hb3r.cell (p := ⟨bu, ou + m, none⟩) hbu).trans hu
                    have d4 : wr.cell? ⟨bz, oz + m, none⟩ = some (.int .u8 z.toNat) := (hb3r.cell (p := ⟨bz, oz + m, none⟩) hbz).trans hz
                    have j0 : (0 : Int) ≤ (m : Int) := by omega
                    have j1 : (m : Int) < (x0.length : Int) := by omega
                    have j2 : (m : Int) < (x1.length : Int) := by omega
                    clear hst hsu gu gz hu hz hcu hcz hb3r f0
                    go_wp2
                    rw [← hW0] at cB1 cB0 hownv hBc hbo hbsz d1 d2 d3 d4 ⊢
                    clear hW0
                    have cA1 : (W0.drew.alloc (.cells #[.int .u8 (Gf.add u z).toNat] 5)).cell? ⟨B, 1, none⟩ = some (.slice av m capv) := (World.cell?_alloc_some _ _ _ (by rw [show W0.drew.cell? ⟨B, 1, none⟩ = _ from cB1] <;> rfl)).trans cB1
                    go_region_law
                      ((first
                        | (go_loud (refine stepApp1 30 5 (.int .u8 0) 1 Try.underlying30 info_u8 rfl (by omega) (by rfl) (.tmp 84) (.tmp 102) (by rfl) (B + 1) (.slice av m capv) m (((polySh x0.length (sumF x0 x1 x3 x4) X).data.take m).map vB) (by rfl) ((own_drew hownv).alloc _) ⟨W0.heap.size, 0, none⟩ 1 (.int .u8 (Gf.add u z).toNat) (by rfl) (by simp <;> done) rfl (by omega) (by simp <;> omega) _ rfl ?_; intro gA capA wA hownA hgrowA hatA hltA; have hBA := (hgrowA.block B (by simp <;> omega) neB).trans ((Below.heap_alloc W0.drew (.cells #[.int .u8 (Gf.add u z).toNat] 5) B hbsz).trans hBc); have hfA : wA.frozen? ⟨B, 1, none⟩ = false := (by simp [World.frozen?, hBA]); have hcA : wA.cell? ⟨B, 1, none⟩ = some (.slice av m capv) := (cell_of_row wA B 1 _ _ _ hBA).trans rfl))
                        | (refine stepCall2 12 Try.func12 (by kernel_rfl) (by kernel_rfl) (.tmp 92) (.tmp 100) #[5, 5] (by rfl) (by rfl) (.int .u8 u.toNat) (.int .u8 z.toNat) (by rfl) (by rfl) (Post := fun r wV => r = .int .u8 (Gf.add u z).toNat ∧ wV = W0.drew) ((Add_calls u z W0.drew).mono fun e wV h => ⟨_, h.1, rfl, h.2.symm⟩) ?_; rintro r wV ⟨rfl, rfl⟩)))
                    all_goals
                      have hbA : Below wo.heap.size wo wA := below_grow (hbo.drew.alloc (by simp; omega) _) ((own_base (own_drew hownv) (by omega)).alloc _) hgrowA (by simp; omega)
                      have hown3 := own_setOther hownA ⟨B, 1, none⟩ (.slice (some ⟨gA, 0, none⟩) (m + 1) capA) (own_ne hownA (Nat.lt_succ_self B))
                      have hb3 := hbA.setCell (p := ⟨B, 1, none⟩) hBo (.slice (some ⟨gA, 0, none⟩) (m + 1) capA)
                      have hB3 : (wA.setCell ⟨B, 1, none⟩ (.slice (some ⟨gA, 0, none⟩) (m + 1) capA)).heap[B]? = some (.cells #[.int .u8 X.toNat, .slice (some ⟨gA, 0, none⟩) (m + 1) capA] 36 (0, 0)) := by simp [World.setCell, Array.getElem?_modify, hBA]
                      clear hgrowA hatA hltA hownA hbA hBA hfA hcA cA1 cB0 cB1 hownv hBc d1 d2 d3 d4
                      go_wp2
                      go_roundw
                    all_goals first
                      | exact ⟨m + 1, _, by omega, by go_num, hB3, by rw [Hst.out, List.map_append]; exact hown3, hb3⟩
                      | (simp [intOf] <;> omega)
                  · obtain rfl : m = x0.length := by omega
                    rw [List.take_of_length_le (by rw [polySh_length]; omega)] at hownv
                    have hown2 := own_below hown hbo
                    have hA2 := hA.below hbo
                    go_wp2_with (at_builtin; refine appN 31 36 (.agg #[.int .u8 0, .slice none 0 0]) 2 32 Try.underlying31 info_share rfl (by omega) (by omega) rfl _ _ rfl w3.heap.size _ k cs rfl (hown2.alloc _) wr.heap.size 1 [.int .u8 X.toNat, .slice av x0.length capv] rfl rfl (two_cells (by simp) (by simp)) (by simp [Value.oneCell']) (by omega) (by simp; omega) _ rfl ?_; intro g cap w1' hown1 hgrow hat hlt1)
                    have hb1' : Below w3.heap.size w3 w1' := below_grow ((hbl.trans (hbo.mono hsz)).alloc (by omega) _) (hown2.alloc _) hgrow (by simp; omega)
                    have hpl : (polySh x0.length (sumF x0 x1 x3 x4) X).data.length = x0.length := polySh_length _ _ _
                    have hin : IsB (fun b e => e = 5 ∧ w3.heap.size ≤ b) wr (polySh x0.length (sumF x0 x1 x3 x4) X).data (.slice av x0.length capv) := (IsB.of_own hownv).mono fun b e _ h => ⟨h.1, by have h8 := HB.out; have h9 := h.2; omega⟩
                    have hA3 := ((hA2.snoc (s := polySh x0.length (sumF x0 x1 x3 x4) X) hin).alloc (.cells #[.int .u8 X.toNat, .slice av x0.length capv] 36)).grown hgrow (own_other (hown2.alloc _) (fun g e' _ h => by rw [h.1]; decide))
                    have hsx : vB (polySh x0.length (sumF x0 x1 x3 x4) X).at_ = .int .u8 X.toNat := rfl
                    have hst := ones_take n k (polySh x0.length (sumF x0 x1 x3 x4)) hkn
                    rw [hsx] at hA3
                    rw [← HXX.out] at hst
                    rw [← hst] at hA3
                    clear hgrow hat hlt1 hin hst hsx hown2 hA2 hownv hpl
                    go_wp2
                    go_roundw
                    case rel => exact ⟨k + 1, by omega, by go_num, ⟨_, hown1, hA3⟩, hb1'⟩
                    case measure => simp [intOf] <;> omega
              · obtain rfl : k = n := by omega
                have hbf : Below w.heap.size w wr := hb13.trans (hbl.mono hs13)
                obtain ⟨a16, cap16, rfl⟩ := own_slice hown
                have hcap := own_cap hown
                rw [List.take_of_length_le (by simp [ones])] at hA
                have hnd := ones_nodup k (by omega)
                have hne := ones_ne k (by omega)
                have hln := ones_length k
                have hj := join_poly x0.length (x3.length + 1) (sumF x0 x1 x3 x4) (sumF_poly x0 x1 x3 x4 Hpq.out) (ones k) hnd (by omega) (by omega)
                have hf := poly_fault x0.length (sumF x0 x1 x3 x4) (ones k) hnd hne k (by omega)
                have hh : (((ones k).map (polySh x0.length (sumF x0 x1 x3 x4))).headD default).data.length = x0.length := by
                  cases hq : ones k with
                  | nil => rw [hq] at hln; simp at hln; omega
                  | cons x xs => exact polySh_length _ _ _
                have hsl : ((ones k).map (polySh x0.length (sumF x0 x1 x3 x4))).length = k := by simp [hln]
                have JC := Join_calls ((ones k).map (polySh x0.length (sumF x0 x1 x3 x4))) k x0.length a16 cap16 36 cs wr (Rd.of_own hown) (hA.mono fun _ _ _ _ => trivial) hcap.1 hcap.2 (by omega) (by omega) (by omega) (by omega) hh (by omega)
                generalize (ones k).map (polySh x0.length (sumF x0 x1 x3 x4)) = ss at *
                clear hA hnd hne hln hh hsl hown
                go_wp2_with fail
                refine JC.mono ?_; rintro e w4 ⟨hb4, h4⟩
                rcases h4 with ⟨_, ga, gcap, rfl, gown⟩ | ⟨h4, _⟩
                · have hgl : (joinOf ss).length = x0.length := by rw [hj]; simp
                  have hgk : ∀ q, (h : q < x0.length) → (hj2 : q < (joinOf ss).length) → (joinOf ss)[q]'hj2 = Gf.add (x0[q]'h) (x1[q]'(by rw [← Hab.out]; exact h)) := by
                    intro q h hj2
                    simp only [hj, List.getElem_map, List.getElem_range, sumF_zero]
                    rw [List.getD_eq_getElem?_getD, List.getElem?_eq_getElem h, List.getD_eq_getElem?_getD, List.getElem?_eq_getElem (show q < x1.length by rw [← Hab.out]; exact h)]
                    rfl
                  have gr : Rd w4 ga 5 ((joinOf ss).map vB) := Rd.of_own gown
                  have Hgl := Lib.hid hgl
                  have Hgk := Lib.hid hgk
                  have hb14 := hbf.trans (hb4.mono hbf.size)
                  have r04 := r0.below hb14
                  have r14 := r1.below hb14
                  rw [hgl]
                  clear JC hj hf hgl hgk gown
                  go_wp2_with fail
                  obtain ⟨wo, rfl⟩ : ∃ wo : World, wo = w4 := ⟨_, rfl⟩
                  go_loopw [22] (fun i wr => ∃ m : Nat, m ≤ x0.length ∧ i = .int .i64 m ∧ Below wo.heap.size wo wr) (fun i _ => x0.length - (intOf i).toNat)
                  case atStart => exact ⟨0, Nat.zero_le _, rfl, Below.refl _ _⟩
                  case round =>
                    obtain ⟨m, hm, rfl, hbq⟩ := hrel
                    by_cases hml : m < x0.length
                    · have hml1 : m < x1.length := by rw [← Hab.out]; exact hml
                      obtain ⟨bg, og, rfl, hbg, hcg⟩ := gr.bytes (k := m) (by rw [Hgl.out]; exact hml)
                      obtain ⟨b0, o0, rfl, hb0, hc0⟩ := r04.bytes (k := m) hml
                      obtain ⟨b1, o1, rfl, hb1', hc1⟩ := r14.bytes (k := m) hml1
                      have d0 := (hbq.cell (p := ⟨bg, og + m, none⟩) hbg).trans (hcg m (by rw [Hgl.out]; exact hml))
                      have d1 := (hbq.cell (p := ⟨b0, o0 + m, none⟩) hb0).trans (hc0 m hml)
                      have d2 := (hbq.cell (p := ⟨b1, o1 + m, none⟩) hb1').trans (hc1 m hml1)
                      rw [Hgk.out m hml (by rw [Hgl.out]; exact hml)] at d0
                      generalize x0[m] = u at *
                      generalize x1[m]'hml1 = z at *
                      have AC : ∀ w : World, Calls Try.prog 12 #[.int .u8 u.toNat, .int .u8 z.toNat] w fun e w' => e = .returned (.int .u8 (Gf.add u z).toNat) ∧ ∃ n, w' = w.drewN n := fun w => (Add_calls u z w).mono fun e w' h => ⟨h.1, 0, by rw [← h.2]; rfl⟩
                      have t : (((Gf.add u z).toNat : Int) != ((Gf.add u z).toNat : Int)) = false := by simp
                      have j0 : (0 : Int) ≤ (m : Int) := by omega
                      have j1 : (m : Int) < (x0.length : Int) := by omega
                      have j2 : (m : Int) < (x1.length : Int) := by omega
                      clear hcg hc0 hc1
                      go_wp2_with fail
                      go_quiet ((go_at_call 12; exact Calls.quiet_of (AC _)))
                      go_wp2
                      go_round
                      case rel => exact ⟨m + 1, by omega, by go_num, below_drewN hbq _⟩
                      case measure => simp [intOf] <;> omega
                    · obtain rfl : m = x0.length := by omega
                      go_wp2
                      go_ret
                      exact ⟨rfl, hb14.trans (hbq.mono hb14.size)⟩
                · exact absurd hf h4
        · have q2 : ((x3.length : Int) != (x4.length : Int)) = true := by rw [bne_iff_ne]; omega
          clear hpq hab
          go_enter Try.func9, Try.ntmps9
          go_wp2_with fail
          refine (split_calls _).mono ?_; rintro e w1 ⟨rfl, hb1⟩
          go_wp2_with fail
          refine (CA _ (r0.below hb1) (r3.below hb1) (m3.below hb1)).mono ?_; rintro e w2 ⟨xa, xcap, xvs, rfl, hb2, _, _, xr, xA⟩
          clear CA
          have hb12 := hb1.trans (hb2.mono hb1.size)
          go_wp2_with fail
          refine (CB _ (r1.below hb12) (r4.below hb12) (m4.below hb12)).mono ?_; rintro e w3 ⟨ya, ycap, yvs, rfl, hb3, _, _, yr, yA⟩
          clear CB
          have hb13 := hb12.trans (hb3.mono hb12.size)
          go_wp2_with fail
          go_ret
          exact ⟨rfl, hb13⟩
      · have q1 : ((x0.length : Int) != (x1.length : Int)) = true := by rw [bne_iff_ne]; omega
        clear hab
        go_enter Try.func9, Try.ntmps9
        go_wp2_with fail
        refine (split_calls _).mono ?_; rintro e w1 ⟨rfl, hb1⟩
        go_wp2_with fail
        refine (CA _ (r0.below hb1) (r3.below hb1) (m3.below hb1)).mono ?_; rintro e w2 ⟨xa, xcap, xvs, rfl, hb2, _, _, xr, xA⟩
        clear CA
        have hb12 := hb1.trans (hb2.mono hb1.size)
        go_wp2_with fail
        refine (CB _ (r1.below hb12) (r4.below hb12) (m4.below hb12)).mono ?_; rintro e w3 ⟨ya, ycap, yvs, rfl, hb3, _, _, yr, yA⟩
        clear CB
        have hb13 := hb12.trans (hb3.mono hb12.size)
        go_wp2_with fail
        go_ret
        exact ⟨rfl, hb13⟩
    · have CB := fun w ha hb hv => Split_no hfb a1 c1 e1 a4 c4 e4 v4 w ha hb hv l1 l4
      clear hfb
      go_enter Try.func9, Try.ntmps9
      go_wp2_with fail
      refine (split_calls _).mono ?_; rintro e w1 ⟨rfl, hb1⟩
      go_wp2_with fail
      refine (CA _ (r0.below hb1) (r3.below hb1) (m3.below hb1)).mono ?_; rintro e w2 ⟨xa, xcap, xvs, rfl, hb2, _, _, xr, xA⟩
      clear CA
      have hb12 := hb1.trans (hb2.mono hb1.size)
      go_wp2_with fail
      refine (CB _ (r1.below hb12) (r4.below hb12) (m4.below hb12)).mono ?_; rintro e w3 ⟨rfl, hb3⟩
      clear CB
      have hb13 := hb12.trans (hb3.mono hb12.size)
      go_wp2_with fail
      go_ret
      exact ⟨rfl, hb13⟩
  · have CA := fun w ha hb hv => Split_no hfa a0 c0 e0 a3 c3 e3 v3 w ha hb hv l0 l3
    clear hfa
    by_cases hfb : splitF x1 a2 x4 = 0
    · have CB := fun w ha hb hv => Split_ok hfb a1 c1 e1 a4 c4 e4 v4 w ha hb hv l1 l4
      clear hfb
      go_enter Try.func9, Try.ntmps9
      go_wp2_with fail
      refine (split_calls _).mono ?_; rintro e w1 ⟨rfl, hb1⟩
      go_wp2_with fail
      refine (CA _ (r0.below hb1) (r3.below hb1) (m3.below hb1)).mono ?_; rintro e w2 ⟨rfl, hb2⟩
      clear CA
      have hb12 := hb1.trans (hb2.mono hb1.size)
      go_wp2_with fail
      refine (CB _ (r1.below hb12) (r4.below hb12) (m4.below hb12)).mono ?_; rintro e w3 ⟨ya, ycap, yvs, rfl, hb3, _, _, yr, yA⟩
      clear CB
      have hb13 := hb12.trans (hb3.mono hb12.size)
      go_wp2_with fail
      go_ret
      exact ⟨rfl, hb13⟩
    · have CB := fun w ha hb hv => Split_no hfb a1 c1 e1 a4 c4 e4 v4 w ha hb hv l1 l4
      clear hfb
      go_enter Try.func9, Try.ntmps9
      go_wp2_with fail
      refine (split_calls _).mono ?_; rintro e w1 ⟨rfl, hb1⟩
      go_wp2_with fail
      refine (CA _ (r0.below hb1) (r3.below hb1) (m3.below hb1)).mono ?_; rintro e w2 ⟨rfl, hb2⟩
      clear CA
      have hb12 := hb1.trans (hb2.mono hb1.size)
      go_wp2_with fail
      refine (CB _ (r1.below hb12) (r4.below hb12) (m4.below hb12)).mono ?_; rintro e w3 ⟨rfl, hb3⟩
      clear CB
      have hb13 := hb12.trans (hb3.mono hb12.size)
      go_wp2_with fail
      go_ret
      exact ⟨rfl, hb13⟩

set_option maxRecDepth 100000 in
theorem lifted (os : Os) (started : os.Started) (H : Type) (enc : TypeId × Value → H) :
    ReturnsInHanded {} Try.checked os 9 .any (Rows.shareSumsSpec.pre6 enc Try.prog Try.f9 Rows.shareSumsRow.domain false) (Rows.shareSumsSpec.post enc Try.prog Try.f9 false true false false) := by
  refine returnsInHanded_of_change (C := Try.checked) own started (by kernel_rfl) Try.func9
    (ChangeSpec.witness6 (enc := enc) (C := Try.checked) false ⟨#[], #[.slice none 0 0, .slice none 0 0, .int .i64 0, .slice none 0 0, .slice none 0 0], []⟩ 8 (by kernel_rfl) (by kernel_rfl) (by kernel_rfl) (by kernel_rfl)) ?_
  intro W base args ds gs before hval0 hW hcnd _
  have hval : ∀ (j : Nat) t v, Try.f9.params[j]? = some t → args[j]? = some v → Value.okWide Try.prog W .any base t v := hval0
  have hW' := hW
  obtain ⟨p, q, hA0, hV, rfl, hfz, hnd⟩ := hW
  have hA : DataW.TrodAll enc Try.prog W 0 (fun _ => true) true Try.f9.params.toList args.toList ds p := hA0
  rw [Try.params9] at hA hval
  obtain ⟨v0, vs0, d0, ds0, p0, q0, hargs, rfl, rfl, h0, r0⟩ := trodAll_cons hA
  obtain ⟨v1, vs1, d1, ds1, p1, q1, rfl, rfl, rfl, h1, r1⟩ := trodAll_cons r0
  obtain ⟨v2, vs2, d2, ds2, p2, q2, rfl, rfl, rfl, h2, r2⟩ := trodAll_cons r1
  obtain ⟨v3, vs3, d3, ds3, p3, q3, rfl, rfl, rfl, h3, r3⟩ := trodAll_cons r2
  obtain ⟨v4, vs4, d4, ds4, p4, q4, rfl, rfl, rfl, h4, r4⟩ := trodAll_cons r3
  obtain ⟨rfl, rfl, rfl⟩ := trodAll_nil r4
  obtain rfl : args = #[v0, v1, v2, v3, v4] := by cases args; simp_all
  obtain ⟨rfl, rfl⟩ := trodVars_none hV
  have k0 := h0
  have lt0 : ∀ x ∈ p0, x.block < W.heap.size := by obtain ⟨m, hm⟩ := k0; exact DataW.trod_lt m _ _ _ hm
  obtain ⟨x0, a0, c0, e0, rfl, l0, r_0⟩ := open_bytes Try.underlying30 Try.underlying5 (by kernel_rfl) (hval 0 30 v0 rfl rfl) h0
  have k1 := h1
  have lt1 : ∀ x ∈ p1, x.block < W.heap.size := by obtain ⟨m, hm⟩ := k1; exact DataW.trod_lt m _ _ _ hm
  obtain ⟨x1, a1, c1, e1, rfl, l1, r_1⟩ := open_bytes Try.underlying30 Try.underlying5 (by kernel_rfl) (hval 1 30 v1 rfl rfl) h1
  have k2 := h2
  have lt2 : ∀ x ∈ p2, x.block < W.heap.size := by obtain ⟨m, hm⟩ := k2; exact DataW.trod_lt m _ _ _ hm
  obtain ⟨a2, rfl, _, _, w2⟩ := open_int Try.underlying3 (hval 2 3 v2 rfl rfl) h2
  have b2 := bounds_i64 w2
  have k3 := h3
  have lt3 : ∀ x ∈ p3, x.block < W.heap.size := by obtain ⟨m, hm⟩ := k3; exact DataW.trod_lt m _ _ _ hm
  obtain ⟨x3, a3, c3, e3, u3, rfl, l3, r_3, m3⟩ := open_rows Try.underlying37 Try.underlying30 Try.underlying5 (by kernel_rfl) (by kernel_rfl) (hval 3 37 v3 rfl rfl) h3
  have k4 := h4
  have lt4 : ∀ x ∈ p4, x.block < W.heap.size := by obtain ⟨m, hm⟩ := k4; exact DataW.trod_lt m _ _ _ hm
  obtain ⟨x4, a4, c4, e4, u4, rfl, l4, r_4, m4⟩ := open_rows Try.underlying37 Try.underlying30 Try.underlying5 (by kernel_rfl) (by kernel_rfl) (hval 4 37 v4 rfl rfl) h4
  clear hA0 hval0
  refine (walk x0 a0 c0 e0 x1 a1 c1 e1 a2 x3 a3 c3 e3 u3 x4 a4 c4 e4 u4 W l0 r_0 l1 r_1 b2 l3 r_3 m3 l4 r_4 m4).mono fun e W' ⟨he, bel⟩ => ?_
  subst he
  exact ⟨_, rfl, _, _, _, [], _, [], hW', trodAll_mk1 (shut_bool Try.underlying4 _), (trodAll_cons_mk (Below.trod laidOut (by kernel_rfl) (of_decide_eq_true (by kernel_rfl)) k0 bel lt0) (trodAll_cons_mk (Below.trod laidOut (by kernel_rfl) (of_decide_eq_true (by kernel_rfl)) k1 bel lt1) (trodAll_cons_mk (Below.trod laidOut (by kernel_rfl) (of_decide_eq_true (by kernel_rfl)) k2 bel lt2) (trodAll_cons_mk (Below.trod laidOut (by kernel_rfl) (of_decide_eq_true (by kernel_rfl)) k3 bel lt3) (trodAll_cons_mk (Below.trod laidOut (by kernel_rfl) (of_decide_eq_true (by kernel_rfl)) k4 bel lt4) trodAll_mk0))))), rfl, bel.frame _, fun h => by cases h⟩

theorem over : Rows.shareSumsRow.holds Try.pinned (OpenSpec.ofChange Rows.shareSumsSpec) :=
  OpenClaim.holds_of_wide 9 Try.f9 rfl rfl rfl rfl rfl rfl rfl ⟨rfl, rfl, rfl, rfl, rfl⟩ rfl rfl rfl rfl rfl (by kernel_rfl) Try.func9 (by kernel_rfl)
    (of_decide_eq_true (by kernel_rfl)) (by unfold Func.isWrapper; first | (rw [if_pos (by decide +kernel)]; kernel_rfl) | (rw [if_neg (by decide +kernel)]; exact ⟨rfl, rfl⟩))
    (fun os started H enc _ => lifted os started H enc)

theorem proved : Rows.ShareSumsSaid := over
#print axioms proved
end shareSums
end Go.Proofs.Ytalbmcidlalicaa
