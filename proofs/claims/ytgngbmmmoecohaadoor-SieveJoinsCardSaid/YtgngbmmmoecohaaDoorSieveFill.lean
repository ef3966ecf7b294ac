/- Walks: the law's 'filled': a sieve to which rows are added, one behind the other. -/
import Derived.Test.YtgngbmmmoecohaaDoorSieveJoin
namespace Go.Proofs.YtgngbmmmoecohaaDoor
open Go.RowKit Go.Shelf
set_option linter.unusedVariables false
set_option linter.unusedSimpArgs false
/-- rows of bytes, where they lie -/
structure RowsZ (w : World) (a : Option Addr) (e : Nat) (vs : List Value) (bs : List (List UInt8)) : Prop where
  rr : Rd w a e vs
  ar : AreB (fun _ _ => True) w bs vs
  sz : ∀ i, (h : i < bs.length) → bs[i].length ≤ 140737488351232
theorem RowsZ.below {w w' : World} {a : Option Addr} {e : Nat} {vs : List Value} {bs : List (List UInt8)} (h : RowsZ w a e vs bs) (hb : Below w.heap.size w w') : RowsZ w' a e vs bs := ⟨h.rr.below hb, h.ar.below hb, h.sz⟩
theorem rd_apart {w : World} {a : Option Addr} {e H T L c : Nat} {x : List UInt8} {q : Option Addr} {k : Int} {fr : Nat × Nat} (h : Rd w a e (x.map vB)) (hx : 0 < x.length) (g : w.heap[H]? = some (.cells #[.slice q L c, .int .i64 k] T fr)) : ∀ z, a = some z → z.block ≠ H := by
  intro z hz hzH
  obtain ⟨b, o, ha, _, hc⟩ := h.bytes hx
  rw [hz] at ha
  cases ha
  have h1 := hc 0 hx
  simp only at hzH
  subst hzH
  rw [cell_of_row _ _ _ _ _ _ g] at h1
  rcases o with _ | _ | o
  · simp at h1
  · simp at h1
  · simp at h1
theorem fillB_take (K : Nat) (x : List UInt8) (bs : List (List UInt8)) (k : Nat) (hk : k < bs.length) : fillB K x (bs.take (k + 1)) = addAll (fillB K x (bs.take k)) (placesOf x.length K bs[k]) := by
  rw [List.take_succ_eq_append_getElem hk, fillB_snoc]
set_option maxRecDepth 100000 in
set_option maxHeartbeats 8000000 in
theorem Filled_calls (x : List UInt8) (hL0 : 0 < x.length) (hL : x.length ≤ 1024) (K : Nat) (hK1 : 1 ≤ K) (hK : K ≤ 8) (bs : List (List UInt8)) (hn : bs.length ≤ 30) (a : Option Addr) (c e : Nat) (ra : Option Addr) (rc re : Nat) (vs : List Value) (w : World) (h : Rd w a e (x.map vB)) (hr : RowsZ w ra re vs bs) (hro : RoundsAt w) :
    Calls Tryd.prog 21 #[.agg #[.slice a x.length c, .int .i64 (K : Int)], .slice ra bs.length rc] w fun e w' => ∃ a' c' e', e = .returned (.tuple #[.agg #[.slice a' x.length c', .int .i64 (K : Int)], .bool true]) ∧ Rd w' a' e' ((fillB K x bs).map vB) ∧ Below w.heap.size w w' := by
  obtain ⟨H, hH⟩ : ∃ H, H = w.heap.size := ⟨_, rfl⟩
  obtain ⟨w0, hw0⟩ : ∃ z, z = w.alloc (.cells #[.slice a x.length c, .int .i64 (K : Int)] 33) := ⟨_, rfl⟩
  obtain ⟨w1, hw1⟩ : ∃ z, z = w0.alloc (.cells #[.slice none 0 0, .int .i64 0] 33) := ⟨_, rfl⟩
  have q0 : w0.heap.size = H + 1 := by rw [hw0, hH]; exact World.size_alloc _ _
  have q1 : w1.heap.size = H + 1 + 1 := by rw [hw1, World.size_alloc, q0]
  have b0 : Below H w w0 := by rw [hw0, hH]; exact (Below.refl _ _).alloc (Nat.le_refl _) _
  have b01 : Below (H + 1) w0 w1 := by rw [hw1, ← q0]; exact (Below.refl _ _).alloc (Nat.le_refl _) _
  have b1 : Below H w w1 := b0.trans (b01.mono (by omega))
  have g0 : w1.heap[H]? = some (.cells #[.slice a x.length c, .int .i64 (K : Int)] 33 (0, 0)) := by
    have g : w0.heap[H]? = some (.cells #[.slice a x.length c, .int .i64 (K : Int)] 33 (0, 0)) := by rw [hw0, hH]; exact heap_alloc_new _ _
    exact (b01.block _ (by omega)).trans g
  have g1 : w1.heap[H + 1]? = some (.cells #[.slice none 0 0, .int .i64 0] 33 (0, 0)) := by rw [hw1, ← q0]; exact heap_alloc_new _ _
  have hb1w : Below w.heap.size w w1 := by rw [← hH]; exact b1
  have HRD := Lib.hid (h.below hb1w)
  have HRZ := Lib.hid hr
  have HRO := Lib.hid hro
  have HW0 := Lib.hid hw0
  have HW1 := Lib.hid hw1
  have HH := Lib.hid hH
  have B1 := Lib.hid b1
  have G0 := Lib.hid g0
  have G1 := Lib.hid g1
  have Q1 := Lib.hid q1
  clear q0 q1 b0 b01 b1 g0 g1 hb1w hw0 hw1 hH h hr hro
  go_enter Tryd.func21, Tryd.ntmps21
  go_upto_region 1 with fail
  rw [← HH.out, ← HW0.out, ← HW1.out]
  go_wp2_with fail
  go_loopw [6] (fun i wr => ∃ (k : Nat) (ak : Option Addr) (ck ek : Nat), k ≤ bs.length ∧ i = .int .i64 k ∧ wr.heap[H]? = some (.cells #[.slice ak x.length ck, .int .i64 (K : Int)] 33 (0, 0)) ∧ Rd wr ak ek ((fillB K x (bs.take k)).map vB) ∧ wr.heap[H + 1]? = some (.cells #[.slice none 0 0, .int .i64 0] 33 (0, 0)) ∧ H + 1 < wr.heap.size ∧ Below H w wr) (fun i _ => bs.length - (intOf i).toNat)
  case atStart => exact ⟨0, a, c, e, Nat.zero_le _, rfl, G0.out, HRD.out, G1.out, by rw [Q1.out]; omega, B1.out⟩
  case round =>
    obtain ⟨k, ak, ck, ek, hk, rfl, gH, hrd, gH1, hsz, hbl⟩ := hrel
    obtain ⟨wA, rfl⟩ : ∃ z, z = wr := ⟨_, rfl⟩
    have hfl := fillB_length K (bs.take k) x
    have c0 : wA.cell? ⟨H, 0, none⟩ = some (.slice ak x.length ck) := by rw [cell_of_row _ _ _ _ _ _ gH]; rfl
    have c1 : wA.cell? ⟨H, 1, none⟩ = some (.int .i64 (K : Int)) := by rw [cell_of_row _ _ _ _ _ _ gH]; rfl
    by_cases hlt : k < bs.length
    · have hz : (k : Int) < (bs.length : Int) := by omega
      have hz0 : (0 : Int) ≤ (k : Int) := by omega
      have hzA := HRZ.out.below (show Below w.heap.size w wA by rw [← HH.out]; exact hbl)
      have hvl : k < vs.length := by have := hzA.ar.1; omega
      obtain ⟨rb, ro, hrb, hrbl, hrc⟩ := hzA.rr.cell hvl
      subst hrb
      have cr := hrc k hvl
      obtain ⟨ba, bc, be, hv, hbr, _, _⟩ := hzA.ar.2 k hlt hvl
      rw [hv] at cr
      have hbz := hzA.sz k hlt
      obtain ⟨bk, hbk⟩ : ∃ z, z = bs[k] := ⟨_, rfl⟩
      rw [← hbk] at cr hbr hbz
      have hat : SvAt wA ak ck ek (fillB K x (bs.take k)) ba bc be bk := ⟨hrd, hbr, HRO.out.at_ (by rw [← HH.out]; exact hbl)⟩
      have CA : ∀ W : World, Below wA.heap.size wA W → Calls Tryd.prog 30 #[.agg #[.slice ak x.length ck, .int .i64 (K : Int)], .slice ba bk.length bc] W fun e w' => ∃ a' c' e', e = .returned (.tuple #[.agg #[.slice a' x.length c', .int .i64 (K : Int)], .nilIface]) ∧ Hid (Rd w' a' e' ((fillB K x (bs.take (k + 1))).map vB) ∧ Below W.heap.size W w') := fun W hW => by
        have := Add_ok (fillB K x (bs.take k)) (by rw [hfl]; exact hL0) (by rw [hfl]; exact hL) K hK1 hK bk hbz ak ck ek ba bc be W (hat.below hW)
        rw [hfl, hbk, ← fillB_take K x bs k hlt, ← hbk] at this
        exact this.mono fun e w' ⟨a', c', e', h1, h2, h3⟩ => ⟨a', c', e', h1, Lib.hid ⟨h2, h3⟩⟩
      have HCA := Lib.hid CA
      have HGH := Lib.hid gH
      have HG1 := Lib.hid gH1
      have HBL := Lib.hid hbl
      have HBK := Lib.hid hbk
      clear gH gH1 hbl hat CA hzA hrd hbr hbz hrc hfl hbk
      go_upto_region 4 with fail
      have hHA : H < wA.heap.size := by omega
      have HSR : ∀ W : World, wA.heap[H]? = W.heap[H]? → True := fun _ _ => trivial
      clear HSR
      refine Code.wp_mono (Q := Exit.then (fun a9 wx => ∃ (V : Nat) (a' : Option Addr) (c' e' : Nat), a9 = { tmps := #[.agg #[.slice a x.length c, .int .i64 (K : Int)], .slice (some ⟨rb, ro, none⟩) bs.length rc, .pointer (some ⟨H, 0, none⟩), undef, .pointer (some ⟨H + 1, 0, none⟩), u5, .int .i64 (k : Int), .pointer (some ⟨V, 0, none⟩), .nilIface, .int .i64 (k : Int), .slice (some ⟨rb, ro, none⟩) bs.length rc, .int .i64 (bs.length : Int), .bool true, u13, u14, .tuple #[.agg #[.slice a' x.length c', .int .i64 (K : Int)], .nilIface], .agg #[.slice ak x.length ck, .int .i64 (K : Int)], .slice (some ⟨rb, ro, none⟩) bs.length rc, .int .i64 (k : Int), .pointer (some ⟨rb, ro + k, none⟩), .slice ba bk.length bc, .tuple #[.agg #[.slice a' x.length c', .int .i64 (K : Int)], .nilIface], .agg #[.slice a' x.length c', .int .i64 (K : Int)], .nilIface, u24, u25, u26, u27, undef], defers := [] }
          ∧ wA.heap.size ≤ V ∧ wx.heap[V]? = some (.cells #[.slice a' x.length c', .int .i64 (K : Int)] 33 (0, 0)) ∧ Rd wx a' e' ((fillB K x (bs.take (k + 1))).map vB) ∧ Below wA.heap.size wA wx) (fun _ _ _ => False)) ?rest ?first
      case first =>
        have hA1 : Hid (Below wA.heap.size wA wA.drew) := Lib.hid ((Below.refl _ _).drew)
        have hA2 : Hid (Below wA.heap.size wA (wA.alloc (.cells #[.slice none 0 0, .int .i64 0] 33)).drew) := Lib.hid (((Below.refl _ _).alloc (Nat.le_refl _) _).drew)
        have kA : ∀ W : World, Below wA.heap.size wA W → W.cell? ⟨H, 0, none⟩ = some (.slice ak x.length ck) ∧ W.cell? ⟨H, 1, none⟩ = some (.int .i64 (K : Int)) ∧ W.cell? ⟨rb, ro + k, none⟩ = some (.slice ba bk.length bc) := fun W hW => ⟨(hW.cell (p := ⟨H, 0, none⟩) hHA).trans c0, (hW.cell (p := ⟨H, 1, none⟩) hHA).trans c1, (hW.cell (p := ⟨rb, ro + k, none⟩) hrbl).trans cr⟩
        obtain ⟨k0, k1, k2⟩ := kA _ ((Below.refl _ _).alloc (Nat.le_refl _) (.cells #[.slice none 0 0, .int .i64 0] 33))
        clear kA
        have HA : Hid (Calls Tryd.prog 30 #[.agg #[.slice ak x.length ck, .int .i64 (K : Int)], .slice ba bk.length bc] wA.drew fun e w' => ∃ a' c' e', e = .returned (.tuple #[.agg #[.slice a' x.length c', .int .i64 (K : Int)], .nilIface]) ∧ Hid (Rd w' a' e' ((fillB K x (bs.take (k + 1))).map vB) ∧ Below wA.heap.size wA w')) := Lib.hid ((HCA.out _ hA1.out).mono fun e w' ⟨a', c', e', h1, h2⟩ => ⟨a', c', e', h1, Lib.hid ⟨h2.out.1, hA1.out.trans h2.out.2⟩⟩)
        have HB : Hid (Calls Tryd.prog 30 #[.agg #[.slice ak x.length ck, .int .i64 (K : Int)], .slice ba bk.length bc] (wA.alloc (.cells #[.slice none 0 0, .int .i64 0] 33)).drew fun e w' => ∃ a' c' e', e = .returned (.tuple #[.agg #[.slice a' x.length c', .int .i64 (K : Int)], .nilIface]) ∧ w'.cell? ⟨wA.heap.size, 0, none⟩ = some (.slice none 0 0) ∧ w'.cell? ⟨wA.heap.size, 1, none⟩ = some (.int .i64 0) ∧ w'.frozen? ⟨wA.heap.size, 0, none⟩ = false ∧ w'.frozen? ⟨wA.heap.size, 1, none⟩ = false ∧ Hid (w'.heap[wA.heap.size]? = some (.cells #[.slice none 0 0, .int .i64 0] 33) ∧ Rd w' a' e' ((fillB K x (bs.take (k + 1))).map vB) ∧ Below wA.heap.size wA w')) := Lib.hid ((HCA.out _ hA2.out).mono fun e w' ⟨a', c', e', h1, h2⟩ => by
          have g : w'.heap[wA.heap.size]? = some (.cells #[.slice none 0 0, .int .i64 0] 33 (0, 0)) := (h2.out.2.block wA.heap.size (by rw [World.size_drew, World.size_alloc]; omega)).trans (heap_alloc_new _ _)
          exact ⟨a', c', e', h1, by rw [cell_of_row _ _ _ _ _ _ g]; rfl, by rw [cell_of_row _ _ _ _ _ _ g]; rfl, frozen_of_row _ _ _ _ _ g, frozen_of_row _ _ _ _ _ g, Lib.hid ⟨g, h2.out.1, hA2.out.trans (h2.out.2.mono (by rw [World.size_drew, World.size_alloc]; omega))⟩⟩)
        clear hA1 hA2 HCA
        go_region_with (go_at_call 30; first | (with_reducible refine HA.out.mono ?_; rintro e4 wq ⟨a', c', e', rfl, HOB⟩) | (with_reducible refine HB.out.mono ?_; rintro e4 wq ⟨a', c', e', rfl, m0, m1, m2, m3, HOB⟩))
        all_goals first
          | (obtain ⟨hr1, hb1⟩ := HOB.out
             exact ⟨_, a', c', e', rfl, hb1.size, heap_alloc_new _ _, hr1.alloc _, hb1.alloc hb1.size _⟩)
          | (obtain ⟨hg, hr1, hb1⟩ := HOB.out
             exact ⟨_, a', c', e', rfl, Nat.le_refl _, heap_set_one (i := 1) (heap_set_one (i := 0) hg _) _, (hr1.setCell ⟨wA.heap.size, 0, none⟩ _ (rd_apart hr1 (by rw [fillB_length]; exact hL0) hg)).setCell ⟨wA.heap.size, 1, none⟩ _ (rd_apart hr1 (by rw [fillB_length]; exact hL0) hg), (hb1.setCell (p := ⟨wA.heap.size, 0, none⟩) (Nat.le_refl _) _).setCell (p := ⟨wA.heap.size, 1, none⟩) (Nat.le_refl _) _⟩)
      case rest =>
        rintro e9 a9 wx hQ
        cases e9 with
        | normal =>
          obtain ⟨V, a', c', e', rfl, hVA, gV, hrx, hbx⟩ := hQ
          have v0 : wx.cell? ⟨V, 0, none⟩ = some (.slice a' x.length c') := by rw [cell_of_row _ _ _ _ _ _ gV]; rfl
          have v1 : wx.cell? ⟨V, 1, none⟩ = some (.int .i64 (K : Int)) := by rw [cell_of_row _ _ _ _ _ _ gV]; rfl
          have gHx := (hbx.block H hHA).trans HGH.out
          have o0 : wx.cell? ⟨H, 0, none⟩ = some (.slice ak x.length ck) := by rw [cell_of_row _ _ _ _ _ _ gHx]; rfl
          have o1 : wx.cell? ⟨H, 1, none⟩ = some (.int .i64 (K : Int)) := by rw [cell_of_row _ _ _ _ _ _ gHx]; rfl
          have p0 : wx.frozen? ⟨H, 0, none⟩ = false := frozen_of_row _ _ _ _ _ gHx
          have p1 : wx.frozen? ⟨H, 1, none⟩ = false := frozen_of_row _ _ _ _ _ gHx
          have HGX := Lib.hid gHx
          have HRX := Lib.hid hrx
          have HBX := Lib.hid hbx
          have e4 : IntKind.i64.wrap ((k : Int) + 1) = (k : Int) + 1 := IntWalk.i64_in _ (by omega)
          clear gHx hrx hbx gV HCA c0 c1 cr
          go_wp2_with fail
          have ha := rd_apart HRX.out (by rw [fillB_length]; exact hL0) HGX.out
          go_roundw
          case rel => exact ⟨k + 1, a', c', e', by omega, by go_num, heap_set_one (i := 1) (heap_set_one (i := 0) HGX.out _) _, (HRX.out.setCell ⟨H, 0, none⟩ _ ha).setCell ⟨H, 1, none⟩ _ ha, ((Below.heap_setCell _ _ _ _ (by show H + 1 ≠ H; omega)).trans (Below.heap_setCell _ _ _ _ (by show H + 1 ≠ H; omega))).trans ((HBX.out.block (H + 1) hsz).trans HG1.out), by simp only [World.setCell, Array.size_modify]; exact Nat.lt_of_lt_of_le hsz HBX.out.size, ((HBL.out.trans (HBX.out.mono (by omega))).setCell (p := ⟨H, 0, none⟩) (Nat.le_refl H) _).setCell (p := ⟨H, 1, none⟩) (Nat.le_refl H) _⟩
          case measure => simp [intOf]; omega
        | _ => exact hQ.elim
    · obtain rfl : k = bs.length := by omega
      rw [List.take_of_length_le (Nat.le_refl _)] at hrd
      have r0 : wA.cell? ⟨H + 1, 0, none⟩ = some (.slice none 0 0) := by rw [cell_of_row _ _ _ _ _ _ gH1]; rfl
      have r1 : wA.cell? ⟨H + 1, 1, none⟩ = some (.int .i64 0) := by rw [cell_of_row _ _ _ _ _ _ gH1]; rfl
      have t0 : wA.frozen? ⟨H + 1, 0, none⟩ = false := frozen_of_row _ _ _ _ _ gH1
      have t1 : wA.frozen? ⟨H + 1, 1, none⟩ = false := frozen_of_row _ _ _ _ _ gH1
      have HRX := Lib.hid hrd
      have HG1 := Lib.hid gH1
      have HBL := Lib.hid hbl
      clear hrd gH1 hbl gH
      go_wp2_with fail
      have g1 := heap_set_one (i := 1) (heap_set_one (i := 0) HG1.out (.slice ak x.length ck)) (.int .i64 (K : Int))
      have m1 : ((wA.setCell ⟨H + 1, 0, none⟩ (.slice ak x.length ck)).setCell ⟨H + 1, 1, none⟩ (.int .i64 (K : Int))).cell? ⟨H + 1, 0, none⟩ = some (.slice ak x.length ck) := by rw [cell_of_row _ _ _ _ _ _ g1]; rfl
      have m2 : ((wA.setCell ⟨H + 1, 0, none⟩ (.slice ak x.length ck)).setCell ⟨H + 1, 1, none⟩ (.int .i64 (K : Int))).cell? ⟨H + 1, 1, none⟩ = some (.int .i64 (K : Int)) := by rw [cell_of_row _ _ _ _ _ _ g1]; rfl
      have ha := rd_apart HRX.out (by rw [fillB_length]; exact hL0) HG1.out
      have HM := Lib.hid (And.intro ((HRX.out.setCell ⟨H + 1, 0, none⟩ (.slice ak x.length ck) ha).setCell ⟨H + 1, 1, none⟩ (.int .i64 (K : Int)) ha) ((HBL.out.setCell (p := ⟨H + 1, 0, none⟩) (by show H ≤ H + 1; omega) (.slice ak x.length ck)).setCell (p := ⟨H + 1, 1, none⟩) (by show H ≤ H + 1; omega) (.int .i64 (K : Int))))
      clear HRX HG1 HBL g1 ha
      refine bodyPost_ret (v := .tuple #[.agg #[.slice ak x.length ck, .int .i64 (K : Int)], .bool true]) (by simp [results, Tryd.f21, go_sem, m1, m2]) rfl ?_
      exact ⟨ak, ck, ek, rfl, HM.out.1, by rw [← HH.out]; exact HM.out.2⟩
end Go.Proofs.YtgngbmmmoecohaaDoor
