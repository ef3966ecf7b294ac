/- Walk: share.Join tells the secret of shares. -/
import Derived.Test.YtalbmcidlalicaaDoorGather
namespace Go.Proofs.YtalbmcidlalicaaDoor
open Go.RowKit
set_option linter.unusedVariables false

/-- what is told of shares -/
def joinOf (ss : List Sh) : List UInt8 := thrus (ss.map (·.at_)) (ss.map (·.data)) 0

def JoinPost (w : World) (ss : List Sh) (k : Nat) (e : Ending) (w' : World) : Prop :=
  Below w.heap.size w w' ∧ ((sharesF 1 255 ss k = 0 ∧ ∃ a cap, e = .returned (.tuple #[.slice a (joinOf ss).length cap, .nilIface]) ∧ w'.ownsRow w.heap.size 5 1 (.slice a (joinOf ss).length cap) (joinOf ss).length ((joinOf ss).map vB)) ∨
    (sharesF 1 255 ss k ≠ 0 ∧ e = .returned (.tuple #[.slice none 0 0, .iface 23 (.int .i64 (sharesF 1 255 ss k))])))

set_option maxHeartbeats 4000000 in
theorem Join_calls (ss : List Sh) (k L : Nat) (a : Option Addr) (ca ea : Nat) (vs : List Value) (w : World) (hr : Rd w a ea vs) (hs : AreS (fun _ _ => True) w ss vs) (hc : k ≤ ca) (hc2 : ca ≤ 9223372036854775807)
    (h1 : 1 ≤ k) (h2 : k ≤ 20) (h3 : k ≤ ss.length) (h3' : ss.length ≤ k) (hL0 : (ss.headD default).data.length = L) (hL : L ≤ 140737488355328) :
    Calls Tryd.prog 24 #[.slice a k ca] w (JoinPost w ss k) := by
  obtain ⟨b, o, a0, c0, e0, rfl, hb, hx0, hx1, _, _, _⟩ := AreS.cells hr hs (k := 0) (by omega)
  have h0L : (ss[0]'(by omega)).data.length = L := by rw [← hL0]; cases ss with | nil => simp at h3; omega | cons r rs => rfl
  rw [h0L] at hx1
  simp only [Nat.mul_zero, Nat.add_zero, Nat.zero_add] at hx1 hx0
  have Hs := Lib.hid hs
  have HL0 := Lib.hid hL0
  clear h0L hx0
  have i1 : (0 : Int) < (k : Int) := by omega
  have i3 : 0 < k := by omega
  have q1 : decide ((k : Int) < 1) = false := by rw [decide_eq_false]; omega
  have q2 : decide ((20 : Int) < (k : Int)) = false := by rw [decide_eq_false]; omega
  go_enter Tryd.func24, Tryd.ntmps24
  go_wp2
  go_loopw [4, 5, 19] (fun v6 v7 i wr => ∃ m : Nat, m ≤ k ∧ i = .int .i64 m ∧ wr.ownsRow w.heap.size 5 1 v6 m (((ss.take m).map (·.at_)).map vB) ∧ wr.ownsRow w.heap.size 33 1 v7 m ((List.range m).map fun i => vs.getD (2 * i + 1) undef) ∧ Below w.heap.size w wr ∧ sharesF 1 255 ss m = 0) (fun _ _ i _ => k - (intOf i).toNat)
  case atStart => exact ⟨0, Nat.zero_le _, rfl, World.ownsRow_nil _ _ _ _, World.ownsRow_nil _ _ _ _, Below.refl _ _, rfl⟩
  case round =>
    obtain ⟨m, hm, rfl, hown6, hown7, hbl, hf⟩ := hrel
    have Hf := Lib.hid hf
    clear hf
    have hsz := hbl.size
    by_cases hlt : m < k
    · obtain ⟨b', o', am, cm, em, hab, _, hm0, hm1, hrm, _, hml⟩ := AreS.cells hr Hs.out (k := m) (by omega)
      simp only [Option.some.injEq, Addr.mk.injEq, and_true] at hab
      obtain ⟨rfl, rfl⟩ := hab
      have e2 : o + 2 * m = o + m * 2 := by omega
      have e3 : o + (2 * m + 1) = o + m * 2 + 1 := by omega
      rw [e2] at hm0
      rw [e3] at hm1
      have cx0 : wr.cell? ⟨b, o + m * 2, none⟩ = some (.int .u8 ((ss[m]'(by omega)).at_.toNat : Int)) := (hbl.cell (p := ⟨b, o + m * 2, none⟩) hb).trans hm0
      have cx1 : wr.cell? ⟨b, o + m * 2 + 1, none⟩ = some (.slice am (ss[m]'(by omega)).data.length cm) := (hbl.cell (p := ⟨b, o + m * 2 + 1, none⟩) hb).trans hm1
      have cy1 : wr.cell? ⟨b, o + 1, none⟩ = some (.slice a0 L c0) := (hbl.cell (p := ⟨b, o + 1, none⟩) hb).trans hx1
      have hvm : vs.getD (2 * m + 1) undef = .slice am (ss[m]'(by omega)).data.length cm := by
        have l2 : 2 * m + 1 < vs.length := by rw [Hs.out.1]; omega
        obtain ⟨b'', o'', hab', _, hcc⟩ := hr.cell l2
        simp only [Option.some.injEq, Addr.mk.injEq, and_true] at hab'
        obtain ⟨rfl, rfl⟩ := hab'
        have h9 := hcc _ l2
        rw [e3, hm1] at h9
        rw [List.getD_eq_getElem?_getD, List.getElem?_eq_getElem l2]
        exact (Option.some.inj h9).symm
      have hget : ss.getD m default = ss[m]'(by omega) := by rw [List.getD_eq_getElem?_getD, List.getElem?_eq_getElem (by omega)]; rfl
      have Hvm := Lib.hid hvm
      have Hget := Lib.hid hget
      clear hm0 hm1 e2 e3 hvm hget
      obtain ⟨s, hs'⟩ : ∃ s, s = ss[m]'(by omega) := ⟨_, rfl⟩
      rw [← hs'] at cx0 cx1 Hvm Hget
      have HS := Lib.hid hs'
      clear hs' hrm
      obtain ⟨a6, cap6, rfl⟩ := own_slice hown6
      obtain ⟨a7, cap7, rfl⟩ := own_slice hown7
      have CC := fun w h => Contains_at ((ss.take m).map (·.at_)) s.at_ m (by simp; omega) a6 cap6 5 w h (by simp; omega)
      have cz1 : (wr.alloc (.cells #[.int .u8 s.at_.toNat, .slice am s.data.length cm] 49)).cell? ⟨b, o + 1, none⟩ = some (.slice a0 L c0) := (World.cell?_alloc_some _ _ _ (by rw [cy1]; rfl)).trans cy1
      obtain ⟨twice, ht⟩ : ∃ t, t = decide (s.at_ ∈ (ss.take m).map (·.at_)) := ⟨_, rfl⟩
      rw [← ht] at CC
      have Ht := Lib.hid ht
      clear ht
      have hb1 : Below w.heap.size w (wr.alloc (.cells #[.int .u8 s.at_.toNat, .slice am s.data.length cm] 49)) := hbl.alloc hsz _
      have stop : ∀ c : Int, c ≠ 0 → faultAt 1 255 ss m = c → sharesF 1 255 ss k = c := by
        intro c hc0 hfa
        have e1 : sharesF 1 255 ss (m + 1) = c := by simp only [sharesF]; rw [if_neg (by simpa using Hf.out), hfa]
        rw [sharesF_stop (n := m + 1) (by rw [e1]; exact hc0) (by omega), e1]
      have Stop := Lib.hid stop
      clear stop
      by_cases g1 : s.at_.toNat = 0
      · have t1 : ((s.at_.toNat : Int) == 0) = true := by rw [beq_iff_eq]; omega
        have hk := Stop.out 2 (by decide) (by unfold faultAt; rw [Hget.out, if_pos (by omega)])
        have Hk := Lib.hid hk
        clear hk
        go_wp2
        go_ret2
        exact ⟨by simpa [g1] using hb1, .inr ⟨by rw [Hk.out]; decide, by rw [Hk.out]; rfl⟩⟩
      · have t1 : ((s.at_.toNat : Int) == 0) = false := by rw [beq_eq_false_iff_ne]; omega
        have g0 : s.at_.toNat < 256 := UInt8.toNat_lt _
        cases twice with
        | true =>
          have hk := Stop.out 7 (by decide) (by unfold faultAt; rw [Hget.out, if_neg (by omega), if_pos (of_decide_eq_true Ht.out.symm)])
          have Hk := Lib.hid hk
          clear hk
          go_wp2_with fail
          refine (CC _ ((Rd.of_own hown6).alloc _)).mono ?_; rintro e w1 ⟨rfl, rfl⟩
          go_wp2_with fail
          go_ret2
          exact ⟨hb1, .inr ⟨by rw [Hk.out]; decide, by rw [Hk.out]; rfl⟩⟩
        | false =>
          by_cases g3 : s.data.length = L
          · have t3 : ((s.data.length : Int) != (L : Int)) = false := by rw [bne_eq_false_iff_eq]; omega
            have hfa : sharesF 1 255 ss (m + 1) = 0 := by
              simp only [sharesF]; rw [if_neg (by simpa using Hf.out)]
              unfold faultAt
              rw [Hget.out, if_neg (by omega), if_neg (of_decide_eq_false Ht.out.symm), if_neg (by rw [HL0.out]; simpa using g3)]
            have Hfa := Lib.hid hfa
            have G3 := Lib.hid g3
            clear hfa g3
            go_wp2_with fail
            refine (CC _ ((Rd.of_own hown6).alloc _)).mono ?_; rintro e w1 ⟨rfl, rfl⟩
            clear CC
            go_wp2_with fail
            go_quiet (fail)
            go_wp2
            obtain ⟨W0, hW0⟩ : ∃ W0, (wr.alloc (.cells #[.int .u8 s.at_.toNat, .slice am s.data.length cm] 49)).drewN nq = W0 := ⟨_, rfl⟩
            obtain ⟨B, hB⟩ : ∃ B, wr.heap.size = B := ⟨_, rfl⟩
            have hWs : W0.heap.size = B + 1 := by rw [← hW0, ← hB]; simp
            have hbW : Below w.heap.size w W0 := by rw [← hW0]; exact below_drewN hb1 _
            have own6 : W0.ownsRow w.heap.size 5 1 (.slice a6 m cap6) m (((ss.take m).map (·.at_)).map vB) := by rw [← hW0]; exact own_drewN (hown6.alloc _) _
            have own7 : W0.ownsRow w.heap.size 33 1 (.slice a7 m cap7) m ((List.range m).map fun i => vs.getD (2 * i + 1) undef) := by rw [← hW0]; exact own_drewN (hown7.alloc _) _
            have bx0 : W0.cell? ⟨B, 0, none⟩ = some (.int .u8 s.at_.toNat) := by rw [← hW0, ← hB]; simp
            have bx1 : W0.cell? ⟨B, 1, none⟩ = some (.slice am s.data.length cm) := by rw [← hW0, ← hB]; simp
            have ne6 : some B ≠ (Value.slice a6 m cap6).ownBlock := fun e => by have := (hown6.lt B e.symm).2; omega
            have ne7 : some B ≠ (Value.slice a7 m cap7).ownBlock := fun e => by have := (hown7.lt B e.symm).2; omega
            have hwB : w.heap.size ≤ B := by omega
            rw [hB, hW0]
            have HWs := Lib.hid hWs
            clear hWs hW0 hB cz1 cy1 cx0 cx1 hown6 hown7 hb1 hbl
            go_region_held3 (fun w' => w'.cell? ⟨B, 0, none⟩ = some (.int .u8 s.at_.toNat) ∧ w'.cell? ⟨B, 1, none⟩ = some (.slice am s.data.length cm)) (first | go_keep | (refine ⟨?_, ?_⟩ <;> (rw [hgrowA.cell_far _ (by simp; have := HWs.out; omega) ne6]; simp [*])) | (refine ⟨?_, ?_⟩ <;> (rw [hgrowR.cell_far _ (by have h := hgrowA.size; simp at h; simp; have := HWs.out; omega) ne7]; simp [*])))
              ((first
                | (refine stepApp1 33 5 (.int .u8 0) 1 Tryd.underlying33 info_u8 rfl (by omega) (by rfl) (.tmp 45) (.tmp 48) (by rfl) w.heap.size (.slice a6 m cap6) m (((ss.take m).map (·.at_)).map vB) (by rfl) (by first | exact (own_drew own6).alloc _ | exact ((own_drew own6).alloc _).alloc _) ⟨_, 0, none⟩ 1 (.int .u8 s.at_.toNat) (by rfl) (by simp) rfl (by omega) (by simp; have := HWs.out; omega) _ rfl ?_; intro gA capA wA hownA hgrowA hatA hltA)
                | (refine stepApp1 34 33 (.slice none 0 0) 24 Tryd.underlying34 info_bs rfl (by omega) (by rfl) (.tmp 50) (.tmp 53) (by rfl) w.heap.size (.slice a7 m cap7) m _ (by rfl) (by first | exact (own_kept_other ((own_drew own7).alloc _) ((own_drew own6).alloc _) (by decide) hgrowA).alloc _ | exact own_kept_other (((own_drew own7).alloc _).alloc _) (((own_drew own6).alloc _).alloc _) (by decide) hgrowA) ⟨_, 0, none⟩ 1 (.slice am s.data.length cm) (by rfl) (by first | (simp; done) | (rw [hgrowA.cell_far _ (by simp <;> omega) (fun e => by have h := (own6.lt _ e.symm).2; simp at h <;> omega)]; simp)) rfl (by omega) (by have h := hgrowA.size; simp at h; simp; have := HWs.out; omega) _ rfl ?_; intro gR capR wR hownR hgrowR hatR hltR)))
            all_goals
              have z0 : w.heap.size ≤ W0.heap.size := hbW.size
              have oA : wR.ownsRow w.heap.size 5 1 (.slice (some ⟨gA, 0, none⟩) (m + 1) capA) (m + 1) (((ss.take m).map (·.at_)).map vB ++ [.int .u8 s.at_.toNat]) := by
                first
                  | exact own_kept_other (hownA.alloc _) ((own_kept_other ((own_drew own7).alloc _) ((own_drew own6).alloc _) (by decide) hgrowA).alloc _) (by decide) hgrowR
                  | exact own_kept_other hownA (own_kept_other (((own_drew own7).alloc _).alloc _) (((own_drew own6).alloc _).alloc _) (by decide) hgrowA) (by decide) hgrowR
              have hbR : Below w.heap.size w wR := by
                first
                  | exact below_grow ((below_grow (hbW.drew.alloc (by simp; omega) _) ((own_drew own6).alloc _) hgrowA (by simp; omega)).alloc (by have h := hgrowA.size; simp at h; omega) _) ((own_kept_other ((own_drew own7).alloc _) ((own_drew own6).alloc _) (by decide) hgrowA).alloc _) hgrowR (by have h := hgrowA.size; simp at h; simp; omega)
                  | exact below_grow (below_grow ((hbW.drew.alloc (by simp; omega) _).alloc (by simp; omega) _) (((own_drew own6).alloc _).alloc _) hgrowA (by simp; omega)) (own_kept_other (((own_drew own7).alloc _).alloc _) (((own_drew own6).alloc _).alloc _) (by decide) hgrowA) hgrowR (by have h := hgrowA.size; simp at h; omega)
              clear hgrowA hgrowR hatA hatR hltA hltR own6 own7 hownA bx0 bx1 ne6 ne7 hbW
              go_wp2
              go_roundw
            all_goals first
              | exact ⟨m + 1, by omega, by go_num, by rw [List.take_succ_eq_append_getElem (by omega), List.map_append, List.map_append]; rw [HS.out] at oA; exact oA, by rw [List.range_succ, List.map_append]; rw [← Hvm.out] at hownR; exact hownR, hbR, Hfa.out⟩
              | (simp [intOf] <;> omega)
          · have t3 : ((s.data.length : Int) != (L : Int)) = true := by rw [bne_iff_ne]; omega
            have hk := Stop.out 3 (by decide) (by unfold faultAt; rw [Hget.out, if_neg (by omega), if_neg (of_decide_eq_false Ht.out.symm), if_pos (by rw [HL0.out]; exact g3)])
            have Hk := Lib.hid hk
            clear hk g3
            go_wp2_with fail
            refine (CC _ ((Rd.of_own hown6).alloc _)).mono ?_; rintro e w1 ⟨rfl, rfl⟩
            clear CC
            go_wp2_with fail
            go_quiet (fail)
            go_wp2
            go_ret2
            exact ⟨below_drewN hb1 _, .inr ⟨by rw [Hk.out]; decide, by rw [Hk.out]; rfl⟩⟩
    · obtain rfl : m = k := by omega
      obtain ⟨a6, cap6, rfl⟩ := own_slice hown6
      obtain ⟨a7, cap7, rfl⟩ := own_slice hown7
      have r6 : Rd wr a6 5 (((ss.take m).map (·.at_)).map vB) := Rd.of_own hown6
      have r7 : Rd wr a7 33 ((List.range m).map fun i => vs.getD (2 * i + 1) undef) := Rd.of_own hown7
      have hD : AreB (fun _ _ => True) w ((ss.take m).map (·.data)) ((List.range m).map fun i => vs.getD (2 * i + 1) undef) := by
        have h := (AreS.datas (Hs.out)).take m
        rw [← List.map_take, ← List.map_take, List.take_range] at h
        rw [Nat.min_eq_left h3] at h
        exact h
      have hall : ∀ r ∈ (ss.take m).map (·.data), r.length = L := by
        intro r hr'
        obtain ⟨s, hs1, rfl⟩ := List.mem_map.1 hr'
        obtain ⟨i, hi, rfl⟩ := List.mem_iff_getElem.1 hs1
        have hi' : i < m := by simp at hi; omega
        have hfa := sharesF_zero Hf.out i hi'
        unfold faultAt at hfa
        rw [HL0.out] at hfa
        have hg : ss.getD i default = (ss.take m)[i] := by rw [List.getD_eq_getElem?_getD, List.getElem?_eq_getElem (by omega)]; simp
        rw [hg] at hfa
        split at hfa
        · cases hfa
        · split at hfa
          · cases hfa
          · split at hfa
            · cases hfa
            · rename_i h; omega
      have hln : ((ss.take m).map (·.data)).length = m := by simp; omega
      have hla : ((ss.take m).map (·.at_)).length = m := by simp; omega
      have hh : (((ss.take m).map (·.data)).headD []).length = L := by
        cases hc : (ss.take m).map (·.data) with
        | nil => rw [hc] at hln; simp at hln; omega
        | cons r rs => exact hall r (by rw [hc]; exact List.mem_cons_self ..)
      have Hh := Lib.hid hh
      have Hall := Lib.hid hall
      have Hln := Lib.hid hln
      have Hla := Lib.hid hla
      clear hh hall hln hla hown6 hown7
      have TC := Through_at2 ((ss.take m).map (·.at_)) ((ss.take m).map (·.data)) 0 0 (by decide) a6 a7 cap6 5 cap7 33 L m m _ wr r6 r7 (hD.below hbl) Hla.out.symm Hln.out.symm (by rw [Hln.out]; omega) (by rw [Hla.out, Hln.out]) (by rw [Hln.out]; omega) hL Hall.out
      have hj : thrus ((ss.take m).map (·.at_)) ((ss.take m).map (·.data)) 0 = joinOf ss := by unfold joinOf; rw [List.take_of_length_le (by omega)]
      rw [hj] at TC
      clear hj
      go_wp2_with fail
      refine TC.mono ?_; rintro e w2 ⟨a2, cap2, rfl, hown2, hbl2⟩
      clear TC
      go_wp2
      go_ret2
      exact ⟨hbl.trans (hbl2.mono hsz), .inl ⟨Hf.out, a2, cap2, rfl, own_base hown2 hsz⟩⟩
end Go.Proofs.YtalbmcidlalicaaDoor
