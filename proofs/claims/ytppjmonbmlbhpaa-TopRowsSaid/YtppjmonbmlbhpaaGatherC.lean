/- Walk: code.Gather; and the lists that it tells have capacities no less than their lengths. -/
import Derived.Test.YtppjmonbmlbhpaaGather
namespace Go.Proofs.Ytppjmonbmlbhpaa
open Go.RowKit
set_option linter.unusedVariables false
def capOk : Value → Prop | .slice _ n c => n ≤ c ∧ c ≤ 9223372036854775807 | _ => True
def CapB (vs : List Value) : Prop := ∀ v ∈ vs, capOk v
theorem CapB.nil : CapB [] := fun v h => by cases h
theorem CapB.snoc {vs : List Value} (h : CapB vs) {a : Option Addr} {n c : Nat} (h1 : n ≤ c) (h2 : c ≤ 9223372036854775807) : CapB (vs ++ [.slice a n c]) := by
  intro v hv
  rcases List.mem_append.1 hv with h3 | h3
  · exact h v h3
  · rw [List.mem_singleton.1 h3]; exact ⟨h1, h2⟩
theorem own_capc {w : World} {base : Nat} {e : TypeId} {size : Nat} {a : Option Addr} {n cap : Nat} {xs : List Value} (h : w.ownsRow base e size (.slice a n cap) n xs) : n ≤ cap ∧ cap ≤ 9223372036854775807 := by
  rcases h.2 with ⟨h1, h2⟩ | ⟨g, cap', cur, hv, _, _, h1, h2, _⟩
  · simp only [Value.slice.injEq] at h1
    omega
  · simp only [Value.slice.injEq] at hv
    simp only [maxLen] at h2
    omega
def GatherPostC (w : World) (ss : List Sh) (k : Nat) (e : Ending) (w' : World) : Prop :=
  Below w.heap.size w w' ∧ ((sharesF 0 19 ss k = 0 ∧ ∃ a cap vs, e = .returned (.tuple #[.slice a k cap, .nilIface]) ∧ Rd w' a 29 vs ∧ AreB (fun b e => e = 5 ∧ w.heap.size ≤ b) w' (gatherOf ss k) vs ∧ CapB vs) ∨
    (sharesF 0 19 ss k ≠ 0 ∧ e = .returned (.tuple #[.slice none 0 0, .iface 43 (.int .i64 (sharesF 0 19 ss k))])))
set_option maxHeartbeats 4000000 in
theorem Gather_callsC (ss : List Sh) (k L : Nat) (a : Option Addr) (ca ea : Nat) (vs : List Value) (w : World) (hr : Rd w a ea vs) (hs : AreS (fun _ _ => True) w ss vs) (hc : ss.length ≤ ca) (hc2 : ca ≤ 9223372036854775807)
    (h1 : 1 ≤ k) (h2 : k ≤ 20) (h3 : k ≤ ss.length) (hL0 : (ss.headD default).data.length = L) (hL : L ≤ 140737488355328) :
    Calls Try.prog 6 #[.slice a ss.length ca, .int .i64 k] w (GatherPostC w ss k) := by
  obtain ⟨b, o, a0, c0, e0, rfl, hb, hx0, hx1, _, _, _⟩ := AreS.cells hr hs (k := 0) (by omega)
  have h0L : (ss[0]'(by omega)).data.length = L := by rw [← hL0]; cases ss with | nil => simp at h3; omega | cons r rs => rfl
  rw [h0L] at hx1
  simp only [Nat.mul_zero, Nat.add_zero, Nat.zero_add] at hx1 hx0
  have Hs := Lib.hid hs
  have HL0 := Lib.hid hL0
  clear h0L hx0
  have i1 : (0 : Int) < (k : Int) := by omega
  have i2 : (0 : Int) < (ss.length : Int) := by omega
  have i3 : 0 < ss.length := by omega
  have q1 : decide ((k : Int) < 1) = false := by rw [decide_eq_false]; omega
  have q2 : decide ((20 : Int) < (k : Int)) = false := by rw [decide_eq_false]; omega
  have q3 : decide (ss.length < k) = false := by rw [decide_eq_false]; omega
  go_enter Try.func6, Try.ntmps6
  go_wp2
  go_loopw [6, 7, 28] (fun v6 v7 i wr => ∃ m : Nat, m ≤ k ∧ i = .int .i64 m ∧ wr.ownsRow w.heap.size 5 1 v6 m (((ss.take m).map (·.at_)).map vB) ∧ wr.ownsRow w.heap.size 29 1 v7 m ((List.range m).map fun i => vs.getD (2 * i + 1) undef) ∧ Below w.heap.size w wr ∧ sharesF 0 19 ss m = 0) (fun _ _ i _ => k - (intOf i).toNat)
  case atStart => exact ⟨0, Nat.zero_le _, rfl, World.ownsRow_nil _ _ _ _, World.ownsRow_nil _ _ _ _, Below.refl _ _, rfl⟩
  case round =>
    obtain ⟨m, hm, rfl, hown6, hown7, hbl, hf⟩ := hrel
    have Hf := Lib.hid hf
    clear hf
    have hsz := hbl.size
    by_cases hlt : m < k
    · obtain ⟨b', o', am, cm, em, hab, _, hm0, hm1, hrm, _, hml⟩ := AreS.cells hr Hs.out (k := m) (by omega)
      simp only [Option.some.injEq, Addr.mk.injEq, and_true] at hab
      obtain ⟨rfl, rfl⟩ := hab
      have e2 : o + 2 * m = o + m * 2 := by omega
      have e3 : o + (2 * m + 1) = o + m * 2 + 1 := by omega
      rw [e2] at hm0
      rw [e3] at hm1
      have cx0 : wr.cell? ⟨b, o + m * 2, none⟩ = some (.int .u8 ((ss[m]'(by omega)).at_.toNat : Int)) := (hbl.cell (p := ⟨b, o + m * 2, none⟩) hb).trans hm0
      have cx1 : wr.cell? ⟨b, o + m * 2 + 1, none⟩ = some (.slice am (ss[m]'(by omega)).data.length cm) := (hbl.cell (p := ⟨b, o + m * 2 + 1, none⟩) hb).trans hm1
      have cy1 : wr.cell? ⟨b, o + 1, none⟩ = some (.slice a0 L c0) := (hbl.cell (p := ⟨b, o + 1, none⟩) hb).trans hx1
      have hvm : vs.getD (2 * m + 1) undef = .slice am (ss[m]'(by omega)).data.length cm := by
        have l2 : 2 * m + 1 < vs.length := by rw [Hs.out.1]; omega
        obtain ⟨b'', o'', hab', _, hcc⟩ := hr.cell l2
        simp only [Option.some.injEq, Addr.mk.injEq, and_true] at hab'
        obtain ⟨rfl, rfl⟩ := hab'
        have h9 := hcc _ l2
        rw [e3, hm1] at h9
        rw [List.getD_eq_getElem?_getD, List.getElem?_eq_getElem l2]
        exact (Option.some.inj h9).symm
      have hget : ss.getD m default = ss[m]'(by omega) := by rw [List.getD_eq_getElem?_getD, List.getElem?_eq_getElem (by omega)]; rfl
      have Hvm := Lib.hid hvm
      have Hget := Lib.hid hget
      clear hm0 hm1 e2 e3 hvm hget
      obtain ⟨s, hs'⟩ : ∃ s, s = ss[m]'(by omega) := ⟨_, rfl⟩
      rw [← hs'] at cx0 cx1 Hvm Hget
      have HS := Lib.hid hs'
      clear hs' hrm
      obtain ⟨a6, cap6, rfl⟩ := own_slice hown6
      obtain ⟨a7, cap7, rfl⟩ := own_slice hown7
      have CC := fun w h => Contains_at ((ss.take m).map (·.at_)) s.at_ m (by simp; omega) a6 cap6 5 w h (by simp; omega)
      have cz1 : (wr.alloc (.cells #[.int .u8 s.at_.toNat, .slice am s.data.length cm] 38)).cell? ⟨b, o + 1, none⟩ = some (.slice a0 L c0) := (World.cell?_alloc_some _ _ _ (by rw [cy1]; rfl)).trans cy1
      obtain ⟨twice, ht⟩ : ∃ t, t = decide (s.at_ ∈ (ss.take m).map (·.at_)) := ⟨_, rfl⟩
      rw [← ht] at CC
      have Ht := Lib.hid ht
      clear ht
      have hb1 : Below w.heap.size w (wr.alloc (.cells #[.int .u8 s.at_.toNat, .slice am s.data.length cm] 38)) := hbl.alloc hsz _
      have stop : ∀ c : Int, c ≠ 0 → faultAt 0 19 ss m = c → sharesF 0 19 ss k = c := by
        intro c hc0 hfa
        have e1 : sharesF 0 19 ss (m + 1) = c := by simp only [sharesF]; rw [if_neg (by simpa using Hf.out), hfa]
        rw [sharesF_stop (n := m + 1) (by rw [e1]; exact hc0) (by omega), e1]
      have Stop := Lib.hid stop
      clear stop
      by_cases g1 : 19 < s.at_.toNat
      · have t1 : decide ((20 : Int) ≤ (s.at_.toNat : Int)) = true := by rw [decide_eq_true_eq]; omega
        have hk := Stop.out 2 (by decide) (by unfold faultAt; rw [Hget.out, if_pos (by omega)])
        have Hk := Lib.hid hk
        clear hk
        go_wp2
        go_ret2
        exact ⟨hb1, .inr ⟨by rw [Hk.out]; decide, by rw [Hk.out]; rfl⟩⟩
      · have t1 : decide ((20 : Int) ≤ (s.at_.toNat : Int)) = false := by rw [decide_eq_false]; omega
        cases twice with
        | true =>
          have hk := Stop.out 7 (by decide) (by unfold faultAt; rw [Hget.out, if_neg (by omega), if_pos (of_decide_eq_true Ht.out.symm)])
          have Hk := Lib.hid hk
          clear hk
          go_wp2_with fail
          refine (CC _ ((Rd.of_own hown6).alloc _)).mono ?_; rintro e w1 ⟨rfl, rfl⟩
          go_wp2_with fail
          go_ret2
          exact ⟨hb1, .inr ⟨by rw [Hk.out]; decide, by rw [Hk.out]; rfl⟩⟩
        | false =>
          by_cases g3 : s.data.length = L
          · have t3 : ((s.data.length : Int) != (L : Int)) = false := by rw [bne_eq_false_iff_eq]; omega
            have hfa : sharesF 0 19 ss (m + 1) = 0 := by
              simp only [sharesF]; rw [if_neg (by simpa using Hf.out)]
              unfold faultAt
              rw [Hget.out, if_neg (by omega), if_neg (of_decide_eq_false Ht.out.symm), if_neg (by rw [HL0.out]; simpa using g3)]
            have Hfa := Lib.hid hfa
            have G3 := Lib.hid g3
            clear hfa g3
            go_wp2_with fail
            refine (CC _ ((Rd.of_own hown6).alloc _)).mono ?_; rintro e w1 ⟨rfl, rfl⟩
            clear CC
            go_wp2_with fail
            go_quiet (fail)
            go_wp2
            obtain ⟨W0, hW0⟩ : ∃ W0, (wr.alloc (.cells #[.int .u8 s.at_.toNat, .slice am s.data.length cm] 38)).drewN nq = W0 := ⟨_, rfl⟩
            obtain ⟨B, hB⟩ : ∃ B, wr.heap.size = B := ⟨_, rfl⟩
            have hWs : W0.heap.size = B + 1 := by rw [← hW0, ← hB]; simp
            have hbW : Below w.heap.size w W0 := by rw [← hW0]; exact below_drewN hb1 _
            have own6 : W0.ownsRow w.heap.size 5 1 (.slice a6 m cap6) m (((ss.take m).map (·.at_)).map vB) := by rw [← hW0]; exact own_drewN (hown6.alloc _) _
            have own7 : W0.ownsRow w.heap.size 29 1 (.slice a7 m cap7) m ((List.range m).map fun i => vs.getD (2 * i + 1) undef) := by rw [← hW0]; exact own_drewN (hown7.alloc _) _
            have bx0 : W0.cell? ⟨B, 0, none⟩ = some (.int .u8 s.at_.toNat) := by rw [← hW0, ← hB]; simp
            have bx1 : W0.cell? ⟨B, 1, none⟩ = some (.slice am s.data.length cm) := by rw [← hW0, ← hB]; simp
            have ne6 : some B ≠ (Value.slice a6 m cap6).ownBlock := fun e => by have := (hown6.lt B e.symm).2; omega
            have ne7 : some B ≠ (Value.slice a7 m cap7).ownBlock := fun e => by have := (hown7.lt B e.symm).2; omega
            have hwB : w.heap.size ≤ B := by omega
            rw [hB, hW0]
            have HWs := Lib.hid hWs
            clear hWs hW0 hB cz1 cy1 cx0 cx1 hown6 hown7 hb1 hbl
            go_region_held3 (fun w' => w'.cell? ⟨B, 0, none⟩ = some (.int .u8 s.at_.toNat) ∧ w'.cell? ⟨B, 1, none⟩ = some (.slice am s.data.length cm)) (first | go_keep | (refine ⟨?_, ?_⟩ <;> (rw [hgrowA.cell_far _ (by simp; have := HWs.out; omega) ne6]; simp [*])) | (refine ⟨?_, ?_⟩ <;> (rw [hgrowR.cell_far _ (by have h := hgrowA.size; simp at h; simp; have := HWs.out; omega) ne7]; simp [*])))
              ((first
                | (refine stepApp1 29 5 (.int .u8 0) 1 Try.underlying29 info_u8 rfl (by omega) (by rfl) (.tmp 54) (.tmp 57) (by rfl) w.heap.size (.slice a6 m cap6) m (((ss.take m).map (·.at_)).map vB) (by rfl) (by first | exact (own_drew own6).alloc _ | exact ((own_drew own6).alloc _).alloc _) ⟨_, 0, none⟩ 1 (.int .u8 s.at_.toNat) (by rfl) (by simp) rfl (by omega) (by simp; have := HWs.out; omega) _ rfl ?_; intro gA capA wA hownA hgrowA hatA hltA)
                | (refine stepApp1 24 29 (.slice none 0 0) 24 Try.underlying24 info_bs rfl (by omega) (by rfl) (.tmp 59) (.tmp 62) (by rfl) w.heap.size (.slice a7 m cap7) m _ (by rfl) (by first | exact (own_kept_other ((own_drew own7).alloc _) ((own_drew own6).alloc _) (by decide) hgrowA).alloc _ | exact own_kept_other (((own_drew own7).alloc _).alloc _) (((own_drew own6).alloc _).alloc _) (by decide) hgrowA) ⟨_, 0, none⟩ 1 (.slice am s.data.length cm) (by rfl) (by first | (simp; done) | (rw [hgrowA.cell_far _ (by simp <;> omega) (fun e => by have h := (own6.lt _ e.symm).2; simp at h <;> omega)]; simp)) rfl (by omega) (by have h := hgrowA.size; simp at h; simp; have := HWs.out; omega) _ rfl ?_; intro gR capR wR hownR hgrowR hatR hltR)))
            all_goals
              have z0 : w.heap.size ≤ W0.heap.size := hbW.size
              have oA : wR.ownsRow w.heap.size 5 1 (.slice (some ⟨gA, 0, none⟩) (m + 1) capA) (m + 1) (((ss.take m).map (·.at_)).map vB ++ [.int .u8 s.at_.toNat]) := by
                first
                  | exact own_kept_other (hownA.alloc _) ((own_kept_other ((own_drew own7).alloc _) ((own_drew own6).alloc _) (by decide) hgrowA).alloc _) (by decide) hgrowR
                  | exact own_kept_other hownA (own_kept_other (((own_drew own7).alloc _).alloc _) (((own_drew own6).alloc _).alloc _) (by decide) hgrowA) (by decide) hgrowR
              have hbR : Below w.heap.size w wR := by
                first
                  | exact below_grow ((below_grow (hbW.drew.alloc (by simp; omega) _) ((own_drew own6).alloc _) hgrowA (by simp; omega)).alloc (by have h := hgrowA.size; simp at h; omega) _) ((own_kept_other ((own_drew own7).alloc _) ((own_drew own6).alloc _) (by decide) hgrowA).alloc _) hgrowR (by have h := hgrowA.size; simp at h; simp; omega)
                  | exact below_grow (below_grow ((hbW.drew.alloc (by simp; omega) _).alloc (by simp; omega) _) (((own_drew own6).alloc _).alloc _) hgrowA (by simp; omega)) (own_kept_other (((own_drew own7).alloc _).alloc _) (((own_drew own6).alloc _).alloc _) (by decide) hgrowA) hgrowR (by have h := hgrowA.size; simp at h; omega)
              clear hgrowA hgrowR hatA hatR hltA hltR own6 own7 hownA bx0 bx1 ne6 ne7 hbW
              go_wp2
              go_roundw
            all_goals first
              | exact ⟨m + 1, by omega, by go_num, by rw [List.take_succ_eq_append_getElem (by omega), List.map_append, List.map_append]; rw [HS.out] at oA; exact oA, by rw [List.range_succ, List.map_append]; rw [← Hvm.out] at hownR; exact hownR, hbR, Hfa.out⟩
              | (simp [intOf] <;> omega)
          · have t3 : ((s.data.length : Int) != (L : Int)) = true := by rw [bne_iff_ne]; omega
            have hk := Stop.out 3 (by decide) (by unfold faultAt; rw [Hget.out, if_neg (by omega), if_neg (of_decide_eq_false Ht.out.symm), if_pos (by rw [HL0.out]; exact g3)])
            have Hk := Lib.hid hk
            clear hk g3
            go_wp2_with fail
            refine (CC _ ((Rd.of_own hown6).alloc _)).mono ?_; rintro e w1 ⟨rfl, rfl⟩
            clear CC
            go_wp2_with fail
            go_quiet (fail)
            go_wp2
            go_ret2
            exact ⟨below_drewN hb1 _, .inr ⟨by rw [Hk.out]; decide, by rw [Hk.out]; rfl⟩⟩
    · obtain rfl : m = k := by omega
      obtain ⟨a6, cap6, rfl⟩ := own_slice hown6
      obtain ⟨a7, cap7, rfl⟩ := own_slice hown7
      have r6 : Rd wr a6 5 (((ss.take m).map (·.at_)).map vB) := Rd.of_own hown6
      have r7 : Rd wr a7 29 ((List.range m).map fun i => vs.getD (2 * i + 1) undef) := Rd.of_own hown7
      have hD : AreB (fun _ _ => True) w ((ss.take m).map (·.data)) ((List.range m).map fun i => vs.getD (2 * i + 1) undef) := by
        have h := (AreS.datas (Hs.out)).take m
        rw [← List.map_take, ← List.map_take, List.take_range] at h
        rw [Nat.min_eq_left h3] at h
        exact h
      have hall : ∀ r ∈ (ss.take m).map (·.data), r.length = L := by
        intro r hr'
        obtain ⟨s, hs1, rfl⟩ := List.mem_map.1 hr'
        obtain ⟨i, hi, rfl⟩ := List.mem_iff_getElem.1 hs1
        have hi' : i < m := by simp at hi; omega
        have hfa := sharesF_zero Hf.out i hi'
        unfold faultAt at hfa
        rw [HL0.out] at hfa
        have hg : ss.getD i default = (ss.take m)[i] := by rw [List.getD_eq_getElem?_getD, List.getElem?_eq_getElem (by omega)]; simp
        rw [hg] at hfa
        split at hfa
        · cases hfa
        · split at hfa
          · cases hfa
          · split at hfa
            · cases hfa
            · rename_i h; omega
      have hln : ((ss.take m).map (·.data)).length = m := by simp; omega
      have hla : ((ss.take m).map (·.at_)).length = m := by simp; omega
      have hh : (((ss.take m).map (·.data)).headD []).length = L := by
        cases hc : (ss.take m).map (·.data) with
        | nil => rw [hc] at hln; simp at hln; omega
        | cons r rs => exact hall r (by rw [hc]; exact List.mem_cons_self ..)
      have Hh := Lib.hid hh
      have Hall := Lib.hid hall
      have Hln := Lib.hid hln
      have Hla := Lib.hid hla
      clear hh hall hln hla hown6 hown7
      go_wp2
      obtain ⟨wo, rfl⟩ : ∃ wo : World, wo = wr := ⟨_, rfl⟩
      go_loopw [10, 66] (fun v i wr => ∃ q : Nat, q ≤ m ∧ i = .int .i64 q ∧ (∃ us, wr.ownsRow wo.heap.size 29 1 v q us ∧ AreB (fun b e => e = 5 ∧ w.heap.size ≤ b) wr ((gatherOf ss m).take q) us ∧ CapB us) ∧ Below wo.heap.size wo wr) (fun _ i _ => m - (intOf i).toNat)
      case atStart => exact ⟨0, Nat.zero_le _, rfl, ⟨[], World.ownsRow_nil _ _ _ _, AreB.nil, CapB.nil⟩, Below.refl _ _⟩
      case round =>
        obtain ⟨q, hq, rfl, ⟨us, hown, hA, hcp⟩, hbo⟩ := hrel
        have HCP := Lib.hid hcp
        clear hcp
        have hs := hbo.size
        by_cases hqm : q < m
        · have hy : (q : Int) = ((UInt8.ofNat q).toNat : Int) := by simp; omega
          have TC := Through_at2 ((ss.take m).map (·.at_)) ((ss.take m).map (·.data)) (UInt8.ofNat q) q hy a6 a7 cap6 5 cap7 29 L m m _ wr (r6.below hbo) (r7.below hbo) ((hD.below hbl).below hbo) Hla.out.symm Hln.out.symm (by rw [Hln.out]; omega) (by rw [Hla.out, Hln.out]) (by rw [Hln.out]; omega) hL Hall.out
          have htl : (thrus ((ss.take m).map (·.at_)) ((ss.take m).map (·.data)) (UInt8.ofNat q)).length = L := by rw [thrus_length]; exact Hh.out
          have htk := gatherOf_take ss m q hqm
          obtain ⟨new, hnew⟩ : ∃ x, x = thrus ((ss.take m).map (·.at_)) ((ss.take m).map (·.data)) (UInt8.ofNat q) := ⟨_, rfl⟩
          rw [← hnew] at TC htl htk
          have Htk := Lib.hid htk
          clear hnew htl hy htk
          go_wp2_with fail
          refine TC.mono ?_; rintro e w2 ⟨a2, cap2, rfl, hown2, hbl2⟩
          clear TC
          have hs2 := hbl2.size
          have hcc := own_capc hown2
          have HCC := Lib.hid hcc
          clear hcc
          go_wp2_with (at_builtin; refine app1 24 29 (.slice none 0 0) 24 Try.underlying24 info_bs rfl (by omega) rfl _ _ rfl wo.heap.size _ q us rfl ((own_below hown hbl2).alloc _) ⟨w2.heap.size, 0, none⟩ 1 (.slice a2 new.length cap2) rfl (by simp) rfl (by omega) (by simp; omega) _ rfl ?_; intro g3 cap3 w3 hown3 hgrow3 hat3 hlt3)
          have hbl3 : Below wo.heap.size wo w3 := below_grow ((hbo.trans (hbl2.mono hs)).alloc (by omega) _) ((own_below hown hbl2).alloc _) hgrow3 (by simp; omega)
          have hin : IsB (fun b e => e = 5 ∧ w.heap.size ≤ b) w2 new (.slice a2 new.length cap2) := (IsB.of_own hown2).mono fun b e _ h => ⟨h.1, by omega⟩
          have hA3 := ((hA.below hbl2).alloc (.cells #[.slice a2 new.length cap2] 29)).push (hin.alloc _) ((own_below hown hbl2).alloc _) hgrow3 (fun _ e' _ h => by rw [h.1]; decide)
          clear hgrow3 hat3 hin hown2 hown hA
          go_wp2
          go_roundw
          case rel => exact ⟨q + 1, by omega, by go_num, ⟨_, hown3, by rw [Htk.out]; exact hA3, HCP.out.snoc HCC.out.1 HCC.out.2⟩, hbl3⟩
          case measure => simp [intOf] <;> omega
        · obtain rfl : q = m := by omega
          obtain ⟨a10, cap10, rfl⟩ := own_slice hown
          rw [List.take_of_length_le (by simp [gatherOf])] at hA
          go_wp2
          go_ret2
          exact ⟨hbl.trans (hbo.mono hsz), .inl ⟨Hf.out, a10, cap10, us, rfl, Rd.of_own hown, hA, HCP.out⟩⟩


def GatherAnyC (w : World) (ss : List Sh) (k : Int) (e : Ending) (w' : World) : Prop :=
  Below w.heap.size w w' ∧ ((gatherF ss k = 0 ∧ ∃ a cap vs, e = .returned (.tuple #[.slice a k.toNat cap, .nilIface]) ∧ Rd w' a 29 vs ∧ AreB (fun b e => e = 5 ∧ w.heap.size ≤ b) w' (gatherOf ss k.toNat) vs ∧ CapB vs) ∨
    (gatherF ss k ≠ 0 ∧ e = .returned (.tuple #[.slice none 0 0, .iface 43 (.int .i64 (gatherF ss k))])))
theorem Gather_anyC (ss : List Sh) (k : Int) (a : Option Addr) (ca ea : Nat) (vs : List Value) (w : World) (hr : Rd w a ea vs) (hs : AreS (fun _ _ => True) w ss vs) (hc : ss.length ≤ ca) (hc2 : ca ≤ 9223372036854775807) (hL : (ss.headD default).data.length ≤ 140737488355328) :
    Calls Try.prog 6 #[.slice a ss.length ca, .int .i64 k] w (GatherAnyC w ss k) := by
  by_cases h1 : k < 1 ∨ 20 < k
  · have hf : gatherF ss k = 2 := by unfold gatherF; rw [if_pos h1]
    have Hf := Lib.hid hf
    clear hf
    by_cases h2 : k < 1
    · go_enter Try.func6, Try.ntmps6
      go_wp2
      go_ret2
      exact ⟨Below.refl _ _, .inr ⟨by rw [Hf.out]; decide, by rw [Hf.out]; rfl⟩⟩
    · have h3 : 20 < k := by omega
      go_enter Try.func6, Try.ntmps6
      go_wp2
      go_ret2
      exact ⟨Below.refl _ _, .inr ⟨by rw [Hf.out]; decide, by rw [Hf.out]; rfl⟩⟩
  · by_cases h2 : (ss.length : Int) < k
    · have hf : gatherF ss k = 3 := by unfold gatherF; rw [if_neg h1, if_pos h2]
      have Hf := Lib.hid hf
      have h3 : ¬ k < 1 := by omega
      have h4 : ¬ 20 < k := by omega
      clear hf h1
      go_enter Try.func6, Try.ntmps6
      go_wp2
      go_ret2
      exact ⟨Below.refl _ _, .inr ⟨by rw [Hf.out]; decide, by rw [Hf.out]; rfl⟩⟩
    · have hf : gatherF ss k = sharesF 0 19 ss k.toNat := by unfold gatherF; rw [if_neg h1, if_neg h2]
      obtain ⟨m, rfl⟩ : ∃ m : Nat, k = m := ⟨k.toNat, by omega⟩
      have := Gather_callsC ss m _ a ca ea vs w hr hs hc hc2 (by omega) (by omega) (by omega) rfl hL
      unfold GatherAnyC
      rw [hf]
      exact this
end Go.Proofs.Ytppjmonbmlbhpaa
