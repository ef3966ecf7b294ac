/- Walks: the document's Joined and Placed. -/
import Derived.Test.YtalbmcidlalicaaDoorRefThru
import Derived.Test.YtalbmcidlalicaaDoorRowsOwn
import Derived.Test.YtalbmcidlalicaaDoorSized
import Derived.Test.YtalbmcidlalicaaDoorSplitLaw
namespace Go.Proofs.YtalbmcidlalicaaDoor
open Go.RowKit
set_option linter.unusedVariables false

/-- place by place what shares tell at x, by the document -/
def joinedE (ss : List Sh) (x : UInt8) (k : Nat) : UInt8 := nw (ss.map (·.at_)) (ss.map (·.data.getD k 0)) ss.length x ss.length
def joinedOf (ss : List Sh) (L : Nat) (x : UInt8) : List UInt8 := (List.range L).map (joinedE ss x)
theorem joinedOf_length (ss : List Sh) (L : Nat) (x : UInt8) : (joinedOf ss L x).length = L := by simp [joinedOf]
theorem joinedOf_take (ss : List Sh) (L k : Nat) (x : UInt8) (h : k < L) : (joinedOf ss L x).take (k + 1) = (joinedOf ss L x).take k ++ [joinedE ss x k] := by
  rw [List.take_succ_eq_append_getElem (by rw [joinedOf_length]; exact h)]
  simp [joinedOf]

set_option maxRecDepth 20000 in
set_option maxHeartbeats 4000000 in
theorem Joined_calls (ss : List Sh) (x : UInt8) (L n : Nat) (a : Option Addr) (ca ea : Nat) (vs : List Value) (w : World) (hr : Rd w a ea vs) (hs : AreS (fun _ _ => True) w ss vs) (hn : ss.length = n) (h0 : 0 < n) (h1 : n ≤ 1000)
    (hall : ∀ j, (h : j < ss.length) → ss[j].data.length = L) (hL : L ≤ 140737488351232) :
    Calls Tryd.prog 23 #[.slice a n ca, .int .u8 x.toNat] w (RetB w (joinedOf ss L x)) := by
  obtain ⟨b, o, a0, c0, e0, rfl, hb, -, hx1, -, -, -⟩ := AreS.cells hr hs (k := 0) (by omega)
  rw [hall 0 (by omega)] at hx1
  simp only [Nat.mul_zero, Nat.zero_add] at hx1
  have Hs := Lib.hid hs
  have Hn := Lib.hid hn
  have Hall := Lib.hid hall
  have i1 : (0 : Int) < (n : Int) := by omega
  have i3 : 0 < n := by omega
  clear hn hall
  go_enter Tryd.func23, Tryd.ntmps23
  go_wp2
  go_loopw [5, 6] (fun v i wr => ∃ k : Nat, k ≤ L ∧ i = .int .i64 k ∧ wr.ownsRow w.heap.size 5 1 v k (((joinedOf ss L x).take k).map vB) ∧ Below w.heap.size w wr) (fun _ i _ => L - (intOf i).toNat)
  case atStart => exact ⟨0, Nat.zero_le _, rfl, World.ownsRow_nil _ _ _ _, Below.refl _ _⟩
  case round =>
    obtain ⟨k, hk, rfl, hown, hbl⟩ := hrel
    have hsz := hbl.size
    have d1 : wr.cell? ⟨b, o + 1, none⟩ = some (.slice a0 L c0) := (hbl.cell (p := ⟨b, o + 1, none⟩) hb).trans hx1
    by_cases hlt : k < L
    · have q1 : decide ((k : Int) < (L : Int)) = true := by rw [decide_eq_true_eq]; omega
      obtain ⟨wo, rfl⟩ : ∃ wo : World, wo = wr := ⟨_, rfl⟩
      obtain ⟨A, hA⟩ : ∃ A, A = ss.map (·.at_) := ⟨_, rfl⟩
      obtain ⟨V, hV⟩ : ∃ V, V = ss.map (·.data.getD k 0) := ⟨_, rfl⟩
      have hAl : A.length = n := by rw [hA, List.length_map, Hn.out]
      have hVl : V.length = n := by rw [hV, List.length_map, Hn.out]
      have hje : joinedE ss x k = nw A V n x n := by unfold joinedE; rw [← hA, ← hV, Hn.out]
      have HA := Lib.hid hA
      have HV := Lib.hid hV
      have HAl := Lib.hid hAl
      have HVl := Lib.hid hVl
      have Hje := Lib.hid hje
      clear hA hV hAl hVl hje
      go_wp2_with fail
      go_loopw [7, 8, 9] (fun va vv i wr => ∃ j : Nat, j ≤ n ∧ i = .int .i64 j ∧ RowsOwn wo.heap.size 5 wr [A.take j, V.take j] [va, vv] ∧ Below wo.heap.size wo wr) (fun _ _ i _ => n - (intOf i).toNat)
      case atStart => exact ⟨0, Nat.zero_le _, rfl, RowsOwn.nils wo.heap.size 5 wo 2, Below.refl _ _⟩
      case round =>
        obtain ⟨j, hj, rfl, hr2, hbo⟩ := hrel
        have hosz := hbo.size
        have hla : (A.take j).length = j := by rw [List.length_take, HAl.out]; omega
        have hlv : (V.take j).length = j := by rw [List.length_take, HVl.out]; omega
        have H0 := pair0 hr2 hla
        have H1 := pair1 hr2 hlv
        have Hla := Lib.hid hla
        have Hlv := Lib.hid hlv
        clear hla hlv
        by_cases hjl : j < n
        · have hjs : j < ss.length := by rw [Hn.out]; exact hjl
          obtain ⟨bj, oj, aj, cj, ej, hej, hbj, g0, g1, gr, _, _⟩ := AreS.cells hr Hs.out hjs
          obtain ⟨rfl, rfl⟩ : b = bj ∧ o = oj := by simpa using hej
          clear hej
          have hdl : (ss[j]'hjs).data.length = L := Hall.out j hjs
          rw [show o + 2 * j = o + j * 2 by omega] at g0
          rw [show o + (2 * j + 1) = o + j * 2 + 1 by omega, hdl] at g1
          obtain ⟨bd, od, rfl, hbd, hcd⟩ := gr.bytes (k := k) (by rw [hdl]; exact hlt)
          have g2 := hcd k (by rw [hdl]; exact hlt)
          have hbw : Below w.heap.size w wr := hbl.trans (hbo.mono hbl.size)
          have f0 := (hbw.cell (p := ⟨b, o + j * 2, none⟩) hbj).trans g0
          have ea : A.take (j + 1) = A.take j ++ [(ss[j]'hjs).at_] := by
            rw [List.take_succ_eq_append_getElem (by rw [HAl.out]; omega)]
            simp [HA.out]
          have ev : V.take (j + 1) = V.take j ++ [(ss[j]'hjs).data[k]'(by rw [hdl]; exact hlt)] := by
            rw [List.take_succ_eq_append_getElem (by rw [HVl.out]; omega)]
            congr 2
            simp only [HV.out, List.getElem_map]
            rw [List.getD_eq_getElem?_getD, List.getElem?_eq_getElem (by rw [hdl]; exact hlt)]; rfl
          obtain ⟨y, hy⟩ : ∃ y, y = (ss[j]'hjs).data[k]'(by rw [hdl]; exact hlt) := ⟨_, rfl⟩
          rw [← hy] at ev g2
          have G1 := Lib.hid g1
          have G2 := Lib.hid g2
          have j0 : (0 : Int) ≤ (j : Int) := by omega
          have j1 : (j : Int) < (n : Int) := by omega
          have k0 : (0 : Int) ≤ (k : Int) := by omega
          have k1 : (k : Int) < (L : Int) := by omega
          have Ea := Lib.hid ea
          have Ev := Lib.hid ev
          clear ea ev hy g0 g1 g2 hcd hdl gr
          generalize (ss[j]'hjs).at_ = z at *
          obtain ⟨aA, cA, rfl⟩ := own_slice H0
          obtain ⟨aV, cV, rfl⟩ := own_slice H1
          go_wp2_with (first | (at_builtin; refine app1 33 5 (.int .u8 0) 1 Tryd.underlying33 info_u8 rfl (by omega) rfl (.tmp 25) (.tmp 31) rfl wo.heap.size _ j _ rfl (H0.alloc _) ⟨wr.heap.size, 0, none⟩ 1 (.int .u8 z.toNat) rfl (by simp) rfl (by omega) (by simp; omega) _ rfl ?_; intro gA capA w4 hownA hgA hatA hltA; have hb4 : Below wo.heap.size wo w4 := below_grow (hbo.alloc (by omega) _) (H0.alloc _) hgA (by simp; omega); have hb24 : Below w.heap.size w w4 := hbl.trans (hb4.mono hbl.size); have p1 : w4.cell? ⟨b, o + j * 2 + 1, none⟩ = some (.slice (some ⟨bd, od, none⟩) L cj) := (hb24.cell (p := ⟨b, o + j * 2 + 1, none⟩) hbj).trans G1.out; have p2 : w4.cell? ⟨bd, od + k, none⟩ = some (.int .u8 y.toNat) := (hb24.cell (p := ⟨bd, od + k, none⟩) hbd).trans G2.out; have hr4 := pair_first hr2 _ Hla.out hownA hgA hatA; have H5 := pair1 hr4 Hlv.out; have hsz4 := hb4.size; clear hownA hgA hatA hltA) | (at_builtin; refine app1 33 5 (.int .u8 0) 1 Tryd.underlying33 info_u8 rfl (by omega) rfl (.tmp 33) (.tmp 42) rfl wo.heap.size _ j _ rfl (H5.alloc _) ⟨w4.heap.size, 0, none⟩ 1 (.int .u8 y.toNat) rfl (by simp) rfl (by omega) (by simp; omega) _ rfl ?_; intro gB capB w5 hownB hgB hatB hltB; have hb5 : Below wo.heap.size wo w5 := below_grow (hb4.alloc (by omega) _) (H5.alloc _) hgB (by simp; omega); have hr5 := pair_second hr4 _ Hlv.out hownB hgB hatB; clear hownB hgB hatB hltB))
          rw [← Ea.out, ← Ev.out] at hr5
          go_roundw
          case rel => exact ⟨j + 1, by omega, by go_num, hr5, hb5⟩
          case measure => simp [intOf] <;> omega
        · obtain rfl : j = n := by omega
          rw [List.take_of_length_le (by rw [HAl.out]; omega)] at H0
          rw [List.take_of_length_le (by rw [HVl.out]; omega)] at H1
          obtain ⟨aA, cA, rfl⟩ := own_slice H0
          obtain ⟨aV, cV, rfl⟩ := own_slice H1
          have TC := RefThru_calls A V j x aA aV cA 5 cV 5 wr (Rd.of_own H0) (Rd.of_own H1) HAl.out HVl.out h0 h1
          have hown2 := own_below hown hbo
          have hb2 : Below w.heap.size w wr := hbl.trans (hbo.mono hbl.size)
          have hjt := joinedOf_take ss L k x hlt
          rw [Hje.out] at hjt
          have Hjt := Lib.hid hjt
          obtain ⟨aO, cO, rfl⟩ := own_slice hown2
          clear hr2 H0 H1 hown hjt
          generalize nw A V j x j = y at *
          go_wp2_with fail
          refine TC.mono ?_; rintro e w6 ⟨rfl, hb6⟩
          clear TC
          have hown6 := own_below hown2 hb6
          have hb26 : Below w.heap.size w w6 := hb2.trans (hb6.mono hb2.size)
          have hs6 := hb26.size
          clear hown2
          go_wp2_with (at_builtin; refine app1w 33 5 (.int .u8 0) 1 Tryd.underlying33 info_u8 rfl rfl (.tmp 44) (.tmp 49) rfl w.heap.size _ k _ rfl (hown6.alloc _) ⟨w6.heap.size, 0, none⟩ 1 (.int .u8 y.toNat) rfl (by simp) rfl (by omega) (by omega) (by simp; omega) _ rfl ?_; intro g cap w7 hown7 hgrow hat hlt7)
          have hb7 : Below w.heap.size w w7 := below_grow (hb26.alloc hs6 _) (hown6.alloc _) hgrow (by simp; omega)
          clear hgrow hat hlt7
          go_wp2
          go_roundw
          case rel => exact ⟨k + 1, by omega, by go_num, by rw [Hjt.out, List.map_append]; exact hown7, hb7⟩
          case measure => simp [intOf] <;> omega
    · obtain rfl : k = L := by omega
      have q1 : decide ((k : Int) < (k : Int)) = false := by rw [decide_eq_false]; omega
      obtain ⟨aO, cO, rfl⟩ := own_slice hown
      rw [List.take_of_length_le (by rw [joinedOf_length]; omega)] at hown
      go_wp2
      go_ret
      exact ⟨aO, cO, by rw [joinedOf_length]; rfl, by rw [joinedOf_length]; exact hown, hbl⟩

set_option maxHeartbeats 2000000 in
theorem Placed_calls (rows : List (List UInt8)) (b : Option Addr) (cb eb : Nat) (vs : List Value) (w : World) (hb : Rd w b eb vs) (hv : AreB (fun _ _ => True) w rows vs) (hn : rows.length ≤ 255) :
    Calls Tryd.prog 26 #[.slice b rows.length cb] w fun e w' => ∃ a cap us, e = .returned (.slice a rows.length cap) ∧ Rd w' a 49 us ∧ AreS (fun _ _ => True) w' (picked rows (List.range rows.length)) us ∧ Below w.heap.size w w' := by
  have hvl : vs.length = rows.length := hv.1
  have hv2 : AreB (fun b e => b < w.heap.size) w rows vs := hv.mono fun b e h _ => h
  have Hvl := Lib.hid hvl
  have Hv := Lib.hid hv2
  clear hvl hv hv2
  go_enter Tryd.func26, Tryd.ntmps26
  go_wp2
  go_loopw [3, 4] (fun v i wr => ∃ k : Nat, k ≤ rows.length ∧ i = .int .i64 k ∧ (∃ cs, wr.ownsRow w.heap.size 49 2 v k cs ∧ AreS (fun b e => b < w.heap.size) wr (picked rows (List.range k)) cs) ∧ Below w.heap.size w wr) (fun _ i _ => rows.length - (intOf i).toNat)
  case atStart => exact ⟨0, Nat.zero_le _, rfl, ⟨[], World.ownsRow_nil _ _ _ _, AreS.nil⟩, Below.refl _ _⟩
  case round =>
    obtain ⟨k, hk, rfl, ⟨cs, hown, hA⟩, hbl⟩ := hrel
    have hsz := hbl.size
    by_cases hlt : k < rows.length
    · have q1 : decide ((k : Int) < (rows.length : Int)) = true := by rw [decide_eq_true_eq]; omega
      have Hcf : IntKind.u8.wrap (k : Int) = (k : Int) := by rw [IntKind.wrap_u8]; omega
      obtain ⟨bb, ob, rfl, hbb, hcb⟩ := hb.cell (k := k) (by rw [Hvl.out]; exact hlt)
      have hI := (Hv.out.2 k hlt (by rw [Hvl.out]; exact hlt))
      obtain ⟨ak, ck, ek, hvk, hrk, _⟩ := hI
      have hI2 := (Hv.out.2 k hlt (by rw [Hvl.out]; exact hlt)).below hbl
      have hck : wr.cell? ⟨bb, ob + k, none⟩ = some (.slice ak rows[k].length ck) := by
        have h9 := hcb k (by rw [Hvl.out]; exact hlt)
        rw [hvk] at h9
        exact (hbl.cell (p := ⟨bb, ob + k, none⟩) hbb).trans h9
      rw [hvk] at hI2
      have hgd : rows.getD k [] = rows[k] := by rw [List.getD_eq_getElem?_getD, List.getElem?_eq_getElem hlt]; rfl
      have hpk : picked rows (List.range (k + 1)) = picked rows (List.range k) ++ [⟨UInt8.ofNat k, rows[k]⟩] := by
        rw [List.range_succ, picked_snoc, hgd]
      have Hpk := Lib.hid hpk
      have k0 : (0 : Int) ≤ (k : Int) := by omega
      have k1 : (k : Int) < (rows.length : Int) := by omega
      clear hcb hvk hrk hgd hpk
      obtain ⟨aO, cO, rfl⟩ := own_slice hown
      generalize hrl : rows[k].length = l at *
      go_wp2_with (at_builtin; refine appN 37 49 (.agg #[.int .u8 0, .slice none 0 0]) 2 32 Tryd.underlying37 info_share rfl (by omega) (by omega) rfl _ _ rfl w.heap.size _ k cs rfl (hown.alloc _) wr.heap.size 1 [.int .u8 (k : Int), .slice ak l ck] rfl rfl (two_cells (by simp) (by simp)) (by simp [Value.oneCell']) (by omega) (by simp; omega) _ rfl ?_; intro g cap w1 hown1 hgrow hat hlt1)
      have hb1 : Below w.heap.size w w1 := below_grow (hbl.alloc hsz _) (hown.alloc _) hgrow (by simp; omega)
      have hA3 := ((hA.snoc (s := ⟨UInt8.ofNat k, rows[k]⟩) hI2).alloc (.cells #[.int .u8 (k : Int), .slice ak l ck] 49)).grown hgrow (own_other (hown.alloc _) (fun g e' hg he => absurd he (by have := ((hown.alloc (.cells #[.int .u8 (k : Int), .slice ak l ck] 49)).lt g hg).1; omega)))
      rw [← Hpk.out, ← byte_lit (show k < 256 by omega)] at hA3
      clear hgrow hat hlt1
      go_wp2
      go_roundw
      case rel => exact ⟨k + 1, by omega, by go_num, ⟨_, hown1, hA3⟩, hb1⟩
      case measure => simp [intOf] <;> omega
    · obtain rfl : k = rows.length := by omega
      have q1 : decide ((rows.length : Int) < (rows.length : Int)) = false := by rw [decide_eq_false]; omega
      obtain ⟨aO, cO, rfl⟩ := own_slice hown
      go_wp2
      go_ret
      exact ⟨aO, cO, cs, rfl, Rd.of_own hown, hA.mono fun _ _ _ _ => trivial, hbl⟩
end Go.Proofs.YtalbmcidlalicaaDoor
