/- Walk: the document's BookJoin: the next name of both, again and again. -/
import Derived.Test.YtppjmonbmlbhpaaDoorBookRef3
import Derived.Test.YtppjmonbmlbhpaaDoorKnown
import Derived.Test.YtppjmonbmlbhpaaDoorBJoin
import Derived.Laws.OwnMore
namespace Go.Proofs.YtppjmonbmlbhpaaDoor
open Go.RowKit
set_option linter.unusedVariables false
set_option linter.unusedSimpArgs false
def RJoinPost (w : World) (xs ys : List Ct) (e : Ending) (w' : World) : Prop :=
  Below w.heap.size w w' ∧ ((joinFault xs ys = 0 ∧ ∃ a cap e', e = .returned (.tuple #[.slice a (mergeC xs ys).length cap, .int .i64 0]) ∧ (mergeC xs ys).length ≤ cap ∧ cap ≤ 9223372036854775807 ∧ Rd w' a e' (cellsC (mergeC xs ys))) ∨
    (joinFault xs ys ≠ 0 ∧ e = .returned (.tuple #[.slice none 0 0, .int .i64 (joinFault xs ys)])))
theorem named_size {s : ByteArray} (h : named s = true) : s.size ≤ 30 := by
  unfold named at h
  simp only [Bool.and_eq_true, decide_eq_true_eq] at h
  exact h.1.2
theorem last_size {a b : List Ct} (ha : GoodB a) (hb : GoodB b) (k : Nat) : (lastN (mergeC a b) k).size ≤ 9223372036854775807 := by
  unfold lastN
  split
  · decide
  · cases h : (mergeC a b)[k - 1]? with
    | none => decide
    | some c => 
      have hc := List.mem_of_getElem? h
      have := named_size (merge_good _ a b (Nat.le_refl _) ha.2.2 hb.2.2 c hc).1
      show c.name.size ≤ _
      omega
theorem scan_size {L : List Ct} (hL : ∀ c ∈ L, CtW c) (last : ByteArray) (i : Nat) (hi : i ≤ L.length) : (scanN last (L.take i)).size ≤ 9223372036854775807 := by
  rcases scan_ok last L i hi with ⟨h, _⟩ | ⟨_, ⟨c, hc, h⟩, _⟩
  · rw [h]; decide
  · rw [← h]; exact (hL c (List.mem_of_mem_take hc)).2.1
theorem merge_W2 : ∀ (n : Nat) (a b : List Ct), a.length + b.length ≤ n → (∀ c ∈ a, CtW c ∧ GoodC c) → (∀ c ∈ b, CtW c ∧ GoodC c) → ∀ c ∈ mergeC a b, CtW c ∧ GoodC c := by
  intro n
  induction n with
  | zero =>
    intro a b h ha hb
    obtain rfl : a = [] := List.length_eq_zero_iff.1 (by omega)
    rw [merge_nil_left]; exact hb
  | succ n ih =>
    intro a b h ha hb
    cases a with
    | nil => rw [merge_nil_left]; exact hb
    | cons x ar =>
      cases b with
      | nil => rw [merge_nil]; exact ha
      | cons y br =>
        simp only [List.length_cons] at h
        intro c hc
        rcases name_tri x y with g | g | g
        · rw [merge_lt g] at hc
          rcases List.mem_cons.1 hc with rfl | hc
          · exact ha _ (List.mem_cons_self ..)
          · exact ih ar (y :: br) (by simp only [List.length_cons]; omega) (fun c h => ha c (List.mem_cons_of_mem _ h)) hb c hc
        · rw [merge_eq g] at hc
          rcases List.mem_cons.1 hc with rfl | hc
          · have h1 := ha x (List.mem_cons_self ..)
            have h2 := hb y (List.mem_cons_self ..)
            exact ⟨both_W h1.1 h2.1 h1.2.2.1 h1.2.2.2.1, good_both h1.2 h2.2⟩
          · exact ih ar br (by omega) (fun c h => ha c (List.mem_cons_of_mem _ h)) (fun c h => hb c (List.mem_cons_of_mem _ h)) c hc
        · rw [merge_gt g] at hc
          rcases List.mem_cons.1 hc with rfl | hc
          · exact hb _ (List.mem_cons_self ..)
          · exact ih (x :: ar) br (by simp only [List.length_cons]; omega) ha (fun c h => hb c (List.mem_cons_of_mem _ h)) c hc
theorem str_nil {s : ByteArray} : (s.toList == []) = decide (s = noName) := by
  by_cases h : s = noName
  · subst h; rw [decide_eq_true rfl, Lib.toList_data]; rfl
  · rw [decide_eq_false h, beq_eq_false_iff_ne]
    intro e
    apply h
    have e2 : s.data.toList = [] := by rw [← e]; exact (Lib.toList_data _).symm
    cases s with | mk d => 
    simp only [noName, ByteArray.mk.injEq]
    simpa using e2
theorem str_nil2 {s : ByteArray} : (s.data.toList == []) = decide (s = noName) := by
  rw [← str_nil]
  congr 1
  exact (Lib.toList_data _).symm
set_option maxRecDepth 20000 in
set_option maxHeartbeats 8000000 in
theorem RJoin_calls (xs ys : List Ct) (hx : ∀ c ∈ xs, CtW c) (hy : ∀ c ∈ ys, CtW c) (ax ay : Option Addr) (cx cy ex ey : Nat) (w : World) (hrx : Rd w ax ex (cellsC xs)) (hry : Rd w ay ey (cellsC ys))
    (hlx : xs.length ≤ 9223372036854775807) (hly : ys.length ≤ 9223372036854775807) :
    Calls Tryd.prog 7 #[.slice ax xs.length cx, .slice ay ys.length cy] w (RJoinPost w xs ys) := by
  have CX := BookFault_calls xs hx ax cx ex w hrx hlx
  by_cases hfx : fault xs = 0
  · rw [hfx] at CX
    go_enter Tryd.func7, Tryd.ntmps7
    go_wp2_with fail
    refine CX.mono ?_; rintro e w1 ⟨rfl, hb1⟩
    have hsz1 := hb1.size
    have CY := BookFault_calls ys hy ay cy ey w1 (hry.below hb1) hly
    clear CX
    by_cases hfy : fault ys = 0
    · rw [hfy] at CY
      go_wp2_with fail
      refine CY.mono ?_; rintro e w2 ⟨rfl, hb2⟩
      clear CY
      have HBB := Lib.hid (hb1.trans (hb2.mono hb1.size))
      have HG1 := Lib.hid (fault_zero.1 hfx)
      have HG2 := Lib.hid (fault_zero.1 hfy)
      have HRX := Lib.hid (hrx.below HBB.out)
      have HRY := Lib.hid (hry.below HBB.out)
      have HXW := Lib.hid hx
      have HYW := Lib.hid hy
      have hx40 : xs.length ≤ 40 := HG1.out.1
      have hy40 : ys.length ≤ 40 := HG2.out.1
      obtain ⟨M, hM⟩ : ∃ M, M = mergeC xs ys := ⟨_, rfl⟩
      have HM := Lib.hid hM
      have HMW : Hid (∀ c ∈ M, CtW c ∧ GoodC c) := Lib.hid (by rw [hM]; exact merge_W2 _ xs ys (Nat.le_refl _) (fun c h => ⟨hx c h, HG1.out.2.2 c h⟩) (fun c h => ⟨hy c h, HG2.out.2.2 c h⟩))
      have hM80 : M.length ≤ 80 := by rw [hM]; have := (merge_length _ xs ys (Nat.le_refl _)).1; omega
      obtain ⟨L, hL⟩ : ∃ L, L = xs ++ ys := ⟨_, rfl⟩
      have HL := Lib.hid hL
      have HLW : Hid (∀ c ∈ L, CtW c) := Lib.hid (by rw [hL]; intro c h; rcases List.mem_append.1 h with h | h; exact hx c h; exact hy c h)
      obtain ⟨N, hN⟩ : ∃ N, N = L.length := ⟨_, rfl⟩
      have HN := Lib.hid hN
      have hN80 : N ≤ 80 := by rw [hN, hL, List.length_append]; omega
      have HNs : Hid (xs.length + ys.length = N) := Lib.hid (by rw [hN, hL, List.length_append])
      have HCL : Hid ([] ++ cellsC xs ++ cellsC ys = cellsC L) := Lib.hid (by rw [hL, cells_append]; rfl)
      have HLX := Lib.hid (cells_length xs hx)
      have HLY := Lib.hid (cells_length ys hy)
      obtain ⟨BB, hBB⟩ : ∃ BB, BB = w2.heap.size := ⟨_, rfl⟩
      have HBBs := Lib.hid hBB
      clear hb1 hb2 hsz1 hrx hry hx hy hfx hfy hM hL hN hBB
      go_wp2_with fail
      go_loopw [7, 8] (fun vo vl wr => ∃ k : Nat, k ≤ M.length ∧ vl = .string (lastN M k) ∧ Hid (wr.ownsRow BB 37 34 vo k (cellsC (M.take k))) ∧ Hid (Below BB w2 wr)) (fun vo _ _ => M.length - lenOf vo)
      case atStart => exact ⟨0, Nat.zero_le _, rfl, Lib.hid (World.ownsRow_nil _ _ _ _), Lib.hid (Below.refl _ _)⟩
      case round =>
        obtain ⟨k, hk, rfl, HOWN, HBL⟩ := hrel
        obtain ⟨av0, cap0, rfl⟩ := own_slice HOWN.out
        obtain ⟨wA, rfl⟩ : ∃ z, z = wr := ⟨_, rfl⟩
        obtain ⟨LST, hLST⟩ : ∃ z, z = lastN M k := ⟨_, rfl⟩
        have HLST := Lib.hid hLST
        have HLS : Hid (LST.size ≤ 9223372036854775807) := Lib.hid (by rw [hLST, HM.out]; exact last_size HG1.out HG2.out k)
        rw [← hLST]
        have hBA : BB ≤ wA.heap.size := by rw [HBBs.out]; exact HBL.out.size
        have HRXA := Lib.hid (HRX.out.below (by rw [← HBBs.out]; exact HBL.out))
        have HRYA := Lib.hid (HRY.out.below (by rw [← HBBs.out]; exact HBL.out))
        have O0 := Lib.hid (World.ownsRow_made (base := wA.heap.size) (e := 37) (size := 34) wA #[] 0 (Nat.le_refl _) (Nat.zero_le _) rfl)
        have B0 : Hid (Below wA.heap.size wA (wA.alloc (.cells #[] 37))) := Lib.hid ((Below.refl _ _).alloc (Nat.le_refl _) _)
        have hs0 := B0.out.size
        clear hLST
        go_upto_region 11 with (first
          | (at_builtin; refine appAll 22 37 _ 34 56 Tryd.underlying22 info_cont rfl (by omega) (by omega) rfl (.tmp 26) (.tmp 27) (by rfl) wA.heap.size _ (0) ([]) (by rfl) O0.out (ax) xs.length (cx) (cellsC xs) (by rfl) _ (HRXA.out.below B0.out) HLX.out (cells_one_all _) (by omega) hs0 ?_; intro av3 cap3 w3 hown3 hb3; rw [Nat.zero_add] at hown3 ⊢; have HOWN3 := Lib.hid hown3; have HB3 := Lib.hid (B0.out.trans hb3); have hs3 := HB3.out.size; clear hown3 hb3)
          | (at_builtin; refine appAll 22 37 _ 34 56 Tryd.underlying22 info_cont rfl (by omega) (by omega) rfl (.tmp 28) (.tmp 29) (by rfl) wA.heap.size (.slice av3 xs.length cap3) (xs.length) ([] ++ cellsC xs) (by rfl) HOWN3.out (ay) ys.length (cy) (cellsC ys) (by rfl) _ (HRYA.out.below HB3.out) HLY.out (cells_one_all _) (by omega) hs3 ?_; intro av4 cap4 w4 hown4 hb4; rw [HNs.out] at hown4 ⊢; rw [HCL.out] at hown4; have HOWN4 := Lib.hid hown4; have HB4A := Lib.hid (HB3.out.trans hb4); have hs4 := HB4A.out.size; clear hown4 hb4))
        try any_goals (exfalso; omega)
        go_loopw [9, 11] (fun vn vi wi => ∃ i : Nat, i ≤ N ∧ vn = .string (scanN LST (L.take i)) ∧ vi = .int .i64 (i : Int) ∧ Hid (Below w4.heap.size w4 wi)) (fun _ vi _ => N - (intOf vi).toNat)
        case atStart => exact ⟨0, Nat.zero_le _, rfl, rfl, Lib.hid (Below.refl _ _)⟩
        case round =>
          obtain ⟨i, hi, rfl, rfl, HBI⟩ := hrel
          by_cases hlt : i < N
          · have hltL : i < L.length := by rw [← HN.out]; exact hlt
            obtain ⟨B, o, rfl, hB, hrg⟩ := (Rd.of_own HOWN4.out).cont HLW.out hltL
            have hst := scan_take (last := LST) hltL
            have hLi := HLW.out _ (List.getElem_mem hltL)
            obtain ⟨c, hc⟩ : ∃ c, c = L[i] := ⟨_, rfl⟩
            rw [← hc] at hst hLi hrg
            have nc := range_name (range_below hrg HBI.out hB)
            obtain ⟨s, hs⟩ : ∃ s, s = c.name := ⟨_, rfl⟩
            rw [← hs] at nc hst
            have hsz : s.size ≤ 9223372036854775807 := by rw [hs]; exact hLi.2.1
            obtain ⟨cur, hcur⟩ : ∃ z, z = scanN LST (L.take i) := ⟨_, rfl⟩
            have hcsz : cur.size ≤ 9223372036854775807 := by rw [hcur]; exact scan_size HLW.out _ _ (by omega)
            rw [← hcur] at hst ⊢
            have HST := Lib.hid hst
            have i0 : (0 : Int) ≤ (i : Int) := by omega
            have i1 : (i : Int) < (N : Int) := by omega
            have e4 : IntKind.i64.wrap ((i : Int) + 1) = (i : Int) + 1 := IntWalk.i64_in _ (by omega)
            obtain ⟨b1, hb1⟩ : ∃ b, b = Op.bytesLess (sb LST) (sb s) := ⟨_, rfl⟩
            have HB1 := Lib.hid hb1
            have LC1 := Less_calls LST s HLS.out hsz wr
            have HSZ := Lib.hid hsz
            have HCSZ := Lib.hid hcsz
            rw [← hb1] at LC1
            clear hst hb1 hrg hc hs hLi hcur hsz hcsz
            go_wp2_with fail
            refine LC1.mono ?_; rintro e wB ⟨rfl, hbB⟩
            have HBB1 := Lib.hid (HBI.out.trans (hbB.mono HBI.out.size))
            clear LC1 nc hbB
            cases b1 with
            | false =>
              go_wp2_with fail
              go_roundw
              case rel => exact ⟨i + 1, by omega, by rw [HST.out]; unfold stepN; rw [← HB1.out, if_neg (fun e => by cases e.1)], by go_num, HBB1⟩
              case measure => simp [intOf]; omega
            | true =>
              by_cases hcn : cur = noName
              · have q1 : (cur.toList == []) = true := by rw [str_nil, decide_eq_true hcn]
                have q2 : (cur.data.toList == []) = true := by rw [str_nil2, decide_eq_true hcn]
                have HCN := Lib.hid hcn
                clear hcn
                go_wp2_with fail
                go_roundw
                case rel => exact ⟨i + 1, by omega, by rw [HST.out]; unfold stepN; rw [← HB1.out, if_pos ⟨rfl, .inl HCN.out⟩], by go_num, HBB1⟩
                case measure => simp [intOf]; omega
              · have q1 : (cur.toList == []) = false := by rw [str_nil, decide_eq_false hcn]
                have q2 : (cur.data.toList == []) = false := by rw [str_nil2, decide_eq_false hcn]
                have HCN := Lib.hid hcn
                obtain ⟨b3, hb3⟩ : ∃ b, b = Op.bytesLess (sb s) (sb cur) := ⟨_, rfl⟩
                have HB3 := Lib.hid hb3
                have LC2 := Less_calls s cur HSZ.out HCSZ.out wB
                rw [← hb3] at LC2
                clear hcn hb3
                go_wp2_with fail
                refine LC2.mono ?_; rintro e wC ⟨rfl, hbC⟩
                have HBB2 := Lib.hid (HBB1.out.trans (hbC.mono HBB1.out.size))
                clear LC2 hbC
                cases b3 with
                | false =>
                  go_wp2_with fail
                  go_roundw
                  case rel => exact ⟨i + 1, by omega, by rw [HST.out]; unfold stepN; rw [← HB3.out, if_neg (fun e => by rcases e.2 with e | e; exact HCN.out e; cases e)], by go_num, HBB2⟩
                  case measure => simp [intOf]; omega
                | true =>
                  go_wp2_with fail
                  go_roundw
                  case rel => exact ⟨i + 1, by omega, by rw [HST.out]; unfold stepN; rw [← HB1.out, ← HB3.out, if_pos ⟨rfl, .inr rfl⟩], by go_num, HBB2⟩
                  case measure => simp [intOf]; omega
          · obtain rfl : i = N := by omega
            have HSC : Hid (scanN LST (L.take i) = scanN (lastN (mergeC xs ys) k) (xs ++ ys)) := Lib.hid (by rw [HN.out, List.take_length, HLST.out, HM.out, HL.out])
            obtain ⟨nx, hnx⟩ : ∃ z, z = scanN LST (L.take i) := ⟨_, rfl⟩
            rw [← hnx]
            have HNX := Lib.hid hnx
            have HBX : Hid (Below wA.heap.size wA wr) := Lib.hid (HB4A.out.trans (HBI.out.mono HB4A.out.size))
            have hsX := HBX.out.size
            have HOWNX := Lib.hid (own_below HOWN.out HBX.out)
            have HBLX := Lib.hid (HBL.out.trans (HBX.out.mono hBA))
            obtain ⟨wX, rfl⟩ : ∃ z, z = wr := ⟨_, rfl⟩
            clear hlt
            by_cases hkM : k < M.length
            · have HNM : Hid (nx = M[k].name) := Lib.hid (by
                rw [hnx, HSC.out]
                have := HM.out
                subst this
                exact scan_next HG1.out HG2.out hkM)
              have HLK : Hid (optB (lk xs nx) (lk ys nx) = some M[k]) := Lib.hid (by
                rw [HNM.out]
                have := HM.out
                subst this
                exact lk_next HG1.out HG2.out hkM)
              have hcM := HMW.out _ (List.getElem_mem hkM)
              have hne : nx ≠ noName := by rw [HNM.out]; exact good_name hcM.2
              have hls : lastN M (k + 1) = nx := by rw [HNM.out]; exact last_succ hkM
              have htk : M.take (k + 1) = M.take k ++ [M[k]] := List.take_succ_eq_append_getElem hkM
              obtain ⟨c, hc⟩ : ∃ c, c = M[k] := ⟨_, rfl⟩
              rw [← hc] at HLK hcM htk HNM
              have HLS2 := Lib.hid hls
              have HTK := Lib.hid htk
              have HCW := Lib.hid hcM.1
              have q1 : (nx.toList == []) = false := by rw [str_nil, decide_eq_false hne]
              have q2 : (nx.data.toList == []) = false := by rw [str_nil2, decide_eq_false hne]
              have HRXX := Lib.hid (HRXA.out.below HBX.out)
              have HRYX := Lib.hid (HRYA.out.below HBX.out)
              have hkl := hkM
              clear hc hls htk hne hnx hcM
              have KX := Known_calls xs HXW.out ax cx ex nx wX HRXX.out (by omega)
              obtain ⟨ox, hox⟩ : ∃ z, z = lk xs nx := ⟨_, rfl⟩
              obtain ⟨oy, hoy⟩ : ∃ z, z = lk ys nx := ⟨_, rfl⟩
              have HOX := Lib.hid hox
              have HOY := Lib.hid hoy
              rw [← hox, ← hoy] at HLK
              rw [← hox] at KX
              have hxg : ∀ c, ox = some c → CtW c ∧ GoodC c ∧ c.name = nx := fun c h => by
                rw [hox] at h; obtain ⟨h1, h2⟩ := lk_some h; exact ⟨HXW.out c h1, HG1.out.2.2 c h1, h2⟩
              have hyg : ∀ c, oy = some c → CtW c ∧ GoodC c ∧ c.name = nx := fun c h => by
                rw [hoy] at h; obtain ⟨h1, h2⟩ := lk_some h; exact ⟨HYW.out c h1, HG2.out.2.2 c h1, h2⟩
              have HXG := Lib.hid hxg
              have HYG := Lib.hid hyg
              have hXX : CtW (ox.getD zeroCt) := by
                cases ox with
                | none => exact zero_W
                | some c => exact (HXG.out c rfl).1
              have hYY : CtW (oy.getD zeroCt) := by
                cases oy with
                | none => exact zero_W
                | some c => exact (HYG.out c rfl).1
              obtain ⟨XX, hXd⟩ : ∃ z, z = ox.getD zeroCt := ⟨_, rfl⟩
              obtain ⟨YY, hYd⟩ : ∃ z, z = oy.getD zeroCt := ⟨_, rfl⟩
              rw [← hXd] at KX hXX
              rw [← hYd] at hYY
              have HXX := Lib.hid hXX
              have HYY := Lib.hid hYY
              have HXD := Lib.hid hXd
              have HYD := Lib.hid hYd
              clear hox hoy hxg hyg hXX hYY hXd hYd hkM
              go_wp2_with fail
              refine KX.mono ?_; rintro e w5 ⟨rfl, hb5⟩
              obtain ⟨H5, hH5⟩ : ∃ z, z = w5.heap.size := ⟨_, rfl⟩
              obtain ⟨w6, hw6⟩ : ∃ z, z = w5.alloc (.cells (cV XX) 37) := ⟨_, rfl⟩
              have h6s : w6.heap.size = H5 + 1 := by rw [hw6, hH5]; exact World.size_alloc _ _
              have h6b : Below H5 w5 w6 := by rw [hw6, hH5]; exact (Below.refl _ _).alloc (Nat.le_refl _) _
              have h6g : w6.heap[H5]? = some (.cells (cV XX) 37 (0, 0)) := by rw [hw6, hH5]; exact heap_alloc_new _ _
              have hX5 : wX.heap.size ≤ H5 := by rw [hH5]; exact hb5.size
              have HB6 := Lib.hid (hb5.trans (h6b.mono hX5))
              have HG6 := Lib.hid h6g
              have HW6 := Lib.hid hw6
              have HH5 := Lib.hid hH5
              have H6S := Lib.hid h6s
              have KY := Known_calls ys HYW.out ay cy ey nx w6 (HRYX.out.below HB6.out) (by omega)
              rw [← HOY.out, ← HYD.out] at KY
              clear KX hb5 hH5 hw6 h6s h6b h6g
              go_wp2_with (refine st_recNew contT rfl (.tmp 13) (.tmp 61) rfl XX HXX.out (by rfl) _ _ (by rfl) (by rfl) ?_)
              rw [← HW6.out, ← HH5.out]
              refine KY.mono ?_; rintro e w7 ⟨rfl, hb7⟩
              obtain ⟨H7, hH7⟩ : ∃ z, z = w7.heap.size := ⟨_, rfl⟩
              obtain ⟨w8, hw8⟩ : ∃ z, z = w7.alloc (.cells (cV YY) 37) := ⟨_, rfl⟩
              have h8s : w8.heap.size = H7 + 1 := by rw [hw8, hH7]; exact World.size_alloc _ _
              have h8b : Below H7 w7 w8 := by rw [hw8, hH7]; exact (Below.refl _ _).alloc (Nat.le_refl _) _
              have h8g : w8.heap[H7]? = some (.cells (cV YY) 37 (0, 0)) := by rw [hw8, hH7]; exact heap_alloc_new _ _
              have h67 : H5 + 1 ≤ H7 := by rw [hH7, ← H6S.out]; exact hb7.size
              have hb68 := hb7.trans (h8b.mono (by rw [H6S.out]; exact h67))
              have HB8 := Lib.hid (HB6.out.trans (hb68.mono (by rw [H6S.out]; omega)))
              have HG8X : Hid (w8.heap[H5]? = some (.cells (cV XX) 37 (0, 0))) := Lib.hid ((hb68.block H5 (by rw [H6S.out]; omega)).trans HG6.out)
              have HG8 := Lib.hid h8g
              have HW8 := Lib.hid hw8
              have HH7 := Lib.hid hH7
              have H8S := Lib.hid h8s
              have hX8 := HB8.out.size
              clear KY hb7 hH7 hw8 h8s h8b h8g hb68 HW6 HH5 HG6 HB6
              go_upto_region 19 with (refine st_recNew contT rfl (.tmp 15) (.tmp 67) rfl YY HYY.out (by rfl) _ _ (by rfl) (by rfl) ?_)
              rw [← HW8.out, ← HH7.out]
              clear HW8 HH7
              cases ox with
              | none =>
                cases oy with
                | none => have := HLK.out; simp [optB] at this
                | some y =>
                  obtain rfl : y = c := by have := HLK.out; simpa [optB] using this
                  obtain rfl : YY = y := HYD.out
                  obtain ⟨w9, hw9⟩ : ∃ z, z = w8.setRow H5 (cV YY) := ⟨_, rfl⟩
                  have HB9 : Hid (Below wX.heap.size wX w9) := Lib.hid (by rw [hw9]; exact below_setRow HB8.out hX5 _)
                  have HR9 : Hid (w9.rangeAt H5 0 (cL YY)) := Lib.hid (by rw [hw9]; exact range_rec (setRow_heap _ _ _ _ _ _ HG8X.out))
                  have HW9 := Lib.hid hw9
                  clear hw9
                  go_upto_region 23 with (first
                    | (refine ld_recMG contT (by rfl) (.tmp 15) rfl H7 0 (by rfl) YY HYY.out (range_rec HG8.out) ?_)
                    | (refine st_rec contT rfl (.tmp 13) (.tmp 77) rfl H5 YY HYY.out (by rfl) (by rfl) (cV XX) (cV_size HXX.out) _ HG8X.out ?_))
                  rw [← HW9.out]
                  have hs9 := HB9.out.size
                  have HOWN9 : Hid ((w9.alloc (.cells (cV YY) 37)).ownsRow BB 37 34 (.slice av0 k cap0) k (cellsC (M.take k))) := Lib.hid ((own_below HOWNX.out HB9.out).alloc _)
                  have HB9A : Hid (Below wX.heap.size wX (w9.alloc (.cells (cV YY) 37))) := Lib.hid (HB9.out.alloc HB9.out.size _)
                  have hs9a := HB9A.out.size
                  have HRdc : Hid (Rd (w9.alloc (.cells (cV YY) 37)) (some ⟨w9.heap.size, 0, none⟩) 37 (cellsC [YY])) := Lib.hid (by rw [cells_one, ← cV_list]; exact Rd.new _ _ _)
                  have HCl : Hid ((cellsC [YY]).length = 1 * 34) := Lib.hid (cells_length [YY] (fun c h => by rw [List.mem_singleton.1 h]; exact HYY.out))
                  have hBX : BB ≤ wX.heap.size := by omega
                  clear HW9
                  go_upto_region 24 with (first
                    | (refine ld_recMG contT (by rfl) (.tmp 13) rfl H5 0 (by rfl) YY HYY.out HR9.out ?_)
                    | (refine bld_one rfl (.tmp 79) rfl YY HYY.out (by rfl) ?_)
                    | (at_builtin; refine appAll 22 37 _ 34 56 Tryd.underlying22 info_cont rfl (by omega) (by omega) rfl (.tmp 78) (.tmp 80) (by rfl) BB (.slice av0 k cap0) (k) (cellsC (M.take k)) (by rfl) HOWN9.out (some ⟨w9.heap.size, 0, none⟩) 1 (1) (cellsC [YY]) (by rfl) _ (HRdc.out) HCl.out (cells_one_all _) (by omega) (by omega) ?_; intro avE capE wE hownE hbE; rw [← cells_append, ← HTK.out] at hownE; have HOWNE := Lib.hid hownE; have HBE := Lib.hid (HBLX.out.trans ((HB9A.out.mono hBX).trans hbE)); clear hownE hbE))
                  try any_goals (exfalso; omega)
                  go_wp2_with fail
                  go_roundw
                  case rel => exact ⟨k + 1, by omega, by rw [HLS2.out], HOWNE, HBE⟩
                  case measure => simp only [lenOf]; omega
              | some x =>
                cases oy with
                | none =>
                  obtain rfl : x = c := by have := HLK.out; simpa [optB] using this
                  obtain rfl : XX = x := HXD.out
                  obtain ⟨w9, hw9⟩ : ∃ z, z = w8 := ⟨_, rfl⟩
                  have HB9 : Hid (Below wX.heap.size wX w9) := Lib.hid (by rw [hw9]; exact HB8.out)
                  have HR9 : Hid (w9.rangeAt H5 0 (cL XX)) := Lib.hid (by rw [hw9]; exact range_rec HG8X.out)
                  have HW9 := Lib.hid hw9
                  go_upto_region 23 with fail
                  rw [← hw9]
                  clear hw9
                  have hs9 := HB9.out.size
                  have HOWN9 : Hid ((w9.alloc (.cells (cV XX) 37)).ownsRow BB 37 34 (.slice av0 k cap0) k (cellsC (M.take k))) := Lib.hid ((own_below HOWNX.out HB9.out).alloc _)
                  have HB9A : Hid (Below wX.heap.size wX (w9.alloc (.cells (cV XX) 37))) := Lib.hid (HB9.out.alloc HB9.out.size _)
                  have hs9a := HB9A.out.size
                  have HRdc : Hid (Rd (w9.alloc (.cells (cV XX) 37)) (some ⟨w9.heap.size, 0, none⟩) 37 (cellsC [XX])) := Lib.hid (by rw [cells_one, ← cV_list]; exact Rd.new _ _ _)
                  have HCl : Hid ((cellsC [XX]).length = 1 * 34) := Lib.hid (cells_length [XX] (fun c h => by rw [List.mem_singleton.1 h]; exact HXX.out))
                  have hBX : BB ≤ wX.heap.size := by omega
                  clear HW9
                  go_upto_region 24 with (first
                    | (refine ld_recMG contT (by rfl) (.tmp 13) rfl H5 0 (by rfl) XX HXX.out HR9.out ?_)
                    | (refine bld_one rfl (.tmp 79) rfl XX HXX.out (by rfl) ?_)
                    | (at_builtin; refine appAll 22 37 _ 34 56 Tryd.underlying22 info_cont rfl (by omega) (by omega) rfl (.tmp 78) (.tmp 80) (by rfl) BB (.slice av0 k cap0) (k) (cellsC (M.take k)) (by rfl) HOWN9.out (some ⟨w9.heap.size, 0, none⟩) 1 (1) (cellsC [XX]) (by rfl) _ (HRdc.out) HCl.out (cells_one_all _) (by omega) (by omega) ?_; intro avE capE wE hownE hbE; rw [← cells_append, ← HTK.out] at hownE; have HOWNE := Lib.hid hownE; have HBE := Lib.hid (HBLX.out.trans ((HB9A.out.mono hBX).trans hbE)); clear hownE hbE))
                  try any_goals (exfalso; omega)
                  go_wp2_with fail
                  go_roundw
                  case rel => exact ⟨k + 1, by omega, by rw [HLS2.out], HOWNE, HBE⟩
                  case measure => simp only [lenOf]; omega
                | some y =>
                  obtain rfl : bothC x y = c := by have := HLK.out; simpa [optB] using this
                  obtain rfl : XX = x := HXD.out
                  obtain rfl : YY = y := HYD.out
                  obtain ⟨x1, x2, x3⟩ := HXG.out XX rfl
                  obtain ⟨y1, y2, y3⟩ := HYG.out YY rfl
                  have OC := One_calls XX YY x1 y1 (x3.trans y3.symm) ⟨x2.2.1, x2.2.2.1⟩ ⟨y2.2.1, y2.2.2.1⟩ w8
                  obtain ⟨c, hc⟩ : ∃ z, z = bothC XX YY := ⟨_, rfl⟩
                  rw [← hc] at HCW HTK OC
                  clear x1 x2 x3 y1 y2 y3 HLK hc
                  go_wp2_with (first
                    | (refine ld_recMG contT (by rfl) (.tmp 13) rfl H5 0 (by rfl) XX HXX.out (range_rec HG8X.out) ?_)
                    | (refine ld_recMG contT (by rfl) (.tmp 15) rfl H7 0 (by rfl) YY HYY.out (range_rec HG8.out) ?_))
                  refine OC.mono ?_; rintro e wZ ⟨rfl, hbZ⟩
                  have hgZ : wZ.heap[H5]? = some (.cells (cV XX) 37 (0, 0)) := (hbZ.block H5 (by rw [H8S.out]; omega)).trans HG8X.out
                  have HGZ := Lib.hid hgZ
                  obtain ⟨w9, hw9⟩ : ∃ z, z = wZ.setRow H5 (cV c) := ⟨_, rfl⟩
                  have HB9 : Hid (Below wX.heap.size wX w9) := Lib.hid (by rw [hw9]; exact below_setRow (HB8.out.trans (hbZ.mono hX8)) hX5 _)
                  have HR9 : Hid (w9.rangeAt H5 0 (cL c)) := Lib.hid (by rw [hw9]; exact range_rec (setRow_heap _ _ _ _ _ _ hgZ))
                  have HW9 := Lib.hid hw9
                  clear hw9 hgZ hbZ OC
                  go_upto_region 23 with (refine st_rec contT rfl (.tmp 13) (.tmp 75) rfl H5 c HCW.out (by rfl) (by rfl) (cV XX) (cV_size HXX.out) _ HGZ.out ?_)
                  rw [← HW9.out]
                  have hs9 := HB9.out.size
                  have HOWN9 : Hid ((w9.alloc (.cells (cV c) 37)).ownsRow BB 37 34 (.slice av0 k cap0) k (cellsC (M.take k))) := Lib.hid ((own_below HOWNX.out HB9.out).alloc _)
                  have HB9A : Hid (Below wX.heap.size wX (w9.alloc (.cells (cV c) 37))) := Lib.hid (HB9.out.alloc HB9.out.size _)
                  have hs9a := HB9A.out.size
                  have HRdc : Hid (Rd (w9.alloc (.cells (cV c) 37)) (some ⟨w9.heap.size, 0, none⟩) 37 (cellsC [c])) := Lib.hid (by rw [cells_one, ← cV_list]; exact Rd.new _ _ _)
                  have HCl : Hid ((cellsC [c]).length = 1 * 34) := Lib.hid (cells_length [c] (fun c h => by rw [List.mem_singleton.1 h]; exact HCW.out))
                  have hBX : BB ≤ wX.heap.size := by omega
                  clear HW9
                  go_upto_region 24 with (first
                    | (refine ld_recMG contT (by rfl) (.tmp 13) rfl H5 0 (by rfl) c HCW.out HR9.out ?_)
                    | (refine bld_one rfl (.tmp 79) rfl c HCW.out (by rfl) ?_)
                    | (at_builtin; refine appAll 22 37 _ 34 56 Tryd.underlying22 info_cont rfl (by omega) (by omega) rfl (.tmp 78) (.tmp 80) (by rfl) BB (.slice av0 k cap0) (k) (cellsC (M.take k)) (by rfl) HOWN9.out (some ⟨w9.heap.size, 0, none⟩) 1 (1) (cellsC [c]) (by rfl) _ (HRdc.out) HCl.out (cells_one_all _) (by omega) (by omega) ?_; intro avE capE wE hownE hbE; rw [← cells_append, ← HTK.out] at hownE; have HOWNE := Lib.hid hownE; have HBE := Lib.hid (HBLX.out.trans ((HB9A.out.mono hBX).trans hbE)); clear hownE hbE))
                  try any_goals (exfalso; omega)
                  go_wp2_with fail
                  go_roundw
                  case rel => exact ⟨k + 1, by omega, by rw [HLS2.out], HOWNE, HBE⟩
                  case measure => simp only [lenOf]; omega
            · obtain rfl : k = M.length := by omega
              have HNM : nx = noName := by
                rw [hnx, HSC.out]
                have := HM.out
                subst this
                exact scan_end HG1.out HG2.out
              have q1 : (nx.toList == []) = true := by rw [str_nil, decide_eq_true HNM]
              have q2 : (nx.data.toList == []) = true := by rw [str_nil2, decide_eq_true HNM]
              have HOWNF : Hid (wX.ownsRow BB 37 34 (.slice av0 M.length cap0) M.length (cellsC M)) := Lib.hid (by have := HOWNX.out; rwa [List.take_length] at this)
              have HBF : Hid (Below w.heap.size w wX) := Lib.hid (HBB.out.trans (HBLX.out.mono (by rw [HBBs.out]; exact HBB.out.size)))
              clear HNM hnx hkM
              obtain ⟨ml, hml⟩ : ∃ z, z = M.length := ⟨_, rfl⟩
              have HML := Lib.hid hml
              rw [← hml] at HOWNF
              by_cases h40 : 40 < ml
              · have hj : joinFault xs ys = 4 := by unfold joinFault; rw [if_neg (by rw [fault_zero.2 HG1.out]; simp), if_neg (by rw [fault_zero.2 HG2.out]; simp), if_pos (by rw [← HM.out, ← HML.out]; exact h40)]
                have HJ := Lib.hid hj
                have p1 : decide ((40 : Int) < (ml : Int)) = true := by rw [decide_eq_true_eq]; omega
                have p2 : decide (40 < ml) = true := decide_eq_true h40
                rw [← hml]
                clear hj hml
                go_wp2_with fail
                go_ret2
                exact ⟨HBF.out, .inr ⟨by rw [HJ.out]; decide, by rw [HJ.out]; rfl⟩⟩
              · have hj : joinFault xs ys = 0 := by unfold joinFault; rw [if_neg (by rw [fault_zero.2 HG1.out]; simp), if_neg (by rw [fault_zero.2 HG2.out]; simp), if_neg (by rw [← HM.out, ← HML.out]; exact h40)]
                have HJ := Lib.hid hj
                have p1 : decide ((40 : Int) < (ml : Int)) = false := by rw [decide_eq_false]; omega
                have p2 : decide (40 < ml) = false := decide_eq_false h40
                rw [← hml]
                clear hj hml
                go_wp2_with fail
                go_ret2
                exact ⟨HBF.out, .inl ⟨HJ.out, av0, cap0, 37, by rw [← HM.out, ← HML.out]; rfl, by rw [← HM.out, ← HML.out]; exact (own_capp HOWNF.out).1, (own_capp HOWNF.out).2, by rw [← HM.out]; exact Rd.of_own HOWNF.out⟩⟩
    · have hjf : joinFault xs ys = fault ys := by unfold joinFault; rw [if_neg (by rw [hfx]; simp), if_pos hfy]
      obtain ⟨fy, hfy2⟩ : ∃ z, z = fault ys := ⟨_, rfl⟩
      rw [← hfy2] at hjf hfy CY
      have HJ := Lib.hid hjf
      have HF := Lib.hid hfy
      have q1 : decide (fy = 0) = false := decide_eq_false hfy
      have q2 : (fy == 0) = false := by simpa using hfy
      clear hjf hfx hfy2
      go_wp2_with fail
      refine CY.mono ?_; rintro e w2 ⟨rfl, hb2⟩
      clear CY
      go_wp2_with fail
      go_ret2
      exact ⟨hb1.trans (hb2.mono hb1.size), .inr ⟨by rw [HJ.out]; exact HF.out, by rw [HJ.out]; rfl⟩⟩
  · have hjf : joinFault xs ys = fault xs := by unfold joinFault; rw [if_pos hfx]
    obtain ⟨fx, hfx2⟩ : ∃ z, z = fault xs := ⟨_, rfl⟩
    rw [← hfx2] at hjf hfx CX
    have HJ := Lib.hid hjf
    have HF := Lib.hid hfx
    have q1 : decide (fx = 0) = false := decide_eq_false hfx
    have q2 : (fx == 0) = false := by simpa using hfx
    clear hjf hfx2
    go_enter Tryd.func7, Tryd.ntmps7
    go_wp2_with fail
    refine CX.mono ?_; rintro e w1 ⟨rfl, hb1⟩
    clear CX
    go_wp2_with fail
    go_ret2
    exact ⟨hb1, .inr ⟨by rw [HJ.out]; exact HF.out, by rw [HJ.out]; rfl⟩⟩
end Go.Proofs.YtppjmonbmlbhpaaDoor
