/- Walk of the document's answer: a leaf. -/
import Derived.Test.YtpeomfehdccmmaaDoorEntMem
import Derived.Deep.AppendLies
import Derived.Test.YtpeomfehdccmmaaDoorTriePath2
import Derived.Test.YtpeomfehdccmmaaDoorTrieLeafed
import Derived.BigQuiet
namespace Go.Proofs.YtpeomfehdccmmaaDoor
open Go.RowKit
set_option linter.unusedVariables false
set_option linter.unusedSimpArgs false

set_option maxRecDepth 20000 in
set_option maxHeartbeats 8000000 in
theorem EntryLeaf_calls (k : Nat) (hk : k < 4294967296) (v : List UInt8) (hv : v.length = 32) (w : World) :
    Calls Tryd.prog 25 #[.agg (eV (k : Int) v)] w fun e w' => e = .returned (.agg (dV (leafD k v))) ∧ Below w.heap.size w w' := by
  obtain ⟨Z, hZ⟩ : ∃ Z, Z = nz := ⟨_, rfl⟩
  have zl : Z.length = 32 := by rw [hZ]; rfl
  have zlit : (#[.int .u8 0, .int .u8 0, .int .u8 0, .int .u8 0, .int .u8 0, .int .u8 0, .int .u8 0, .int .u8 0, .int .u8 0, .int .u8 0, .int .u8 0, .int .u8 0, .int .u8 0, .int .u8 0, .int .u8 0, .int .u8 0, .int .u8 0, .int .u8 0, .int .u8 0, .int .u8 0, .int .u8 0, .int .u8 0, .int .u8 0, .int .u8 0, .int .u8 0, .int .u8 0, .int .u8 0, .int .u8 0, .int .u8 0, .int .u8 0, .int .u8 0, .int .u8 0] : Array Value) = dV Z := by rw [hZ]; exact zdig
  have ZL := Lib.hid zl
  have ZT := Lib.hid zlit
  have HZ := Lib.hid hZ
  clear zl zlit hZ
  obtain ⟨H, hH⟩ : ∃ H, H = w.heap.size := ⟨_, rfl⟩
  obtain ⟨w0, hw0⟩ : ∃ z, z = w.alloc (.cells (eV (k : Int) v) 35) := ⟨_, rfl⟩
  obtain ⟨w1, hw1⟩ : ∃ z, z = w0.alloc (.cells (dV Z) 23) := ⟨_, rfl⟩
  have q0 : w0.heap.size = H + 1 := by rw [hw0, hH]; exact World.size_alloc _ _
  have q1 : w1.heap.size = H + 1 + 1 := by rw [hw1, World.size_alloc, q0]
  have s0 : Below (H) w w0 := by rw [hw0, hH]; exact (Below.refl _ _).alloc (Nat.le_refl _) _
  have s1 : Below (H + 1) w0 w1 := by rw [hw1, ← q0]; exact (Below.refl _ _).alloc (Nat.le_refl _) _
  have t1 : Below (H + 1 + 1) w1 w1 := Below.refl _ _
  have t0 : Below (H + 1) w0 w1 := s1.trans (t1.mono (by omega))
  have bL : Below H w w1 := s0.trans (t0.mono (by omega))
  have g0 : w1.heap[H]? = some (.cells (eV (k : Int) v) 35 (0, 0)) := by
    have g : w0.heap[H]? = some (.cells (eV (k : Int) v) 35 (0, 0)) := by rw [hw0, hH]; exact heap_alloc_new _ _
    exact (t0.block _ (by omega)).trans g
  have g1 : w1.heap[H + 1]? = some (.cells (dV Z) 23 (0, 0)) := by
    have g : w1.heap[H + 1]? = some (.cells (dV Z) 23 (0, 0)) := by rw [hw1, ← q0]; exact heap_alloc_new _ _
    exact (t1.block _ (by omega)).trans g
  have bW : Below w.heap.size w w1 := by rw [← hH]; exact bL
  have hsz : H + 1 < w1.heap.size := by omega
  have HH := Lib.hid hH
  have HW0 := Lib.hid hw0
  have HW1 := Lib.hid hw1
  have BL := Lib.hid bL
  have BW := Lib.hid bW
  have QL := Lib.hid q1
  have G0 := Lib.hid g0
  have G1 := Lib.hid g1
  clear hH hw0 hw1 q0 q1 s0 s1 t0 t1 g0 g1 bL bW
  have c0 := eV_key G0.out
  obtain ⟨i0, hi0, hz0, hs0, hb0⟩ := info_parts info_byte
  have PC := RPut_calls k 4 (by omega) (by omega) (by omega) w1
  rw [decide_eq_true (show k < 2 ^ (8 * 4) from hk)] at PC
  have HPC := Lib.hid PC
  have HV := Lib.hid hv
  obtain ⟨LF, hLF⟩ : ∃ L, L = shaOf (9 :: (beS 4 k ++ v)) := ⟨_, rfl⟩
  have LFL := Lib.hid (show LF.length = 32 by rw [hLF]; exact shaOf_length _)
  have HLF := Lib.hid hLF
  show Calls Tryd.prog 25 #[.agg (eV (k : Int) v)] w fun e w' => e = .returned (.agg (dV (shaOf (9 :: (beS 4 k ++ v))))) ∧ Below w.heap.size w w'
  rw [← HLF.out]
  clear PC hv hLF
  go_enter Tryd.func25, Tryd.ntmps25
  go_upto_region 1 with fail
  rw [ZT.out, ← HH.out, ← HW0.out, ← HW1.out]
  go_wp2_with fail
  refine HPC.out.mono ?_
  rintro e w2 ⟨ap, cp, rfl, hown2, hb2⟩
  have rk2 := Rd.of_own hown2
  obtain ⟨PB, po, hap, _, _⟩ := rk2.bytes (k := 0) (by rw [beS_length]; omega)
  subst hap
  have RK2 := Lib.hid rk2
  clear rk2
  have B2 := Lib.hid hb2
  have G02 := Lib.hid ((hb2.block H (by have := QL.out; omega)).trans G0.out)
  have G12 := Lib.hid ((hb2.block (H + 1) hsz).trans G1.out)
  obtain ⟨Y, hY⟩ : ∃ Y, Y = w2.heap.size := ⟨_, rfl⟩
  obtain ⟨w3, hw3⟩ : ∃ z, z = w2.alloc (.cells (dV v) 23) := ⟨_, rfl⟩
  have b23 : Below w2.heap.size w2 w3 := by rw [hw3]; exact (Below.refl _ _).alloc (Nat.le_refl _) _
  have G3 := Lib.hid (show w3.heap[Y]? = some (.cells (dV v) 23 (0, 0)) by rw [hw3, hY]; exact heap_alloc_new _ _)
  have RV := Lib.hid (show Rd w3 (some ⟨Y, 0, none⟩) 23 (v.map vB) by rw [hw3, hY]; exact Rd.box w2 v _)
  have RK3 := Lib.hid (RK2.out.below b23)
  have B3 := Lib.hid (hb2.trans (b23.mono hb2.size))
  have G13 := Lib.hid ((b23.block (H + 1) (Nat.lt_of_lt_of_le hsz hb2.size)).trans G12.out)
  have HY := Lib.hid hY
  have Hw3 := Lib.hid hw3
  have h1Y : H + 1 < w3.heap.size := Nat.lt_of_lt_of_le hsz B3.out.size
  clear hY hw3 b23 hb2 hown2 HPC
  go_upto_region 3 with (first
    | ((refine ld_digG rfl (.tmp 12) rfl H 1 (by rfl) v HV.out (eV_range G02.out) ?_); simp only [Act.put, List.setIfInBounds_toArray, List.set_cons_zero, List.set_cons_succ])
    | ((refine st_new rfl (.tmp 5) (.tmp 13) rfl v HV.out (by rfl) _ _ (by rfl) (by rfl) ?_); rw [← HY.out, ← Hw3.out]))
  obtain ⟨wD, hwD⟩ : ∃ z, z = w3.drew := ⟨_, rfl⟩
  have bD : Below w3.heap.size w3 wD := by rw [hwD]; exact (Below.refl _ _).drew
  have szD : wD.heap.size = w3.heap.size := by rw [hwD]; rfl
  obtain ⟨E, hE⟩ : ∃ E, E = wD.heap.size := ⟨_, rfl⟩
  have o1 : (wD.alloc (.cells #[.int .u8 9] 5)).ownsRow E 5 1 (.slice (some ⟨E, 0, none⟩) 1 1) 1 ([(9 : UInt8)].map vB) := by rw [hE]; exact own_byte1 _ 9 _ (Nat.le_refl _)
  have bE : Below E wD (wD.alloc (.cells #[.int .u8 9] 5)) := by rw [hE]; exact (Below.refl _ _).alloc (Nat.le_refl _) _
  have RVD := Lib.hid (RV.out.below bD)
  have RK4 := Lib.hid ((RK3.out.below bD).below (by rw [← hE]; exact bE))
  have GD1 := Lib.hid ((bD.block (H + 1) h1Y).trans G13.out)
  have BD := Lib.hid (B3.out.trans (bD.mono B3.out.size))
  have O1 := Lib.hid o1
  have BE := Lib.hid bE
  have HE := Lib.hid hE
  have HWD := Lib.hid hwD
  have TXT := Lib.hid (show ([(9 : UInt8)].map vB ++ (beS 4 k).map vB) ++ v.map vB = (9 :: (beS 4 k ++ v)).map vB by simp)
  have h1D : H + 1 < E := by rw [hE, szD]; exact h1Y
  clear o1 bE hE bD hwD szD
  refine wp_region_any (by kernel_rfl) ?_
  change wpAny _ _ _ _ _ _ _ w3.drew
  rw [← HWD.out]
  refine wpAny_take (i := 1) (oi := _) (v := .slice (some ⟨PB, po, none⟩) 4 cp) rfl (by kernel_rfl) (by kernel_rfl) (by kernel_rfl) (fun _ _ _ h => h) (.inl ⟨by rfl, fun w => by go_simp⟩) ?_
  simp only [Act.put, List.getElem_toArray, List.getElem_cons_zero, List.getElem_cons_succ, List.setIfInBounds_toArray, List.set_cons_zero, List.set_cons_succ]
  refine wpAny_take (i := 3) (oi := _) (v := .slice (some ⟨Y, 0, none⟩) 32 32) rfl (by kernel_rfl) (by kernel_rfl) (by kernel_rfl) (fun _ _ _ h => h) (.inl ⟨by rfl, fun w => by go_simp⟩) ?_
  simp only [Act.put, List.getElem_toArray, List.getElem_cons_zero, List.getElem_cons_succ, List.setIfInBounds_toArray, List.set_cons_zero, List.set_cons_succ]
  refine wpAny_ready (rs := [0]) (by kernel_rfl) (by simp) ?_
  refine AllReady.cons (o := _) rfl (fun K hK => ?_) AllReady.nil
  have HK := Lib.hid hK
  clear hK
  go_simp
  refine HK.out _ _ ?_
  clear HK K
  try simp only [Act.put, List.getElem_toArray, List.getElem_cons_zero, List.getElem_cons_succ, List.setIfInBounds_toArray, List.set_cons_zero, List.set_cons_succ]
  rw [← HE.out]
  refine wpAny_ready (rs := [2]) (by kernel_rfl) (by simp) ?_
  refine AllReady.cons (o := _) rfl (fun K hK => ?_) AllReady.nil
  have HK := Lib.hid hK
  clear hK
  refine step_append_lies _ rfl (.tmp 14) (.tmp 15) 80 rfl E 5 i0 (.int .u8 0) 1 1 Tryd.underlying80 hi0 hz0 hs0 hb0 rfl (by omega) _ 1 _ (by rfl) O1.out ⟨PB, po, none⟩ 4 cp ((beS 4 k).map vB) (by rfl) (by simp [beS_length]) (Rd.news RK4.out) (one_bytes _) (by omega) (by simp only [maxLen]; omega) (by omega) (by rw [HE.out]; exact BE.out.size) _ rfl ?_
  intro g4 cp4 w4 hown4 hgr4 hat4 hlt4
  have b4 : Below E wD w4 := below_grow BE.out O1.out hgr4 (by rw [HE.out]; exact BE.out.size)
  have RV5 := Lib.hid (RVD.out.below (by rw [← HE.out]; exact b4))
  have B4 := Lib.hid b4
  have O4 := Lib.hid hown4
  clear b4 hown4 hgr4 hat4 hlt4
  refine HK.out _ _ ?_
  clear HK K
  try simp only [Act.put, List.getElem_toArray, List.getElem_cons_zero, List.getElem_cons_succ, List.setIfInBounds_toArray, List.set_cons_zero, List.set_cons_succ]
  refine wpAny_ready (rs := [4]) (by kernel_rfl) (by simp) ?_
  refine AllReady.cons (o := _) rfl (fun K hK => ?_) AllReady.nil
  have HK := Lib.hid hK
  clear hK
  refine step_append_lies _ rfl (.tmp 16) (.tmp 17) 80 rfl E 5 i0 (.int .u8 0) 1 1 Tryd.underlying80 hi0 hz0 hs0 hb0 rfl (by omega) _ 5 _ (by rfl) O4.out ⟨Y, 0, none⟩ 32 32 (v.map vB) (by rfl) (by rw [List.length_map, HV.out]) (Rd.news RV5.out) (one_bytes _) (by omega) (by simp only [maxLen]; omega) (by omega) (by rw [HE.out]; exact B4.out.size) _ rfl ?_
  intro g5 cp5 w5 hown5 hgr5 hat5 hlt5
  have b5 : Below E wD w5 := below_grow B4.out O4.out hgr5 (by rw [HE.out]; exact B4.out.size)
  rw [TXT.out] at hown5
  have SC := RSum_calls (9 :: (beS 4 k ++ v)) (some ⟨g5, 0, none⟩) cp5 _ w5 (Rd.of_own hown5) (by simp [beS_length, HV.out])
  rw [← HLF.out, show (9 :: (beS 4 k ++ v)).length = 37 by simp [beS_length, HV.out]] at SC
  have HSC := Lib.hid SC
  have B5 := Lib.hid (BD.out.trans (Below.mono (show Below wD.heap.size wD w5 by rw [← HE.out]; exact b5) BD.out.size))
  have G15 := Lib.hid ((b5.block (H + 1) h1D).trans GD1.out)
  clear b5 hown5 hgr5 hat5 hlt5 SC
  refine HK.out _ _ ?_
  clear HK K
  try simp only [Act.put, List.getElem_toArray, List.getElem_cons_zero, List.getElem_cons_succ, List.setIfInBounds_toArray, List.set_cons_zero, List.set_cons_succ]
  refine wpAny_ready (rs := [5]) (by kernel_rfl) (by simp) ?_
  refine AllReady.cons (o := _) rfl (fun K hK => ?_) AllReady.nil
  have HK := Lib.hid hK
  clear hK
  go_simp
  go_at_call 54
  refine HSC.out.mono ?_
  rintro e w6 ⟨rfl, hb6⟩
  have h15 := Nat.lt_of_lt_of_le hsz B5.out.size
  have B6 := Lib.hid (B5.out.trans (hb6.mono B5.out.size))
  have G16 := Lib.hid ((hb6.block (H + 1) (lt_of_heap G15.out)).trans G15.out)
  clear hb6 HSC
  dsimp only
  refine HK.out _ _ ?_
  clear HK K
  try simp only [Act.put, List.getElem_toArray, List.getElem_cons_zero, List.getElem_cons_succ, List.setIfInBounds_toArray, List.set_cons_zero, List.set_cons_succ]
  refine wpAny_ready (rs := [6]) (by kernel_rfl) (by simp) ?_
  refine AllReady.cons (o := _) rfl (fun K hK => ?_) AllReady.nil
  have HK := Lib.hid hK
  clear hK
  rw [if_pos (by rfl)]
  refine wp_store_row _ _ _ rfl (H + 1) (dV LF) (by rfl) (by rfl) _ (dV Z) G16.out (info_dV LFL.out) (by rw [dV_size LFL.out, dV_size ZL.out]) (dV_one LF) ?_
  refine HK.out _ _ ?_
  clear HK K
  try simp only [Act.put, List.getElem_toArray, List.getElem_cons_zero, List.getElem_cons_succ, List.setIfInBounds_toArray, List.set_cons_zero, List.set_cons_succ]
  refine wpAny_done (by kernel_rfl) ?_ _
  go_wp2_with fail
  try simp only [Exit.inBlock, Exit.then]
  refine bodyPost_ret (v := .agg (dV LF)) (results_cellW rfl _ _ _ ⟨H + 1, 0, none⟩ _ rfl ?_) rfl ⟨rfl, ?_⟩
  · exact dig_load LFL.out (range_of_row (setRow_heap _ _ _ (dV LF) _ _ G16.out))
  · rw [← HH.out]
    exact below_setRowW (BL.out.trans (B6.out.mono (by have := QL.out; omega))) (by omega) _
end Go.Proofs.YtpeomfehdccmmaaDoor
/- Walks of the document's answers: what is wrong with entries; the entries of some keys. -/
namespace Go.Proofs.YtpeomfehdccmmaaDoor
open Go.RowKit
set_option linter.unusedVariables false
set_option linter.unusedSimpArgs false

set_option maxRecDepth 20000 in
set_option maxHeartbeats 8000000 in
theorem MapFault_calls (es : List En) (hw : ∀ e ∈ es, EnW e) (a : Option Addr) (cap ea : Nat) (w : World) (hr : Rd w a ea (cellsE es)) (hes : es.length ≤ 9223372036854775807) :
    Calls Tryd.prog 27 #[.slice a es.length cap] w fun e w' => e = .returned (.int .i64 (mapF es)) ∧ Below w.heap.size w w' := by
  have hlen : ∀ e ∈ es, e.val.length = 32 := fun e he => (hw e he).1
  by_cases h64 : 64 < es.length
  · have hf : mapF es = 4 := by unfold mapF; rw [if_pos h64]
    have z1 : (64 : Int) < (es.length : Int) := by omega
    rw [hf]
    clear hf hr hlen hw
    go_enter Tryd.func27, Tryd.ntmps27
    go_wp2_with fail
    go_ret
    exact ⟨rfl, Below.refl _ _⟩
  · have z1 : ¬ (64 : Int) < (es.length : Int) := by omega
    obtain ⟨F, hF⟩ : ∃ F, F = scanG [] es := ⟨_, rfl⟩
    have hf : mapF es = F := by unfold mapF; rw [if_neg h64, hF]
    rw [hf]
    have HS := Lib.hid hF
    have HL := Lib.hid hlen
    have HR := Lib.hid hr
    clear hf hF hlen hw hr
    go_enter Tryd.func27, Tryd.ntmps27
    go_wp2_with fail
    go_loopw [3] (fun i wr => ∃ (k : Nat), k ≤ es.length ∧ i = .int .i64 k ∧ scanG ((es.take k).map (·.key)) (es.drop k) = F ∧ Below w.heap.size w wr) (fun i _ => es.length - (intOf i).toNat)
    case atStart => exact ⟨0, Nat.zero_le _, rfl, by rw [HS.out]; rfl, Below.refl _ _⟩
    case round =>
      obtain ⟨k, hk, rfl, hsc, hbl⟩ := hrel
      obtain ⟨wA, rfl⟩ : ∃ z, z = wr := ⟨_, rfl⟩
      by_cases hlt : k < es.length
      · obtain ⟨b, o, hab, hb, hrg⟩ := (HR.out.below hbl).ent HL.out hlt
        subst hab
        have hdrop : es.drop k = es[k] :: es.drop (k + 1) := List.drop_eq_getElem_cons hlt
        have htake : (es.take (k + 1)).map (·.key) = (es.take k).map (·.key) ++ [es[k].key] := by
          rw [List.take_succ_eq_append_getElem hlt, List.map_append]; rfl
        rw [hdrop, scanG_cons] at hsc
        have k0 : (0 : Int) ≤ (k : Int) := by omega
        have k1 : (k : Int) < (es.length : Int) := by omega
        have e4 : IntKind.i64.wrap ((k : Int) + 1) = (k : Int) + 1 := IntWalk.i64_in _ (by omega)
        have HRA := Lib.hid (HR.out.below hbl)
        obtain ⟨E, hE⟩ : ∃ E, E = es[k] := ⟨_, rfl⟩
        rw [← hE] at hrg htake hsc
        have ck := range_ekey hrg
        have IK := IsKey_calls E.key wA
        have HTK := Lib.hid htake
        have HSC := Lib.hid hsc
        have HBL := Lib.hid hbl
        have HIR := Lib.hid (IsKey_calls E.key wA)
        have HE := Lib.hid hE
        clear hrg hdrop htake hsc hE hbl hb IK
        by_cases hko : KeyOk E.key
        · have kk := HIR.out
          rw [decide_eq_true hko] at kk
          have KK := Lib.hid kk
          have hsc2 := HSC.out
          rw [if_pos hko] at hsc2
          have HSC2 := Lib.hid hsc2
          clear hsc2 kk
          go_wp2_with fail
          refine KK.out.mono ?_
          rintro e w2 ⟨rfl, rfl⟩
          go_wp2_with fail
          go_loopw [4] (fun i wr => ∃ (j : Nat), j ≤ k ∧ i = .int .i64 j ∧ (∀ q, (h : q < j) → (h2 : q < es.length) → es[q].key ≠ E.key) ∧ Below wA.heap.size wA wr) (fun i _ => k - (intOf i).toNat)
          case atStart => exact ⟨0, Nat.zero_le _, rfl, fun q h => absurd h (Nat.not_lt_zero q), Below.refl _ _⟩
          case round =>
            obtain ⟨j, hj, rfl, hne, hbj⟩ := hrel
            obtain ⟨wB, rfl⟩ : ∃ z, z = wr := ⟨_, rfl⟩
            by_cases hlj : j < k
            · obtain ⟨b2, o2, hab2, hb2, hrg2⟩ := (HRA.out.below hbj).ent HL.out (show j < es.length by omega)
              obtain ⟨rfl, rfl⟩ : b2 = b ∧ o2 = o := by simpa using hab2.symm
              obtain ⟨b3, o3, hab3, hb3, hrg3⟩ := (HRA.out.below hbj).ent HL.out hlt
              obtain ⟨rfl, rfl⟩ : b3 = b2 ∧ o3 = o2 := by simpa using hab3.symm
              obtain ⟨X, hX⟩ : ∃ X, X = es[j] := ⟨_, rfl⟩
              rw [← hX] at hrg2
              rw [← HE.out] at hrg3
              have cj := range_ekey hrg2
              have ce := range_ekey hrg3
              have j0 : (0 : Int) ≤ (j : Int) := by omega
              have j1 : (j : Int) < (es.length : Int) := by omega
              have j2 : (j : Int) < (k : Int) := by omega
              have e5 : IntKind.i64.wrap ((j : Int) + 1) = (j : Int) + 1 := IntWalk.i64_in _ (by omega)
              have HX := Lib.hid hX
              have HNE := Lib.hid hne
              have HBJ := Lib.hid hbj
              clear hrg2 hrg3 hX hne hbj hb2 hb3 hab2 hab3
              by_cases he : X.key = E.key
              · have hq : (X.key == E.key) = true := by rw [beq_iff_eq]; exact he
                have hin : E.key ∈ (es.take k).map (·.key) := by
                  rw [← he, HX.out]
                  exact List.mem_map.2 ⟨es[j], List.mem_take_iff_getElem.2 ⟨j, by omega, rfl⟩, rfl⟩
                have hsc3 := HSC2.out
                rw [if_pos hin] at hsc3
                subst hsc3
                have B3 := Lib.hid (HBL.out.trans (HBJ.out.mono HBL.out.size))
                clear he hin
                go_wp2_with fail
                go_quiet (fail)
                go_wp2_with fail
                go_ret
                exact ⟨rfl, below_drewN B3.out _⟩
              · have hq : (X.key == E.key) = false := by rw [beq_eq_false_iff_ne]; exact he
                have N2 := Lib.hid (show ∀ q, (h : q < j + 1) → (h2 : q < es.length) → es[q].key ≠ E.key from fun q h h2 => by
                  by_cases e : q = j
                  · subst e; rw [← HX.out]; exact he
                  · exact HNE.out q (by omega) h2)
                clear he
                go_wp2_with fail
                go_quiet (fail)
                go_wp2_with fail
                go_roundw
                case rel => exact ⟨j + 1, by omega, by go_num, N2.out, below_drewN HBJ.out _⟩
                case measure => simp [intOf]; omega
            · obtain rfl : j = k := by omega
              have hin : ¬ E.key ∈ (es.take j).map (·.key) := fun hm => by
                obtain ⟨x, hx, hxe⟩ := List.mem_map.1 hm
                obtain ⟨q, hq, rfl⟩ := List.mem_take_iff_getElem.1 hx
                exact hne q (by omega) (by omega) hxe
              have hsc3 := HSC2.out
              rw [if_neg hin, ← HTK.out] at hsc3
              have HS3 := Lib.hid hsc3
              have B3 := Lib.hid (HBL.out.trans (hbj.mono HBL.out.size))
              clear hin hsc3 hne hbj
              go_wp2_with fail
              go_roundw
              case rel => exact ⟨j + 1, by omega, by go_num, HS3.out, B3.out⟩
              case measure => simp [intOf]; omega
        · have kk := HIR.out
          rw [decide_eq_false hko] at kk
          have hsc2 := HSC.out
          rw [if_neg hko] at hsc2
          have KK := Lib.hid kk
          subst hsc2
          clear kk
          go_wp2_with fail
          refine KK.out.mono ?_
          rintro e w2 ⟨rfl, rfl⟩
          go_wp2_with fail
          go_ret
          exact ⟨rfl, HBL.out⟩
      · obtain rfl : k = es.length := by omega
        rw [List.drop_of_length_le (Nat.le_refl _)] at hsc
        have h0 : F = 0 := hsc.symm
        subst h0
        go_wp2_with fail
        go_ret
        exact ⟨rfl, hbl⟩
set_option maxRecDepth 20000 in
set_option maxHeartbeats 8000000 in
theorem Under_calls (es : List En) (hw : ∀ e ∈ es, EnW e) (a : Option Addr) (cap ea : Nat) (from_ many : Nat) (hfr : from_ ≤ 9223372036854775807) (w : World) (hr : Rd w a ea (cellsE es)) (hes : es.length ≤ 1000) :
    Calls Tryd.prog 56 #[.slice a es.length cap, .int .i64 from_, .int .i64 many] w fun e w' => ∃ a' c', e = .returned (.slice a' (es.filter (inR from_ many)).length c') ∧ w'.ownsRow w.heap.size 35 33 (.slice a' (es.filter (inR from_ many)).length c') (es.filter (inR from_ many)).length (cellsE (es.filter (inR from_ many))) ∧ Below w.heap.size w w' := by
  have HL := Lib.hid (show ∀ e ∈ es, e.val.length = 32 from fun e he => (hw e he).1)
  have HR := Lib.hid hr
  have HWW := Lib.hid hw
  obtain ⟨B, hB⟩ : ∃ B, B = w.heap.size := ⟨_, rfl⟩
  have HB := Lib.hid hB
  rw [← hB]
  clear hr hw hB
  go_enter Tryd.func56, Tryd.ntmps56
  go_wp2_with fail
  go_loopw [7, 8] (fun v i wr => ∃ (j m : Nat) (av : Option Addr) (cp : Nat), j ≤ es.length ∧ m ≤ j ∧ i = .int .i64 j ∧ v = .slice av m cp ∧ m = ((es.take j).filter (inR from_ many)).length ∧ wr.ownsRow B 35 33 (.slice av m cp) m (cellsE ((es.take j).filter (inR from_ many))) ∧ Below B w wr) (fun _ i _ => es.length - (intOf i).toNat)
  case atStart => exact ⟨0, 0, none, 0, Nat.zero_le _, Nat.zero_le _, rfl, rfl, rfl, World.ownsRow_nil _ _ _ _, Below.refl _ _⟩
  case round =>
    obtain ⟨j, m, av, cp, hj, hmj, rfl, rfl, hm, hown, hbl⟩ := hrel
    obtain ⟨wA, rfl⟩ : ∃ z, z = wr := ⟨_, rfl⟩
    have hsr : B ≤ wA.heap.size := by rw [HB.out]; rw [HB.out] at hbl; exact hbl.size
    by_cases hlt : j < es.length
    · obtain ⟨b, of_, hbb, hb, hrg⟩ := (HR.out.below (by rw [← HB.out]; exact hbl)).ent HL.out hlt
      subst hbb
      have he32 := HL.out _ (List.getElem_mem hlt)
      have heb := (HWW.out _ (List.getElem_mem hlt)).2
      have htk : es.take (j + 1) = es.take j ++ [es[j]] := List.take_succ_eq_append_getElem hlt
      have j0 : (0 : Int) ≤ (j : Int) := by omega
      have j1 : (j : Int) < (es.length : Int) := by omega
      have e4 : IntKind.i64.wrap ((j : Int) + 1) = (j : Int) + 1 := IntWalk.i64_in _ (by omega)
      obtain ⟨E, hE⟩ : ∃ E, E = es[j] := ⟨_, rfl⟩
      rw [← hE] at hrg he32 htk heb
      have ck := range_ekey hrg
      have HRG := Lib.hid hrg
      have H32 := Lib.hid he32
      have HTK := Lib.hid htk
      have HO := Lib.hid hown
      have HM := Lib.hid hm
      have HBL := Lib.hid hbl
      clear htk hown hbl hrg he32 hE hb hm
      by_cases hin : inR from_ many E = true
      · have hre : (es.take (j + 1)).filter (inR from_ many) = (es.take j).filter (inR from_ many) ++ [E] := by rw [HTK.out, List.filter_append]; simp [hin]
        have HPK := Lib.hid hre
        have M9 := Lib.hid (show m + 1 = ((es.take (j + 1)).filter (inR from_ many)).length by rw [hre, List.length_append]; simp only [List.length_singleton]; rw [← HM.out])
        unfold inR at hin
        rw [Bool.and_eq_true, decide_eq_true_iff, decide_eq_true_iff] at hin
        have z1 : decide ((from_ : Int) ≤ E.key) = true := decide_eq_true hin.1
        have e5 : IntKind.i64.wrap (E.key - (from_ : Int)) = E.key - (from_ : Int) := IntWalk.i64_in _ (by omega)
        have z2 : decide (E.key - (from_ : Int) < (many : Int)) = true := decide_eq_true hin.2
        clear hin hre
        go_wp2_with (first
          | ((refine ld_entG rfl (.tmp 36) rfl b (of_ + j * 33) (by rfl) E H32.out HRG.out ?_); simp only [Act.put, List.setIfInBounds_toArray, List.set_cons_zero, List.set_cons_succ])
          | ((refine wpl_build1 40 35 _ 33 40 Tryd.underlying40 info_entz (by omega) (by omega) rfl (.tmp 37) rfl (eV E.key E.val) (by rfl) (eVs H32.out) ?_); simp only [Act.put, List.setIfInBounds_toArray, List.set_cons_zero, List.set_cons_succ])
          | (at_builtin; refine appAllw 40 35 (.agg (eV 0 nz)) 33 40 Tryd.underlying40 info_entz (eV_size 0 nz rfl) (by omega) rfl (.tmp 33) (.tmp 38) (by rfl) B _ m _ (by rfl) (HO.out.alloc _) (some ⟨wA.heap.size, 0, none⟩) 1 1 (cellsE [E]) (by rfl) _ (Rd.ent1 wA E) (by rw [cellsE_one, eL_length H32.out]) (cellsE_one_all _) (by omega) (by omega) (by rw [World.size_alloc]; omega) ?_; intro av3 cp3 w9 hown9 hb9; rw [← cellsE_append, ← HPK.out] at hown9; have O9 := Lib.hid hown9; have B9 := Lib.hid (HBL.out.trans (Below.trans ((Below.refl _ wA).alloc hsr _) hb9)); clear hown9 hb9))
        go_roundw
        case rel => exact ⟨j + 1, m + 1, av3, cp3, hlt, by omega, by go_num, rfl, M9.out, O9.out, B9.out⟩
        case measure => simp [intOf]; omega
      · have hre : (es.take (j + 1)).filter (inR from_ many) = (es.take j).filter (inR from_ many) := by rw [HTK.out, List.filter_append]; simp [hin]
        have hO2 := HO.out
        rw [← hre] at hO2
        have O9 := Lib.hid hO2
        have M9 := Lib.hid (show m = ((es.take (j + 1)).filter (inR from_ many)).length by rw [hre]; exact HM.out)
        unfold inR at hin
        clear hO2 hre
        by_cases hge : (from_ : Int) ≤ E.key
        · have z1 : decide ((from_ : Int) ≤ E.key) = true := decide_eq_true hge
          have e5 : IntKind.i64.wrap (E.key - (from_ : Int)) = E.key - (from_ : Int) := IntWalk.i64_in _ (by omega)
          have z2 : decide (E.key - (from_ : Int) < (many : Int)) = false := by
            rw [z1, Bool.true_and] at hin
            simpa using hin
          clear hin hge
          go_wp2_with fail
          go_roundw
          case rel => exact ⟨j + 1, m, av, cp, hlt, by omega, by go_num, rfl, M9.out, O9.out, HBL.out⟩
          case measure => simp [intOf]; omega
        · have z1 : decide ((from_ : Int) ≤ E.key) = false := decide_eq_false hge
          clear hin hge
          go_wp2_with fail
          go_roundw
          case rel => exact ⟨j + 1, m, av, cp, hlt, by omega, by go_num, rfl, M9.out, O9.out, HBL.out⟩
          case measure => simp [intOf]; omega
    · obtain rfl : j = es.length := by omega
      rw [List.take_of_length_le (Nat.le_refl _)] at hown hm
      subst hm
      go_wp2_with fail
      go_ret
      exact ⟨av, cp, rfl, hown, hbl⟩
end Go.Proofs.YtpeomfehdccmmaaDoor
/- Walks of the document's answers: the digest of a map, and a path. -/
namespace Go.Proofs.YtpeomfehdccmmaaDoor
open Go.RowKit
set_option linter.unusedVariables false
set_option linter.unusedSimpArgs false

theorem mapR_length : ∀ (b f : Nat) (es : List En), (mapR b f es).length = 32
  | 0, f, es => by
    by_cases h : es.filter (inR f (2 ^ 0)) = []
    · rw [mapR_none _ _ _ h]; rfl
    · obtain ⟨e, r, hr⟩ := List.exists_cons_of_ne_nil h
      rw [mapR_zero _ _ _ _ hr]; exact leafD_length _ _
  | b + 1, f, es => by
    by_cases h : es.filter (inR f (2 ^ (b + 1))) = []
    · rw [mapR_none _ _ _ h]; rfl
    · rw [mapR_succ _ _ _ h]; exact nodeD_length _ _
set_option maxRecDepth 20000 in
set_option maxHeartbeats 8000000 in
theorem MapRoot_calls : ∀ (b : Nat), b ≤ 32 → ∀ (es : List En), (∀ e ∈ es, EnW e) → (∀ e ∈ es, KeyOk e.key) → es.length ≤ 64 → ∀ (a : Option Addr) (cap ea from_ : Nat), from_ + 2 ^ b ≤ 1000000000000 → ∀ (w : World), Rd w a ea (cellsE es) →
    Calls Tryd.prog 28 #[.slice a es.length cap, .int .i64 from_, .int .i64 ((2 ^ b : Nat) : Int)] w fun e w' => e = .returned (.agg (dV (mapR b from_ es))) ∧ Below w.heap.size w w' := by
  intro b
  induction b with
  | zero =>
    intro hb es hw hk hl a cap ea from_ hf w hr
    obtain ⟨Z, hZ⟩ : ∃ Z, Z = nz := ⟨_, rfl⟩
    have zl : Z.length = 32 := by rw [hZ]; rfl
    have zlit : (#[.int .u8 0, .int .u8 0, .int .u8 0, .int .u8 0, .int .u8 0, .int .u8 0, .int .u8 0, .int .u8 0, .int .u8 0, .int .u8 0, .int .u8 0, .int .u8 0, .int .u8 0, .int .u8 0, .int .u8 0, .int .u8 0, .int .u8 0, .int .u8 0, .int .u8 0, .int .u8 0, .int .u8 0, .int .u8 0, .int .u8 0, .int .u8 0, .int .u8 0, .int .u8 0, .int .u8 0, .int .u8 0, .int .u8 0, .int .u8 0, .int .u8 0, .int .u8 0] : Array Value) = dV Z := by rw [hZ]; exact zdig
    have ZL := Lib.hid zl
    have ZT := Lib.hid zlit
    have HZ := Lib.hid hZ
    clear zl zlit hZ
    obtain ⟨H, hH⟩ : ∃ H, H = w.heap.size := ⟨_, rfl⟩
    obtain ⟨w0, hw0⟩ : ∃ z, z = w.alloc (.cells (dV Z) 23) := ⟨_, rfl⟩
    have q0 : w0.heap.size = H + 1 := by rw [hw0, hH]; exact World.size_alloc _ _
    have s0 : Below (H) w w0 := by rw [hw0, hH]; exact (Below.refl _ _).alloc (Nat.le_refl _) _
    have t0 : Below (H + 1) w0 w0 := Below.refl _ _
    have bL : Below H w w0 := s0.trans (t0.mono (by omega))
    have g0 : w0.heap[H]? = some (.cells (dV Z) 23 (0, 0)) := by
      have g : w0.heap[H]? = some (.cells (dV Z) 23 (0, 0)) := by rw [hw0, hH]; exact heap_alloc_new _ _
      exact (t0.block _ (by omega)).trans g
    have bW : Below w.heap.size w w0 := by rw [← hH]; exact bL
    have hsz : H < w0.heap.size := by omega
    have HH := Lib.hid hH
    have HW0 := Lib.hid hw0
    have BL := Lib.hid bL
    have BW := Lib.hid bW
    have QL := Lib.hid q0
    have G0 := Lib.hid g0
    clear hH hw0 q0 s0 t0 g0 bL bW
    have UC := Under_calls es hw a cap ea from_ (2 ^ 0) (Nat.le_trans (Nat.le_add_right _ _) (Nat.le_trans hf (by decide))) w0 (hr.below BW.out) (by omega)
    obtain ⟨fs, hfs⟩ : ∃ fs, fs = es.filter (inR from_ (2 ^ 0)) := ⟨_, rfl⟩
    rw [← hfs] at UC
    have HFS := Lib.hid hfs
    have HUC := Lib.hid UC
    clear UC hfs hr
    by_cases h0 : fs = []
    · have HR0 := Lib.hid (mapR_none 0 from_ es (HFS.out.symm.trans h0))
      have hfl : fs.length = 0 := by rw [h0]; rfl
      rw [hfl] at HUC
      rw [HR0.out]
      clear HR0
      go_enter Tryd.func28, Tryd.ntmps28
      go_upto_region 1 with fail
      rw [ZT.out, ← HH.out, ← HW0.out]
      go_wp2_with fail
      refine HUC.out.mono ?_
      rintro e w2 ⟨a2, c2, rfl, hown2, hb2⟩
      have B2' := Lib.hid (BL.out.trans (hb2.mono (by have := QL.out; omega)))
      have G2 := Lib.hid ((hb2.block H hsz).trans G0.out)
      have hH2 : H < w2.heap.size := Nat.lt_of_lt_of_le hsz hb2.size
      clear hown2 hb2
      go_wp2_with fail
      refine (Nothing_calls w2).mono ?_
      rintro e w3 ⟨rfl, hb3⟩
      rw [← HZ.out]
      have G3 := Lib.hid ((hb3.block H hH2).trans G2.out)
      have B3 := Lib.hid (B2'.out.trans (hb3.mono (by omega)))
      clear hb3
      go_wp2_with (first | ((refine st_row rfl (.tmp 6) (.tmp 16) rfl H Z ZL.out (by rfl) (by rfl) (dV Z) (dV_size ZL.out) _ G3.out ?_)))
      try simp only [Exit.inBlock, Exit.then]
      refine bodyPost_ret (v := .agg (dV Z)) (results_cellW rfl _ _ _ ⟨H, 0, none⟩ _ rfl ?_) rfl ⟨by rw [HZ.out], ?_⟩
      · exact dig_load ZL.out (range_of_row (setRow_heap _ _ _ (dV Z) _ _ G3.out))
      · rw [← HH.out]
        exact below_setRowW B3.out (Nat.le_refl _) _
    · obtain ⟨E, r, hEr⟩ := List.exists_cons_of_ne_nil h0
      have HR0 := Lib.hid (mapR_zero from_ es E r (HFS.out.symm.trans hEr))
      have hpos : (0 : Int) < (fs.length : Int) := by rw [hEr]; simp
      have z1 : ((fs.length : Int) == 0) = false := by rw [beq_eq_false_iff_ne]; omega
      have hmE : E ∈ es := (List.mem_filter.1 (by rw [← HFS.out, hEr]; exact List.mem_cons_self .. : E ∈ es.filter (inR from_ (2 ^ 0)))).1
      obtain ⟨q, hq⟩ : ∃ q : Nat, E.key = (q : Int) := ⟨E.key.toNat, by have := (hk E hmE).1; omega⟩
      have hq2 : q < 4294967296 := by have := (hk E hmE).2; omega
      have HVE := Lib.hid (hw E hmE).1
      have LC := fun w' => EntryLeaf_calls q hq2 E.val (hw E hmE).1 w'
      rw [← hq] at LC
      obtain ⟨LF, hLF⟩ : ∃ L, L = leafD q E.val := ⟨_, rfl⟩
      have LFL := Lib.hid (show LF.length = 32 by rw [hLF]; exact leafD_length _ _)
      have hR : mapR 0 from_ es = LF := by rw [HR0.out, hLF, hq]; rfl
      rw [← hLF] at LC
      have HRR := Lib.hid hR
      have HLC := Lib.hid LC
      have HEr := Lib.hid hEr
      have hlen : ∀ e ∈ fs, e.val.length = 32 := fun e he => (hw e (List.mem_filter.1 (by rw [← HFS.out]; exact he : e ∈ es.filter (inR from_ (2 ^ 0)))).1).1
      have HLN := Lib.hid hlen
      clear hEr hq hLF hR LC hlen h0 hmE hw hk HR0
      go_enter Tryd.func28, Tryd.ntmps28
      go_upto_region 1 with fail
      rw [ZT.out, ← HH.out, ← HW0.out]
      go_wp2_with fail
      refine HUC.out.mono ?_
      rintro e w2 ⟨a2, c2, rfl, hown2, hb2⟩
      obtain ⟨B2, o2, ha2, hB2, hrg⟩ := (Rd.of_own hown2).ent HLN.out (k := 0) (by omega)
      subst ha2
      have hE0 : fs[0]'(by omega) = E := by simp [HEr.out]
      rw [hE0] at hrg
      have HRG := Lib.hid hrg
      have B2' := Lib.hid (BL.out.trans (hb2.mono (by have := QL.out; omega)))
      have G2 := Lib.hid ((hb2.block H hsz).trans G0.out)
      have hH2 : H < w2.heap.size := Nat.lt_of_lt_of_le hsz hb2.size
      clear hown2 hb2 hrg hE0
      go_wp2_with (first
        | ((refine ld_entG rfl (.tmp 20) rfl B2 (o2 + 0 * 33) (by rfl) E HVE.out HRG.out ?_); simp only [Act.put, List.setIfInBounds_toArray, List.set_cons_zero, List.set_cons_succ]))
      refine (HLC.out w2).mono ?_
      rintro e w3 ⟨rfl, hb3⟩
      have G3 := Lib.hid ((hb3.block H hH2).trans G2.out)
      have B3 := Lib.hid (B2'.out.trans (hb3.mono (by omega)))
      clear hb3
      go_wp2_with (first | ((refine st_row rfl (.tmp 6) (.tmp 22) rfl H LF LFL.out (by rfl) (by rfl) (dV Z) (dV_size ZL.out) _ G3.out ?_)))
      try simp only [Exit.inBlock, Exit.then]
      refine bodyPost_ret (v := .agg (dV LF)) (results_cellW rfl _ _ _ ⟨H, 0, none⟩ _ rfl ?_) rfl ⟨by rw [HRR.out], ?_⟩
      · exact dig_load LFL.out (range_of_row (setRow_heap _ _ _ (dV LF) _ _ G3.out))
      · rw [← HH.out]
        exact below_setRowW B3.out (Nat.le_refl _) _
  | succ b ih =>
    intro hb es hw hk hl a cap ea from_ hf w hr
    obtain ⟨Z, hZ⟩ : ∃ Z, Z = nz := ⟨_, rfl⟩
    have zl : Z.length = 32 := by rw [hZ]; rfl
    have zlit : (#[.int .u8 0, .int .u8 0, .int .u8 0, .int .u8 0, .int .u8 0, .int .u8 0, .int .u8 0, .int .u8 0, .int .u8 0, .int .u8 0, .int .u8 0, .int .u8 0, .int .u8 0, .int .u8 0, .int .u8 0, .int .u8 0, .int .u8 0, .int .u8 0, .int .u8 0, .int .u8 0, .int .u8 0, .int .u8 0, .int .u8 0, .int .u8 0, .int .u8 0, .int .u8 0, .int .u8 0, .int .u8 0, .int .u8 0, .int .u8 0, .int .u8 0, .int .u8 0] : Array Value) = dV Z := by rw [hZ]; exact zdig
    have ZL := Lib.hid zl
    have ZT := Lib.hid zlit
    have HZ := Lib.hid hZ
    clear zl zlit hZ
    obtain ⟨H, hH⟩ : ∃ H, H = w.heap.size := ⟨_, rfl⟩
    obtain ⟨w0, hw0⟩ : ∃ z, z = w.alloc (.cells (dV Z) 23) := ⟨_, rfl⟩
    have q0 : w0.heap.size = H + 1 := by rw [hw0, hH]; exact World.size_alloc _ _
    have s0 : Below (H) w w0 := by rw [hw0, hH]; exact (Below.refl _ _).alloc (Nat.le_refl _) _
    have t0 : Below (H + 1) w0 w0 := Below.refl _ _
    have bL : Below H w w0 := s0.trans (t0.mono (by omega))
    have g0 : w0.heap[H]? = some (.cells (dV Z) 23 (0, 0)) := by
      have g : w0.heap[H]? = some (.cells (dV Z) 23 (0, 0)) := by rw [hw0, hH]; exact heap_alloc_new _ _
      exact (t0.block _ (by omega)).trans g
    have bW : Below w.heap.size w w0 := by rw [← hH]; exact bL
    have hsz : H < w0.heap.size := by omega
    have HH := Lib.hid hH
    have HW0 := Lib.hid hw0
    have BL := Lib.hid bL
    have BW := Lib.hid bW
    have QL := Lib.hid q0
    have G0 := Lib.hid g0
    clear hH hw0 q0 s0 t0 g0 bL bW
    have UC := Under_calls es hw a cap ea from_ (2 ^ (b + 1)) (Nat.le_trans (Nat.le_add_right _ _) (Nat.le_trans hf (by decide))) w0 (hr.below BW.out) (by omega)
    obtain ⟨fs, hfs⟩ : ∃ fs, fs = es.filter (inR from_ (2 ^ (b + 1))) := ⟨_, rfl⟩
    rw [← hfs] at UC
    have HFS := Lib.hid hfs
    have HUC := Lib.hid UC
    clear UC hfs hr
    by_cases h0 : fs = []
    · have HR0 := Lib.hid (mapR_none (b + 1) from_ es (HFS.out.symm.trans h0))
      have hfl : fs.length = 0 := by rw [h0]; rfl
      rw [hfl] at HUC
      rw [HR0.out]
      clear HR0
      go_enter Tryd.func28, Tryd.ntmps28
      go_upto_region 1 with fail
      rw [ZT.out, ← HH.out, ← HW0.out]
      go_wp2_with fail
      refine HUC.out.mono ?_
      rintro e w2 ⟨a2, c2, rfl, hown2, hb2⟩
      have B2' := Lib.hid (BL.out.trans (hb2.mono (by have := QL.out; omega)))
      have G2 := Lib.hid ((hb2.block H hsz).trans G0.out)
      have hH2 : H < w2.heap.size := Nat.lt_of_lt_of_le hsz hb2.size
      clear hown2 hb2
      go_wp2_with fail
      refine (Nothing_calls w2).mono ?_
      rintro e w3 ⟨rfl, hb3⟩
      rw [← HZ.out]
      have G3 := Lib.hid ((hb3.block H hH2).trans G2.out)
      have B3 := Lib.hid (B2'.out.trans (hb3.mono (by omega)))
      clear hb3
      go_wp2_with (first | ((refine st_row rfl (.tmp 6) (.tmp 16) rfl H Z ZL.out (by rfl) (by rfl) (dV Z) (dV_size ZL.out) _ G3.out ?_)))
      try simp only [Exit.inBlock, Exit.then]
      refine bodyPost_ret (v := .agg (dV Z)) (results_cellW rfl _ _ _ ⟨H, 0, none⟩ _ rfl ?_) rfl ⟨by rw [HZ.out], ?_⟩
      · exact dig_load ZL.out (range_of_row (setRow_heap _ _ _ (dV Z) _ _ G3.out))
      · rw [← HH.out]
        exact below_setRowW B3.out (Nat.le_refl _) _
    · have HR0 := Lib.hid (mapR_succ b from_ es (fun h => h0 (HFS.out.trans h)))
      rw [← HFS.out] at HR0
      have hpos : 0 < fs.length := List.length_pos_iff.2 h0
      have hfl : fs.length ≤ 64 := by rw [HFS.out]; exact Nat.le_trans (List.length_filter_le _ _) hl
      have z1 : ((fs.length : Int) == 0) = false := by rw [beq_eq_false_iff_ne]; omega
      have hp0 : 0 < 2 ^ b := Nat.two_pow_pos b
      have hp32 : 2 ^ b ≤ 2 ^ 31 := Nat.pow_le_pow_right (by decide) (by omega)
      have he2 : 2 ^ (b + 1) = 2 * 2 ^ b := by rw [Nat.pow_succ]; omega
      obtain ⟨M, hM⟩ : ∃ M, M = 2 ^ b := ⟨_, rfl⟩
      have hf1 : from_ + 2 ^ b ≤ 1000000000000 := by omega
      have hf2 : from_ + 2 ^ b + 2 ^ b ≤ 1000000000000 := by omega
      have I1 := fun w' a2 c2 hr2 => ih (by omega) fs (fun e he => hw e (List.mem_filter.1 (by rw [← HFS.out]; exact he : e ∈ es.filter (inR from_ (2 ^ (b + 1))))).1) (fun e he => hk e (List.mem_filter.1 (by rw [← HFS.out]; exact he : e ∈ es.filter (inR from_ (2 ^ (b + 1))))).1) hfl a2 c2 35 from_ hf1 w' hr2
      have I2 := fun w' a2 c2 hr2 => ih (by omega) fs (fun e he => hw e (List.mem_filter.1 (by rw [← HFS.out]; exact he : e ∈ es.filter (inR from_ (2 ^ (b + 1))))).1) (fun e he => hk e (List.mem_filter.1 (by rw [← HFS.out]; exact he : e ∈ es.filter (inR from_ (2 ^ (b + 1))))).1) hfl a2 c2 35 (from_ + 2 ^ b) hf2 w' hr2
      obtain ⟨X, hX⟩ : ∃ X, X = mapR b from_ fs := ⟨_, rfl⟩
      obtain ⟨Y, hY⟩ : ∃ Y, Y = mapR b (from_ + 2 ^ b) fs := ⟨_, rfl⟩
      have XL := Lib.hid (show X.length = 32 by rw [hX]; exact mapR_length _ _ _)
      have YL := Lib.hid (show Y.length = 32 by rw [hY]; exact mapR_length _ _ _)
      obtain ⟨LF, hLF⟩ : ∃ L, L = nodeD X Y := ⟨_, rfl⟩
      have LFL := Lib.hid (show LF.length = 32 by rw [hLF]; exact nodeD_length _ _)
      have HRR := Lib.hid (show mapR (b + 1) from_ es = LF by rw [HR0.out, hLF, hX, hY])
      have HLF := Lib.hid hLF
      rw [← hX] at I1
      rw [← hY] at I2
      rw [← hM] at I1 I2 hp0 hp32 he2 hf2
      rw [he2] at HUC ⊢
      have hM31 : M ≤ 2147483648 := hp32
      have z2 : ((2 * M : Nat) : Int) ≠ 1 := by omega
      have hfm : from_ + M ≤ 1000000000000 := by omega
      have e5 : ((2 * M : Nat) : Int) / 2 = (M : Int) := by omega
      have e5t : ((2 * M : Nat) : Int).tdiv 2 = (M : Int) := by rw [Int.tdiv_eq_ediv_of_nonneg (by omega)]; exact e5
      have e6 : IntKind.i64.wrap ((from_ : Int) + (M : Int)) = ((from_ + M : Nat) : Int) := by rw [IntWalk.i64_in _ (by omega)]; omega
      have z3 : (((2 * M : Nat) : Int) == 1) = false := by rw [beq_eq_false_iff_ne]; omega
      obtain ⟨N, hN⟩ : ∃ N, N = 2 * M := ⟨_, rfl⟩
      rw [← hN] at HUC e5 e5t z3 ⊢
      clear z2 he2 hf hf1 hf2 hN hX hY hLF hM hw hk HR0 h0 hl hfl ih hp32 hp0
      go_enter Tryd.func28, Tryd.ntmps28
      go_upto_region 1 with fail
      rw [ZT.out, ← HH.out, ← HW0.out]
      go_wp2_with fail
      refine HUC.out.mono ?_
      rintro e w2 ⟨a2, c2, rfl, hown2, hb2⟩
      have R2 := Lib.hid (Rd.of_own hown2)
      have B2' := Lib.hid (BL.out.trans (hb2.mono (by have := QL.out; omega)))
      have G2 := Lib.hid ((hb2.block H hsz).trans G0.out)
      have hH2 : H < w2.heap.size := Nat.lt_of_lt_of_le hsz hb2.size
      have C1 := Lib.hid (I1 w2 a2 c2 R2.out)
      clear hown2 hb2
      go_wp2_with fail
      refine C1.out.mono ?_
      rintro e w3 ⟨rfl, hb3⟩
      have R3 := R2.out.below hb3
      have G3 := Lib.hid ((hb3.block H hH2).trans G2.out)
      have B3 := Lib.hid (B2'.out.trans (hb3.mono (by omega)))
      have hH3 := Nat.lt_of_lt_of_le hH2 hb3.size
      have C2 := Lib.hid (I2 w3 a2 c2 R3)
      clear hb3 R3
      go_wp2_with fail
      refine C2.out.mono ?_
      rintro e w4 ⟨rfl, hb4⟩
      have G4 := Lib.hid ((hb4.block H hH3).trans G3.out)
      have B4 := Lib.hid (B3.out.trans (hb4.mono (by omega)))
      have hH4 := Nat.lt_of_lt_of_le hH3 hb4.size
      have C3 := RMapNode_calls X Y XL.out YL.out w4
      rw [← HLF.out] at C3
      have HC3 := Lib.hid C3
      clear hb4 C3
      go_wp2_with fail
      refine HC3.out.mono ?_
      rintro e w5 ⟨rfl, hb5⟩
      have G5 := Lib.hid ((hb5.block H hH4).trans G4.out)
      have B5 := Lib.hid (B4.out.trans (hb5.mono (by omega)))
      clear hb5
      go_wp2_with (first | ((refine st_row rfl (.tmp 6) (.tmp 35) rfl H LF LFL.out (by rfl) (by rfl) (dV Z) (dV_size ZL.out) _ G5.out ?_)))
      try simp only [Exit.inBlock, Exit.then]
      refine bodyPost_ret (v := .agg (dV LF)) (results_cellW rfl _ _ _ ⟨H, 0, none⟩ _ rfl ?_) rfl ⟨by rw [HRR.out], ?_⟩
      · exact dig_load LFL.out (range_of_row (setRow_heap _ _ _ (dV LF) _ _ G5.out))
      · rw [← HH.out]
        exact below_setRowW B5.out (Nat.le_refl _) _
set_option maxRecDepth 20000 in
set_option maxHeartbeats 8000000 in
theorem MapPath_calls (es : List En) (hw : ∀ e ∈ es, EnW e) (hf : mapF es = 0) (a : Option Addr) (cap ea : Nat) (k : Nat) (hk : k < 4294967296) (w : World) (hr : Rd w a ea (cellsE es)) :
    Calls Tryd.prog 29 #[.slice a es.length cap, .int .i64 (k : Int)] w fun e w' => ∃ a' c', e = .returned (.slice a' 32 c') ∧ w'.ownsRow w.heap.size 23 32 (.slice a' 32 c') 32 ((pathD (leafF es) k).flatten.map vB) ∧ Below w.heap.size w w' := by
  obtain ⟨h64, hko, hap⟩ := apart_ok es hf
  obtain ⟨f, hff⟩ : ∃ f, f = leafF es := ⟨_, rfl⟩
  have hf32 : ∀ q, (f q).length = 32 := fun q => by rw [hff]; exact leafF_length es q
  have MR : ∀ j, j ≤ 32 → ∀ p, p * 2 ^ j + 2 ^ j ≤ 1000000000000 → ∀ w', Below w.heap.size w w' → Calls Tryd.prog 28 #[.slice a es.length cap, .int .i64 ((p * 2 ^ j : Nat) : Int), .int .i64 ((2 ^ j : Nat) : Int)] w' fun e w'' => e = .returned (.agg (dV (treeD j f p))) ∧ Below w'.heap.size w' w'' := fun j hj p hp w' hb => by
    have := MapRoot_calls j hj es hw hko h64 a cap ea (p * 2 ^ j) hp w' (hr.below hb)
    rw [mapR_eq j p es hap, ← hff] at this
    exact this
  have HMR := Lib.hid MR
  have HF32 := Lib.hid hf32
  obtain ⟨B, hB⟩ : ∃ B, B = w.heap.size := ⟨_, rfl⟩
  have HB := Lib.hid hB
  rw [← hB, ← hff]
  clear MR hf32 hff hr hw hf hB
  go_enter Tryd.func29, Tryd.ntmps29
  go_wp2_with fail
  go_loopw [5, 6, 7] (fun v m i wr => ∃ (j : Nat) (av : Option Addr) (cp : Nat), j ≤ 32 ∧ i = .int .i64 j ∧ m = .int .i64 ((2 ^ j : Nat) : Int) ∧ v = .slice av j cp ∧ wr.ownsRow B 23 32 (.slice av j cp) j (((List.range j).map (sib f k)).flatten.map vB) ∧ Below B w wr) (fun _ _ i _ => 32 - (intOf i).toNat)
  case atStart => exact ⟨0, none, 0, Nat.zero_le _, rfl, rfl, rfl, World.ownsRow_nil _ _ _ _, Below.refl _ _⟩
  case round =>
    obtain ⟨j, av, cp, hj, rfl, rfl, rfl, hown, hbl⟩ := hrel
    obtain ⟨wA, rfl⟩ : ∃ z, z = wr := ⟨_, rfl⟩
    have hsr : B ≤ wA.heap.size := by rw [HB.out]; rw [HB.out] at hbl; exact hbl.size
    by_cases hlt : j < 32
    · have hp32 : 2 ^ j ≤ 2 ^ 31 := Nat.pow_le_pow_right (by decide) (by omega)
      have hp0 : 0 < 2 ^ j := Nat.two_pow_pos j
      have he2 : 2 ^ (j + 1) = 2 * 2 ^ j := by rw [Nat.pow_succ]; omega
      have hst : (List.range (j + 1)).map (sib f k) = (List.range j).map (sib f k) ++ [sib f k j] := by rw [List.range_succ, List.map_append]; rfl
      have hfl : ((List.range (j + 1)).map (sib f k)).flatten.map vB = (((List.range j).map (sib f k)).flatten.map vB) ++ (sib f k j).map vB := by rw [hst, List.flatten_append, List.map_append]; simp
      have hsl : (sib f k j).length = 32 := sib_length f HF32.out k j
      -- the place beside
      have hq : k / (2 * 2 ^ j) = k / 2 ^ j / 2 := by rw [Nat.mul_comm, Nat.div_div_eq_div_mul]
      have hsib : sib f k j = treeD j f (if k / 2 ^ j % 2 = 1 then k / 2 ^ j - 1 else k / 2 ^ j + 1) := rfl
      obtain ⟨x, hx⟩ : ∃ x, x = k / 2 ^ j := ⟨_, rfl⟩
      have hx1 : x * 2 ^ j ≤ k := by rw [hx]; exact Nat.div_mul_le_self _ _
      have hx2 : k < (x + 1) * 2 ^ j := by rw [hx]; exact (Nat.div_lt_iff_lt_mul hp0).1 (Nat.lt_succ_self _)
      have hkm : 2 * 2 ^ j * (k / (2 * 2 ^ j)) + k % (2 * 2 ^ j) = k := Nat.div_add_mod k (2 * 2 ^ j)
      rw [hq, ← hx] at hkm
      rw [← hx] at hsib
      have HMRJ := fun p hp => HMR.out j (by omega) p hp
      obtain ⟨M, hM⟩ : ∃ M, M = 2 ^ j := ⟨_, rfl⟩
      rw [← hM] at hp32 hp0 he2 hx1 hx2 hkm HMRJ ⊢
      have hM31 : M ≤ 2147483648 := hp32
      obtain ⟨R, hR⟩ : ∃ R, R = k % (2 * M) := ⟨_, rfl⟩
      obtain ⟨y, hy⟩ : ∃ y, y = x / 2 := ⟨_, rfl⟩
      rw [← hR, ← hy] at hkm
      have hRk : R ≤ k := by omega
      obtain ⟨F0, hF0⟩ : ∃ F0, F0 = k - R := ⟨_, rfl⟩
      have hF0y : F0 = 2 * y * M := by rw [hF0, ← hkm, Nat.mul_right_comm]; omega
      have m1 : (k : Int) % (2 * (M : Int)) = (R : Int) := by rw [hR]; norm_cast
      have m1t : (k : Int).tmod (2 * (M : Int)) = (R : Int) := by rw [Int.tmod_eq_emod_of_nonneg (by omega)]; exact m1
      have e1 : IntKind.i64.wrap (2 * (M : Int)) = 2 * (M : Int) := IntWalk.i64_in _ (by omega)
      have e2 : IntKind.i64.wrap ((k : Int) - (R : Int)) = (F0 : Int) := by rw [IntWalk.i64_in _ (by omega)]; omega
      have e3 : IntKind.i64.wrap ((k : Int) - (F0 : Int)) = (R : Int) := by rw [IntWalk.i64_in _ (by omega)]; omega
      have e4 : IntKind.i64.wrap ((j : Int) + 1) = (j : Int) + 1 := IntWalk.i64_in _ (by omega)
      have j32 : (j : Int) < 32 := by omega
      have HFL := Lib.hid hfl
      have HSL := Lib.hid hsl
      have HSIB := Lib.hid hsib
      have HO := Lib.hid hown
      have HBL := Lib.hid hbl
      have HE2 := Lib.hid (show 2 * (M : Int) = ((2 ^ (j + 1) : Nat) : Int) by rw [he2]; omega)
      have hnz : ¬ (2 * (M : Int) = 0) := by omega
      by_cases hodd : x % 2 = 1
      · have hxy : x = 2 * y + 1 := by omega
        have hRM : M ≤ R := by rw [hxy] at hx1; have : (2 * y + 1) * M = 2 * y * M + M := by rw [Nat.add_mul, Nat.one_mul]
                               omega
        have z1 : decide (R < M) = false := decide_eq_false (by omega)
        have hfp : F0 = (x - 1) * M := by rw [hF0y, hxy]; rfl
        have MC := HMRJ (x - 1) (by rw [← hfp]; omega) wA (by rw [← HB.out]; exact HBL.out)
        rw [← hfp] at MC
        have hd : sib f k j = treeD j f (x - 1) := by rw [HSIB.out, if_pos hodd]
        obtain ⟨SD, hSD⟩ : ∃ D, D = sib f k j := ⟨_, rfl⟩
        rw [← hd, ← hSD] at MC
        rw [← hSD] at HFL HSL
        have HMC := Lib.hid MC
        clear MC hd hSD hfp hxy hRM hodd HSIB hfl hsl hsib hown hbl HMRJ hst hkm hq hx1 hx2 hx hR hy hF0 hF0y he2 hM hp32
        go_wp2_with fail
        refine HMC.out.mono ?_
        rintro e w2 ⟨rfl, hb2⟩
        have O2 := Lib.hid (own_below HO.out hb2)
        have hs2 : B ≤ w2.heap.size := Nat.le_trans hsr hb2.size
        have B2 := Lib.hid (HBL.out.trans (hb2.mono hsr))
        clear hb2
        go_wp2_with (first
          | ((refine wpl_build1 24 23 _ 32 32 Tryd.underlying24 info_digz (by omega) (by omega) rfl (.tmp 31) rfl (dV SD) (by rfl) (dV_size HSL.out) ?_); simp only [Act.put, List.setIfInBounds_toArray, List.set_cons_zero, List.set_cons_succ])
          | (at_builtin; refine appAllw 24 23 (.agg (dV nz)) 32 32 Tryd.underlying24 info_digz (dV_size rfl) (by omega) rfl (.tmp 27) (.tmp 32) (by rfl) B _ j _ (by rfl) (O2.out.alloc _) (some ⟨w2.heap.size, 0, none⟩) 1 1 (SD.map vB) (by rfl) _ (Rd.box w2 SD _) (by rw [List.length_map, HSL.out]) (one_bytes _) (by omega) (by omega) (by rw [World.size_alloc]; omega) ?_; intro av3 cp3 w9 hown9 hb9; rw [← HFL.out] at hown9; have O9 := Lib.hid hown9; have B9 := Lib.hid (B2.out.trans (Below.trans ((Below.refl _ w2).alloc hs2 _) hb9)); clear hown9 hb9))
        go_roundw
        case rel => exact ⟨j + 1, av3, cp3, by omega, by go_num, by rw [← HE2.out], rfl, O9.out, B9.out⟩
        case measure => simp [intOf]; omega
      · have hxy : x = 2 * y := by omega
        have hRM : R < M := by rw [hxy] at hx2; have : (2 * y + 1) * M = 2 * y * M + M := by rw [Nat.add_mul, Nat.one_mul]
                               omega
        have z1 : decide (R < M) = true := decide_eq_true (by omega)
        have hfp : F0 + M = (x + 1) * M := by rw [hF0y, hxy, Nat.add_mul, Nat.one_mul]
        have MC := HMRJ (x + 1) (by rw [← hfp]; omega) wA (by rw [← HB.out]; exact HBL.out)
        rw [← hfp] at MC
        obtain ⟨FP, hFP⟩ : ∃ FP, FP = F0 + M := ⟨_, rfl⟩
        rw [← hFP] at MC
        have e6 : IntKind.i64.wrap ((F0 : Int) + (M : Int)) = (FP : Int) := by rw [IntWalk.i64_in _ (by omega), hFP]; omega
        clear hFP
        have hd : sib f k j = treeD j f (x + 1) := by rw [HSIB.out, if_neg hodd]
        obtain ⟨SD, hSD⟩ : ∃ D, D = sib f k j := ⟨_, rfl⟩
        rw [← hd, ← hSD] at MC
        rw [← hSD] at HFL HSL
        have HMC := Lib.hid MC
        clear MC hd hSD hfp hxy hRM hodd HSIB hfl hsl hsib hown hbl HMRJ hst hkm hq hx1 hx2 hx hR hy hF0 hF0y he2 hM hp32
        go_wp2_with fail
        refine HMC.out.mono ?_
        rintro e w2 ⟨rfl, hb2⟩
        have O2 := Lib.hid (own_below HO.out hb2)
        have hs2 : B ≤ w2.heap.size := Nat.le_trans hsr hb2.size
        have B2 := Lib.hid (HBL.out.trans (hb2.mono hsr))
        clear hb2
        go_wp2_with (first
          | ((refine wpl_build1 24 23 _ 32 32 Tryd.underlying24 info_digz (by omega) (by omega) rfl (.tmp 31) rfl (dV SD) (by rfl) (dV_size HSL.out) ?_); simp only [Act.put, List.setIfInBounds_toArray, List.set_cons_zero, List.set_cons_succ])
          | (at_builtin; refine appAllw 24 23 (.agg (dV nz)) 32 32 Tryd.underlying24 info_digz (dV_size rfl) (by omega) rfl (.tmp 27) (.tmp 32) (by rfl) B _ j _ (by rfl) (O2.out.alloc _) (some ⟨w2.heap.size, 0, none⟩) 1 1 (SD.map vB) (by rfl) _ (Rd.box w2 SD _) (by rw [List.length_map, HSL.out]) (one_bytes _) (by omega) (by omega) (by rw [World.size_alloc]; omega) ?_; intro av3 cp3 w9 hown9 hb9; rw [← HFL.out] at hown9; have O9 := Lib.hid hown9; have B9 := Lib.hid (B2.out.trans (Below.trans ((Below.refl _ w2).alloc hs2 _) hb9)); clear hown9 hb9))
        go_roundw
        case rel => exact ⟨j + 1, av3, cp3, by omega, by go_num, by rw [← HE2.out], rfl, O9.out, B9.out⟩
        case measure => simp [intOf]; omega
    · obtain rfl : j = 32 := by omega
      go_wp2_with fail
      go_ret
      exact ⟨av, cp, rfl, hown, hbl⟩
end Go.Proofs.YtpeomfehdccmmaaDoor
