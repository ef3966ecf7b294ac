/- Walk: the laws' own 'at': what a map has at a key. -/
import Derived.Test.YtpeomfehdccmmaaDoorTrieLeafed
import Derived.Deep.RegionHeld3
namespace Go.Proofs.YtpeomfehdccmmaaDoor
open Go.RowKit
set_option linter.unusedVariables false
set_option linter.unusedSimpArgs false
set_option maxRecDepth 20000 in
set_option maxHeartbeats 8000000 in
theorem At_calls (es : List En) (hw : ∀ e ∈ es, EnW e) (a : Option Addr) (cap ea : Nat) (k : Nat) (hk : k < 4294967296) (w : World) (hr : Rd w a ea (cellsE es)) (hf : mapF es = 0) (hro : RoundsAt w) :
    Calls Tryd.prog 24 #[.slice a es.length cap, .int .i64 (k : Int)] w fun e w' => e = .returned (.tuple #[.agg (dV (leafF es k)), .bool true]) ∧ Below w.heap.size w w' := by
  have h64 := (apart_ok es hf).1
  have hap := (apart_ok es hf).2.2
  have hlen : ∀ e ∈ es, e.val.length = 32 := fun e he => (hw e he).1
  obtain ⟨Z, hZ⟩ : ∃ Z, Z = nz := ⟨_, rfl⟩
  have zl : Z.length = 32 := by rw [hZ]; rfl
  have zlit : (#[.int .u8 0, .int .u8 0, .int .u8 0, .int .u8 0, .int .u8 0, .int .u8 0, .int .u8 0, .int .u8 0, .int .u8 0, .int .u8 0, .int .u8 0, .int .u8 0, .int .u8 0, .int .u8 0, .int .u8 0, .int .u8 0, .int .u8 0, .int .u8 0, .int .u8 0, .int .u8 0, .int .u8 0, .int .u8 0, .int .u8 0, .int .u8 0, .int .u8 0, .int .u8 0, .int .u8 0, .int .u8 0, .int .u8 0, .int .u8 0, .int .u8 0, .int .u8 0] : Array Value) = dV Z := by rw [hZ]; exact zdig
  have ZL := Lib.hid zl
  have ZT := Lib.hid zlit
  have HZ := Lib.hid hZ
  clear zl zlit hZ
  obtain ⟨H, hH⟩ : ∃ H, H = w.heap.size := ⟨_, rfl⟩
  obtain ⟨w0, hw0⟩ : ∃ z, z = w.alloc (.cells (dV Z) 23) := ⟨_, rfl⟩
  have q0 : w0.heap.size = H + 1 := by rw [hw0, hH]; exact World.size_alloc _ _
  have s0 : Below (H) w w0 := by rw [hw0, hH]; exact (Below.refl _ _).alloc (Nat.le_refl _) _
  have t0 : Below (H + 1) w0 w0 := Below.refl _ _
  have bL : Below H w w0 := s0.trans (t0.mono (by omega))
  have g0 : w0.heap[H]? = some (.cells (dV Z) 23 (0, 0)) := by
    have g : w0.heap[H]? = some (.cells (dV Z) 23 (0, 0)) := by rw [hw0, hH]; exact heap_alloc_new _ _
    exact (t0.block _ (by omega)).trans g
  have bW : Below w.heap.size w w0 := by rw [← hH]; exact bL
  have hsz : H < w0.heap.size := by omega
  have HH := Lib.hid hH
  have HW0 := Lib.hid hw0
  have BL := Lib.hid bL
  have BW := Lib.hid bW
  have QL := Lib.hid q0
  have G0 := Lib.hid g0
  clear hH hw0 q0 s0 t0 g0 bL bW
  have HL := Lib.hid hlen
  have HWW := Lib.hid hw
  have HR := Lib.hid hr
  have RO := Lib.hid hro
  have HAP := Lib.hid hap
  clear hlen hw hr hro hap hf
  go_enter Tryd.func24, Tryd.ntmps24
  go_upto_region 1 with fail
  rw [ZT.out, ← HH.out, ← HW0.out]
  go_wp2_with fail
  go_loop [6] (fun i => ∃ j : Nat, j ≤ es.length ∧ i = .int .i64 j ∧ Hid (∀ e ∈ es.take j, e.key ≠ (k : Int))) (fun i => es.length - (intOf i).toNat)
  case atStart => exact ⟨0, Nat.zero_le _, rfl, Lib.hid (fun e he => by simp at he)⟩
  case round =>
    obtain ⟨j, hj, rfl, hno⟩ := hrel
    by_cases hlt : j < es.length
    · obtain ⟨b, o, rfl, hb, hrg⟩ := HR.out.ent HL.out hlt
      have hrg2 : w0.rangeAt b (o + j * 33) (eL es[j]) := range_low hrg BW.out hb
      have he32 := HL.out _ (List.getElem_mem hlt)
      have hmem := List.getElem_mem hlt
      have htk : es.take (j + 1) = es.take j ++ [es[j]] := List.take_succ_eq_append_getElem hlt
      have j0 : (0 : Int) ≤ (j : Int) := by omega
      have j1 : (j : Int) < (es.length : Int) := by omega
      have e4 : IntKind.i64.wrap ((j : Int) + 1) = (j : Int) + 1 := IntWalk.i64_in _ (by omega)
      obtain ⟨E, hE⟩ : ∃ E, E = es[j] := ⟨_, rfl⟩
      rw [← hE] at hrg2 he32 hmem htk
      have ck := range_ekey hrg2
      have HRG := Lib.hid hrg2
      have H32 := Lib.hid he32
      have HMEM := Lib.hid hmem
      have HTK := Lib.hid htk
      clear hrg hrg2 he32 hE hmem htk hb
      by_cases hkk : E.key = (k : Int)
      · have hkb : (E.key == (k : Int)) = true := by rw [beq_iff_eq]; exact hkk
        have LC := Leaf_calls k hk E.val H32.out w0 (RO.out.at_ BW.out)
        rw [← hkk] at LC
        have hlf : leafF es k = leafD k E.val := leafF_mem es HAP.out E HMEM.out k hkk
        obtain ⟨N, hN⟩ : ∃ N, N = leafF es k := ⟨_, rfl⟩
        have nl : N.length = 32 := by rw [hN]; exact leafF_length es k
        rw [hlf] at hN
        rw [← hN] at LC
        have HLC := Lib.hid LC
        have NL := Lib.hid nl
        have HN := Lib.hid (hN.trans hlf.symm)
        clear LC hlf hN nl hkk
        go_wp2_with (first
          | ((refine ld_entG rfl (.tmp 25) rfl b (o + j * 33) (by rfl) E H32.out HRG.out ?_); simp only [Act.put, List.setIfInBounds_toArray, List.set_cons_zero, List.set_cons_succ]))
        refine HLC.out.mono ?_
        rintro e w1 ⟨rfl, hb1⟩
        obtain ⟨Y, hY⟩ : ∃ Y, Y = w1.heap.size := ⟨_, rfl⟩
        obtain ⟨w2, hw2⟩ : ∃ z, z = w1.alloc (.cells (dV N) 23) := ⟨_, rfl⟩
        have b2 : Below w0.heap.size w0 w2 := by rw [hw2]; exact hb1.alloc hb1.size _
        have g2 : w2.heap[Y]? = some (.cells (dV N) 23 (0, 0)) := by rw [hw2, hY]; exact heap_alloc_new _ _
        have gz := (b2.block H hsz).trans G0.out
        have hHY : H < Y := by rw [hY]; exact Nat.lt_of_lt_of_le hsz hb1.size
        have HY := Lib.hid hY
        have HW2 := Lib.hid hw2
        have G2 := Lib.hid g2
        have GZ := Lib.hid gz
        have B2 := Lib.hid (BL.out.trans (b2.mono (by omega)))
        clear hY hw2 b2 g2 gz hb1 HLC hno
        go_wp2_with (first
          | ((refine st_new rfl (.tmp 7) (.tmp 28) rfl N NL.out (by rfl) _ _ (by rfl) (by rfl) ?_); rw [← HY.out, ← HW2.out]))
        have hiN : (Tryd.prog.info? 23).map (·.size) = some (N.map vB).length := by rw [List.length_map, NL.out]; exact dig_size
        refine wp_region_held_drew (S := fun w' => w'.rangeAt Y 0 (N.map vB)) (by kernel_rfl) (range_of_row G2.out) (fun hHeld => ?_)
        refine wpAnyH_take (i := 0) (oi := _) (v := _) rfl (by kernel_rfl) (by kernel_rfl) (by kernel_rfl) (fun _ _ _ h => h) (yieldsIf_load_mid (by rfl) _ _ rfl _ _ rfl (N.map vB) _ (fun w hw => hw) Tryd.underlying23 rfl hiN) hHeld ?_
        simp only [Act.put, List.getElem_toArray, List.getElem_cons_zero, List.getElem_cons_succ, List.setIfInBounds_toArray, List.set_cons_zero, List.set_cons_succ]
        refine wpAnyH_take (i := 1) (oi := _) (v := .nilIface) rfl (by kernel_rfl) (by kernel_rfl) (by kernel_rfl) (fun _ _ _ h => h) (Or.inl ⟨by rfl, fun w hw => by go_simp⟩) hHeld ?_
        simp only [Act.put, List.getElem_toArray, List.getElem_cons_zero, List.getElem_cons_succ, List.setIfInBounds_toArray, List.set_cons_zero, List.set_cons_succ]
        refine wpAnyH_take (i := 2) (oi := _) (v := .bool true) rfl (by kernel_rfl) (by kernel_rfl) (by kernel_rfl) (fun _ _ _ h => h) (Or.inl ⟨by rfl, fun w hw => by go_simp⟩) hHeld ?_
        simp only [Act.put, List.getElem_toArray, List.getElem_cons_zero, List.getElem_cons_succ, List.setIfInBounds_toArray, List.set_cons_zero, List.set_cons_succ]
        have GZ3 := Lib.hid (show w2.drew.heap[H]? = some (.cells (dV Z) 23 (0, 0)) from GZ.out)
        have B3 := Lib.hid (B2.out.drew)
        have hYH : H ≠ Y := by omega
        have hR3 : (w2.drew.setRow H (dV N)).rangeAt Y 0 (N.map vB) := range_of_row ((setRow_other _ _ _ _ (fun h => hYH h.symm)).trans G2.out)
        refine wpAnyH_ready (rs := [3]) (by kernel_rfl) (by simp) ?_
        refine AllReadyH.cons (o := _) rfl (fun K hK => ?_) AllReadyH.nil
        have HK := Lib.hid hK
        clear hK
        rw [if_pos (by rfl)]
        refine wp_store_row _ _ _ rfl H (dV N) (by rfl) (by rfl) _ (dV Z) GZ3.out (info_dV NL.out) (by rw [dV_size NL.out, dV_size ZL.out]) (dV_one N) ?_
        refine HK.out _ _ hR3 ?_
        clear HK K
        try simp only [Act.put, List.getElem_toArray, List.getElem_cons_zero, List.getElem_cons_succ, List.setIfInBounds_toArray, List.set_cons_zero, List.set_cons_succ]
        intro hHeld2
        refine wpAnyH_take (i := 4) (oi := _) (v := .bool true) rfl (by kernel_rfl) (by kernel_rfl) (by kernel_rfl) (fun _ _ _ h => h) (Or.inl ⟨by rfl, fun w hw => by go_simp⟩) hHeld2 ?_
        simp only [Act.put, List.getElem_toArray, List.getElem_cons_zero, List.getElem_cons_succ, List.setIfInBounds_toArray, List.set_cons_zero, List.set_cons_succ]
        refine wpAnyH_done (by kernel_rfl) ?_ _
        go_wp2_with fail
        try simp only [Exit.inBlock, Exit.then]
        refine bodyPost_ret (results_cell_tmp rfl _ _ _ ⟨H, 0, none⟩ (.agg (dV N)) rfl ?_) rfl ⟨by rw [← HN.out]; rfl, by rw [← HH.out]; exact below_setRowW B3.out (Nat.le_refl _) _⟩
        exact dig_load NL.out (range_of_row (setRow_heap _ _ _ (dV N) _ _ GZ3.out))
      · have hkb : (E.key == (k : Int)) = false := by rw [beq_eq_false_iff_ne]; exact hkk
        have hno2 : Hid (∀ e ∈ es.take (j + 1), e.key ≠ (k : Int)) := Lib.hid (fun e he => by
          rw [HTK.out] at he
          rcases List.mem_append.1 he with h | h
          · exact hno.out e h
          · rw [List.mem_singleton.1 h]; exact hkk)
        clear hno hkk
        go_wp2_with fail
        go_round
        case rel => exact ⟨j + 1, hlt, by go_num, hno2⟩
        case measure => simp [intOf]; omega
    · obtain rfl : j = es.length := by omega
      have hz : leafF es k = nz := leafF_none es k (fun e he => hno.out e (by rw [List.take_of_length_le (Nat.le_refl _)]; exact he))
      have HZZ := Lib.hid hz
      clear hz hno
      go_wp2_with fail
      refine (Nothing_calls w0).mono ?_
      rw [← HZ.out]
      rintro e w1 ⟨rfl, hb1⟩
      have G1 := Lib.hid ((hb1.block H hsz).trans G0.out)
      have B1 := Lib.hid (BL.out.trans (hb1.mono (by omega)))
      clear hb1
      go_wp2_with (first | (refine st_row rfl (.tmp 4) (.tmp 33) rfl H Z ZL.out (by rfl) (by rfl) (dV Z) (dV_size ZL.out) _ G1.out ?_))
      try simp only [Exit.inBlock, Exit.then]
      refine bodyPost_ret (results_cell_tmp rfl _ _ _ ⟨H, 0, none⟩ (.agg (dV Z)) rfl ?_) rfl ⟨by rw [HZZ.out, ← HZ.out]; rfl, by rw [← HH.out]; exact below_setRowW B1.out (Nat.le_refl _) _⟩
      exact dig_load ZL.out (range_of_row (setRow_heap _ _ _ (dV Z) _ _ G1.out))
end Go.Proofs.YtpeomfehdccmmaaDoor
