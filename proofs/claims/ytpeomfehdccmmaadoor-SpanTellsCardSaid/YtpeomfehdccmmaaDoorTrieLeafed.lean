/- Walk: the laws' own 'leafed'. -/
import Derived.Test.YtpeomfehdccmmaaDoorTriePathA
import Derived.Test.YtpeomfehdccmmaaDoorTrieFact
namespace Go.Proofs.YtpeomfehdccmmaaDoor
open Go.RowKit
set_option linter.unusedVariables false
set_option linter.unusedSimpArgs false
theorem fill_1 (cs c0 : Array Value) (size : Nat) (hs : 0 < size) (h : cs.size = size) (h0 : c0.size = size) : Instr.fill (fun i => some (i * size, size)) c0 [(0, .agg cs)] = some cs := by
  have := Great.fill_whole hs [.agg cs] c0 (fun v hv => by rw [List.mem_singleton.1 hv]; exact h) (by simp [h0])
  refine Eq.trans this ?_
  simp [Value.cells]
theorem wpl_build1 {P : Program} {w : World} {ops : Array Oper} {rest : List Oper} {o : Oper} {a : Act} {Q : Exit → Act → World → Prop} (T e : TypeId) (z : Value) (size bytes : Nat) (ht : P.underlying T = some (.slice e)) (hinfo : (P.info? e).map (fun i => (i.zero, i.size, i.bytes)) = some (some z, size, bytes)) (hsz : 0 < size) (hsm : size ≤ 1000) (hgd : o.guard = none)
    (x : Operand) (ho : o.op = .buildSlice T 1 #[(0, x)]) (cs : Array Value) (hx : a.eval x = .agg cs) (hcs : cs.size = size)
    (h : wpList P ops Q rest (a.put o.dst (.slice (some ⟨w.heap.size, 0, none⟩) 1 1)) (w.alloc (.cells cs e))) : wpList P ops Q (o :: rest) a w := by
  unfold wpList
  rw [if_pos (by unfold Region.wanted; rw [hgd])]
  refine .inl ?_
  obtain ⟨i, hi, hz, hs', hb⟩ := info_parts hinfo
  refine wp_buildSlice T e 1 _ ho cs i z ht hi hz (by rw [hs']; omega) (by rw [hs']; omega) ?_ h
  have he : (Array.map (fun x => match x with | (i, x) => (i, a.eval x)) #[(0, x)]).toList = [(0, .agg cs)] := by
    simp [hx]
  rw [hs']
  refine Eq.trans (congrArg _ he) ?_
  exact fill_1 cs _ size hsz hcs (by simp)
theorem Rd.ent1 (w : World) (e : En) : Rd (w.alloc (.cells (eV e.key e.val) 35)) (some ⟨w.heap.size, 0, none⟩) 35 (cellsE [e]) := by
  rw [cellsE_one]
  have := Rd.new w (eV e.key e.val) 35
  rwa [eV_list] at this
theorem enw (k : Int) (v : List UInt8) (hv : v.length = 32) (h : -9223372036854775808 ≤ k ∧ k ≤ 9223372036854775807) : ∀ e ∈ [(⟨k, v⟩ : En)], EnW e := by
  intro e he
  rw [List.mem_singleton.1 he]
  exact ⟨hv, h⟩
set_option maxRecDepth 20000 in
set_option maxHeartbeats 8000000 in
theorem Leafed_calls (w : World) (hro : RoundsAt w) : Calls Tryd.prog 20 #[] w fun e w' => e = .returned (.bool true) ∧ Below w.heap.size w w' := by
  obtain ⟨Z, hZ⟩ : ∃ Z, Z = nz := ⟨_, rfl⟩
  have zl : Z.length = 32 := by rw [hZ]; rfl
  have zlit : (#[.int .u8 0, .int .u8 0, .int .u8 0, .int .u8 0, .int .u8 0, .int .u8 0, .int .u8 0, .int .u8 0, .int .u8 0, .int .u8 0, .int .u8 0, .int .u8 0, .int .u8 0, .int .u8 0, .int .u8 0, .int .u8 0, .int .u8 0, .int .u8 0, .int .u8 0, .int .u8 0, .int .u8 0, .int .u8 0, .int .u8 0, .int .u8 0, .int .u8 0, .int .u8 0, .int .u8 0, .int .u8 0, .int .u8 0, .int .u8 0, .int .u8 0, .int .u8 0] : Array Value) = dV Z := by rw [hZ]; exact zdig
  have ZL := Lib.hid zl
  have ZT := Lib.hid zlit
  have HZ := Lib.hid hZ
  clear zl zlit hZ
  have LC := Leaf_calls 1 (by decide) Z ZL.out w hro
  obtain ⟨Lf, hLf⟩ : ∃ L, L = leafD 1 Z := ⟨_, rfl⟩
  have lfl : Lf.length = 32 := by rw [hLf]; exact leafD_length _ _
  have lfn : (Lf == Z) = false := by rw [hLf, HZ.out]; exact leaf1_ne
  rw [← hLf] at LC
  rw [show ((1 : Nat) : Int) = 1 from rfl] at LC
  have HLC := Lib.hid LC
  have LFL := Lib.hid lfl
  have LFN := Lib.hid lfn
  have RO := Lib.hid hro
  clear LC hLf lfl lfn hro
  go_enter Tryd.func20, Tryd.ntmps20
  go_upto_region 2 with (first | (refine wpl_ent rfl _ rfl (by rfl) Z HZ.out ?_) | (go_at_call 18; refine HLC.out.mono ?_; rintro e w1 ⟨rfl, hb1⟩) | (refine st_new rfl (.tmp 1) (.tmp 8) rfl Lf LFL.out (by rfl) _ _ (by rfl) (by rfl) ?_))
  obtain ⟨Y, hY⟩ : ∃ Y, Y = w1.heap.size := ⟨_, rfl⟩
  obtain ⟨w2, hw2⟩ : ∃ z, z = w1.alloc (.cells (dV Lf) 23) := ⟨_, rfl⟩
  rw [← hY, ← hw2]
  have b2 : Below w.heap.size w w2 := by rw [hw2]; exact hb1.alloc hb1.size _
  have g2 : w2.heap[Y]? = some (.cells (dV Lf) 23 (0, 0)) := by rw [hw2, hY]; exact heap_alloc_new _ _
  have hwY : w.heap.size ≤ Y := by rw [hY]; exact hb1.size
  obtain ⟨w3, hw3⟩ : ∃ z, z = w2.alloc (.cells (eV 1 Z) 35) := ⟨_, rfl⟩
  have b23 : Below w2.heap.size w2 w3 := by rw [hw3]; exact (Below.refl _ _).alloc (Nat.le_refl _) _
  have r3 : Rd w3 (some ⟨w2.heap.size, 0, none⟩) 35 (cellsE [⟨1, Z⟩]) := by rw [hw3]; exact Rd.ent1 w2 ⟨1, Z⟩
  have b3 : Below w.heap.size w w3 := b2.trans (b23.mono b2.size)
  have RC := TRoot_ok [⟨1, Z⟩] (enw 1 Z ZL.out (by decide)) (some ⟨w2.heap.size, 0, none⟩) 1 _ (by simp) (by decide) w3 r3 (by rw [HZ.out]; exact mapF_one) (RO.out.at_ b3)
  obtain ⟨Rt, hRt⟩ : ∃ L, L = rootD [⟨1, Z⟩] := ⟨_, rfl⟩
  have rtl : Rt.length = 32 := by rw [hRt]; exact rootD_length _
  have rtn : (Rt == Z) = false := by rw [hRt, HZ.out]; exact root_one
  rw [← hRt] at RC
  rw [show ([(⟨1, Z⟩ : En)]).length = 1 from rfl] at RC
  have HRC := Lib.hid RC
  have RTL := Lib.hid rtl
  have RTN := Lib.hid rtn
  have HW3 := Lib.hid hw3
  have G2 := Lib.hid g2
  have B3 := Lib.hid b3
  have B23 := Lib.hid b23
  have hY2 := lt_of_heap g2
  clear RC hRt rtl rtn hw3 hw2 hY b2 g2 r3 b3 b23 hb1 HLC
  go_upto_region 3 with (first | (refine wpl_ent rfl _ rfl (by rfl) Z HZ.out ?_) | ((refine wpl_build1 40 35 _ 33 40 Tryd.underlying40 info_entz (by omega) (by omega) rfl (.tmp 11) rfl (eV 1 Z) (by rfl) (eV_size 1 Z ZL.out) ?_); rw [← HW3.out]; simp only [Act.put, List.setIfInBounds_toArray, List.set_cons_zero, List.set_cons_succ]) | (go_at_call 22; refine HRC.out.mono ?_; rintro e w4 ⟨rfl, hb4⟩) | (refine st_new rfl (.tmp 3) (.tmp 14) rfl Rt RTL.out (by rfl) _ _ (by rfl) (by rfl) ?_))
  obtain ⟨X, hX⟩ : ∃ X, X = w4.heap.size := ⟨_, rfl⟩
  obtain ⟨w5, hw5⟩ : ∃ z, z = w4.alloc (.cells (dV Rt) 23) := ⟨_, rfl⟩
  rw [← hX, ← hw5]
  have b34 : Below w3.heap.size w3 w5 := by rw [hw5]; exact hb4.alloc hb4.size _
  have g5 : w5.heap[X]? = some (.cells (dV Rt) 23 (0, 0)) := by rw [hw5, hX]; exact heap_alloc_new _ _
  have gL : w5.heap[Y]? = some (.cells (dV Lf) 23 (0, 0)) := (b34.block Y (Nat.lt_of_lt_of_le hY2 B23.out.size)).trans ((B23.out.block Y hY2).trans G2.out)
  have NC : ∀ w', InB w5.heap.size w5 w' → Calls Tryd.prog 19 #[] w' fun e w'' => e = .returned (.agg (dV Z)) ∧ InB w5.heap.size w5 w'' :=
    fun w' h => InB.call h (Nat.le_refl _) (by rw [HZ.out]; exact Nothing_calls w')
  have HNC := Lib.hid NC
  have hex := inB_ex w5.heap.size w5
  have G5 := Lib.hid g5
  have GL := Lib.hid gL
  have B5 := Lib.hid (B3.out.trans (b34.mono B3.out.size))
  have hX5 := lt_of_heap g5
  have hY5 := lt_of_heap gL
  have hw5s := B5.out.size
  clear NC hX hw5 g5 gL b34 hb4 HRC
  refine wp_region_inB w5.heap.size (by kernel_rfl) (by kernel_rfl) ?_
  go_big_quiet_step ((intro _; rfl))
  go_big_quiet_step ((intro _; rfl))
  go_big_quiet_step ((intro _; rfl))
  go_big_quiet_step ((intro _; rfl))
  go_big_quiet_step ((intro _; rfl))
  go_big_quiet_step ((intro _; rfl))
  go_big_quiet_step ((intro _; rfl))
  refine quiet_dig rfl (.tmp 1) rfl (Y) 0 (by rfl) Lf LFL.out (fun w' hw' => hw'.range (by omega) (range_of_row GL.out)) ?_
  simp only [Act.put, List.setIfInBounds_toArray, List.set_cons_zero, List.set_cons_succ]
  go_big_quiet_step ((intro hw'; exact HNC.out _ hw'))
  refine quiet_dig_neq rfl (.tmp 23) (.tmp 24) _ rfl Lf Z (by rfl) (by rfl) LFL.out ZL.out ?_
  rw [LFN.out]
  simp only [Act.put, List.setIfInBounds_toArray, List.set_cons_zero, List.set_cons_succ]
  go_big_quiet_step ((intro _; rfl))
  go_big_quiet_step ((intro _; rfl))
  refine quiet_dig rfl (.tmp 3) rfl (X) 0 (by rfl) Rt RTL.out (fun w' hw' => hw'.range (by omega) (range_of_row G5.out)) ?_
  simp only [Act.put, List.setIfInBounds_toArray, List.set_cons_zero, List.set_cons_succ]
  go_big_quiet_step ((intro hw'; exact HNC.out _ hw'))
  refine quiet_dig_neq rfl (.tmp 28) (.tmp 29) _ rfl Rt Z (by rfl) (by rfl) RTL.out ZL.out ?_
  rw [RTN.out]
  simp only [Act.put, List.setIfInBounds_toArray, List.set_cons_zero, List.set_cons_succ]
  go_big_quiet_step ((intro _; rfl))
  go_big_quiet_step ((intro _; rfl))
  refine wpQuiet_nil ?_
  intro w7 hw7
  have B7 := Lib.hid (B5.out.trans (Below.mono hw7 hw5s))
  clear hw7
  go_wp2_with fail
  go_ret
  exact ⟨rfl, B7.out⟩
end Go.Proofs.YtpeomfehdccmmaaDoor
