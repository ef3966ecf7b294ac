/- Walks: a leaf's path: the document's and the program's; the program's Root. -/
import Derived.Test.YtkioddmhjbaleaaDoorTreeRev
import Derived.Test.YtkioddmhjbaleaaDoorTreeRoot
import Derived.Test.YtkioddmhjbaleaaDoorOpenA
import Derived.Test.YtkioddmhjbaleaaDoorToldA
namespace Go.Proofs.YtkioddmhjbaleaaDoor
open Go.RowKit
set_option linter.unusedVariables false
set_option linter.unusedSimpArgs false

theorem info_digz2 : (Tryd.prog.info? 23).map (fun i => (i.zero, i.size, i.bytes)) = some (some (.agg (dV nz)), 32, 32) := by rw [← zdig]; exact info_dig
theorem fill_1t (cs c0 : Array Value) (size : Nat) (hs : 0 < size) (h : cs.size = size) (h0 : c0.size = size) : Instr.fill (fun i => some (i * size, size)) c0 [(0, .agg cs)] = some cs := by
  have := Great.fill_whole hs [.agg cs] c0 (fun v hv => by rw [List.mem_singleton.1 hv]; exact h) (by simp [h0])
  refine Eq.trans this ?_
  simp [Value.cells]
theorem wpl_build1t {P : Program} {w : World} {ops : Array Oper} {rest : List Oper} {o : Oper} {a : Act} {Q : Exit → Act → World → Prop} (T e : TypeId) (z : Value) (size bytes : Nat) (ht : P.underlying T = some (.slice e)) (hinfo : (P.info? e).map (fun i => (i.zero, i.size, i.bytes)) = some (some z, size, bytes)) (hsz : 0 < size) (hsm : size ≤ 1000) (hgd : o.guard = none)
    (x : Operand) (ho : o.op = .buildSlice T 1 #[(0, x)]) (cs : Array Value) (hx : a.eval x = .agg cs) (hcs : cs.size = size)
    (h : wpList P ops Q rest (a.put o.dst (.slice (some ⟨w.heap.size, 0, none⟩) 1 1)) (w.alloc (.cells cs e))) : wpList P ops Q (o :: rest) a w := by
  unfold wpList
  rw [if_pos (by unfold Region.wanted; rw [hgd])]
  refine .inl ?_
  obtain ⟨i, hi, hz, hs', hb⟩ := info_parts hinfo
  refine wp_buildSlice T e 1 _ ho cs i z ht hi hz (by rw [hs']; omega) (by rw [hs']; omega) ?_ h
  have he : (Array.map (fun x => match x with | (i, x) => (i, a.eval x)) #[(0, x)]).toList = [(0, .agg cs)] := by
    simp [hx]
  rw [hs']
  refine Eq.trans (congrArg _ he) ?_
  exact fill_1t cs _ size hsz hcs (by simp)
def lenOf : Value → Nat
  | .slice _ n _ => n
  | _ => 0
/-- what is known of digests and a place among them -/
theorem tree_parts (ls : List (List UInt8)) (hd : ∀ d ∈ ls, d.length = 32) (h2 : 2 ≤ ls.length) : ∃ h, h = hf ls.length ∧ 0 < h ∧ h < ls.length ∧ (ls.take h).length = h ∧ (ls.drop h).length = ls.length - h ∧ (∀ d ∈ ls.take h, d.length = 32) ∧ (∀ d ∈ ls.drop h, d.length = 32) ∧ (ls.take h).flatten.map vB = (ls.flatten.map vB).take (h * 32) ∧ (ls.drop h).flatten.map vB = (ls.flatten.map vB).drop (h * 32) := by
  have hlt := hf_lt h2
  exact ⟨_, rfl, hf_pos _, hlt, by rw [List.length_take]; omega, by rw [List.length_drop], fun d hx => hd d (List.mem_of_mem_take hx), fun d hx => hd d (List.mem_of_mem_drop hx), by rw [← List.map_take, flat_take ls hd], by rw [← List.map_drop, flat_drop ls hd]⟩
theorem flat_snoc (ps : List (List UInt8)) (p : List UInt8) : (ps ++ [p]).flatten.map vB = ps.flatten.map vB ++ p.map vB := by rw [List.flatten_append, List.map_append]; simp
set_option maxRecDepth 20000 in
set_option maxHeartbeats 2000000 in
theorem RPath_calls : ∀ (N : Nat) (ls : List (List UInt8)) (i : Nat), ls.length ≤ N → ls.length ≤ 256 → i < ls.length → (∀ d ∈ ls, d.length = 32) → ∀ (a : Option Addr) (cap e : Nat), ls.length ≤ cap → cap ≤ 9223372036854775807 → ∀ (w : World), Rd w a e (ls.flatten.map vB) →
    Calls Tryd.prog 20 #[.slice a ls.length cap, .int .i64 (i : Int)] w fun e w' => ∃ a' c', e = .returned (.slice a' (tlong i ls.length) c') ∧ w'.ownsRow w.heap.size 23 32 (.slice a' (tlong i ls.length) c') (tlong i ls.length) ((tpath ls i).flatten.map vB) ∧ Below w.heap.size w w' := by
  intro N
  induction N with
  | zero => intro ls i hN h256 hi; omega
  | succ N ih =>
    intro ls i hN h256 hi hd a cap e hc hc2 w hr
    by_cases h2 : 2 ≤ ls.length
    · have hpl := tpath_long ls.length ls i (Nat.le_refl _)
      obtain ⟨h, hh, hpos, hlt, l1, l2, d1, d2, f1, f2⟩ := tree_parts ls hd h2
      obtain ⟨B, o, hB, hBx, hBy⟩ := hr.range hd (k := 0) (by omega)
      subst hB
      clear hBx hBy
      obtain ⟨n, hn⟩ : ∃ n, n = ls.length := ⟨_, rfl⟩
      have HC := RHalf_calls n (by omega) (by omega) w
      rw [hn, ← hh, ← hn] at HC
      have HHC := Lib.hid HC
      have i1 : (0 : Int) ≤ (h : Int) := by omega
      have i2 : (h : Int) ≤ (n : Int) := by omega
      have i3 : (h : Int) ≤ (cap : Int) := by omega
      have i4 : ((n : Int) - (h : Int)).toNat = n - h := by omega
      have i5 : ((cap : Int) - (h : Int)).toNat = cap - h := by omega
      have i6 : (n : Int) ≤ (cap : Int) := by omega
      have i7 : ¬ cap = h := by omega
      have i8 : ¬ h = cap := by omega
      have z1 : ((n : Int) == 1) = false := by rw [beq_eq_false_iff_ne]; omega
      by_cases hih : i < h
      · have z2 : decide ((i : Int) < (h : Int)) = true := decide_eq_true (by omega)
        have z3 : decide (i < h) = true := decide_eq_true hih
        have ht := tpath_left h2 (by rw [← hh]; exact hih)
        have htl := tlong_left h2 (by rw [← hh]; exact hih)
        rw [← hh] at ht htl
        have PC := fun w' (hb : Below w.heap.size w w') => ih (ls.take h) i (by omega) (by omega) (by omega) d1 (some ⟨B, o, none⟩) cap e (by omega) (by omega) w' (by rw [f1]; exact (hr.below hb).take _)
        have QC := fun w' (hb : Below w.heap.size w w') => RRoot_calls ls.length (ls.drop h) (by omega) (by omega) d2 (some ⟨B, o + h * 32, none⟩) (cap - h) e (by omega) (by omega) w' (by rw [f2]; exact (hr.below hb).drop _)
        rw [l1] at PC
        rw [l2] at QC
        obtain ⟨ps, hps⟩ : ∃ ps, ps = tpath (ls.take h) i := ⟨_, rfl⟩
        obtain ⟨X, hX⟩ : ∃ X, X = troot (ls.drop h) := ⟨_, rfl⟩
        have XL := Lib.hid (show X.length = 32 by rw [hX]; exact troot_length _ d2)
        rw [← hps] at PC ht
        rw [← hX] at QC ht
        obtain ⟨m, hm⟩ : ∃ m, m = tlong i (h) := ⟨_, rfl⟩
        rw [← hm] at PC htl
        rw [ht, htl, Nat.add_comm 1 m, flat_snoc]
        have hm256 : m ≤ 256 := by
          have := tlong_le 255 i ls.length (by omega)
          rw [tlong_left h2 (by rw [← hh]; exact hih), ← hh, ← hm] at this
          omega
        try rw [← hn] at PC
        try rw [← hn] at QC
        rw [← hn]
        have HPC := Lib.hid PC
        have HQC := Lib.hid QC
        clear PC QC ht htl hps hX hm hpl ih hd hr hN h256 h2 l1 l2 d1 d2 f1 f2 HC hh hn hi
        go_enter Tryd.func20, Tryd.ntmps20
        go_wp2_with fail
        refine HHC.out.mono ?_
        rintro e w1 ⟨rfl, rfl⟩
        go_wp2_with fail
        obtain ⟨wD, hwD⟩ : ∃ z, z = w.drew := ⟨_, rfl⟩
        have BD := Lib.hid (show Below w.heap.size w wD by rw [hwD]; exact (Below.refl _ _).drew)
        have HWD := Lib.hid hwD
        clear hwD
        refine wp_region_any (by kernel_rfl) ?_
        change wpAny _ _ _ _ _ _ _ w.drew
        rw [← HWD.out]
        refine wpAny_take (i := 0) (oi := _) (v := .slice (some ⟨B, o, none⟩) n cap) rfl (by kernel_rfl) (by kernel_rfl) (by kernel_rfl) (fun _ _ _ h => h) (.inl ⟨by rfl, fun w => by go_simp⟩) ?_
        simp only [Act.put, List.getElem_toArray, List.getElem_cons_zero, List.getElem_cons_succ, List.setIfInBounds_toArray, List.set_cons_zero, List.set_cons_succ]
        refine wpAny_take (i := 1) (oi := _) (v := .int .i64 (h : Int)) rfl (by kernel_rfl) (by kernel_rfl) (by kernel_rfl) (fun _ _ _ h => h) (.inl ⟨by rfl, fun w => by go_simp⟩) ?_
        simp only [Act.put, List.getElem_toArray, List.getElem_cons_zero, List.getElem_cons_succ, List.setIfInBounds_toArray, List.set_cons_zero, List.set_cons_succ]
        refine wpAny_take (i := 2) (oi := _) (v := .slice (some ⟨B, o, none⟩) h cap) rfl (by kernel_rfl) (by kernel_rfl) (by kernel_rfl) (fun _ _ _ h => h) (.inl ⟨by rfl, fun w => by go_simp⟩) ?_
        simp only [Act.put, List.getElem_toArray, List.getElem_cons_zero, List.getElem_cons_succ, List.setIfInBounds_toArray, List.set_cons_zero, List.set_cons_succ]
        refine wpAny_take (i := 3) (oi := _) (v := .int .i64 (i : Int)) rfl (by kernel_rfl) (by kernel_rfl) (by kernel_rfl) (fun _ _ _ h => h) (.inl ⟨by rfl, fun w => by go_simp⟩) ?_
        simp only [Act.put, List.getElem_toArray, List.getElem_cons_zero, List.getElem_cons_succ, List.setIfInBounds_toArray, List.set_cons_zero, List.set_cons_succ]
        refine wpAny_take (i := 5) (oi := _) (v := .slice (some ⟨B, o, none⟩) n cap) rfl (by kernel_rfl) (by kernel_rfl) (by kernel_rfl) (fun _ _ _ h => h) (.inl ⟨by rfl, fun w => by go_simp⟩) ?_
        simp only [Act.put, List.getElem_toArray, List.getElem_cons_zero, List.getElem_cons_succ, List.setIfInBounds_toArray, List.set_cons_zero, List.set_cons_succ]
        refine wpAny_take (i := 6) (oi := _) (v := .int .i64 (h : Int)) rfl (by kernel_rfl) (by kernel_rfl) (by kernel_rfl) (fun _ _ _ h => h) (.inl ⟨by rfl, fun w => by go_simp⟩) ?_
        simp only [Act.put, List.getElem_toArray, List.getElem_cons_zero, List.getElem_cons_succ, List.setIfInBounds_toArray, List.set_cons_zero, List.set_cons_succ]
        refine wpAny_take (i := 7) (oi := _) (v := .slice (some ⟨B, o + h * 32, none⟩) (n - h) (cap - h)) rfl (by kernel_rfl) (by kernel_rfl) (by kernel_rfl) (fun _ _ _ h => h) (.inl ⟨by rfl, fun w => by go_simp⟩) ?_
        simp only [Act.put, List.getElem_toArray, List.getElem_cons_zero, List.getElem_cons_succ, List.setIfInBounds_toArray, List.set_cons_zero, List.set_cons_succ]
        refine wpAny_ready (rs := [4]) (by kernel_rfl) (by simp) ?_
        refine AllReady.cons (o := _) rfl (fun K hK => ?_) AllReady.nil
        have HK := Lib.hid hK
        clear hK
        go_simp
        go_at_call 20
        refine (HPC.out wD BD.out).mono ?_
        rintro e w5 ⟨pa, pc, rfl, hown5, hb5⟩
        dsimp only
        have O5 := Lib.hid (own_base hown5 BD.out.size)
        have B5 := Lib.hid (BD.out.trans (hb5.mono BD.out.size))
        clear hb5 hown5
        refine HK.out _ _ ?_
        clear HK K
        try simp only [Act.put, List.getElem_toArray, List.getElem_cons_zero, List.getElem_cons_succ, List.setIfInBounds_toArray, List.set_cons_zero, List.set_cons_succ]
        refine wpAny_ready (rs := [8]) (by kernel_rfl) (by simp) ?_
        refine AllReady.cons (o := _) rfl (fun K hK => ?_) AllReady.nil
        have HK := Lib.hid hK
        clear hK
        go_simp
        go_at_call 17
        refine (HQC.out w5 B5.out).mono ?_
        rintro e w6 ⟨rfl, hb6⟩
        dsimp only
        have O6 := Lib.hid (own_below O5.out hb6)
        have B6 := Lib.hid (B5.out.trans (hb6.mono B5.out.size))
        clear hb6
        refine HK.out _ _ ?_
        clear HK K
        try simp only [Act.put, List.getElem_toArray, List.getElem_cons_zero, List.getElem_cons_succ, List.setIfInBounds_toArray, List.set_cons_zero, List.set_cons_succ]
        refine wpAny_ready (rs := [9]) (by kernel_rfl) (by simp) ?_
        refine AllReady.cons (o := _) rfl (fun K hK => ?_) AllReady.nil
        have HK := Lib.hid hK
        clear hK
        refine stepBuild1 31 23 _ 32 32 Tryd.underlying31 info_digz2 (by omega) (by omega) rfl (.tmp 23) rfl (dV X) (by rfl) (dV_size XL.out) ?_
        have cB := heap_alloc_new w6 (.cells (dV X) 23)
        have rB := range_of_row cB
        have O7 := Lib.hid (O6.out.alloc (.cells (dV X) 23))
        have B7 := Lib.hid (B6.out.alloc B6.out.size (.cells (dV X) 23))
        have RB := Lib.hid rB
        clear cB rB
        refine HK.out _ _ ?_
        clear HK K
        try simp only [Act.put, List.getElem_toArray, List.getElem_cons_zero, List.getElem_cons_succ, List.setIfInBounds_toArray, List.set_cons_zero, List.set_cons_succ]
        refine wpAny_ready (rs := [10]) (by kernel_rfl) (by simp) ?_
        refine AllReady.cons (o := _) rfl (fun K hK => ?_) AllReady.nil
        have HK := Lib.hid hK
        clear hK
        refine stepAppN 31 23 (.agg (dV nz)) 32 32 Tryd.underlying31 info_digz2 (dV_size rfl) (by omega) (by omega) rfl (.tmp 19) (.tmp 24) (by rfl) w.heap.size (.slice pa m pc) m (ps.flatten.map vB) (by rfl) O7.out w6.heap.size 1 (X.map vB) (by rfl) (by rw [List.length_map, XL.out]) (fun j hj => by have := RB.out j _ (List.getElem?_eq_getElem hj); rwa [Nat.zero_add] at this) (one_bytes X) (by omega) B7.out.size _ rfl ?_
        intro g8 cap8 w8 hown8 hgr8 hat8 hlt8
        have O8 := Lib.hid hown8
        have B8 := Lib.hid (below_grow B7.out O7.out hgr8 B7.out.size)
        clear hown8 hgr8 hat8 hlt8
        refine HK.out _ _ ?_
        clear HK K
        try simp only [Act.put, List.getElem_toArray, List.getElem_cons_zero, List.getElem_cons_succ, List.setIfInBounds_toArray, List.set_cons_zero, List.set_cons_succ]
        refine wpAny_take (i := 11) (oi := _) (v := .slice (some ⟨g8, 0, none⟩) (m + 1) cap8) rfl (by kernel_rfl) (by kernel_rfl) (by kernel_rfl) (fun _ _ _ h => h) (.inl ⟨by rfl, fun w => by go_simp⟩) ?_
        simp only [Act.put, List.getElem_toArray, List.getElem_cons_zero, List.getElem_cons_succ, List.setIfInBounds_toArray, List.set_cons_zero, List.set_cons_succ]
        refine wpAny_done (by kernel_rfl) ?_ _
        go_wp2_with fail
        go_ret
        exact ⟨some ⟨g8, 0, none⟩, cap8, rfl, O8.out, B8.out⟩
      · have z2 : decide ((i : Int) < (h : Int)) = false := decide_eq_false (by omega)
        have z3 : decide (i < h) = false := decide_eq_false hih
        obtain ⟨q, hq⟩ : ∃ q, q = i - h := ⟨_, rfl⟩
        have e9 : IntKind.i64.wrap ((i : Int) - (h : Int)) = (q : Int) := by rw [IntWalk.i64_in _ (by omega)]; omega
        have ht := tpath_right h2 (by rw [← hh]; exact hih)
        have htl := tlong_right h2 (by rw [← hh]; exact hih)
        rw [← hh] at ht htl
        have PC := fun w' (hb : Below w.heap.size w w') => ih (ls.drop h) (i - h) (by omega) (by omega) (by omega) d2 (some ⟨B, o + h * 32, none⟩) (cap - h) e (by omega) (by omega) w' (by rw [f2]; exact (hr.below hb).drop _)
        have QC := fun w' (hb : Below w.heap.size w w') => RRoot_calls ls.length (ls.take h) (by omega) (by omega) d1 (some ⟨B, o, none⟩) cap e (by omega) (by omega) w' (by rw [f1]; exact (hr.below hb).take _)
        rw [l2] at PC
        rw [l1] at QC
        obtain ⟨ps, hps⟩ : ∃ ps, ps = tpath (ls.drop h) (i - h) := ⟨_, rfl⟩
        obtain ⟨X, hX⟩ : ∃ X, X = troot (ls.take h) := ⟨_, rfl⟩
        have XL := Lib.hid (show X.length = 32 by rw [hX]; exact troot_length _ d1)
        rw [← hps] at PC ht
        rw [← hX] at QC ht
        obtain ⟨m, hm⟩ : ∃ m, m = tlong (i - h) (ls.length - h) := ⟨_, rfl⟩
        rw [← hm] at PC htl
        rw [ht, htl, Nat.add_comm 1 m, flat_snoc]
        have hm256 : m ≤ 256 := by
          have := tlong_le 255 i ls.length (by omega)
          rw [tlong_right h2 (by rw [← hh]; exact hih), ← hh, ← hm] at this
          omega
        try rw [← hn] at PC
        try rw [← hn] at QC
        rw [← hn]
        rw [← hq] at PC
        have HPC := Lib.hid PC
        have HQC := Lib.hid QC
        clear PC QC ht htl hps hX hm hpl ih hd hr hN h256 h2 l1 l2 d1 d2 f1 f2 HC hh hn hi hq
        go_enter Tryd.func20, Tryd.ntmps20
        go_wp2_with fail
        refine HHC.out.mono ?_
        rintro e w1 ⟨rfl, rfl⟩
        go_wp2_with fail
        obtain ⟨wD, hwD⟩ : ∃ z, z = w.drew := ⟨_, rfl⟩
        have BD := Lib.hid (show Below w.heap.size w wD by rw [hwD]; exact (Below.refl _ _).drew)
        have HWD := Lib.hid hwD
        clear hwD
        refine wp_region_any (by kernel_rfl) ?_
        change wpAny _ _ _ _ _ _ _ w.drew
        rw [← HWD.out]
        refine wpAny_take (i := 0) (oi := _) (v := .slice (some ⟨B, o, none⟩) n cap) rfl (by kernel_rfl) (by kernel_rfl) (by kernel_rfl) (fun _ _ _ h => h) (.inl ⟨by rfl, fun w => by go_simp⟩) ?_
        simp only [Act.put, List.getElem_toArray, List.getElem_cons_zero, List.getElem_cons_succ, List.setIfInBounds_toArray, List.set_cons_zero, List.set_cons_succ]
        refine wpAny_take (i := 1) (oi := _) (v := .int .i64 (h : Int)) rfl (by kernel_rfl) (by kernel_rfl) (by kernel_rfl) (fun _ _ _ h => h) (.inl ⟨by rfl, fun w => by go_simp⟩) ?_
        simp only [Act.put, List.getElem_toArray, List.getElem_cons_zero, List.getElem_cons_succ, List.setIfInBounds_toArray, List.set_cons_zero, List.set_cons_succ]
        refine wpAny_take (i := 2) (oi := _) (v := .slice (some ⟨B, o + h * 32, none⟩) (n - h) (cap - h)) rfl (by kernel_rfl) (by kernel_rfl) (by kernel_rfl) (fun _ _ _ h => h) (.inl ⟨by rfl, fun w => by go_simp⟩) ?_
        simp only [Act.put, List.getElem_toArray, List.getElem_cons_zero, List.getElem_cons_succ, List.setIfInBounds_toArray, List.set_cons_zero, List.set_cons_succ]
        refine wpAny_take (i := 3) (oi := _) (v := .int .i64 (i : Int)) rfl (by kernel_rfl) (by kernel_rfl) (by kernel_rfl) (fun _ _ _ h => h) (.inl ⟨by rfl, fun w => by go_simp⟩) ?_
        simp only [Act.put, List.getElem_toArray, List.getElem_cons_zero, List.getElem_cons_succ, List.setIfInBounds_toArray, List.set_cons_zero, List.set_cons_succ]
        refine wpAny_take (i := 4) (oi := _) (v := .int .i64 (h : Int)) rfl (by kernel_rfl) (by kernel_rfl) (by kernel_rfl) (fun _ _ _ h => h) (.inl ⟨by rfl, fun w => by go_simp⟩) ?_
        simp only [Act.put, List.getElem_toArray, List.getElem_cons_zero, List.getElem_cons_succ, List.setIfInBounds_toArray, List.set_cons_zero, List.set_cons_succ]
        refine wpAny_take (i := 5) (oi := _) (v := .int .i64 (q : Int)) rfl (by kernel_rfl) (by kernel_rfl) (by kernel_rfl) (fun _ _ _ h => h) (.inl ⟨by rfl, fun w => by go_simp⟩) ?_
        simp only [Act.put, List.getElem_toArray, List.getElem_cons_zero, List.getElem_cons_succ, List.setIfInBounds_toArray, List.set_cons_zero, List.set_cons_succ]
        refine wpAny_take (i := 7) (oi := _) (v := .slice (some ⟨B, o, none⟩) n cap) rfl (by kernel_rfl) (by kernel_rfl) (by kernel_rfl) (fun _ _ _ h => h) (.inl ⟨by rfl, fun w => by go_simp⟩) ?_
        simp only [Act.put, List.getElem_toArray, List.getElem_cons_zero, List.getElem_cons_succ, List.setIfInBounds_toArray, List.set_cons_zero, List.set_cons_succ]
        refine wpAny_take (i := 8) (oi := _) (v := .int .i64 (h : Int)) rfl (by kernel_rfl) (by kernel_rfl) (by kernel_rfl) (fun _ _ _ h => h) (.inl ⟨by rfl, fun w => by go_simp⟩) ?_
        simp only [Act.put, List.getElem_toArray, List.getElem_cons_zero, List.getElem_cons_succ, List.setIfInBounds_toArray, List.set_cons_zero, List.set_cons_succ]
        refine wpAny_take (i := 9) (oi := _) (v := .slice (some ⟨B, o, none⟩) h cap) rfl (by kernel_rfl) (by kernel_rfl) (by kernel_rfl) (fun _ _ _ h => h) (.inl ⟨by rfl, fun w => by go_simp⟩) ?_
        simp only [Act.put, List.getElem_toArray, List.getElem_cons_zero, List.getElem_cons_succ, List.setIfInBounds_toArray, List.set_cons_zero, List.set_cons_succ]
        refine wpAny_ready (rs := [6]) (by kernel_rfl) (by simp) ?_
        refine AllReady.cons (o := _) rfl (fun K hK => ?_) AllReady.nil
        have HK := Lib.hid hK
        clear hK
        go_simp
        go_at_call 20
        refine (HPC.out wD BD.out).mono ?_
        rintro e w5 ⟨pa, pc, rfl, hown5, hb5⟩
        dsimp only
        have O5 := Lib.hid (own_base hown5 BD.out.size)
        have B5 := Lib.hid (BD.out.trans (hb5.mono BD.out.size))
        clear hb5 hown5
        refine HK.out _ _ ?_
        clear HK K
        try simp only [Act.put, List.getElem_toArray, List.getElem_cons_zero, List.getElem_cons_succ, List.setIfInBounds_toArray, List.set_cons_zero, List.set_cons_succ]
        refine wpAny_ready (rs := [10]) (by kernel_rfl) (by simp) ?_
        refine AllReady.cons (o := _) rfl (fun K hK => ?_) AllReady.nil
        have HK := Lib.hid hK
        clear hK
        go_simp
        go_at_call 17
        refine (HQC.out w5 B5.out).mono ?_
        rintro e w6 ⟨rfl, hb6⟩
        dsimp only
        have O6 := Lib.hid (own_below O5.out hb6)
        have B6 := Lib.hid (B5.out.trans (hb6.mono B5.out.size))
        clear hb6
        refine HK.out _ _ ?_
        clear HK K
        try simp only [Act.put, List.getElem_toArray, List.getElem_cons_zero, List.getElem_cons_succ, List.setIfInBounds_toArray, List.set_cons_zero, List.set_cons_succ]
        refine wpAny_ready (rs := [11]) (by kernel_rfl) (by simp) ?_
        refine AllReady.cons (o := _) rfl (fun K hK => ?_) AllReady.nil
        have HK := Lib.hid hK
        clear hK
        refine stepBuild1 31 23 _ 32 32 Tryd.underlying31 info_digz2 (by omega) (by omega) rfl (.tmp 36) rfl (dV X) (by rfl) (dV_size XL.out) ?_
        have cB := heap_alloc_new w6 (.cells (dV X) 23)
        have rB := range_of_row cB
        have O7 := Lib.hid (O6.out.alloc (.cells (dV X) 23))
        have B7 := Lib.hid (B6.out.alloc B6.out.size (.cells (dV X) 23))
        have RB := Lib.hid rB
        clear cB rB
        refine HK.out _ _ ?_
        clear HK K
        try simp only [Act.put, List.getElem_toArray, List.getElem_cons_zero, List.getElem_cons_succ, List.setIfInBounds_toArray, List.set_cons_zero, List.set_cons_succ]
        refine wpAny_ready (rs := [12]) (by kernel_rfl) (by simp) ?_
        refine AllReady.cons (o := _) rfl (fun K hK => ?_) AllReady.nil
        have HK := Lib.hid hK
        clear hK
        refine stepAppN 31 23 (.agg (dV nz)) 32 32 Tryd.underlying31 info_digz2 (dV_size rfl) (by omega) (by omega) rfl (.tmp 32) (.tmp 37) (by rfl) w.heap.size (.slice pa m pc) m (ps.flatten.map vB) (by rfl) O7.out w6.heap.size 1 (X.map vB) (by rfl) (by rw [List.length_map, XL.out]) (fun j hj => by have := RB.out j _ (List.getElem?_eq_getElem hj); rwa [Nat.zero_add] at this) (one_bytes X) (by omega) B7.out.size _ rfl ?_
        intro g8 cap8 w8 hown8 hgr8 hat8 hlt8
        have O8 := Lib.hid hown8
        have B8 := Lib.hid (below_grow B7.out O7.out hgr8 B7.out.size)
        clear hown8 hgr8 hat8 hlt8
        refine HK.out _ _ ?_
        clear HK K
        try simp only [Act.put, List.getElem_toArray, List.getElem_cons_zero, List.getElem_cons_succ, List.setIfInBounds_toArray, List.set_cons_zero, List.set_cons_succ]
        refine wpAny_take (i := 13) (oi := _) (v := .slice (some ⟨g8, 0, none⟩) (m + 1) cap8) rfl (by kernel_rfl) (by kernel_rfl) (by kernel_rfl) (fun _ _ _ h => h) (.inl ⟨by rfl, fun w => by go_simp⟩) ?_
        simp only [Act.put, List.getElem_toArray, List.getElem_cons_zero, List.getElem_cons_succ, List.setIfInBounds_toArray, List.set_cons_zero, List.set_cons_succ]
        refine wpAny_done (by kernel_rfl) ?_ _
        go_wp2_with fail
        go_ret
        exact ⟨some ⟨g8, 0, none⟩, cap8, rfl, O8.out, B8.out⟩
    · have h1 : ls.length = 1 := by omega
      rw [tpath_one i h2, tlong_one h2, h1]
      have z1 : ((ls.length : Int) == 1) = true := by rw [beq_iff_eq]; omega
      clear ih hd hr hN h256 hi h2
      go_enter Tryd.func20, Tryd.ntmps20
      go_wp2_with fail
      go_ret
      exact ⟨none, 0, rfl, World.ownsRow_nil _ _ _ _, Below.refl _ _⟩
set_option maxRecDepth 20000 in
set_option maxHeartbeats 2000000 in
theorem TPath_calls (ls : List (List UInt8)) (i : Nat) (h256 : ls.length ≤ 256) (hi : i < ls.length) (hd : ∀ d ∈ ls, d.length = 32) (a : Option Addr) (cap e : Nat) (hc : ls.length ≤ cap) (hc2 : cap ≤ 9223372036854775807) (w : World) (hr : Rd w a e (ls.flatten.map vB)) (hro : RoundsAt w) :
    Calls Tryd.prog 42 #[.slice a ls.length cap, .int .i64 (i : Int)] w fun e w' => ∃ a' c', e = .returned (.tuple #[.slice a' (tlong i ls.length) c', .nilIface]) ∧ Rd w' a' 23 ((tpath ls i).flatten.map vB) ∧ Below w.heap.size w w' := by
  obtain ⟨W, hW⟩ : ∃ W, W = w.heap.size := ⟨_, rfl⟩
  have HW := Lib.hid hW
  have z0 : ¬ (256 : Int) < (ls.length : Int) := by omega
  have z1 : decide ((i : Int) < 0) = false := decide_eq_false (by omega)
  have z2 : ¬ (ls.length : Int) ≤ (i : Int) := by omega
  have z3 : decide ((ls.length : Int) ≤ (i : Int)) = false := decide_eq_false z2
  have z4 : decide (ls.length ≤ i) = false := decide_eq_false (by omega)
  have RO := Lib.hid hro
  have HR := Lib.hid hr
  have HD := Lib.hid hd
  have HPL := Lib.hid (tpath_long ls.length ls i (Nat.le_refl _))
  have HPD := Lib.hid (tpath_dig ls.length ls i (Nat.le_refl _) hd)
  have HTL := Lib.hid (tlong_le 255 i ls.length (by omega))
  clear hW hro hr hd
  go_enter Tryd.func42, Tryd.ntmps42
  go_wp2_with fail
  go_loopw [0, 1, 6] (fun v k out wr => ∃ (xs : List (List UInt8)) (j : Nat) (b : Option Addr) (cb : Nat) (acc : List (List UInt8)) (av : Option Addr) (cp : Nat), v = .slice b xs.length cb ∧ k = .int .i64 (j : Int) ∧ out = .slice av acc.length cp ∧ xs.length ≤ cb ∧ cb ≤ 9223372036854775807 ∧ 1 ≤ xs.length ∧ xs.length ≤ 256 ∧ j < xs.length ∧ acc.length ≤ 256 - xs.length ∧ Hid (∀ d ∈ xs, d.length = 32) ∧ Hid (Rd w b e (xs.flatten.map vB)) ∧ Hid (acc ++ (tpath xs j).reverse = (tpath ls i).reverse) ∧ Hid (wr.ownsRow W 23 32 (.slice av acc.length cp) acc.length (acc.flatten.map vB)) ∧ Hid (Below W w wr)) (fun v _ _ _ => lenOf v)
  case atStart => exact ⟨ls, i, a, cap, [], none, 0, rfl, rfl, rfl, hc, hc2, by omega, h256, hi, by simp, HD, HR, Lib.hid (by simp), Lib.hid (World.ownsRow_nil _ _ _ _), Lib.hid (Below.refl _ _)⟩
  case round =>
    obtain ⟨xs, j, b, cb, acc, av, cp, rfl, rfl, rfl, hcb, hcb2, hx1, hx256, hj, hal, HXD, HXR, HACC, HO, HBL⟩ := hrel
    obtain ⟨wA, rfl⟩ : ∃ z, z = wr := ⟨_, rfl⟩
    by_cases h2 : 2 ≤ xs.length
    · obtain ⟨h, hh, hpos, hlt, l1, l2, d1, d2, f1, f2⟩ := tree_parts xs HXD.out h2
      obtain ⟨B, o, hB, hBx, hBy⟩ := HXR.out.range HXD.out (k := 0) (by omega)
      subst hB
      clear hBx hBy
      have hsr : W ≤ wA.heap.size := by rw [HW.out]; have := HBL.out; rw [HW.out] at this; exact this.size
      have hbw : Below w.heap.size w wA := by rw [← HW.out]; exact HBL.out
      obtain ⟨n, hn⟩ : ∃ n, n = xs.length := ⟨_, rfl⟩
      have HC := Half_calls n (by omega) (by omega) wA
      rw [hn, ← hh, ← hn] at HC
      have HHC := Lib.hid HC
      have i1 : (0 : Int) ≤ (h : Int) := by omega
      have i2 : (h : Int) ≤ (n : Int) := by omega
      have i3 : (h : Int) ≤ (cb : Int) := by omega
      have i4 : ((n : Int) - (h : Int)).toNat = n - h := by omega
      have i5 : ((cb : Int) - (h : Int)).toNat = cb - h := by omega
      have i6 : (n : Int) ≤ (cb : Int) := by omega
      have i7 : ¬ cb = h := by omega
      have i8 : ¬ h = cb := by omega
      have z5 : (1 : Int) < (n : Int) := by omega
      have z6 : decide ((1 : Int) < (n : Int)) = true := decide_eq_true z5
      have z7 : decide (1 < n) = true := decide_eq_true (by omega)
      rw [← hn]
      by_cases hjh : j < h
      · have y2 : decide ((j : Int) < (h : Int)) = true := decide_eq_true (by omega)
        have y3 : decide (j < h) = true := decide_eq_true hjh
        have ht := tpath_rev_left h2 (by rw [← hh]; exact hjh)
        rw [← hh] at ht
        have QC := fun w' (hb : Below w.heap.size w w') => TRootL_calls xs.length (xs.drop h) (by omega) (by omega) d2 (some ⟨B, o + h * 32, none⟩) (cb - h) e (by omega) (by omega) w' (by rw [f2]; exact (HXR.out.below hb).drop _) (RO.out.at_ hb)
        rw [l2] at QC
        obtain ⟨ys, hys⟩ : ∃ ys, ys = xs.take h := ⟨_, rfl⟩
        obtain ⟨X, hX⟩ : ∃ X, X = troot (xs.drop h) := ⟨_, rfl⟩
        have XL := Lib.hid (show X.length = 32 by rw [hX]; exact troot_length _ d2)
        rw [← hX] at QC ht
        rw [← hys] at ht
        have hacc := HACC.out
        rw [ht] at hacc
        have hyl : ys.length = h := by rw [hys]; exact l1
        have YD := Lib.hid (show ∀ d ∈ ys, d.length = 32 by rw [hys]; exact d1)
        have YR := Lib.hid (show Rd w (some ⟨B, o, none⟩) e (ys.flatten.map vB) by rw [hys, f1]; exact HXR.out.take _)
        have hyl2 : ys.length = h := by rw [hyl]
        have hac2 : (acc ++ [X]) ++ (tpath ys j).reverse = (tpath ls i).reverse := by rw [← hacc, List.append_assoc]; rfl
        have AC2 := Lib.hid hac2
        have hq1 : j < ys.length := by omega
        have hq2 : 1 ≤ ys.length := by omega
        have hq3 : ys.length ≤ 256 := by omega
        have hq4 : ys.length ≤ cb := by omega
        have hq5 : cb ≤ 9223372036854775807 := by omega
        have hq6 : acc.length + 1 ≤ 256 - ys.length := by omega
        have hq7 : ys.length < n := by omega
        have hq8 : h < n := by omega
        have hq9 : n - h < n := by omega
        have FS := Lib.hid (show (acc ++ [X]).flatten.map vB = acc.flatten.map vB ++ X.map vB from flat_snoc acc X)
        have FL := Lib.hid (show (acc ++ [X]).length = acc.length + 1 by simp)
        rw [← hn] at QC
        have QCA := QC wA hbw
        have HQC := Lib.hid QCA
        have HYL := Lib.hid hyl2
        clear QC QCA ht hys hX hyl hyl2 hac2 hacc HC hh hn l1 l2 d1 d2 f1 f2 HACC HXD HXR
        go_wp2_with fail
        refine HHC.out.mono ?_
        rintro e w1 ⟨rfl, rfl⟩
        go_wp2_with fail
        refine HQC.out.mono ?_
        rintro e w2 ⟨rfl, hb2⟩
        have O2 := Lib.hid (own_below HO.out hb2)
        have B2 := Lib.hid (HBL.out.trans (hb2.mono hsr))
        have hs2 : W ≤ w2.heap.size := Nat.le_trans hsr hb2.size
        clear hb2
        go_wp2_with (first
          | ((refine wpl_build1t 31 23 _ 32 32 Tryd.underlying31 info_digz2 (by omega) (by omega) rfl (.tmp 34) rfl (dV X) (by rfl) (dV_size XL.out) ?_); simp only [Act.put, List.setIfInBounds_toArray, List.set_cons_zero, List.set_cons_succ])
          | (at_builtin; refine appAllw 31 23 (.agg (dV nz)) 32 32 Tryd.underlying31 info_digz2 (dV_size rfl) (by omega) rfl (.tmp 30) (.tmp 35) (by rfl) W _ acc.length _ (by rfl) (O2.out.alloc _) (some ⟨w2.heap.size, 0, none⟩) 1 1 (X.map vB) (by rfl) _ (Rd.box w2 X _) (by rw [List.length_map, XL.out]) (one_bytes _) (by omega) (by omega) (by rw [World.size_alloc]; omega) ?_; intro av3 cp3 w9 hown9 hb9; rw [← FS.out] at hown9; have O9 := Lib.hid hown9; have B9 := Lib.hid (B2.out.trans (Below.trans ((Below.refl _ w2).alloc hs2 _) hb9)); clear hown9 hb9))
        go_roundw
        case rel => exact ⟨ys, j, (some ⟨B, o, none⟩), cb, acc ++ [X], av3, cp3, by rw [HYL.out], rfl, by rw [FL.out], hq4, hq5, hq2, hq3, hq1, by rw [FL.out]; exact hq6, YD, YR, AC2, by rw [FL.out]; exact O9, B9⟩
        case measure => simp [lenOf]; omega
      · have y2 : decide ((j : Int) < (h : Int)) = false := decide_eq_false (by omega)
        have y3 : decide (j < h) = false := decide_eq_false hjh
        obtain ⟨q, hq⟩ : ∃ q, q = j - h := ⟨_, rfl⟩
        have e9 : IntKind.i64.wrap ((j : Int) - (h : Int)) = (q : Int) := by rw [IntWalk.i64_in _ (by omega)]; omega
        have ht := tpath_rev_right h2 (by rw [← hh]; exact hjh)
        rw [← hh] at ht
        have QC := fun w' (hb : Below w.heap.size w w') => TRootL_calls xs.length (xs.take h) (by omega) (by omega) d1 (some ⟨B, o, none⟩) cb e (by omega) (by omega) w' (by rw [f1]; exact (HXR.out.below hb).take _) (RO.out.at_ hb)
        rw [l1] at QC
        obtain ⟨ys, hys⟩ : ∃ ys, ys = xs.drop h := ⟨_, rfl⟩
        obtain ⟨X, hX⟩ : ∃ X, X = troot (xs.take h) := ⟨_, rfl⟩
        have XL := Lib.hid (show X.length = 32 by rw [hX]; exact troot_length _ d1)
        rw [← hX] at QC ht
        rw [← hys] at ht
        have hacc := HACC.out
        rw [ht] at hacc
        have hyl : ys.length = (xs.length - h) := by rw [hys]; exact l2
        have YD := Lib.hid (show ∀ d ∈ ys, d.length = 32 by rw [hys]; exact d2)
        have YR := Lib.hid (show Rd w (some ⟨B, o + h * 32, none⟩) e (ys.flatten.map vB) by rw [hys, f2]; exact HXR.out.drop _)
        have hyl2 : ys.length = (n - h) := by rw [hyl, hn]
        have hac2 : (acc ++ [X]) ++ (tpath ys q).reverse = (tpath ls i).reverse := by rw [← hacc, List.append_assoc]; rw [hq]; rfl
        have AC2 := Lib.hid hac2
        have hq1 : q < ys.length := by omega
        have hq2 : 1 ≤ ys.length := by omega
        have hq3 : ys.length ≤ 256 := by omega
        have hq4 : ys.length ≤ (cb - h) := by omega
        have hq5 : (cb - h) ≤ 9223372036854775807 := by omega
        have hq6 : acc.length + 1 ≤ 256 - ys.length := by omega
        have hq7 : ys.length < n := by omega
        have hq8 : h < n := by omega
        have hq9 : n - h < n := by omega
        have FS := Lib.hid (show (acc ++ [X]).flatten.map vB = acc.flatten.map vB ++ X.map vB from flat_snoc acc X)
        have FL := Lib.hid (show (acc ++ [X]).length = acc.length + 1 by simp)

        have QCA := QC wA hbw
        have HQC := Lib.hid QCA
        have HYL := Lib.hid hyl2
        clear QC QCA ht hys hX hyl hyl2 hac2 hacc HC hh hn l1 l2 d1 d2 f1 f2 HACC HXD HXR hq
        go_wp2_with fail
        refine HHC.out.mono ?_
        rintro e w1 ⟨rfl, rfl⟩
        go_wp2_with fail
        refine HQC.out.mono ?_
        rintro e w2 ⟨rfl, hb2⟩
        have O2 := Lib.hid (own_below HO.out hb2)
        have B2 := Lib.hid (HBL.out.trans (hb2.mono hsr))
        have hs2 : W ≤ w2.heap.size := Nat.le_trans hsr hb2.size
        clear hb2
        go_wp2_with (first
          | ((refine wpl_build1t 31 23 _ 32 32 Tryd.underlying31 info_digz2 (by omega) (by omega) rfl (.tmp 44) rfl (dV X) (by rfl) (dV_size XL.out) ?_); simp only [Act.put, List.setIfInBounds_toArray, List.set_cons_zero, List.set_cons_succ])
          | (at_builtin; refine appAllw 31 23 (.agg (dV nz)) 32 32 Tryd.underlying31 info_digz2 (dV_size rfl) (by omega) rfl (.tmp 40) (.tmp 45) (by rfl) W _ acc.length _ (by rfl) (O2.out.alloc _) (some ⟨w2.heap.size, 0, none⟩) 1 1 (X.map vB) (by rfl) _ (Rd.box w2 X _) (by rw [List.length_map, XL.out]) (one_bytes _) (by omega) (by omega) (by rw [World.size_alloc]; omega) ?_; intro av3 cp3 w9 hown9 hb9; rw [← FS.out] at hown9; have O9 := Lib.hid hown9; have B9 := Lib.hid (B2.out.trans (Below.trans ((Below.refl _ w2).alloc hs2 _) hb9)); clear hown9 hb9))
        go_roundw
        case rel => exact ⟨ys, q, (some ⟨B, o + h * 32, none⟩), (cb - h), acc ++ [X], av3, cp3, by rw [HYL.out], rfl, by rw [FL.out], hq4, hq5, hq2, hq3, hq1, by rw [FL.out]; exact hq6, YD, YR, AC2, by rw [FL.out]; exact O9, B9⟩
        case measure => simp [lenOf]; omega
    · have h1 : xs.length = 1 := by omega
      have hacc := HACC.out
      rw [tpath_one j h2, List.reverse_nil, List.append_nil] at hacc
      have hrl : acc.reverse = tpath ls i := by rw [hacc, List.reverse_reverse]
      have had : ∀ d ∈ acc, d.length = 32 := fun d hx => HPD.out d (by rw [← hrl]; exact List.mem_reverse.2 hx)
      have hall : acc.length = tlong i ls.length := by rw [← HPL.out, ← hrl, List.length_reverse]
      have RC := RevD_calls acc had W av cp (by have := HTL.out; omega) wA HO.out
      rw [hrl, hall] at RC
      have HRC := Lib.hid RC
      have z5 : ¬ (1 : Int) < (xs.length : Int) := by omega
      have z6 : decide ((1 : Int) < (xs.length : Int)) = false := decide_eq_false z5
      have z7 : decide (1 < xs.length) = false := decide_eq_false (by omega)
      obtain ⟨m, hm⟩ : ∃ m, m = tlong i ls.length := ⟨_, rfl⟩
      rw [hall, ← hm]
      rw [← hm] at HRC
      have HM := Lib.hid hm
      clear RC hacc hrl had hall hm
      go_wp2_with fail
      refine HRC.out.mono ?_
      rintro e w2 ⟨rfl, hrd, hb2⟩
      have HRD := Lib.hid hrd
      have B2 := Lib.hid (HBL.out.trans hb2)
      clear hrd hb2
      go_wp2_with fail
      go_ret2
      exact ⟨av, cp, by rw [← HM.out]; rfl, HRD.out, by rw [← HW.out]; exact B2.out⟩
set_option maxRecDepth 20000 in
set_option maxHeartbeats 2000000 in
theorem TRootD_calls (ls : List (List UInt8)) (h256 : ls.length ≤ 256) (hd : ∀ d ∈ ls, d.length = 32) (a : Option Addr) (cap e : Nat) (hc : ls.length ≤ cap) (hc2 : cap ≤ 9223372036854775807) (w : World) (hr : Rd w a e (ls.flatten.map vB)) (hro : RoundsAt w) :
    Calls Tryd.prog 41 #[.slice a ls.length cap] w fun e w' => e = .returned (.tuple #[.agg (dV (troot ls)), .nilIface]) ∧ Below w.heap.size w w' := by
  obtain ⟨Z, hZ⟩ : ∃ Z, Z = nz := ⟨_, rfl⟩
  have zl : Z.length = 32 := by rw [hZ]; rfl
  have zlit : (#[.int .u8 0, .int .u8 0, .int .u8 0, .int .u8 0, .int .u8 0, .int .u8 0, .int .u8 0, .int .u8 0, .int .u8 0, .int .u8 0, .int .u8 0, .int .u8 0, .int .u8 0, .int .u8 0, .int .u8 0, .int .u8 0, .int .u8 0, .int .u8 0, .int .u8 0, .int .u8 0, .int .u8 0, .int .u8 0, .int .u8 0, .int .u8 0, .int .u8 0, .int .u8 0, .int .u8 0, .int .u8 0, .int .u8 0, .int .u8 0, .int .u8 0, .int .u8 0] : Array Value) = dV Z := by rw [hZ]; exact zdig
  have ZL := Lib.hid zl
  have ZT := Lib.hid zlit
  have HZ := Lib.hid hZ
  clear zl zlit hZ
  obtain ⟨H, hH⟩ : ∃ H, H = w.heap.size := ⟨_, rfl⟩
  obtain ⟨w0, hw0⟩ : ∃ z, z = w.alloc (.cells (dV Z) 23) := ⟨_, rfl⟩
  have q0 : w0.heap.size = H + 1 := by rw [hw0, hH]; exact World.size_alloc _ _
  have s0 : Below (H) w w0 := by rw [hw0, hH]; exact (Below.refl _ _).alloc (Nat.le_refl _) _
  have t0 : Below (H + 1) w0 w0 := Below.refl _ _
  have bL : Below H w w0 := s0.trans (t0.mono (by omega))
  have g0 : w0.heap[H]? = some (.cells (dV Z) 23 (0, 0)) := by
    have g : w0.heap[H]? = some (.cells (dV Z) 23 (0, 0)) := by rw [hw0, hH]; exact heap_alloc_new _ _
    exact (t0.block _ (by omega)).trans g
  have bW : Below w.heap.size w w0 := by rw [← hH]; exact bL
  have hsz : H < w0.heap.size := by omega
  have HH := Lib.hid hH
  have HW0 := Lib.hid hw0
  have BL := Lib.hid bL
  have BW := Lib.hid bW
  have QL := Lib.hid q0
  have G0 := Lib.hid g0
  clear hH hw0 q0 s0 t0 g0 bL bW
  have RC := TRootL_calls ls.length ls (Nat.le_refl _) h256 hd a cap e hc hc2 w0 (hr.below BW.out) (hro.at_ BW.out)
  have z0 : ¬ (256 : Int) < (ls.length : Int) := by omega
  obtain ⟨R, hR⟩ : ∃ R, R = troot ls := ⟨_, rfl⟩
  have RL := Lib.hid (show R.length = 32 by rw [hR]; exact troot_length _ hd)
  rw [← hR] at RC ⊢
  have HRC := Lib.hid RC
  clear RC hR hd hr hro
  go_enter Tryd.func41, Tryd.ntmps41
  go_upto_region 1 with fail
  rw [ZT.out, ← HH.out, ← HW0.out]
  go_wp2_with fail
  refine HRC.out.mono ?_
  rintro e w2 ⟨rfl, hb2⟩
  have G2 := Lib.hid ((hb2.block H hsz).trans G0.out)
  have B2 := Lib.hid (BL.out.trans (hb2.mono (by omega)))
  clear hb2
  go_wp2_with (refine st_row rfl (.tmp 2) (.tmp 10) rfl H R RL.out (by rfl) (by rfl) (dV Z) (dV_size ZL.out) _ G2.out ?_)
  try simp only [Exit.inBlock, Exit.then]
  refine bodyPost_ret (results_cell_tmp rfl _ _ _ ⟨H, 0, none⟩ (.agg (dV R)) rfl ?_) rfl ⟨rfl, by rw [← HH.out]; exact below_setRowW B2.out (Nat.le_refl _) _⟩
  exact dig_load RL.out (range_of_row (setRow_heap _ _ _ _ _ _ G2.out))
end Go.Proofs.YtkioddmhjbaleaaDoor
