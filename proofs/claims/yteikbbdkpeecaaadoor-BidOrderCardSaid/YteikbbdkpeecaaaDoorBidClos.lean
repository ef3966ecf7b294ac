/- Walks: the closures of bid.Award. -/
import Derived.Test.YteikbbdkpeecaaaDoorBidSort
import Derived.Test.YteikbbdkpeecaaaDoorBidCnt1
namespace Go.Proofs.YteikbbdkpeecaaaDoor
open Go.RowKit
set_option linter.unusedVariables false
set_option linter.unusedSimpArgs false
open Go.Shelf Go.Lib Go.Sort
set_option maxRecDepth 20000 in
set_option maxHeartbeats 2000000 in
theorem cmpB (x y : BdS) (W : World) : Calls Tryd.prog 36 #[.agg (encB x).toArray, .agg (encB y).toArray] W fun e w' => e = .returned (.int .i64 (cfB x y)) ∧ ∃ q os', w' = grow (W.drewN q) os' := by
  obtain ⟨X, hX⟩ : ∃ X, X = (encB x).toArray := ⟨_, rfl⟩
  obtain ⟨Y, hY⟩ : ∃ Y, Y = (encB y).toArray := ⟨_, rfl⟩
  obtain ⟨V, hV⟩ : ∃ V, V = (W.alloc (.cells X 59)).alloc (.cells Y 59) := ⟨_, rfl⟩
  obtain ⟨H, hH⟩ : ∃ H, H = W.heap.size := ⟨_, rfl⟩
  have gX : V.heap[H]? = some (.cells X 59 (0, 0)) := by
    rw [hV, hH]
    exact (((Below.refl (W.heap.size + 1) (W.alloc (.cells X 59))).alloc (by rw [World.size_alloc]; omega) _).block _ (by omega)).trans (heap_alloc_new W _)
  have gY : V.heap[H + 1]? = some (.cells Y 59 (0, 0)) := by
    have h := heap_alloc_new (W.alloc (.cells X 59)) (.cells Y 59)
    rw [World.size_alloc, ← hV, ← hH] at h; exact h
  rw [← hX, ← hY]
  obtain ⟨xa, hxa⟩ : ∃ z, z = x.1.amount := ⟨_, rfl⟩
  obtain ⟨xw, hxw⟩ : ∃ z, z = x.1.who := ⟨_, rfl⟩
  obtain ⟨ya, hya⟩ : ∃ z, z = y.1.amount := ⟨_, rfl⟩
  obtain ⟨yw, hyw⟩ : ∃ z, z = y.1.who := ⟨_, rfl⟩
  have c0 : V.cell? ⟨H, 0, none⟩ = some (.int .i64 xw) := by rw [cell_of_row _ _ _ _ _ _ gX, hX, hxw]; rfl
  have c1 : V.cell? ⟨H, 1, none⟩ = some (.int .i64 xa) := by rw [cell_of_row _ _ _ _ _ _ gX, hX, hxa]; rfl
  have d0 : V.cell? ⟨H + 1, 0, none⟩ = some (.int .i64 yw) := by rw [cell_of_row _ _ _ _ _ _ gY, hY, hyw]; rfl
  have d1 : V.cell? ⟨H + 1, 1, none⟩ = some (.int .i64 ya) := by rw [cell_of_row _ _ _ _ _ _ gY, hY, hya]; rfl
  obtain ⟨R, hR⟩ : ∃ R, R = cfB x y := ⟨_, rfl⟩
  obtain ⟨u, hu⟩ : ∃ z, z = cmpI ya xa := ⟨_, rfl⟩
  obtain ⟨v, hv⟩ : ∃ z, z = cmpI xw yw := ⟨_, rfl⟩
  have hRR : R = if u = 0 then v else u := by rw [hR, hu, hv, hxa, hxw, hya, hyw]; rfl
  rw [← hR]
  have C1 : ∀ w, Calls Tryd.prog 38 #[.int .i64 ya, .int .i64 xa] w fun e w' => e = .returned (.int .i64 u) ∧ w = w' := fun w => by rw [hu]; exact Compare_calls ya xa w
  have C2 : ∀ w, Calls Tryd.prog 38 #[.int .i64 xw, .int .i64 yw] w fun e w' => e = .returned (.int .i64 v) ∧ w = w' := fun w => by rw [hv]; exact Compare_calls xw yw w
  have hsz : V.heap.size = H + 1 + 1 := by rw [hV, World.size_alloc, World.size_alloc, hH]
  obtain ⟨VD, hVD⟩ : ∃ z, z = V.drew := ⟨_, rfl⟩
  obtain ⟨VA, hVA⟩ : ∃ z, z = VD.alloc (.cells #[.int .i64 u, .int .i64 v] 3) := ⟨_, rfl⟩
  have gA : VA.heap[VD.heap.size]? = some (.cells #[.int .i64 u, .int .i64 v] 3 (0, 0)) := by rw [hVA]; exact heap_alloc_new _ _
  have OC := Or_calls u v VD.heap.size VA (by rw [cell_of_row _ _ _ _ _ _ gA]; rfl) (by rw [cell_of_row _ _ _ _ _ _ gA]; rfl)
  rw [← hRR] at OC
  have hfin : ∃ q os', VA = grow (W.drewN q) os' := ⟨1, #[.cells X 59, .cells Y 59, .cells #[.int .i64 u, .int .i64 v] 3], by rw [hVA, hVD, hV]; rfl⟩
  have SV : V.cell? ⟨H, 0, none⟩ = some (.int .i64 xw) ∧ V.cell? ⟨H, 1, none⟩ = some (.int .i64 xa) ∧ V.cell? ⟨H + 1, 0, none⟩ = some (.int .i64 yw) ∧ V.cell? ⟨H + 1, 1, none⟩ = some (.int .i64 ya) := ⟨c0, c1, d0, d1⟩
  have SD : VD.cell? ⟨H, 0, none⟩ = some (.int .i64 xw) ∧ VD.cell? ⟨H, 1, none⟩ = some (.int .i64 xa) ∧ VD.cell? ⟨H + 1, 0, none⟩ = some (.int .i64 yw) ∧ VD.cell? ⟨H + 1, 1, none⟩ = some (.int .i64 ya) := by rw [hVD]; exact SV
  have sda : VD.heap.size = H + 1 + 1 := by rw [hVD]; exact hsz
  have bda : Below (H + 1 + 1) VD VA := by rw [hVA]; exact (Below.refl _ _).alloc (by omega) _
  have SA : VA.cell? ⟨H, 0, none⟩ = some (.int .i64 xw) ∧ VA.cell? ⟨H, 1, none⟩ = some (.int .i64 xa) ∧ VA.cell? ⟨H + 1, 0, none⟩ = some (.int .i64 yw) ∧ VA.cell? ⟨H + 1, 1, none⟩ = some (.int .i64 ya) :=
    ⟨(bda.cell (p := ⟨H, 0, none⟩) (by show H < _; omega)).trans SD.1, (bda.cell (p := ⟨H, 1, none⟩) (by show H < _; omega)).trans SD.2.1, (bda.cell (p := ⟨H + 1, 0, none⟩) (by show H + 1 < _; omega)).trans SD.2.2.1, (bda.cell (p := ⟨H + 1, 1, none⟩) (by show H + 1 < _; omega)).trans SD.2.2.2⟩
  have HSV := Lib.hid SV
  have HSD := Lib.hid SD
  have HSA := Lib.hid SA
  have HC1 := Lib.hid C1
  have HC2 := Lib.hid C2
  have HOC := Lib.hid OC
  have HFIN := Lib.hid hfin
  have HV := Lib.hid hV
  have HH := Lib.hid hH
  have HVD := Lib.hid hVD
  have HVA := Lib.hid hVA
  clear hX hY hV hH gX gY hR hu hv hRR C1 C2 hsz gA OC hfin hVA hxa hxw hya hyw hVD SV SD SA sda bda c0 c1 d0 d1
  go_enter Tryd.func36, Tryd.ntmps36
  go_upto_region 1 with fail
  rw [← HH.out, ← HV.out]
  refine wp_region_held_drew (S := fun w' => w'.cell? ⟨H, 0, none⟩ = some (.int .i64 xw) ∧ w'.cell? ⟨H, 1, none⟩ = some (.int .i64 xa) ∧ w'.cell? ⟨H + 1, 0, none⟩ = some (.int .i64 yw) ∧ w'.cell? ⟨H + 1, 1, none⟩ = some (.int .i64 ya)) (by kernel_rfl) HSV.out (fun hHeld => ?_)
  rw [← HVD.out]
  clear hHeld
  have hHeld := HSD.out
  refine wpAnyH_take (i := 0) (oi := _) (v := .pointer (some ⟨H + 1, 1, none⟩)) rfl (by kernel_rfl) (by kernel_rfl) (by kernel_rfl) (fun _ _ _ h => h) (Or.inl ⟨by rfl, fun w hw => by go_simp⟩) hHeld ?_
  simp only [Act.put, List.getElem_toArray, List.getElem_cons_zero, List.getElem_cons_succ, List.setIfInBounds_toArray, List.set_cons_zero, List.set_cons_succ]
  refine wpAnyH_take (i := 1) (oi := _) (v := .int .i64 ya) rfl (by kernel_rfl) (by kernel_rfl) (by kernel_rfl) (fun _ _ _ h => h) (Or.inl ⟨by rfl, fun w hw => by obtain ⟨s0, s1, s2, s3⟩ := hw; go_simp⟩) hHeld ?_
  simp only [Act.put, List.getElem_toArray, List.getElem_cons_zero, List.getElem_cons_succ, List.setIfInBounds_toArray, List.set_cons_zero, List.set_cons_succ]
  refine wpAnyH_take (i := 2) (oi := _) (v := .pointer (some ⟨H, 1, none⟩)) rfl (by kernel_rfl) (by kernel_rfl) (by kernel_rfl) (fun _ _ _ h => h) (Or.inl ⟨by rfl, fun w hw => by go_simp⟩) hHeld ?_
  simp only [Act.put, List.getElem_toArray, List.getElem_cons_zero, List.getElem_cons_succ, List.setIfInBounds_toArray, List.set_cons_zero, List.set_cons_succ]
  refine wpAnyH_take (i := 3) (oi := _) (v := .int .i64 xa) rfl (by kernel_rfl) (by kernel_rfl) (by kernel_rfl) (fun _ _ _ h => h) (Or.inl ⟨by rfl, fun w hw => by obtain ⟨s0, s1, s2, s3⟩ := hw; go_simp⟩) hHeld ?_
  simp only [Act.put, List.getElem_toArray, List.getElem_cons_zero, List.getElem_cons_succ, List.setIfInBounds_toArray, List.set_cons_zero, List.set_cons_succ]
  refine wpAnyH_take (i := 5) (oi := _) (v := .pointer (some ⟨H, 0, none⟩)) rfl (by kernel_rfl) (by kernel_rfl) (by kernel_rfl) (fun _ _ _ h => h) (Or.inl ⟨by rfl, fun w hw => by go_simp⟩) hHeld ?_
  simp only [Act.put, List.getElem_toArray, List.getElem_cons_zero, List.getElem_cons_succ, List.setIfInBounds_toArray, List.set_cons_zero, List.set_cons_succ]
  refine wpAnyH_take (i := 6) (oi := _) (v := .int .i64 xw) rfl (by kernel_rfl) (by kernel_rfl) (by kernel_rfl) (fun _ _ _ h => h) (Or.inl ⟨by rfl, fun w hw => by obtain ⟨s0, s1, s2, s3⟩ := hw; go_simp⟩) hHeld ?_
  simp only [Act.put, List.getElem_toArray, List.getElem_cons_zero, List.getElem_cons_succ, List.setIfInBounds_toArray, List.set_cons_zero, List.set_cons_succ]
  refine wpAnyH_take (i := 7) (oi := _) (v := .pointer (some ⟨H + 1, 0, none⟩)) rfl (by kernel_rfl) (by kernel_rfl) (by kernel_rfl) (fun _ _ _ h => h) (Or.inl ⟨by rfl, fun w hw => by go_simp⟩) hHeld ?_
  simp only [Act.put, List.getElem_toArray, List.getElem_cons_zero, List.getElem_cons_succ, List.setIfInBounds_toArray, List.set_cons_zero, List.set_cons_succ]
  refine wpAnyH_take (i := 8) (oi := _) (v := .int .i64 yw) rfl (by kernel_rfl) (by kernel_rfl) (by kernel_rfl) (fun _ _ _ h => h) (Or.inl ⟨by rfl, fun w hw => by obtain ⟨s0, s1, s2, s3⟩ := hw; go_simp⟩) hHeld ?_
  simp only [Act.put, List.getElem_toArray, List.getElem_cons_zero, List.getElem_cons_succ, List.setIfInBounds_toArray, List.set_cons_zero, List.set_cons_succ]
  refine wpAnyH_ready (rs := [4]) (by kernel_rfl) (by simp) ?_
  refine AllReadyH.cons (o := _) rfl (fun K hK => ?_) AllReadyH.nil
  have HK := Lib.hid hK
  clear hK
  go_simp
  go_at_call 38
  refine (HC1.out _).mono ?_
  rintro e w' ⟨rfl, rfl⟩
  dsimp only
  clear hHeld
  refine HK.out _ _ HSD.out ?_
  clear HK K
  try simp only [Act.put, List.getElem_toArray, List.getElem_cons_zero, List.getElem_cons_succ, List.setIfInBounds_toArray, List.set_cons_zero, List.set_cons_succ]
  intro hHeld
  refine wpAnyH_ready (rs := [9]) (by kernel_rfl) (by simp) ?_
  refine AllReadyH.cons (o := _) rfl (fun K hK => ?_) AllReadyH.nil
  have HK := Lib.hid hK
  clear hK
  go_simp
  go_at_call 38
  refine (HC2.out _).mono ?_
  rintro e w' ⟨rfl, rfl⟩
  dsimp only
  clear hHeld
  refine HK.out _ _ HSD.out ?_
  clear HK K
  try simp only [Act.put, List.getElem_toArray, List.getElem_cons_zero, List.getElem_cons_succ, List.setIfInBounds_toArray, List.set_cons_zero, List.set_cons_succ]
  intro hHeld
  refine wpAnyH_ready (rs := [10]) (by kernel_rfl) (by simp) ?_
  refine AllReadyH.cons (o := _) rfl (fun K hK => ?_) AllReadyH.nil
  have HK := Lib.hid hK
  clear hK
  go_simp
  rw [← HVA.out]
  clear hHeld
  refine HK.out _ _ HSA.out ?_
  clear HK K
  try simp only [Act.put, List.getElem_toArray, List.getElem_cons_zero, List.getElem_cons_succ, List.setIfInBounds_toArray, List.set_cons_zero, List.set_cons_succ]
  intro hHeld
  refine wpAnyH_ready (rs := [11]) (by kernel_rfl) (by simp) ?_
  refine AllReadyH.cons (o := _) rfl (fun K hK => ?_) AllReadyH.nil
  have HK := Lib.hid hK
  clear hK
  go_simp
  go_at_call 37
  refine HOC.out.mono ?_
  rintro e w' ⟨rfl, rfl⟩
  dsimp only
  clear hHeld
  refine HK.out _ _ HSA.out ?_
  clear HK K
  try simp only [Act.put, List.getElem_toArray, List.getElem_cons_zero, List.getElem_cons_succ, List.setIfInBounds_toArray, List.set_cons_zero, List.set_cons_succ]
  intro hHeld
  refine wpAnyH_take (i := 12) (oi := _) (v := .int .i64 R) rfl (by kernel_rfl) (by kernel_rfl) (by kernel_rfl) (fun _ _ _ h => h) (Or.inl ⟨by rfl, fun w hw => by go_simp⟩) hHeld ?_
  simp only [Act.put, List.getElem_toArray, List.getElem_cons_zero, List.getElem_cons_succ, List.setIfInBounds_toArray, List.set_cons_zero, List.set_cons_succ]
  refine wpAnyH_done (by kernel_rfl) ?_ _
  go_wp2_with fail
  go_ret
  exact ⟨rfl, HFIN.out⟩
/-- is it a bid of who bid there? -/
def sameW (wh : Int) (x : BdS) : Bool := x.1.who == wh
theorem predW (wh : Int) (B : Nat) (w : World) (hB : B < w.heap.size) (hcell : w.cell? ⟨B, 0, none⟩ = some (.int .i64 wh)) :
    PredBelow Tryd.prog 34 #[.pointer (some ⟨B, 0, none⟩)] (fun x => .agg (encB x).toArray) (sameW wh) w := fun W x hb => by
  obtain ⟨X, hX⟩ : ∃ X, X = (encB x).toArray := ⟨_, rfl⟩
  obtain ⟨k, hk⟩ : ∃ k, k = x.1.who := ⟨_, rfl⟩
  have c0 : (W.alloc (.cells X 59)).cell? ⟨W.heap.size, 0, none⟩ = some (.int .i64 k) := by
    rw [cell_of_row _ _ _ _ _ _ (heap_alloc_new W _), hX, hk]; rfl
  have hBW : B < W.heap.size := Nat.lt_of_lt_of_le hB hb.size
  have c1 : (W.alloc (.cells X 59)).cell? ⟨B, 0, none⟩ = some (.int .i64 wh) :=
    (((Below.refl W.heap.size W).alloc (Nat.le_refl _) _).cell (p := ⟨B, 0, none⟩) hBW).trans ((hb.cell (p := ⟨B, 0, none⟩) hB).trans hcell)
  have hfin : Below w.heap.size w (W.alloc (.cells X 59)) := hb.alloc hb.size _
  have hp : sameW wh x = (k == wh) := by unfold sameW; rw [hk]
  rw [hp]
  show Calls Tryd.prog 34 #[.agg (encB x).toArray, .pointer (some ⟨B, 0, none⟩)] W _
  rw [← hX]
  have HF := Lib.hid hfin
  clear hX hk hfin hp hcell
  go_enter Tryd.func34, Tryd.ntmps34
  go_wp2_with fail
  go_ret
  exact ⟨rfl, HF.out⟩
theorem Index_none (v : Value) (a : Option Addr) (c : Nat) (w : World) : Calls Tryd.prog 50 #[.slice a 0 c, v] w fun e w' => e = .returned (.int .i64 (-1)) ∧ w = w' := by
  go_enter Tryd.func50, Tryd.ntmps50
  go_wp2
  refine wp_loop_rounds 1 ?_
  rw [rounds_succ]
  go_wp2
  go_ret
  exact ⟨rfl, rfl⟩
theorem Contains_none (v : Value) (a : Option Addr) (c : Nat) (w : World) : Calls Tryd.prog 33 #[.slice a 0 c, v] w fun e w' => e = .returned (.bool false) ∧ w = w' := by
  have IC := Lib.hid (Index_none v a c w)
  go_enter Tryd.func33, Tryd.ntmps33
  go_wp2_with fail
  refine IC.out.mono ?_
  rintro e w' ⟨rfl, rfl⟩
  go_wp2_with fail
  go_ret
  exact ⟨rfl, rfl⟩
theorem any_val (d : List BdS) (wh : Int) : d.any (sameW wh) = hasW (valB d) wh := by
  unfold hasW valB
  rw [List.any_map]; rfl
theorem flat_cellsB (d : List BdS) (t : Nat) (h : t < d.length * 34) : (cellsP (valB d))[t]? = some ((flatK encB 34 d.toArray)[t]!) := by
  have hk : t / 34 < d.length := by omega
  rw [get_flatK _ _ _ t (by simpa using h)]
  have e := cellsP_get (valB d) (valB_len d) (t / 34) (t % 34) (by rw [valB_length]; exact hk) (Nat.mod_lt _ (by omega))
  rw [show t / 34 * 34 + t % 34 = t by omega] at e
  rw [e]
  have e2 : (valB d)[t / 34]'(by rw [valB_length]; exact hk) = (d[t / 34]).1 := by unfold valB; rw [List.getElem_map]
  have e3 : d.toArray[t / 34]! = d[t / 34] := by rw [List.getElem!_toArray, getElem!_pos d (t / 34) hk]
  rw [e2, e3]
  unfold encB
  have hj : t % 34 < (bL (d[t / 34]).1).length := by rw [bL_length (d[t / 34]).2]; exact Nat.mod_lt _ (by omega)
  rw [List.getElem?_eq_getElem hj, getElem!_pos (bL (d[t / 34]).1) (t % 34) hj]
theorem holdsB {w : World} {base g n cap : Nat} (d : List BdS) (h : w.ownsRow base 59 34 (.slice (some ⟨g, 0, none⟩) n cap) n (cellsP (valB d))) : HoldsK encB 34 w g 0 d.toArray := by
  intro j hj
  rw [size_flatK] at hj
  have hj2 : j < d.length * 34 := by simpa using hj
  have e := flat_cellsB d j hj2
  have hl : j < (cellsP (valB d)).length := by rw [cellsP_length _ (valB_len d), valB_length]; exact hj2
  have := own_cellS h (k := j) hl
  rw [List.getElem?_eq_getElem hl] at e
  rw [Nat.zero_add, this.1, Option.some.inj e]
  exact ⟨rfl, this.2⟩
theorem rdB {w : World} {g : Nat} (d : List BdS) (h : HoldsK encB 34 w g 0 d.toArray) : ∃ e, Rd w (some ⟨g, 0, none⟩) e (cellsP (valB d)) := by
  refine Rd.of_cellq fun i hi => ?_
  have hi2 : i < d.length * 34 := by
    have := cellsP_length _ (valB_len d)
    rw [valB_length] at this
    omega
  have := (h i (by rw [size_flatK]; simpa using hi2)).1
  have e := flat_cellsB d i hi2
  rw [List.getElem?_eq_getElem hi] at e
  rw [this, Option.some.inj e]
  rfl
theorem below_sortB {B g n : Nat} {w w0 : World} {d : Array BdS} {os : Array Obj} (h : Below B w0 w) (hg : B ≤ g) (hgl : g < w.heap.size) : Below B w0 (sortWorldK encB 34 w g 0 n d os) := by
  refine h.trans ⟨rfl, rfl, rfl, ?_, fun k hk => ?_⟩
  · show w.heap.size ≤ _
    unfold sortWorldK grow putRowK putRow mapBlock Sort.ahead
    simp
  · show ((mapBlock (Sort.ahead w n) g _).heap ++ os)[k]? = w.heap[k]?
    have hkl : k < w.heap.size := by omega
    rw [Array.getElem?_append_left (by unfold mapBlock Sort.ahead; simpa using hkl)]
    unfold mapBlock Sort.ahead
    simp only [Array.getElem?_modify]
    rw [if_neg (by omega)]
theorem cmpsB (blk off size : Nat) (w : World) : CmpLays Tryd.prog 36 #[] encB 34 cfB blk off size w := fun _ _ _ _ x y => cmpB x y _
/-- does somebody's bid count already? -/
theorem Has_calls (d : List BdS) (av : Option Addr) (cp base : Nat) (wh : Int) (B : Nat) (w : World) (hown : w.ownsRow base 59 34 (.slice av d.length cp) d.length (cellsP (valB d))) (hdl : d.length ≤ 1000) (hB : B < w.heap.size) (hcell : w.cell? ⟨B, 0, none⟩ = some (.int .i64 wh)) :
    Calls Tryd.prog 33 #[.slice av d.length cp, .func (.func 34) #[] #[.pointer (some ⟨B, 0, none⟩)]] w fun e w' => e = .returned (.bool (hasW (valB d) wh)) ∧ Below w.heap.size w w' := by
  by_cases h0 : d.length = 0
  · have hd : d = [] := List.length_eq_zero_iff.1 h0
    subst hd
    exact (Contains_none _ av cp w).mono fun e w' ⟨h1, h2⟩ => ⟨h1, by rw [← h2]; exact Below.refl _ _⟩
  · rcases hown.2 with ⟨h1, h2⟩ | ⟨g, c9, cur, hv, hbg, hg, hn, hm, hs9, ht⟩
    · simp only [Value.slice.injEq] at h1; omega
    · simp only [Value.slice.injEq] at hv
      obtain ⟨rfl, _, hcc⟩ := hv
      have eg : ∀ args w, (callFunc 34 args).run Tryd.prog w = .ok (.enter 34 args) w := enters_of Tryd.func34 (by kernel_rfl) rfl
      have hh := holdsB d hown
      have IC := AnyQ.slices_ContainsFunc Lay.hasB 34 Tryd.isAgg59 Tryd.sizeOf59 encB encB_length (sameW wh) 34 #[.pointer (some ⟨B, 0, none⟩)] eg g 0 d.length cp d w (predW wh B w hB hcell) (Nat.le_refl _) (by omega) (lt_of_heap hg) (fun j hj i v hi => by
        have hi34 : i < 34 := by
          have := (List.getElem?_eq_some_iff.1 hi).1
          rwa [encB_length] at this
        have hl : j * 34 + i < (flatK encB 34 d.toArray).size := by rw [size_flatK]; simp; omega
        have := (hh (j * 34 + i) hl).1
        rw [Nat.zero_add] at this
        rw [Nat.zero_add, this, get_flatK _ _ _ _ (by simp; omega)]
        rw [show (j * 34 + i) / 34 = j by omega, show (j * 34 + i) % 34 = i by omega]
        have e3 : d.toArray[j]! = d[j]! := by rw [List.getElem!_toArray]
        rw [e3, getElem!_pos _ _ (by rw [encB_length]; exact hi34), ← hi, List.getElem?_eq_getElem (by rw [encB_length]; exact hi34)]; rfl)
      rw [List.take_of_length_le (Nat.le_refl _), any_val] at IC
      exact IC
end Go.Proofs.YteikbbdkpeecaaaDoor
