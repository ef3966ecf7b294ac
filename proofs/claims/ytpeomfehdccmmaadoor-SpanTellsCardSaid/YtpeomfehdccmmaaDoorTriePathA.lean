/- Walks: trie.Root, trie.Path. -/
import Derived.Test.YtpeomfehdccmmaaDoorTrieRoot
import Derived.Laws.MakeOwn
import Derived.OwnWalk
namespace Go.Proofs.YtpeomfehdccmmaaDoor
open Go.RowKit
set_option linter.unusedVariables false
set_option linter.unusedSimpArgs false
open Go.Shelf Go.Lib Go.Sort
theorem apart_ok (es : List En) (h : mapF es = 0) : es.length ≤ 64 ∧ (∀ e ∈ es, KeyOk e.key) ∧ Apart es := by
  unfold mapF at h
  split at h
  · cases h
  · obtain ⟨h1, h2, _⟩ := scan_ok es [] h
    exact ⟨by omega, h1, h2⟩
theorem mem_leafF (es : List En) (ha : Apart es) (d : List EnS) (hu : Up (vals d)) (hm : ∀ x, x ∈ vals d ↔ x ∈ es) : leafF (vals d) = leafF es := by
  funext k
  exact leafF_same _ _ hu.apart ha hm k
theorem inP_all (d : List EnS) : InP 32 0 (vals d) := by
  intro e he
  obtain ⟨_, h1, h2⟩ := vals_ok d e he
  exact ⟨by simpa using h1, by simpa using h2⟩
theorem rootL_all (es : List En) (ha : Apart es) (d : List EnS) (hu : Up (vals d)) (hm : ∀ x, x ∈ vals d ↔ x ∈ es) : rootL 32 (vals d) = rootD es := by
  rw [rootL_eq 32 0 _ hu (inP_all d), mem_leafF es ha d hu hm]
  rfl
set_option maxRecDepth 20000 in
set_option maxHeartbeats 4000000 in
theorem TRoot_bad (es : List En) (hw : ∀ e ∈ es, EnW e) (a : Option Addr) (cap ea : Nat) (hc1 : es.length ≤ cap) (hc2 : cap ≤ 9223372036854775807) (w : World) (hr : Rd w a ea (cellsE es)) (f : Int) (hf : mapF es = f) (hf0 : f ≠ 0) :
    Calls Tryd.prog 22 #[.slice a es.length cap] w fun e w' => e = .returned (.tuple #[.agg (dV nz), .iface 25 (.int .i64 f)]) ∧ Below w.heap.size w w' := by
  obtain ⟨Z, hZ⟩ : ∃ Z, Z = nz := ⟨_, rfl⟩
  have zl : Z.length = 32 := by rw [hZ]; rfl
  have zlit : (#[.int .u8 0, .int .u8 0, .int .u8 0, .int .u8 0, .int .u8 0, .int .u8 0, .int .u8 0, .int .u8 0, .int .u8 0, .int .u8 0, .int .u8 0, .int .u8 0, .int .u8 0, .int .u8 0, .int .u8 0, .int .u8 0, .int .u8 0, .int .u8 0, .int .u8 0, .int .u8 0, .int .u8 0, .int .u8 0, .int .u8 0, .int .u8 0, .int .u8 0, .int .u8 0, .int .u8 0, .int .u8 0, .int .u8 0, .int .u8 0, .int .u8 0, .int .u8 0] : Array Value) = dV Z := by rw [hZ]; exact zdig
  have ZL := Lib.hid zl
  have ZT := Lib.hid zlit
  have HZ := Lib.hid hZ
  clear zl zlit hZ
  obtain ⟨H, hH⟩ : ∃ H, H = w.heap.size := ⟨_, rfl⟩
  obtain ⟨w0, hw0⟩ : ∃ z, z = w.alloc (.cells (dV Z) 23) := ⟨_, rfl⟩
  have q0 : w0.heap.size = H + 1 := by rw [hw0, hH]; exact World.size_alloc _ _
  have s0 : Below (H) w w0 := by rw [hw0, hH]; exact (Below.refl _ _).alloc (Nat.le_refl _) _
  have t0 : Below (H + 1) w0 w0 := Below.refl _ _
  have bL : Below H w w0 := s0.trans (t0.mono (by omega))
  have g0 : w0.heap[H]? = some (.cells (dV Z) 23 (0, 0)) := by
    have g : w0.heap[H]? = some (.cells (dV Z) 23 (0, 0)) := by rw [hw0, hH]; exact heap_alloc_new _ _
    exact (t0.block _ (by omega)).trans g
  have bW : Below w.heap.size w w0 := by rw [← hH]; exact bL
  have hsz : H < w0.heap.size := by omega
  have HH := Lib.hid hH
  have HW0 := Lib.hid hw0
  have BL := Lib.hid bL
  have BW := Lib.hid bW
  have QL := Lib.hid q0
  have G0 := Lib.hid g0
  clear hH hw0 q0 s0 t0 g0 bL bW
  have SC := Sorted_calls es hw a cap ea hc1 hc2 w0 (hr.below BW.out)
  have SC2 : Calls Tryd.prog 50 #[.slice a es.length cap] w0 fun e w' => e = .returned (.tuple #[.slice none 0 0, .iface 25 (.int .i64 f)]) ∧ Below w0.heap.size w0 w' := SC.mono fun e w' h => ⟨by rw [← hf]; exact h.1 (by rw [hf]; exact hf0), h.2.2⟩
  have HSC := Lib.hid SC2
  clear SC SC2 hr hw hf hf0 hc1
  go_enter Tryd.func22, Tryd.ntmps22
  go_upto_region 1 with fail
  rw [ZT.out, ← HH.out, ← HW0.out]
  go_wp2_with fail
  refine HSC.out.mono ?_
  rintro e w2 ⟨rfl, hb2⟩
  have G2 := Lib.hid ((hb2.block H hsz).trans G0.out)
  have B2 := Lib.hid (BL.out.trans (hb2.mono (by omega)))
  clear hb2 HSC
  go_wp2_with (first | (refine wpl_zero rfl rfl Z HZ.out ?_) | (refine st_row rfl (.tmp 2) (.tmp 13) rfl H Z ZL.out (by rfl) (by rfl) (dV Z) (dV_size ZL.out) _ G2.out ?_))
  try simp only [Exit.inBlock, Exit.then]
  refine bodyPost_ret (results_cell_tmp rfl _ _ _ ⟨H, 0, none⟩ (.agg (dV Z)) rfl ?_) rfl ⟨by rw [← HZ.out]; rfl, by rw [← HH.out]; exact below_setRowW B2.out (Nat.le_refl _) _⟩
  exact dig_load ZL.out (range_of_row (setRow_heap _ _ _ (dV Z) _ _ G2.out))
set_option maxRecDepth 20000 in
set_option maxHeartbeats 4000000 in
theorem TRoot_ok (es : List En) (hw : ∀ e ∈ es, EnW e) (a : Option Addr) (cap ea : Nat) (hc1 : es.length ≤ cap) (hc2 : cap ≤ 9223372036854775807) (w : World) (hr : Rd w a ea (cellsE es)) (hf : mapF es = 0) (hro : RoundsAt w) :
    Calls Tryd.prog 22 #[.slice a es.length cap] w fun e w' => e = .returned (.tuple #[.agg (dV (rootD es)), .nilIface]) ∧ Below w.heap.size w w' := by
  obtain ⟨Z, hZ⟩ : ∃ Z, Z = nz := ⟨_, rfl⟩
  have zl : Z.length = 32 := by rw [hZ]; rfl
  have zlit : (#[.int .u8 0, .int .u8 0, .int .u8 0, .int .u8 0, .int .u8 0, .int .u8 0, .int .u8 0, .int .u8 0, .int .u8 0, .int .u8 0, .int .u8 0, .int .u8 0, .int .u8 0, .int .u8 0, .int .u8 0, .int .u8 0, .int .u8 0, .int .u8 0, .int .u8 0, .int .u8 0, .int .u8 0, .int .u8 0, .int .u8 0, .int .u8 0, .int .u8 0, .int .u8 0, .int .u8 0, .int .u8 0, .int .u8 0, .int .u8 0, .int .u8 0, .int .u8 0] : Array Value) = dV Z := by rw [hZ]; exact zdig
  have ZL := Lib.hid zl
  have ZT := Lib.hid zlit
  have HZ := Lib.hid hZ
  clear zl zlit hZ
  obtain ⟨H, hH⟩ : ∃ H, H = w.heap.size := ⟨_, rfl⟩
  obtain ⟨w0, hw0⟩ : ∃ z, z = w.alloc (.cells (dV Z) 23) := ⟨_, rfl⟩
  have q0 : w0.heap.size = H + 1 := by rw [hw0, hH]; exact World.size_alloc _ _
  have s0 : Below (H) w w0 := by rw [hw0, hH]; exact (Below.refl _ _).alloc (Nat.le_refl _) _
  have t0 : Below (H + 1) w0 w0 := Below.refl _ _
  have bL : Below H w w0 := s0.trans (t0.mono (by omega))
  have g0 : w0.heap[H]? = some (.cells (dV Z) 23 (0, 0)) := by
    have g : w0.heap[H]? = some (.cells (dV Z) 23 (0, 0)) := by rw [hw0, hH]; exact heap_alloc_new _ _
    exact (t0.block _ (by omega)).trans g
  have bW : Below w.heap.size w w0 := by rw [← hH]; exact bL
  have hsz : H < w0.heap.size := by omega
  have HH := Lib.hid hH
  have HW0 := Lib.hid hw0
  have BL := Lib.hid bL
  have BW := Lib.hid bW
  have QL := Lib.hid q0
  have G0 := Lib.hid g0
  clear hH hw0 q0 s0 t0 g0 bL bW
  have SC := Sorted_calls es hw a cap ea hc1 hc2 w0 (hr.below BW.out)
  have SC2 : Calls Tryd.prog 50 #[.slice a es.length cap] w0 fun e w' => (∃ (d : List EnS) (a : Option Addr) (cap e' : Nat), e = .returned (.tuple #[.slice a d.length cap, .nilIface]) ∧ d.length ≤ cap ∧ cap ≤ 9223372036854775807 ∧ rootL 32 (vals d) = rootD es ∧ Rd w' a e' (cellsE (vals d))) ∧ Below w0.heap.size w0 w' := SC.mono fun e w' h => ⟨by
    obtain ⟨d, a2, c2, e2, h1, h2, h3, h4, h5, h6, h7⟩ := h.2.1 hf
    exact ⟨d, a2, c2, e2, by rw [h1, h2], by omega, h4, rootL_all es (apart_ok es hf).2.2 d h5 h6, h7⟩, h.2.2⟩
  obtain ⟨N, hN⟩ : ∃ N, N = rootD es := ⟨_, rfl⟩
  have nl : N.length = 32 := by rw [hN]; exact rootD_length es
  rw [← hN] at SC2 ⊢
  have NL := Lib.hid nl
  have HSC := Lib.hid SC2
  have RO := Lib.hid (hro.at_ BW.out)
  clear SC SC2 hr hw hf hc1 hN nl hro
  go_enter Tryd.func22, Tryd.ntmps22
  go_upto_region 1 with fail
  rw [ZT.out, ← HH.out, ← HW0.out]
  go_wp2_with fail
  refine HSC.out.mono ?_
  rintro e w2 ⟨⟨d, a2, c2, e2, rfl, hd1, hd2, hd3, hd4⟩, hb2⟩
  have RC := Root_calls 32 (Nat.le_refl _) d a2 c2 e2 hd1 hd2 w2 hd4 (RO.out.at_ hb2)
  rw [hd3] at RC
  rw [show ((32 : Nat) : Int) = 32 from rfl] at RC
  have HRC := Lib.hid RC
  have B2 := Lib.hid hb2
  clear RC hb2 HSC hd1 hd2 hd3 hd4
  go_wp2_with fail
  refine HRC.out.mono ?_
  rintro e w3 ⟨rfl, hb3⟩
  have b3 := B2.out.trans (hb3.mono B2.out.size)
  have G3 := Lib.hid ((b3.block H hsz).trans G0.out)
  have B3 := Lib.hid (BL.out.trans (b3.mono (by omega)))
  clear hb3 HRC b3 B2
  go_wp2_with (first | (refine st_row rfl (.tmp 2) (.tmp 16) rfl H N NL.out (by rfl) (by rfl) (dV Z) (dV_size ZL.out) _ G3.out ?_))
  try simp only [Exit.inBlock, Exit.then]
  refine bodyPost_ret (results_cell_tmp rfl _ _ _ ⟨H, 0, none⟩ (.agg (dV N)) rfl ?_) rfl ⟨rfl, by rw [← HH.out]; exact below_setRowW B3.out (Nat.le_refl _) _⟩
  exact dig_load NL.out (range_of_row (setRow_heap _ _ _ (dV N) _ _ G3.out))
/-- leafed: a fact that the laws ask -/
theorem mapF_one : mapF [⟨1, nz⟩] = 0 := by decide
set_option maxRecDepth 20000 in
theorem Path_bad (es : List En) (hw : ∀ e ∈ es, EnW e) (a : Option Addr) (cap ea : Nat) (hc1 : es.length ≤ cap) (hc2 : cap ≤ 9223372036854775807) (k : Int) (w : World) (hr : Rd w a ea (cellsE es)) (f : Int) (hf : mapF es = f) (hf0 : f ≠ 0) :
    Calls Tryd.prog 23 #[.slice a es.length cap, .int .i64 k] w fun e w' => e = .returned (.tuple #[.slice none 0 0, .iface 25 (.int .i64 f)]) ∧ Below w.heap.size w w' := by
  have SC := Sorted_calls es hw a cap ea hc1 hc2 w hr
  have SC2 : Calls Tryd.prog 50 #[.slice a es.length cap] w fun e w' => e = .returned (.tuple #[.slice none 0 0, .iface 25 (.int .i64 f)]) ∧ Below w.heap.size w w' := SC.mono fun e w' h => ⟨by rw [← hf]; exact h.1 (by rw [hf]; exact hf0), h.2.2⟩
  have HSC := Lib.hid SC2
  clear SC SC2 hr hw hf hf0 hc1
  go_enter Tryd.func23, Tryd.ntmps23
  go_wp2_with fail
  refine HSC.out.mono ?_
  rintro e w2 ⟨rfl, hb2⟩
  clear HSC
  go_wp2_with fail
  go_ret2
  exact ⟨rfl, hb2⟩
set_option maxRecDepth 20000 in
theorem Path_key (es : List En) (hw : ∀ e ∈ es, EnW e) (a : Option Addr) (cap ea : Nat) (hc1 : es.length ≤ cap) (hc2 : cap ≤ 9223372036854775807) (k : Int) (hk : ¬ KeyOk k) (w : World) (hr : Rd w a ea (cellsE es)) (hf : mapF es = 0) :
    Calls Tryd.prog 23 #[.slice a es.length cap, .int .i64 k] w fun e w' => e = .returned (.tuple #[.slice none 0 0, .iface 25 (.int .i64 2)]) ∧ Below w.heap.size w w' := by
  have SC := Sorted_calls es hw a cap ea hc1 hc2 w hr
  have SC2 : Calls Tryd.prog 50 #[.slice a es.length cap] w fun e w' => (∃ a c, e = .returned (.tuple #[.slice a es.length c, .nilIface])) ∧ Below w.heap.size w w' := SC.mono fun e w' h => ⟨by
    obtain ⟨d, a2, c2, e2, h1, _⟩ := h.2.1 hf
    exact ⟨a2, c2, h1⟩, h.2.2⟩
  have HSC := Lib.hid SC2
  have HK := Lib.hid hk
  clear SC SC2 hr hw hf hc1 hk
  go_enter Tryd.func23, Tryd.ntmps23
  go_wp2_with fail
  refine HSC.out.mono ?_
  rintro e w2 ⟨⟨a2, c2, rfl⟩, hb2⟩
  have KK := Key_calls k w2
  rw [decide_eq_false HK.out] at KK
  have HKK := Lib.hid KK
  clear HSC KK
  go_wp2_with (go_at_call 47; refine HKK.out.mono ?_; rintro e w' ⟨rfl, rfl⟩)
  go_ret2
  exact ⟨rfl, hb2⟩
/-- a row of digests, set from one on -/
def sibs (f : Nat → List UInt8) (k m : Nat) : List (List UInt8) := (List.range 32).map fun j => if m ≤ j then sib f k j else nz
theorem sibs_length (f : Nat → List UInt8) (k m : Nat) : (sibs f k m).length = 32 := by simp [sibs]
theorem sibs_dig (f : Nat → List UInt8) (hf : ∀ q, (f q).length = 32) (k m : Nat) : ∀ d ∈ sibs f k m, d.length = 32 := by
  intro d hd
  obtain ⟨j, _, rfl⟩ := List.mem_map.1 hd
  split
  · exact sib_length f hf k j
  · rfl
theorem sibs_zero (f : Nat → List UInt8) (k : Nat) : sibs f k 0 = pathD f k := by unfold sibs pathD; simp
theorem sibs_all (f : Nat → List UInt8) (k : Nat) : sibs f k 32 = List.replicate 32 nz := by
  refine List.eq_replicate_iff.2 ⟨sibs_length f k 32, fun d hd => ?_⟩
  obtain ⟨j, hj, rfl⟩ := List.mem_map.1 hd
  rw [if_neg (by have := List.mem_range.1 hj; omega)]
theorem sibs_set (f : Nat → List UInt8) (k m : Nat) (hm : m < 32) : (sibs f k (m + 1)).set m (sib f k m) = sibs f k m := by
  unfold sibs
  apply List.ext_getElem
  · simp
  · intro i h1 h2
    have hi : i < 32 := by simpa using h2
    rw [List.getElem_set]
    by_cases e : m = i
    · subst e; simp
    · rw [if_neg e]
      simp only [List.getElem_map, List.getElem_range]
      by_cases g : m ≤ i
      · rw [if_pos g, if_pos (by omega)]
      · rw [if_neg g, if_neg (by omega)]
theorem flat_nz : (List.replicate 32 nz).flatten.map vB = List.replicate 1024 (.int .u8 0) := by
  unfold nz; rw [List.flatten_replicate_replicate, List.map_replicate]; rfl
/-- the half that is gone on with, and the other -/
theorem half_step (f : Nat → List UInt8) (k m : Nat) (zs : List EnS) (hu : Up (vals zs)) (hp : InP (m + 1) (k / 2 ^ (m + 1)) (vals zs)) (hl : ∀ q, k / 2 ^ (m + 1) * 2 ^ (m + 1) ≤ q → q < (k / 2 ^ (m + 1) + 1) * 2 ^ (m + 1) → leafF (vals zs) q = f q)
    (lo hi : List EnS) (hlo : lo = zs.takeWhile fun x => !(bitP m x)) (hhi : hi = zs.dropWhile fun x => !(bitP m x)) (own oth : List EnS) (ho : if k / 2 ^ m % 2 = 1 then own = hi ∧ oth = lo else own = lo ∧ oth = hi) :
    Up (vals own) ∧ InP m (k / 2 ^ m) (vals own) ∧ (∀ q, k / 2 ^ m * 2 ^ m ≤ q → q < (k / 2 ^ m + 1) * 2 ^ m → leafF (vals own) q = f q) ∧ rootL m (vals oth) = sib f k m := by
  obtain ⟨v1, v2⟩ := vals_take zs (fun e => !(bitE m e))
  have hv1 : vals lo = (vals zs).takeWhile (fun e => !(bitE m e)) := by rw [hlo]; exact v1
  have hv2 : vals hi = (vals zs).dropWhile (fun e => !(bitE m e)) := by rw [hhi]; exact v2
  obtain ⟨h1, h2⟩ := up_halves (vals zs) m _ hu hp
  rw [h1] at hv1
  rw [h2] at hv2
  obtain ⟨p, hpp⟩ : ∃ p, p = k / 2 ^ (m + 1) := ⟨_, rfl⟩
  have hx : k / 2 ^ m / 2 = p := by rw [hpp, Nat.pow_succ, Nat.div_div_eq_div_mul]
  rw [← hpp] at hp hl hv1 hv2
  obtain ⟨x, hxx⟩ : ∃ x, x = k / 2 ^ m := ⟨_, rfl⟩
  rw [← hxx] at ho hx ⊢
  have e0 : 2 ^ (m + 1) = 2 * 2 ^ m := by rw [Nat.pow_succ]; omega
  have e1 : p * 2 ^ (m + 1) = 2 * p * 2 ^ m := by rw [e0, ← Nat.mul_assoc, Nat.mul_comm p 2]
  have e2 : (p + 1) * 2 ^ (m + 1) = (2 * p + 1 + 1) * 2 ^ m := by rw [e0, ← Nat.mul_assoc]; congr 1; omega
  have e3 : (2 * p + 1) * 2 ^ m = 2 * p * 2 ^ m + 2 ^ m := by rw [Nat.add_mul]; omega
  have e4 : (2 * p + 1 + 1) * 2 ^ m = (2 * p + 1) * 2 ^ m + 2 ^ m := by rw [Nat.add_mul (2 * p + 1)]; omega
  rw [e1, e2] at hl
  -- what each half is
  have L1 : Up (vals lo) ∧ InP m (2 * p) (vals lo) ∧ ∀ q, 2 * p * 2 ^ m ≤ q → q < (2 * p + 1) * 2 ^ m → leafF (vals lo) q = f q := by
    refine ⟨by rw [hv1]; exact hu.filter _, fun e he => ?_, fun q g1 g2 => ?_⟩
    · rw [hv1] at he
      obtain ⟨hx1, hx2⟩ := List.mem_filter.1 he
      have := hp e hx1
      rw [e1] at this
      exact ⟨this.1, of_decide_eq_true hx2⟩
    · rw [← hl q g1 (by omega), hv1]
      refine leafF_filter _ _ _ fun x _ hx => ?_
      rw [hx]
      exact decide_eq_true (by exact_mod_cast g2)
  have L2 : Up (vals hi) ∧ InP m (2 * p + 1) (vals hi) ∧ ∀ q, (2 * p + 1) * 2 ^ m ≤ q → q < (2 * p + 1 + 1) * 2 ^ m → leafF (vals hi) q = f q := by
    refine ⟨by rw [hv2]; exact hu.filter _, fun e he => ?_, fun q g1 g2 => ?_⟩
    · rw [hv2] at he
      obtain ⟨hx1, hx2⟩ := List.mem_filter.1 he
      have := hp e hx1
      rw [e2] at this
      have hx3 : ¬ e.key < (((2 * p + 1) * 2 ^ m : Nat) : Int) := by simpa using hx2
      exact ⟨by omega, this.2⟩
    · rw [← hl q (by omega) g2, hv2]
      refine leafF_filter _ _ _ fun x _ hx => ?_
      rw [hx, decide_eq_false (by intro h; have h : q < (2 * p + 1) * 2 ^ m := by exact_mod_cast h
                                  omega)]
      rfl
  have S1 : rootL m (vals lo) = treeD m f (2 * p) := by
    rw [rootL_eq m (2 * p) _ L1.1 L1.2.1]; exact treeD_congr _ _ _ _ L1.2.2
  have S2 : rootL m (vals hi) = treeD m f (2 * p + 1) := by
    rw [rootL_eq m (2 * p + 1) _ L2.1 L2.2.1]; exact treeD_congr _ _ _ _ L2.2.2
  unfold sib
  rw [← hxx]
  by_cases hb : x % 2 = 1
  · rw [if_pos hb] at ho ⊢
    obtain ⟨rfl, rfl⟩ := ho
    rw [show x = 2 * p + 1 by omega, show 2 * p + 1 - 1 = 2 * p by omega]
    exact ⟨L2.1, L2.2.1, L2.2.2, S1⟩
  · rw [if_neg hb] at ho ⊢
    obtain ⟨rfl, rfl⟩ := ho
    rw [show x = 2 * p by omega]
    exact ⟨L1.1, L1.2.1, L1.2.2, S2⟩
end Go.Proofs.YtpeomfehdccmmaaDoor
/- Walk: trie.Path tells all that stands beside a key's way up. -/
namespace Go.Proofs.YtpeomfehdccmmaaDoor
open Go.RowKit
set_option linter.unusedVariables false
set_option linter.unusedSimpArgs false
open Go.Shelf Go.Lib Go.Sort
theorem info_digz : (Tryd.prog.info? 23).map (fun i => (i.zero, i.size, i.bytes)) = some (some (.agg (dV nz)), 32, 32) := by rw [← zdig]; exact info_dig
theorem made_dig : (madeCells (Value.agg (dV nz)).cells (32 * 32)).toList = List.replicate 1024 (.int .u8 0) := by
  refine List.eq_replicate_iff.2 ⟨by rw [Array.length_toList, size_madeCells], fun v hv => ?_⟩
  unfold madeCells at hv
  rw [Array.toList_map] at hv
  obtain ⟨i, _, rfl⟩ := List.mem_map.1 hv
  have hs : (Value.agg (dV nz)).cells.size = 32 := dV_size rfl
  rw [hs]
  have hi : i % 32 < (dV nz).size := by rw [dV_size rfl]; exact Nat.mod_lt _ (by omega)
  show (dV nz)[i % 32]! = _
  rw [getElem!_pos (dV nz) (i % 32) hi]
  have e : dV nz = (List.replicate 32 (Value.int .u8 0)).toArray := by unfold dV nz; rw [List.map_replicate]; rfl
  simp only [e, List.getElem_toArray, List.getElem_replicate]
set_option maxRecDepth 20000 in
set_option maxHeartbeats 8000000 in
theorem Path_ok (es : List En) (hw : ∀ e ∈ es, EnW e) (a : Option Addr) (cap ea : Nat) (hc1 : es.length ≤ cap) (hc2 : cap ≤ 9223372036854775807) (k : Nat) (hk : k < 4294967296) (w : World) (hr : Rd w a ea (cellsE es)) (hf : mapF es = 0) (hro : RoundsAt w) :
    Calls Tryd.prog 23 #[.slice a es.length cap, .int .i64 (k : Int)] w fun e w' => ∃ a' c', e = .returned (.tuple #[.slice a' 32 c', .nilIface]) ∧ w'.ownsRow w.heap.size 23 32 (.slice a' 32 c') 32 ((pathD (leafF es) k).flatten.map vB) ∧ Below w.heap.size w w' := by
  obtain ⟨f, hff⟩ : ∃ f, f = leafF es := ⟨_, rfl⟩
  have hf32 : ∀ q, (f q).length = 32 := fun q => by rw [hff]; exact leafF_length es q
  have SC := Sorted_calls es hw a cap ea hc1 hc2 w hr
  have SC2 : Calls Tryd.prog 50 #[.slice a es.length cap] w fun e w' => (∃ (d : List EnS) (a : Option Addr) (cap e' : Nat), e = .returned (.tuple #[.slice a d.length cap, .nilIface]) ∧ d.length ≤ cap ∧ cap ≤ 9223372036854775807 ∧ Up (vals d) ∧ leafF (vals d) = f ∧ Rd w' a e' (cellsE (vals d))) ∧ Below w.heap.size w w' := SC.mono fun e w' h => ⟨by
    obtain ⟨d, a2, c2, e2, h1, h2, h3, h4, h5, h6, h7⟩ := h.2.1 hf
    exact ⟨d, a2, c2, e2, by rw [h1, h2], by omega, h4, h5, by rw [hff]; exact mem_leafF es (apart_ok es hf).2.2 d h5 h6, h7⟩, h.2.2⟩
  obtain ⟨i0, hi0, hz0, hs0, hb0⟩ := info_parts info_digz
  rw [← hff]
  have HSC := Lib.hid SC2
  have RO := Lib.hid hro
  clear SC SC2 hr hw hf hc1 hro hff
  go_enter Tryd.func23, Tryd.ntmps23
  go_wp2_with fail
  refine HSC.out.mono ?_
  rintro e w2 ⟨⟨d, a2, c2, e2, rfl, hd1, hd2, hd3, hd4, hd5⟩, hb2⟩
  obtain ⟨P, hP⟩ : ∃ P, P = w2.heap.size := ⟨_, rfl⟩
  have KK := Key_calls (k : Int) w2
  rw [decide_eq_true (show KeyOk (k : Int) from ⟨by omega, by omega⟩)] at KK
  have HKK := Lib.hid KK
  have HP := Lib.hid hP
  have B2 := Lib.hid hb2
  have RO2 := Lib.hid (RO.out.at_ hb2)
  have D1 := Lib.hid hd1
  have D3 := Lib.hid hd3
  have D4 := Lib.hid hd4
  have D5 := Lib.hid hd5
  clear KK hb2 HSC hd1 hd3 hd4 hd5 RO hP
  go_upto_region 7 with (first
    | (go_at_call 47; refine HKK.out.mono ?_; rintro e w' ⟨rfl, rfl⟩)
    | (at_make; refine wpList_make_full _ rfl _ _ 24 rfl w2.heap.size 23 i0 (.agg (dV nz)) 32 Tryd.underlying24 hi0 hz0 hs0 _ _ _ _ 32 rfl rfl rfl rfl (by rw [hb0]; omega) (by simp only [maxLen]; omega) (Nat.le_refl _) ?_; intro w3 hown3 hgrow3))
  rw [made_dig, ← flat_nz, ← sibs_all f k, ← HP.out] at hown3
  have b3 : Below P w2 w3 := by rw [HP.out]; exact (Below.refl _ w2).grown hgrow3 (Nat.le_refl _) (fun k hk => by cases hk)
  rw [← HP.out]
  have HO3 := Lib.hid hown3
  have B3 := Lib.hid b3
  clear hown3 hgrow3 b3 HKK
  go_wp2_with fail
  go_loopw [6, 9] (fun ov i wr => ∃ (m : Nat) (zs : List EnS) (az : Option Addr) (cz ez : Nat), m ≤ 32 ∧ i = .int .i64 ((m : Int) - 1) ∧ ov = .slice az zs.length cz ∧ zs.length ≤ cz ∧ cz ≤ 9223372036854775807 ∧ Up (vals zs) ∧ InP m (k / 2 ^ m) (vals zs) ∧ (∀ q, k / 2 ^ m * 2 ^ m ≤ q → q < (k / 2 ^ m + 1) * 2 ^ m → leafF (vals zs) q = f q) ∧ Rd w2 az ez (cellsE (vals zs)) ∧ wr.ownsRow P 23 32 (.slice (some ⟨P, 0, none⟩) 32 32) 32 ((sibs f k m).flatten.map vB) ∧ Below P w2 wr) (fun _ i _ => (intOf i + 1).toNat)
  case atStart =>
    have hk0 : k / 2 ^ 32 = 0 := Nat.div_eq_of_lt hk
    exact ⟨32, d, a2, c2, e2, Nat.le_refl _, rfl, rfl, D1.out, hd2, D3.out, by rw [hk0]; exact inP_all d, fun q _ _ => by rw [D4.out], D5.out, HO3.out, B3.out⟩
  case round =>
    clear HO3 B3 D1 D3 D4 D5 hd2
    obtain ⟨m, zs, az, cz, ez, hm, rfl, rfl, hz1, hz2, hup, hin, hlf, hrz, hown, hbl⟩ := hrel
    obtain ⟨wB, rfl⟩ : ∃ z, z = wr := ⟨_, rfl⟩
    by_cases hm0 : 1 ≤ m
    · obtain ⟨q, rfl⟩ : ∃ q, m = q + 1 := ⟨m - 1, by omega⟩
      have hqi : ((q + 1 : Nat) : Int) - 1 = (q : Int) := by omega
      rw [hqi]
      have hq : q < 32 := by omega
      have q0 : (0 : Int) ≤ (q : Int) := by omega
      have q1 : (q : Int) < 32 := by omega
      have e4 : IntKind.i64.wrap ((q : Int) - 1) = (q : Int) - 1 := IntWalk.i64_in _ (by omega)
      obtain ⟨x, hx⟩ : ∃ x, x = k / 2 ^ q := ⟨_, rfl⟩
      have e5 : (k : Int) / 2 ^ q = (x : Int) := by rw [hx]; exact shr_bit k q
      have hxl : x < 9223372036854775808 := by rw [hx]; exact Nat.lt_of_le_of_lt (Nat.div_le_self _ _) (by omega)
      have hbl2 : Below w2.heap.size w2 wB := by rw [← HP.out]; exact hbl
      have HC := Halves_calls q hq zs az cz ez hz1 hz2 wB (hrz.below hbl2)
      obtain ⟨L1, hL1⟩ : ∃ L, L = zs.takeWhile fun x => !(bitP q x) := ⟨_, rfl⟩
      obtain ⟨L2, hL2⟩ : ∃ L, L = zs.dropWhile fun x => !(bitP q x) := ⟨_, rfl⟩
      unfold HalvesRet at HC
      rw [← hL1, ← hL2] at HC
      have HHC := Lib.hid HC
      have HX := Lib.hid hx
      have HXL := Lib.hid hxl
      have HL1 := Lib.hid hL1
      have HL2 := Lib.hid hL2
      have HUP := Lib.hid hup
      have HIN := Lib.hid hin
      have HLF := Lib.hid hlf
      have HRZ := Lib.hid hrz
      have HO := Lib.hid hown
      have HBL := Lib.hid hbl2
      clear HC hx hxl hL1 hL2 hup hin hlf hrz hown hbl hbl2 hqi hm hm0
      go_wp2_with fail
      refine HHC.out.mono ?_
      rintro e w3 ⟨a1, c1, a3, c3, rfl, hn1, hc1, hn2, hc2, f1, f2, hb3⟩
      have HOWN := Lib.hid (own_below HO.out hb3)
      have B23 := Lib.hid (HBL.out.trans (hb3.mono HBL.out.size))
      clear HHC HO HBL hb3
      by_cases hb1 : x % 2 = 1
      · have hb6 : (bits BinOp.and IntKind.i64 (x : Int) 1 == 1) = true := by rw [and_one x HXL.out, hb1]; rfl
        have HS := half_step f k q zs HUP.out HIN.out HLF.out L1 L2 HL1.out HL2.out L2 L1 (by rw [← HX.out, if_pos hb1]; exact ⟨rfl, rfl⟩)
        rw [← HX.out] at HS
        obtain ⟨s1, s2, s3, s4⟩ := HS
        have S1 := Lib.hid s1
        have S2 := Lib.hid s2
        have S3 := Lib.hid s3
        have rn := f2 _ HRZ.out
        have ro := f1 _ HRZ.out
        have RC := Root_calls q (by omega) L1 a1 c1 ez hn1 hc1 w3 (ro.below B23.out) (RO2.out.at_ B23.out)
        rw [s4] at RC
        have RN := Lib.hid rn
        have HRC := Lib.hid RC
        have HN := Lib.hid (And.intro hn2 hc2)
        clear s1 s2 s3 s4 rn ro RC hb1 hn1 hc1 hn2 hc2 f1 f2
        go_wp2_with fail
        refine HRC.out.mono ?_
        rintro e w4 ⟨rfl, hb4⟩
        have hown4 := own_below HOWN.out hb4
        have B4 := Lib.hid (B23.out.trans (hb4.mono B23.out.size))
        clear hb4 HRC HOWN
        obtain ⟨R, hR⟩ : ∃ R, R = sib f k q := ⟨_, rfl⟩
        have rl : R.length = 32 := by rw [hR]; exact sib_length f hf32 k q
        rw [← hR]
        have hset : (sibs f k (q + 1)).set q R = sibs f k q := by rw [hR]; exact sibs_set f k q hq
        have thr := own_there hown4 (sibs_dig f hf32 k (q + 1)) q (by rw [sibs_length]; exact hq)
        have hown5 := own_digset hown4 (sibs_dig f hf32 k (q + 1)) q (by rw [sibs_length]; exact hq) R rl
        rw [hset] at hown5
        have HO5 := Lib.hid hown5
        have B5 := Lib.hid (below_setCells (R.map vB) (q * 32) (show Below P w2 w4 by rw [HP.out]; exact B4.out) (Nat.le_refl P))
        have RL := Lib.hid rl
        clear hset hown4 hown5 rl hR
        go_wp2_with (refine st_dig rfl (.tmp 48) (.tmp 47) rfl P (q * 32) R RL.out (by rfl) (by rfl) thr ?_; clear thr; generalize w4.setCells P (q * 32) (R.map vB) = w5 at *)
        go_roundw
        case rel => exact ⟨q, L2, a3, c3, ez, by omega, rfl, rfl, HN.out.1, HN.out.2, S1.out, by rw [← HX.out]; exact S2.out, by rw [← HX.out]; exact S3.out, RN.out, HO5.out, B5.out⟩
        case measure => simp only [intOf]; omega
      · have hb6 : (bits BinOp.and IntKind.i64 (x : Int) 1 == 1) = false := by rw [and_one x HXL.out, show x % 2 = 0 by omega]; rfl
        have HS := half_step f k q zs HUP.out HIN.out HLF.out L1 L2 HL1.out HL2.out L1 L2 (by rw [← HX.out, if_neg hb1]; exact ⟨rfl, rfl⟩)
        rw [← HX.out] at HS
        obtain ⟨s1, s2, s3, s4⟩ := HS
        have S1 := Lib.hid s1
        have S2 := Lib.hid s2
        have S3 := Lib.hid s3
        have rn := f1 _ HRZ.out
        have ro := f2 _ HRZ.out
        have RC := Root_calls q (by omega) L2 a3 c3 ez hn2 hc2 w3 (ro.below B23.out) (RO2.out.at_ B23.out)
        rw [s4] at RC
        have RN := Lib.hid rn
        have HRC := Lib.hid RC
        have HN := Lib.hid (And.intro hn1 hc1)
        clear s1 s2 s3 s4 rn ro RC hb1 hn1 hc1 hn2 hc2 f1 f2
        go_wp2_with fail
        refine HRC.out.mono ?_
        rintro e w4 ⟨rfl, hb4⟩
        have hown4 := own_below HOWN.out hb4
        have B4 := Lib.hid (B23.out.trans (hb4.mono B23.out.size))
        clear hb4 HRC HOWN
        obtain ⟨R, hR⟩ : ∃ R, R = sib f k q := ⟨_, rfl⟩
        have rl : R.length = 32 := by rw [hR]; exact sib_length f hf32 k q
        rw [← hR]
        have hset : (sibs f k (q + 1)).set q R = sibs f k q := by rw [hR]; exact sibs_set f k q hq
        have thr := own_there hown4 (sibs_dig f hf32 k (q + 1)) q (by rw [sibs_length]; exact hq)
        have hown5 := own_digset hown4 (sibs_dig f hf32 k (q + 1)) q (by rw [sibs_length]; exact hq) R rl
        rw [hset] at hown5
        have HO5 := Lib.hid hown5
        have B5 := Lib.hid (below_setCells (R.map vB) (q * 32) (show Below P w2 w4 by rw [HP.out]; exact B4.out) (Nat.le_refl P))
        have RL := Lib.hid rl
        clear hset hown4 hown5 rl hR
        go_wp2_with (refine st_dig rfl (.tmp 48) (.tmp 47) rfl P (q * 32) R RL.out (by rfl) (by rfl) thr ?_; clear thr; generalize w4.setCells P (q * 32) (R.map vB) = w5 at *)
        go_roundw
        case rel => exact ⟨q, L1, a1, c1, ez, by omega, rfl, rfl, HN.out.1, HN.out.2, S1.out, by rw [← HX.out]; exact S2.out, by rw [← HX.out]; exact S3.out, RN.out, HO5.out, B5.out⟩
        case measure => simp only [intOf]; omega
    · obtain rfl : m = 0 := by omega
      have hown0 := hown
      rw [sibs_zero] at hown0
      have hneg : ((0 : Nat) : Int) - 1 = -1 := rfl
      rw [hneg]
      have HO := Lib.hid (own_base hown0 (show w.heap.size ≤ P by rw [HP.out]; exact B2.out.size))
      have BF := Lib.hid (B2.out.trans (hbl.mono (by rw [HP.out]; exact B2.out.size)))
      clear hown hown0 hbl hrz hlf hin hup
      go_wp2_with fail
      go_ret2
      exact ⟨_, 32, rfl, HO.out, BF.out⟩
end Go.Proofs.YtpeomfehdccmmaaDoor
