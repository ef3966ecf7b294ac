/- Walks: the halves of entries, and the root of sorted entries. -/
import Derived.Test.YtpeomfehdccmmaaDoorTrieSorted
namespace Go.Proofs.YtpeomfehdccmmaaDoor
open Go.RowKit
set_option linter.unusedVariables false
set_option linter.unusedSimpArgs false
open Go.Shelf Go.Lib Go.Sort
theorem idx_take {α : Type} (p : α → Bool) (x : α) : ∀ (l : List α) (i : Nat), idxByFrom (fun _ y => p y) x l i = if l.any p then ((i + (l.takeWhile fun y => !(p y)).length : Nat) : Int) else -1
  | [], i => rfl
  | y :: r, i => by
    rw [idxByFrom]
    cases h : p y with
    | true => simp [h]
    | false =>
      rw [idx_take p x r (i + 1)]
      simp only [List.any_cons, h, Bool.false_or, List.takeWhile_cons, Bool.not_false, if_true, List.length_cons]
      by_cases h2 : r.any p = true
      · rw [if_pos h2, if_pos h2]
        simp; omega
      · rw [if_neg h2, if_neg h2]; simp
theorem no_drop {α : Type} (p : α → Bool) (l : List α) (h : l.any p = false) : (l.takeWhile fun y => !(p y)) = l ∧ (l.dropWhile fun y => !(p y)) = [] := by
  induction l with
  | nil => exact ⟨rfl, rfl⟩
  | cons y l ih =>
    rw [List.any_cons, Bool.or_eq_false_iff] at h
    obtain ⟨h1, h2⟩ := ih h.2
    simp only [List.takeWhile_cons, List.dropWhile_cons, h.1, Bool.not_false, if_true, h1, h2, and_self]
theorem any_lt {α : Type} (p : α → Bool) : ∀ (l : List α), l.any p = true → (l.takeWhile fun y => !(p y)).length < l.length
  | [], h => by simp at h
  | y :: r, h => by
    cases hy : p y with
    | true => simp [hy]
    | false =>
      rw [List.any_cons, hy, Bool.false_or] at h
      have := any_lt p r h
      simp only [List.takeWhile_cons, hy, Bool.not_false, if_true, List.length_cons]
      omega
theorem take_split {α : Type} (p : α → Bool) : ∀ (l : List α), (l.takeWhile p) = l.take (l.takeWhile p).length ∧ (l.dropWhile p) = l.drop (l.takeWhile p).length
  | [] => ⟨rfl, rfl⟩
  | y :: r => by
    obtain ⟨h1, h2⟩ := take_split p r
    cases h : p y with
    | true => simp only [List.takeWhile_cons, List.dropWhile_cons, h, if_true, List.length_cons, List.take_succ_cons, List.drop_succ_cons]; exact ⟨by rw [← h1], h2⟩
    | false => simp [h]
theorem vals_take (d : List EnS) (p : En → Bool) : vals (d.takeWhile fun x => p x.1) = (vals d).takeWhile p ∧ vals (d.dropWhile fun x => p x.1) = (vals d).dropWhile p := by
  induction d with
  | nil => exact ⟨rfl, rfl⟩
  | cons x d ih =>
    obtain ⟨h1, h2⟩ := ih
    unfold vals at h1 h2 ⊢
    cases h : p x.1 with
    | true => simp only [List.takeWhile_cons, List.dropWhile_cons, h, if_true, List.map_cons]; exact ⟨by rw [h1], h2⟩
    | false => simp [h]
def bitP (b : Nat) (x : EnS) : Bool := bitE b x.1
theorem predH (b B : Nat) (hb32 : b < 32) (w : World) (hB : B < w.heap.size) (hcell : w.cell? ⟨B, 0, none⟩ = some (.int .i64 (b : Int))) :
    PredBelow Tryd.prog 77 #[.pointer (some ⟨B, 0, none⟩)] (fun x => .agg (encS x).toArray) (bitP b) w := fun W x hb => by
  obtain ⟨X, hX⟩ : ∃ X, X = (encS x).toArray := ⟨_, rfl⟩
  obtain ⟨k, hk⟩ : ∃ k : Nat, x.1.key = (k : Int) := ⟨x.1.key.toNat, by have := x.2.2.1; omega⟩
  have hk2 : k < 4294967296 := by have := x.2.2.2; omega
  have c0 : (W.alloc (.cells X 35)).cell? ⟨W.heap.size, 0, none⟩ = some (.int .i64 (k : Int)) := by
    rw [cell_of_row _ _ _ _ _ _ (heap_alloc_new W _), hX, ← hk]; rfl
  have hBW : B < W.heap.size := Nat.lt_of_lt_of_le hB hb.size
  have c1 : (W.alloc (.cells X 35)).cell? ⟨B, 0, none⟩ = some (.int .i64 (b : Int)) :=
    (((Below.refl W.heap.size W).alloc (Nat.le_refl _) _).cell (p := ⟨B, 0, none⟩) hBW).trans ((hb.cell (p := ⟨B, 0, none⟩) hB).trans hcell)
  have hfin : Below w.heap.size w (W.alloc (.cells X 35)) := hb.alloc hb.size _
  obtain ⟨y, hy⟩ : ∃ y, y = k / 2 ^ b := ⟨_, rfl⟩
  have e5 : (k : Int) / 2 ^ b = (y : Int) := by rw [hy]; exact shr_bit k b
  have hyl : y < 9223372036854775808 := by rw [hy]; exact Nat.lt_of_le_of_lt (Nat.div_le_self _ _) (by omega)
  have hp : bitP b x = (y % 2 == 1) := by
    unfold bitP bitE
    rw [hk, Int.toNat_natCast, ← hy]
  have e6 : (bits BinOp.and IntKind.i64 (y : Int) 1 == 1) = bitP b x := by
    rw [and_one y hyl, hp]
    rw [Bool.eq_iff_iff, beq_iff_eq, beq_iff_eq]; omega
  obtain ⟨q, hq⟩ : ∃ q, q = bitP b x := ⟨_, rfl⟩
  rw [← hq] at e6 ⊢
  have b0 : (0 : Int) ≤ (b : Int) := by omega
  have b1 : (b : Int) < 32 := by omega
  show Calls Tryd.prog 77 #[.agg (encS x).toArray, .pointer (some ⟨B, 0, none⟩)] W _
  rw [← hX]
  have HF := Lib.hid hfin
  clear hX hk hy hp hq hfin hb hcell hyl
  go_enter Tryd.func77, Tryd.ntmps77
  go_wp2_with fail
  go_ret
  exact ⟨rfl, HF.out⟩
def HalvesRet (w : World) (b : Nat) (zs : List EnS) (a : Option Addr) (ea : Nat) (e : Ending) (w' : World) : Prop :=
  ∃ a1 c1 a2 c2, e = .returned (.tuple #[.slice a1 (zs.takeWhile fun x => !(bitP b x)).length c1, .slice a2 (zs.dropWhile fun x => !(bitP b x)).length c2]) ∧ (zs.takeWhile fun x => !(bitP b x)).length ≤ c1 ∧ c1 ≤ 9223372036854775807 ∧ (zs.dropWhile fun x => !(bitP b x)).length ≤ c2 ∧ c2 ≤ 9223372036854775807 ∧
    (∀ v, Rd v a ea (cellsE (vals zs)) → Rd v a1 ea (cellsE (vals (zs.takeWhile fun x => !(bitP b x))))) ∧ (∀ v, Rd v a ea (cellsE (vals zs)) → Rd v a2 ea (cellsE (vals (zs.dropWhile fun x => !(bitP b x))))) ∧ Below w.heap.size w w'
theorem Index_none (v : Value) (a : Option Addr) (c : Nat) (w : World) : Calls Tryd.prog 76 #[.slice a 0 c, v] w fun e w' => e = .returned (.int .i64 (-1)) ∧ w = w' := by
  go_enter Tryd.func76, Tryd.ntmps76
  go_wp2
  refine wp_loop_rounds 1 ?_
  rw [rounds_succ]
  go_wp2
  go_ret
  exact ⟨rfl, rfl⟩
set_option maxRecDepth 20000 in
set_option maxHeartbeats 4000000 in
theorem Halves_calls (b : Nat) (hb32 : b < 32) (zs : List EnS) (a : Option Addr) (cap ea : Nat) (hn : zs.length ≤ cap) (hcap : cap ≤ 9223372036854775807) (w : World) (hr : Rd w a ea (cellsE (vals zs))) :
    Calls Tryd.prog 52 #[.slice a zs.length cap, .int .i64 (b : Int)] w (HalvesRet w b zs a ea) := by
  obtain ⟨H, hH⟩ : ∃ H, H = w.heap.size := ⟨_, rfl⟩
  obtain ⟨w0, hw0⟩ : ∃ z, z = w.alloc (.cells #[.int .i64 (b : Int)] 3) := ⟨_, rfl⟩
  have q0 : w0.heap.size = H + 1 := by rw [hw0, hH]; exact World.size_alloc _ _
  have s0 : Below (H) w w0 := by rw [hw0, hH]; exact (Below.refl _ _).alloc (Nat.le_refl _) _
  have t0 : Below (H + 1) w0 w0 := Below.refl _ _
  have bL : Below H w w0 := s0.trans (t0.mono (by omega))
  have g0 : w0.heap[H]? = some (.cells #[.int .i64 (b : Int)] 3 (0, 0)) := by
    have g : w0.heap[H]? = some (.cells #[.int .i64 (b : Int)] 3 (0, 0)) := by rw [hw0, hH]; exact heap_alloc_new _ _
    exact (t0.block _ (by omega)).trans g
  have bW : Below w.heap.size w w0 := by rw [← hH]; exact bL
  have hsz : H < w0.heap.size := by omega
  have HH := Lib.hid hH
  have HW0 := Lib.hid hw0
  have BL := Lib.hid bL
  have BW := Lib.hid bW
  have QL := Lib.hid q0
  have G0 := Lib.hid g0
  clear hH hw0 q0 s0 t0 g0 bL bW
  have hr0 := hr.below BW.out
  have cb : w0.cell? ⟨H, 0, none⟩ = some (.int .i64 (b : Int)) := by rw [cell_of_row _ _ _ _ _ _ G0.out]; rfl
  by_cases h0 : zs = []
  · subst h0
    have IN := Index_none (.func (.func 77) #[] #[.pointer (some ⟨H, 0, none⟩)]) a cap w0
    have HIN := Lib.hid IN
    have HR := Lib.hid hr0
    clear IN hr0 hr cb hn
    go_enter Tryd.func52, Tryd.ntmps52
    go_wp2_with fail
    rw [← HH.out, ← HW0.out]
    refine HIN.out.mono ?_
    rintro e w' ⟨rfl, rfl⟩
    go_wp2_with fail
    go_ret2
    exact ⟨a, cap, none, 0, rfl, Nat.zero_le _, hcap, Nat.zero_le _, by decide, fun _ _ => .inl rfl, fun _ _ => .inl rfl, by rw [← HH.out]; exact BL.out⟩
  · have hl0 : 0 < zs.length := by cases zs with | nil => exact absurd rfl h0 | cons _ _ => simp
    have hvl : (vals zs).length = zs.length := by unfold vals; rw [List.length_map]
    have hcl := cellsE_length _ (vals_len zs)
    obtain ⟨g, o, rfl, hgl, hc⟩ := hr0.cell (k := 0) (by omega)
    have eg : ∀ args w, (callFunc 77 args).run Tryd.prog w = .ok (.enter 77 args) w := enters_of Tryd.func77 (by kernel_rfl) rfl
    have IC := AnyQ.slices_IndexFunc Lay.idxE 33 Tryd.isAgg35 Tryd.sizeOf35 encS encS_length (bitP b) 77 #[.pointer (some ⟨H, 0, none⟩)] eg g o zs.length cap zs w0
      (predH b H hb32 w0 (by have := QL.out; omega) cb) (Nat.le_refl _) (by omega) hgl (fun j hj i v hi => by
        rw [getElem!_pos zs j hj] at hi
        have hi2 : i < 33 := by have := (List.getElem?_eq_some_iff.1 hi).1; rwa [encS_length] at this
        have e1 := cellsE_get (vals zs) (vals_len zs) j i (by omega) hi2
        have e2 : (vals zs)[j]'(by omega) = zs[j].1 := by unfold vals; rw [List.getElem_map]
        rw [e2] at e1
        have hlt : j * 33 + i < (cellsE (vals zs)).length := by omega
        have := hc (j * 33 + i) hlt
        rw [show o + (j * 33 + i) = o + j * 33 + i by omega] at this
        rw [this]
        rw [List.getElem?_eq_getElem hlt] at e1
        rw [e1]; exact hi)
    change Calls Tryd.prog 76 _ _ _ at IC
    rw [List.take_of_length_le (Nat.le_refl _), idxBy, idx_take, Nat.zero_add] at IC
    obtain ⟨n1, hn1⟩ : ∃ n1, n1 = (zs.takeWhile fun x => !(bitP b x)).length := ⟨_, rfl⟩
    have ts := take_split (fun x => !(bitP b x)) zs
    rw [← hn1] at IC ts
    have hn1l : n1 ≤ zs.length := by rw [hn1]; exact (List.takeWhile_sublist _).length_le
    have HR := Lib.hid hr0
    have HTS := Lib.hid ts
    have HN1 := Lib.hid hn1
    by_cases hany : zs.any (bitP b) = true
    · rw [if_pos hany] at IC
      have HIC := Lib.hid IC
      have i0 : (0 : Int) ≤ (n1 : Int) := by omega
      have i1 : (n1 : Int) ≤ (cap : Int) := by omega
      have i2 : (n1 : Int) ≤ (zs.length : Int) := by omega
      have i3 : ¬ (n1 : Int) < 0 := by omega
      have i7 := any_lt (bitP b) zs hany
      rw [← hn1] at i7
      have i8 : n1 ≠ cap := by omega
      have i9 : (n1 : Int) ≠ (cap : Int) := by omega
      have j1 : (zs.dropWhile fun x => !(bitP b x)).length = zs.length - n1 := by rw [ts.2, List.length_drop]
      have J1 := Lib.hid j1
      clear j1
      have i4 : ((zs.length : Int) - (n1 : Int)).toNat = zs.length - n1 := by omega
      have i5 : ((cap : Int) - (n1 : Int)).toNat = cap - n1 := by omega
      clear IC hr0 hr cb hcl hvl hc hgl eg ts hn1 hany h0
      go_enter Tryd.func52, Tryd.ntmps52
      go_wp2_with fail
      rw [← HH.out, ← HW0.out]
      refine HIC.out.mono ?_
      rintro e w2 ⟨rfl, hb2⟩
      have B2 := Lib.hid (BL.out.trans (hb2.mono (by omega)))
      have HR2 := Lib.hid (HR.out.below hb2)
      clear hb2 HIC
      go_wp2_with fail
      go_quiet (fail)
      go_wp2
      go_ret2
      unfold HalvesRet
      rw [← HN1.out, J1.out]
      refine ⟨_, cap, _, cap - n1, rfl, by omega, hcap, by omega, by omega, fun v hv => ?_, fun v hv => ?_, by rw [← HH.out]; exact below_drewN B2.out _⟩
      · rw [HTS.out.1]
        have := hv.take (n1 * 33)
        rw [← cellsE_take _ _ (vals_len zs)] at this
        unfold vals at this ⊢
        rwa [← List.map_take] at this
      · rw [HTS.out.2]
        have := hv.drop (n1 * 33)
        rw [cellsE_drop _ _ (vals_len zs)] at this
        unfold vals at this ⊢
        rwa [← List.map_drop] at this
    · have hany2 : zs.any (bitP b) = false := by simpa using hany
      rw [if_neg hany] at IC
      obtain ⟨nd1, nd2⟩ := no_drop (bitP b) zs hany2
      have HIC := Lib.hid IC
      have ND1 := Lib.hid nd1
      have ND2 := Lib.hid nd2
      clear IC hr0 hr cb hcl hvl hc hgl eg ts hn1 hany h0 hany2 nd1 nd2
      go_enter Tryd.func52, Tryd.ntmps52
      go_wp2_with fail
      rw [← HH.out, ← HW0.out]
      refine HIC.out.mono ?_
      rintro e w2 ⟨rfl, hb2⟩
      have B2 := Lib.hid (BL.out.trans (hb2.mono (by omega)))
      have HR2 := Lib.hid (HR.out.below hb2)
      clear hb2 HIC
      go_wp2_with fail
      go_ret2
      unfold HalvesRet
      rw [ND1.out, ND2.out]
      exact ⟨_, cap, none, 0, rfl, hn, hcap, Nat.zero_le _, by decide, fun v hv => hv, fun _ _ => .inl rfl, by rw [← HH.out]; exact B2.out⟩
set_option maxRecDepth 20000 in
set_option maxHeartbeats 4000000 in
theorem Root_calls : ∀ (b : Nat), b ≤ 32 → ∀ (zs : List EnS) (a : Option Addr) (cap ea : Nat), zs.length ≤ cap → cap ≤ 9223372036854775807 → ∀ (w : World), Rd w a ea (cellsE (vals zs)) → RoundsAt w →
    Calls Tryd.prog 51 #[.slice a zs.length cap, .int .i64 (b : Int)] w fun e w' => e = .returned (.agg (dV (rootL b (vals zs)))) ∧ Below w.heap.size w w' := by
  intro b
  induction b with
  | zero =>
    intro _ zs a cap ea hn hcap w hr hro
    obtain ⟨Z, hZ⟩ : ∃ Z, Z = nz := ⟨_, rfl⟩
    have zl : Z.length = 32 := by rw [hZ]; rfl
    have zlit : (#[.int .u8 0, .int .u8 0, .int .u8 0, .int .u8 0, .int .u8 0, .int .u8 0, .int .u8 0, .int .u8 0, .int .u8 0, .int .u8 0, .int .u8 0, .int .u8 0, .int .u8 0, .int .u8 0, .int .u8 0, .int .u8 0, .int .u8 0, .int .u8 0, .int .u8 0, .int .u8 0, .int .u8 0, .int .u8 0, .int .u8 0, .int .u8 0, .int .u8 0, .int .u8 0, .int .u8 0, .int .u8 0, .int .u8 0, .int .u8 0, .int .u8 0, .int .u8 0] : Array Value) = dV Z := by rw [hZ]; exact zdig
    have ZL := Lib.hid zl
    have ZT := Lib.hid zlit
    have HZ := Lib.hid hZ
    clear zl zlit hZ
    obtain ⟨H, hH⟩ : ∃ H, H = w.heap.size := ⟨_, rfl⟩
    obtain ⟨w0, hw0⟩ : ∃ z, z = w.alloc (.cells (dV Z) 23) := ⟨_, rfl⟩
    have q0 : w0.heap.size = H + 1 := by rw [hw0, hH]; exact World.size_alloc _ _
    have s0 : Below (H) w w0 := by rw [hw0, hH]; exact (Below.refl _ _).alloc (Nat.le_refl _) _
    have t0 : Below (H + 1) w0 w0 := Below.refl _ _
    have bL : Below H w w0 := s0.trans (t0.mono (by omega))
    have g0 : w0.heap[H]? = some (.cells (dV Z) 23 (0, 0)) := by
      have g : w0.heap[H]? = some (.cells (dV Z) 23 (0, 0)) := by rw [hw0, hH]; exact heap_alloc_new _ _
      exact (t0.block _ (by omega)).trans g
    have bW : Below w.heap.size w w0 := by rw [← hH]; exact bL
    have hsz : H < w0.heap.size := by omega
    have HH := Lib.hid hH
    have HW0 := Lib.hid hw0
    have BL := Lib.hid bL
    have BW := Lib.hid bW
    have QL := Lib.hid q0
    have G0 := Lib.hid g0
    clear hH hw0 q0 s0 t0 g0 bL bW
    by_cases h0 : zs = []
    · have hl0 : zs.length = 0 := by rw [h0]; rfl
      have hl1 : ((zs.length : Int) == 0) = true := by rw [beq_iff_eq]; omega
      have hl2 : (zs.length == 0) = true := by rw [beq_iff_eq]; exact hl0
      have hz : rootL 0 (vals zs) = nz := by rw [h0]; rfl
      rw [hz, ← HZ.out]
      clear hz h0 hl0 hr hro
      go_enter Tryd.func51, Tryd.ntmps51
      go_upto_region 1 with fail
      rw [ZT.out, ← HH.out, ← HW0.out]
      go_wp2_with (first | (refine wpl_zero rfl rfl Z HZ.out ?_) | (refine st_row rfl (.tmp 4) (.tmp 12) rfl H Z ZL.out (by rfl) (by rfl) (dV Z) (dV_size ZL.out) _ G0.out ?_))
      try simp only [Exit.inBlock, Exit.then]
      refine bodyPost_ret (v := .agg (dV Z)) (results_cellW rfl _ _ _ ⟨H, 0, none⟩ _ rfl ?_) rfl ⟨rfl, by rw [← HH.out]; exact below_setRowW BL.out (Nat.le_refl _) _⟩
      exact dig_load ZL.out (range_of_row (setRow_heap _ _ _ (dV Z) _ _ G0.out))
    · obtain ⟨x, r, rfl⟩ : ∃ x r, zs = x :: r := by cases zs with | nil => exact absurd rfl h0 | cons x r => exact ⟨x, r, rfl⟩
      obtain ⟨g, o, rfl, hgl, hrg⟩ := hr.ent (vals_len _) (k := 0) (by unfold vals; simp)
      have hx : (vals (x :: r))[0]'(by unfold vals; simp) = x.1 := rfl
      rw [hx, Nat.zero_mul, Nat.add_zero] at hrg
      have hrg2 : w0.rangeAt g o (eL x.1) := range_low hrg BW.out hgl
      have hl1 : (((x :: r).length : Int) == 0) = false := by rw [beq_eq_false_iff_ne, List.length_cons]; omega
      have hl2 : (0 : Int) < ((x :: r).length : Int) := by rw [List.length_cons]; omega
      obtain ⟨k, hk⟩ : ∃ k : Nat, x.1.key = (k : Int) := ⟨x.1.key.toNat, by have := x.2.2.1; omega⟩
      have hk2 : k < 4294967296 := by have := x.2.2.2; omega
      have hz : rootL 0 (vals (x :: r)) = leafD k x.1.val := by
        show leafD x.1.key.toNat x.1.val = _
        rw [hk, Int.toNat_natCast]
      have LC := Leaf_calls k hk2 x.1.val x.2.1 w0 (hro.at_ BW.out)
      rw [← hk] at LC
      obtain ⟨L, hL⟩ : ∃ L, L = leafD k x.1.val := ⟨_, rfl⟩
      have ll : L.length = 32 := by rw [hL]; exact leafD_length _ _
      rw [← hL] at LC hz
      rw [hz]
      obtain ⟨n, hn9⟩ : ∃ n, n = (x :: r).length := ⟨_, rfl⟩
      rw [← hn9] at hl1 hl2 ⊢
      have HLC := Lib.hid LC
      have LL := Lib.hid ll
      have HRG := Lib.hid hrg2
      have X32 := Lib.hid x.2.1
      clear LC hL ll hz hn9 hrg hrg2 hx hgl hr hro hk h0 hn
      obtain ⟨E, hE⟩ : ∃ E, E = x.1 := ⟨_, rfl⟩
      rw [← hE] at HLC HRG X32
      clear hE
      go_enter Tryd.func51, Tryd.ntmps51
      go_upto_region 1 with fail
      rw [ZT.out, ← HH.out, ← HW0.out]
      go_wp2_with (first
        | ((refine ld_entG rfl (.tmp 17) rfl g o (by rfl) E X32.out HRG.out ?_); simp only [Act.put, List.setIfInBounds_toArray, List.set_cons_zero, List.set_cons_succ]))
      refine HLC.out.mono ?_
      rintro e w2 ⟨rfl, hb2⟩
      obtain ⟨w3, hw3⟩ : ∃ z, z = w2.alloc (.cells (dV L) 23) := ⟨_, rfl⟩
      obtain ⟨Y, hY⟩ : ∃ Y, Y = w2.heap.size := ⟨_, rfl⟩
      have b3 : Below w0.heap.size w0 w3 := by rw [hw3]; exact hb2.alloc hb2.size _
      have g3 : w3.heap[Y]? = some (.cells (dV L) 23 (0, 0)) := by rw [hw3, hY]; exact heap_alloc_new _ _
      have gz := (b3.block H hsz).trans G0.out
      have HW3 := Lib.hid hw3
      have HY := Lib.hid hY
      have G3 := Lib.hid g3
      have GZ := Lib.hid gz
      have B3 := Lib.hid (BL.out.trans (b3.mono (by omega)))
      clear hw3 hY b3 g3 gz hb2 HLC
      go_wp2_with (first
        | ((refine st_new rfl (.tmp 5) (.tmp 20) rfl L LL.out (by rfl) _ _ (by rfl) (by rfl) ?_); rw [← HY.out, ← HW3.out])
        | ((refine ld_digG rfl (.tmp 5) rfl (Y) 0 (by rfl) L LL.out (range_of_row G3.out) ?_); simp only [Act.put, List.setIfInBounds_toArray, List.set_cons_zero, List.set_cons_succ])
        | (refine st_row rfl (.tmp 4) (.tmp 22) rfl H L LL.out (by rfl) (by rfl) (dV Z) (dV_size ZL.out) _ GZ.out ?_))
      try simp only [Exit.inBlock, Exit.then]
      refine bodyPost_ret (v := .agg (dV L)) (results_cellW rfl _ _ _ ⟨H, 0, none⟩ _ rfl ?_) rfl ⟨rfl, by rw [← HH.out]; exact below_setRowW B3.out (Nat.le_refl _) _⟩
      exact dig_load LL.out (range_of_row (setRow_heap _ _ _ (dV L) _ _ GZ.out))
  | succ b ih =>
    intro hb32 zs a cap ea hn hcap w hr hro
    obtain ⟨Z, hZ⟩ : ∃ Z, Z = nz := ⟨_, rfl⟩
    have zl : Z.length = 32 := by rw [hZ]; rfl
    have zlit : (#[.int .u8 0, .int .u8 0, .int .u8 0, .int .u8 0, .int .u8 0, .int .u8 0, .int .u8 0, .int .u8 0, .int .u8 0, .int .u8 0, .int .u8 0, .int .u8 0, .int .u8 0, .int .u8 0, .int .u8 0, .int .u8 0, .int .u8 0, .int .u8 0, .int .u8 0, .int .u8 0, .int .u8 0, .int .u8 0, .int .u8 0, .int .u8 0, .int .u8 0, .int .u8 0, .int .u8 0, .int .u8 0, .int .u8 0, .int .u8 0, .int .u8 0, .int .u8 0] : Array Value) = dV Z := by rw [hZ]; exact zdig
    have ZL := Lib.hid zl
    have ZT := Lib.hid zlit
    have HZ := Lib.hid hZ
    clear zl zlit hZ
    obtain ⟨H, hH⟩ : ∃ H, H = w.heap.size := ⟨_, rfl⟩
    obtain ⟨w0, hw0⟩ : ∃ z, z = w.alloc (.cells (dV Z) 23) := ⟨_, rfl⟩
    have q0 : w0.heap.size = H + 1 := by rw [hw0, hH]; exact World.size_alloc _ _
    have s0 : Below (H) w w0 := by rw [hw0, hH]; exact (Below.refl _ _).alloc (Nat.le_refl _) _
    have t0 : Below (H + 1) w0 w0 := Below.refl _ _
    have bL : Below H w w0 := s0.trans (t0.mono (by omega))
    have g0 : w0.heap[H]? = some (.cells (dV Z) 23 (0, 0)) := by
      have g : w0.heap[H]? = some (.cells (dV Z) 23 (0, 0)) := by rw [hw0, hH]; exact heap_alloc_new _ _
      exact (t0.block _ (by omega)).trans g
    have bW : Below w.heap.size w w0 := by rw [← hH]; exact bL
    have hsz : H < w0.heap.size := by omega
    have HH := Lib.hid hH
    have HW0 := Lib.hid hw0
    have BL := Lib.hid bL
    have BW := Lib.hid bW
    have QL := Lib.hid q0
    have G0 := Lib.hid g0
    clear hH hw0 q0 s0 t0 g0 bL bW
    by_cases h0 : zs = []
    · have hl0 : zs.length = 0 := by rw [h0]; rfl
      have hl1 : ((zs.length : Int) == 0) = true := by rw [beq_iff_eq]; omega
      have hl2 : (zs.length == 0) = true := by rw [beq_iff_eq]; exact hl0
      have hz : rootL (b + 1) (vals zs) = nz := by rw [h0]; rfl
      rw [hz, ← HZ.out]
      clear hz h0 hl0 ih hr hro
      go_enter Tryd.func51, Tryd.ntmps51
      go_upto_region 1 with fail
      rw [ZT.out, ← HH.out, ← HW0.out]
      go_wp2_with (first | (refine wpl_zero rfl rfl Z HZ.out ?_) | (refine st_row rfl (.tmp 4) (.tmp 12) rfl H Z ZL.out (by rfl) (by rfl) (dV Z) (dV_size ZL.out) _ G0.out ?_))
      try simp only [Exit.inBlock, Exit.then]
      refine bodyPost_ret (v := .agg (dV Z)) (results_cellW rfl _ _ _ ⟨H, 0, none⟩ _ rfl ?_) rfl ⟨rfl, by rw [← HH.out]; exact below_setRowW BL.out (Nat.le_refl _) _⟩
      exact dig_load ZL.out (range_of_row (setRow_heap _ _ _ (dV Z) _ _ G0.out))
    · have hl0 : zs.length ≠ 0 := by intro h; exact h0 (List.length_eq_zero_iff.1 h)
      have hl1 : ((zs.length : Int) == 0) = false := by rw [beq_eq_false_iff_ne]; omega
      have hb1 : (((b : Int) + 1) == 0) = false := by rw [beq_eq_false_iff_ne]; omega
      have hb2 : IntKind.i64.wrap ((b : Int) + 1 - 1) = (b : Int) := by rw [show (b : Int) + 1 - 1 = (b : Int) by omega]; exact IntWalk.i64_in _ (by omega)
      have hz : rootL (b + 1) (vals zs) = nodeD (rootL b (vals (zs.takeWhile fun x => !(bitP b x)))) (rootL b (vals (zs.dropWhile fun x => !(bitP b x)))) := by
        obtain ⟨v1, v2⟩ := vals_take zs (fun e => !(bitE b e))
        rw [show (fun x : EnS => !(bitP b x)) = (fun x : EnS => !(bitE b x.1)) from rfl, v1, v2]
        cases hv : vals zs with
        | nil => cases zs with
          | nil => exact absurd rfl h0
          | cons x r => unfold vals at hv; simp at hv
        | cons e r => exact rootL_succ b e r
      have HC := Halves_calls b (by omega) zs a cap ea hn hcap w0 (hr.below BW.out)
      have hrl : ∀ l, (rootL b (vals l)).length = 32 := fun l => by
        cases b <;> (cases hv : vals l <;> first | rfl | exact leafD_length _ _ | exact nodeD_length _ _)
      have ro0 : RoundsAt w0 := hro.at_ BW.out
      obtain ⟨L1, hL1⟩ : ∃ L, L = zs.takeWhile fun x => !(bitP b x) := ⟨_, rfl⟩
      obtain ⟨L2, hL2⟩ : ∃ L, L = zs.dropWhile fun x => !(bitP b x) := ⟨_, rfl⟩
      unfold HalvesRet at HC
      rw [← hL1, ← hL2] at HC hz
      have hRL1 := hrl L1
      have hRL2 := hrl L2
      obtain ⟨R1, hR1⟩ : ∃ R, R = rootL b (vals L1) := ⟨_, rfl⟩
      obtain ⟨R2, hR2⟩ : ∃ R, R = rootL b (vals L2) := ⟨_, rfl⟩
      have ih1 := ih (by omega) L1
      have ih2 := ih (by omega) L2
      rw [← hR1] at hz hRL1 ih1
      rw [← hR2] at hz hRL2 ih2
      obtain ⟨N, hN⟩ : ∃ N, N = nodeD R1 R2 := ⟨_, rfl⟩
      have nl : N.length = 32 := by rw [hN]; exact nodeD_length _ _
      rw [hz, ← hN]
      rw [Int.natCast_add, show ((1 : Nat) : Int) = 1 from rfl]
      have HHC := Lib.hid HC
      have RW := Lib.hid (hr.below BW.out)
      have RO := Lib.hid ro0
      have N1 := Lib.hid hRL1
      have N2 := Lib.hid hRL2
      have HNN := Lib.hid hN
      have NL := Lib.hid nl
      have IH1 := Lib.hid ih1
      have IH2 := Lib.hid ih2
      clear HC hz ro0 hRL1 hRL2 hN nl ih1 ih2 ih hr hro hrl hL1 hL2 hR1 hR2 h0 hl0
      go_enter Tryd.func51, Tryd.ntmps51
      go_upto_region 1 with fail
      rw [ZT.out, ← HH.out, ← HW0.out]
      go_wp2_with fail
      refine HHC.out.mono ?_
      rintro e w2 ⟨a1, c1, a2, c2, rfl, hn1, hc1, hn2, hc2, f1, f2, hb2⟩
      have r1 := f1 _ (RW.out.below hb2)
      have r2 := f2 _ (RW.out.below hb2)
      have C1 := Lib.hid (IH1.out a1 c1 ea hn1 hc1 w2 r1 (RO.out.at_ hb2))
      have R2 := Lib.hid r2
      have RO2 := Lib.hid (RO.out.at_ hb2)
      have B2 := Lib.hid hb2
      have HN2 := Lib.hid (And.intro hn2 hc2)
      clear r1 r2 f1 f2 hb2 HHC hn1 hc1 hn2 hc2
      go_wp2_with fail
      refine C1.out.mono ?_
      rintro e w3 ⟨rfl, hb3⟩
      have C2 := Lib.hid (IH2.out a2 c2 ea HN2.out.1 HN2.out.2 w3 (R2.out.below hb3) (RO2.out.at_ hb3))
      have RO3 := Lib.hid (RO2.out.at_ hb3)
      have B3 := Lib.hid (B2.out.trans (hb3.mono B2.out.size))
      clear hb3 C1
      go_wp2_with fail
      refine C2.out.mono ?_
      rintro e w4 ⟨rfl, hb4⟩
      have C3 := Lib.hid (Node_calls _ _ N1.out N2.out w4 (RO3.out.at_ hb4))
      have B4 := Lib.hid (B3.out.trans (hb4.mono B3.out.size))
      clear hb4 C2
      go_wp2_with fail
      refine C3.out.mono ?_
      rintro e w5 ⟨rfl, hb5⟩
      have b5 := B4.out.trans (hb5.mono B4.out.size)
      have G5 := Lib.hid ((b5.block H hsz).trans G0.out)
      have B5 := Lib.hid (BL.out.trans (b5.mono (by omega)))
      clear hb5 C3 b5
      rw [← HNN.out]
      go_wp2_with (refine st_row rfl (.tmp 4) (.tmp 38) rfl H N NL.out (by rfl) (by rfl) (dV Z) (dV_size ZL.out) _ G5.out ?_)
      try simp only [Exit.inBlock, Exit.then]
      refine bodyPost_ret (v := .agg (dV N)) (results_cellW rfl _ _ _ ⟨H, 0, none⟩ _ rfl ?_) rfl ⟨rfl, by rw [← HH.out]; exact below_setRowW B5.out (Nat.le_refl _) _⟩
      exact dig_load NL.out (range_of_row (setRow_heap _ _ _ (dV N) _ _ G5.out))
end Go.Proofs.YtpeomfehdccmmaaDoor
