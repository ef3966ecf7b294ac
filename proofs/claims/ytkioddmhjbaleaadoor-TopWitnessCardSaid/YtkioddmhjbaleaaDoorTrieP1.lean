/- TrieP1: texts of TrieFold, TrieFold2, TrieLeaf, EntMem, as far as this seat has their functions. -/
import Derived.Test.YtkioddmhjbaleaaDoorTrieNode
namespace Go.Proofs.YtkioddmhjbaleaaDoor
open Go.RowKit
set_option linter.unusedVariables false
set_option linter.unusedSimpArgs false

def KeyOk (k : Int) : Prop := 0 ≤ k ∧ k < 4294967296
instance (k : Int) : Decidable (KeyOk k) := by unfold KeyOk; infer_instance
theorem Key_calls (k : Int) (w : World) : Calls Tryd.prog 130 #[.int .i64 k] w fun e w' => e = .returned (.bool (decide (KeyOk k))) ∧ w = w' := by
  by_cases h1 : 0 ≤ k
  · by_cases h2 : k < 4294967296
    · rw [decide_eq_true (show KeyOk k from ⟨h1, h2⟩)]
      have z1 : decide (0 ≤ k) = true := decide_eq_true h1
      have z2 : decide (k < 4294967296) = true := decide_eq_true h2
      go_enter Tryd.func130, Tryd.ntmps130
      go_wp2_with fail
      go_ret
      exact ⟨rfl, rfl⟩
    · rw [decide_eq_false (show ¬ KeyOk k from fun h => h2 h.2)]
      have z1 : decide (0 ≤ k) = true := decide_eq_true h1
      have z2 : decide (k < 4294967296) = false := decide_eq_false h2
      go_enter Tryd.func130, Tryd.ntmps130
      go_wp2_with fail
      go_ret
      exact ⟨rfl, rfl⟩
  · rw [decide_eq_false (show ¬ KeyOk k from fun h => h1 h.1)]
    have z1 : decide (0 ≤ k) = false := decide_eq_false h1
    go_enter Tryd.func130, Tryd.ntmps130
    go_wp2_with fail
    go_ret
    exact ⟨rfl, rfl⟩
end Go.Proofs.YtkioddmhjbaleaaDoor

namespace Go.Proofs.YtkioddmhjbaleaaDoor
open Go.RowKit
set_option linter.unusedVariables false
set_option linter.unusedSimpArgs false
theorem shr_bit (k j : Nat) : (k : Int) / 2 ^ j = ((k / 2 ^ j : Nat) : Int) := by norm_cast
theorem and_one (x : Nat) (h : x < 9223372036854775808) : bits .and .i64 (x : Int) 1 = ((x % 2 : Nat) : Int) := by
  show IntKind.i64.wrap ((BitVec.ofInt 64 (x : Int) &&& BitVec.ofInt 64 1).toNat : Int) = _
  rw [BitVec.toNat_and, BitVec.ofInt_natCast, show BitVec.ofInt 64 1 = BitVec.ofNat 64 1 from rfl, BitVec.toNat_ofNat, BitVec.toNat_ofNat, Nat.mod_eq_of_lt (by omega), show 1 % 2 ^ 64 = 2 ^ 1 - 1 by decide, Nat.and_two_pow_sub_one_eq_mod]
  exact IntWalk.i64_in _ (by omega)
theorem foldD_length (k : Nat) : ∀ (ps : List (List UInt8)) (l : List UInt8), l.length = 32 → (foldD k l ps).length = 32 := by
  intro ps
  induction ps generalizing k with
  | nil => intro l h; exact h
  | cons p ps ih => intro l h; rw [foldD]; refine ih _ _ ?_; split <;> exact nodeD_length _ _
theorem foldD_take (k : Nat) (l : List UInt8) (ps : List (List UInt8)) (j : Nat) (h : j < ps.length) : foldD k l (ps.take (j + 1)) = if k / 2 ^ j % 2 = 1 then nodeD ps[j] (foldD k l (ps.take j)) else nodeD (foldD k l (ps.take j)) ps[j] := by
  rw [List.take_succ_eq_append_getElem h, foldD_snoc, List.length_take, Nat.min_eq_left (by omega)]
end Go.Proofs.YtkioddmhjbaleaaDoor

namespace Go.Proofs.YtkioddmhjbaleaaDoor
open Go.RowKit
set_option linter.unusedVariables false
set_option linter.unusedSimpArgs false
/-- an entry as a value -/
def eV (k : Int) (v : List UInt8) : Array Value := (.int .i64 k :: v.map vB).toArray
theorem eV_size (k : Int) (v : List UInt8) (h : v.length = 32) : (eV k v).size = 33 := by simp [eV, h]
theorem eV_key {w : World} {g : Nat} {k : Int} {v : List UInt8} {t : TypeId} {fr : Nat × Nat} (h : w.heap[g]? = some (.cells (eV k v) t fr)) : w.cell? ⟨g, 0, none⟩ = some (.int .i64 k) := by
  rw [cell_of_row _ _ _ _ _ _ h]; rfl
theorem eV_val {w : World} {g : Nat} {k : Int} {v : List UInt8} {t : TypeId} {fr : Nat × Nat} (h : w.heap[g]? = some (.cells (eV k v) t fr)) : Rd w (some ⟨g, 1, none⟩) t (v.map vB) := by
  refine .inr ⟨g, 1, eV k v, fr, rfl, h, fun i hi => ?_⟩
  have hi2 : i < v.length := by simpa using hi
  simp [eV, Nat.add_comm 1 i, hi2]
theorem eV_range {w : World} {g : Nat} {k : Int} {v : List UInt8} {t : TypeId} {fr : Nat × Nat} (h : w.heap[g]? = some (.cells (eV k v) t fr)) : w.rangeAt g 1 (v.map vB) := by
  intro j u hj
  rw [cell_of_row w g (1 + j) _ t fr h]
  have hj2 : j < v.length := by have := (List.getElem?_eq_some_iff.1 hj).1; simpa using this
  rw [List.getElem?_eq_getElem (by simpa using hj2)] at hj
  simp [eV, Nat.add_comm 1 j, hj2] at hj ⊢
  exact hj
theorem be4T (k : Nat) : beS 4 k = [UInt8.ofNat (k / 2 ^ 24), UInt8.ofNat (k / 2 ^ 16), UInt8.ofNat (k / 2 ^ 8), UInt8.ofNat k] := by
  simp [beS, beB, List.range, List.range.loop]
theorem key_lit (k : Nat) (hk : k < 4294967296) : (#[.int .u8 9, .int .u8 ((k : Int) / 16777216), .int .u8 ((k : Int) / 65536 % 256), .int .u8 ((k : Int) / 256 % 256), .int .u8 ((k : Int) % 256)] : Array Value) = (((9 : UInt8) :: beS 4 k).map vB).toArray := by
  rw [be4T]
  simp only [List.map_cons, List.map_nil, vB, UInt8.toNat_ofNat']
  have e1 : ((k / 2 ^ 24 % 2 ^ 8 : Nat) : Int) = (k : Int) / 16777216 := by omega
  have e2 : ((k / 2 ^ 16 % 2 ^ 8 : Nat) : Int) = (k : Int) / 65536 % 256 := by omega
  have e3 : ((k / 2 ^ 8 % 2 ^ 8 : Nat) : Int) = (k : Int) / 256 % 256 := by omega
  have e4 : ((k % 2 ^ 8 : Nat) : Int) = (k : Int) % 256 := by omega
  rw [e1, e2, e3, e4]
  rfl
theorem own_leaf (k : Nat) (hk : k < 4294967296) (w : World) : (w.alloc (.cells (((9 : UInt8) :: beS 4 k).map vB).toArray 5)).ownsRow w.heap.size 5 1 (.slice (some ⟨w.heap.size, 0, none⟩) 5 5) 5 (((9 : UInt8) :: beS 4 k).map vB) := by
  have h := World.ownsRow_lit (base := w.heap.size) (e := 5) (size := 1) w (((9 : UInt8) :: beS 4 k).map vB).toArray 5 (Nat.le_refl _) (by simp only [maxLen]; decide) (by simp [beS_length])
  exact h
set_option maxRecDepth 20000 in
set_option maxHeartbeats 4000000 in
theorem Leaf_bad (k : Int) (hk : ¬ KeyOk k) (v : List UInt8) (w : World) :
    Calls Tryd.prog 149 #[.agg (eV k v)] w fun e w' => e = .returned (.tuple #[.agg (dV nz), .iface 41 (.int .i64 2)]) ∧ Below w.heap.size w w' := by
  obtain ⟨Z, hZ⟩ : ∃ Z, Z = nz := ⟨_, rfl⟩
  have zl : Z.length = 32 := by rw [hZ]; rfl
  have zlit : (#[.int .u8 0, .int .u8 0, .int .u8 0, .int .u8 0, .int .u8 0, .int .u8 0, .int .u8 0, .int .u8 0, .int .u8 0, .int .u8 0, .int .u8 0, .int .u8 0, .int .u8 0, .int .u8 0, .int .u8 0, .int .u8 0, .int .u8 0, .int .u8 0, .int .u8 0, .int .u8 0, .int .u8 0, .int .u8 0, .int .u8 0, .int .u8 0, .int .u8 0, .int .u8 0, .int .u8 0, .int .u8 0, .int .u8 0, .int .u8 0, .int .u8 0, .int .u8 0] : Array Value) = dV Z := by rw [hZ]; exact zdig
  have ZL := Lib.hid zl
  have ZT := Lib.hid zlit
  have HZ := Lib.hid hZ
  clear zl zlit hZ
  obtain ⟨H, hH⟩ : ∃ H, H = w.heap.size := ⟨_, rfl⟩
  obtain ⟨w0, hw0⟩ : ∃ z, z = w.alloc (.cells (eV k v) 200) := ⟨_, rfl⟩
  obtain ⟨w1, hw1⟩ : ∃ z, z = w0.alloc (.cells (dV Z) 23) := ⟨_, rfl⟩
  have q0 : w0.heap.size = H + 1 := by rw [hw0, hH]; exact World.size_alloc _ _
  have q1 : w1.heap.size = H + 1 + 1 := by rw [hw1, World.size_alloc, q0]
  have s0 : Below (H) w w0 := by rw [hw0, hH]; exact (Below.refl _ _).alloc (Nat.le_refl _) _
  have s1 : Below (H + 1) w0 w1 := by rw [hw1, ← q0]; exact (Below.refl _ _).alloc (Nat.le_refl _) _
  have t1 : Below (H + 1 + 1) w1 w1 := Below.refl _ _
  have t0 : Below (H + 1) w0 w1 := s1.trans (t1.mono (by omega))
  have bL : Below H w w1 := s0.trans (t0.mono (by omega))
  have g0 : w1.heap[H]? = some (.cells (eV k v) 200 (0, 0)) := by
    have g : w0.heap[H]? = some (.cells (eV k v) 200 (0, 0)) := by rw [hw0, hH]; exact heap_alloc_new _ _
    exact (t0.block _ (by omega)).trans g
  have g1 : w1.heap[H + 1]? = some (.cells (dV Z) 23 (0, 0)) := by
    have g : w1.heap[H + 1]? = some (.cells (dV Z) 23 (0, 0)) := by rw [hw1, ← q0]; exact heap_alloc_new _ _
    exact (t1.block _ (by omega)).trans g
  have bW : Below w.heap.size w w1 := by rw [← hH]; exact bL
  have hsz : H + 1 < w1.heap.size := by omega
  have HH := Lib.hid hH
  have HW0 := Lib.hid hw0
  have HW1 := Lib.hid hw1
  have BL := Lib.hid bL
  have BW := Lib.hid bW
  have QL := Lib.hid q1
  have G0 := Lib.hid g0
  have G1 := Lib.hid g1
  clear hH hw0 hw1 q0 q1 s0 s1 t0 t1 g0 g1 bL bW
  have kk := Key_calls k w1
  rw [decide_eq_false hk] at kk
  have c0 := eV_key G0.out
  have KK := Lib.hid kk
  clear kk hk
  go_enter Tryd.func149, Tryd.ntmps149
  go_upto_region 1 with fail
  rw [ZT.out, ← HH.out, ← HW0.out, ← HW1.out]
  go_wp2_with (first | (go_at_call 130; refine KK.out.mono ?_; rintro e w' ⟨rfl, rfl⟩) | (refine wpl_zero rfl rfl Z HZ.out ?_) | (refine st_row rfl (.tmp 2) (.tmp 9) rfl (H + 1) Z ZL.out (by rfl) (by rfl) (dV Z) (dV_size ZL.out) _ G1.out ?_))
  try simp only [Exit.inBlock, Exit.then]
  refine bodyPost_ret (results_cell_tmp rfl _ _ _ ⟨H + 1, 0, none⟩ (.agg (dV Z)) rfl ?_) rfl ⟨by rw [← HZ.out]; rfl, by rw [← HH.out]; exact below_setRowW BL.out (by omega) _⟩
  exact dig_load ZL.out (range_of_row (setRow_heap _ _ _ (dV Z) _ _ G1.out))
set_option maxRecDepth 20000 in
set_option maxHeartbeats 4000000 in
theorem Leaf_calls (k : Nat) (hk : k < 4294967296) (v : List UInt8) (hv : v.length = 32) (w : World) (hro : RoundsAt w) :
    Calls Tryd.prog 149 #[.agg (eV (k : Int) v)] w fun e w' => e = .returned (.tuple #[.agg (dV (leafD k v)), .nilIface]) ∧ Below w.heap.size w w' := by
  obtain ⟨Z, hZ⟩ : ∃ Z, Z = nz := ⟨_, rfl⟩
  have zl : Z.length = 32 := by rw [hZ]; rfl
  have zlit : (#[.int .u8 0, .int .u8 0, .int .u8 0, .int .u8 0, .int .u8 0, .int .u8 0, .int .u8 0, .int .u8 0, .int .u8 0, .int .u8 0, .int .u8 0, .int .u8 0, .int .u8 0, .int .u8 0, .int .u8 0, .int .u8 0, .int .u8 0, .int .u8 0, .int .u8 0, .int .u8 0, .int .u8 0, .int .u8 0, .int .u8 0, .int .u8 0, .int .u8 0, .int .u8 0, .int .u8 0, .int .u8 0, .int .u8 0, .int .u8 0, .int .u8 0, .int .u8 0] : Array Value) = dV Z := by rw [hZ]; exact zdig
  have ZL := Lib.hid zl
  have ZT := Lib.hid zlit
  have HZ := Lib.hid hZ
  clear zl zlit hZ
  obtain ⟨H, hH⟩ : ∃ H, H = w.heap.size := ⟨_, rfl⟩
  obtain ⟨w0, hw0⟩ : ∃ z, z = w.alloc (.cells (eV (k : Int) v) 200) := ⟨_, rfl⟩
  obtain ⟨w1, hw1⟩ : ∃ z, z = w0.alloc (.cells (dV Z) 23) := ⟨_, rfl⟩
  have q0 : w0.heap.size = H + 1 := by rw [hw0, hH]; exact World.size_alloc _ _
  have q1 : w1.heap.size = H + 1 + 1 := by rw [hw1, World.size_alloc, q0]
  have s0 : Below (H) w w0 := by rw [hw0, hH]; exact (Below.refl _ _).alloc (Nat.le_refl _) _
  have s1 : Below (H + 1) w0 w1 := by rw [hw1, ← q0]; exact (Below.refl _ _).alloc (Nat.le_refl _) _
  have t1 : Below (H + 1 + 1) w1 w1 := Below.refl _ _
  have t0 : Below (H + 1) w0 w1 := s1.trans (t1.mono (by omega))
  have bL : Below H w w1 := s0.trans (t0.mono (by omega))
  have g0 : w1.heap[H]? = some (.cells (eV (k : Int) v) 200 (0, 0)) := by
    have g : w0.heap[H]? = some (.cells (eV (k : Int) v) 200 (0, 0)) := by rw [hw0, hH]; exact heap_alloc_new _ _
    exact (t0.block _ (by omega)).trans g
  have g1 : w1.heap[H + 1]? = some (.cells (dV Z) 23 (0, 0)) := by
    have g : w1.heap[H + 1]? = some (.cells (dV Z) 23 (0, 0)) := by rw [hw1, ← q0]; exact heap_alloc_new _ _
    exact (t1.block _ (by omega)).trans g
  have bW : Below w.heap.size w w1 := by rw [← hH]; exact bL
  have hsz : H + 1 < w1.heap.size := by omega
  have HH := Lib.hid hH
  have HW0 := Lib.hid hw0
  have HW1 := Lib.hid hw1
  have BL := Lib.hid bL
  have BW := Lib.hid bW
  have QL := Lib.hid q1
  have G0 := Lib.hid g0
  have G1 := Lib.hid g1
  clear hH hw0 hw1 q0 q1 s0 s1 t0 t1 g0 g1 bL bW
  have kk := Key_calls (k : Int) w1
  rw [decide_eq_true (show KeyOk (k : Int) from ⟨by omega, by omega⟩)] at kk
  have c0 := eV_key G0.out
  have KK := Lib.hid kk
  have RO := Lib.hid (hro.at_ BW.out)
  have HV := Lib.hid hv
  clear kk hro hv
  go_enter Tryd.func149, Tryd.ntmps149
  go_upto_region 1 with fail
  rw [ZT.out, ← HH.out, ← HW0.out, ← HW1.out]
  go_upto_region 4 with (go_at_call 130; refine KK.out.mono ?_; rintro e w' ⟨rfl, rfl⟩)
  have o1 := own_leaf k hk w1
  rw [key_lit k hk]
  have HO := Lib.hid o1
  obtain ⟨w4, hw4⟩ : ∃ z, z = w1.alloc (.cells (((9 : UInt8) :: beS 4 k).map vB).toArray 5) := ⟨_, rfl⟩
  have b4 : Below w1.heap.size w1 w4 := by rw [hw4]; exact (Below.refl _ _).alloc (Nat.le_refl _) _
  have o4 : w4.ownsRow w1.heap.size 5 1 (.slice (some ⟨w1.heap.size, 0, none⟩) 5 5) 5 (((9 : UInt8) :: beS 4 k).map vB) := by rw [hw4]; exact o1
  have rv := eV_val ((b4.block _ (by omega)).trans G0.out)
  rw [← hw4]
  have O4 := Lib.hid o4
  have B4 := Lib.hid b4
  have RV := Lib.hid rv
  have hs4 := b4.size
  clear o1 hw4 b4 o4 rv KK c0 HO
  go_wp2_with (at_builtin; refine appAllw 67 5 (.int .u8 0) 1 1 Tryd.underlying67 info_byte rfl (by omega) rfl (.tmp 27) (.tmp 29) (by rfl) w1.heap.size _ 5 _ (by rfl) O4.out (some ⟨H, 1, none⟩) 32 32 (v.map vB) (by rfl) _ RV.out (by rw [List.length_map]; exact HV.out) (one_bytes v) (by omega) (by omega) hs4 ?_; intro av3 cp3 w3 hown3 hb3; rw [← List.map_append, List.cons_append] at hown3; have O3 := Lib.hid hown3; have B3 := Lib.hid (B4.out.trans hb3); clear hown3 hb3)
  have hlen := leafTxt_length k v HV.out
  have SC := Sha_calls (leafTxt k v) av3 cp3 _ w3 (Rd.of_own O3.out) (by rw [hlen]; omega) (RO.out.at_ B3.out) (RO.out.at_ B3.out).lt
  rw [hlen] at SC
  have HSC := Lib.hid SC
  have G3 := Lib.hid ((B3.out.block _ hsz).trans G1.out)
  have hs3 := B3.out.size
  clear SC hlen O3 O4 B4 RV
  refine HSC.out.mono ?_
  rintro e w5 ⟨rfl, hb5⟩
  have G5 := Lib.hid ((hb5.block _ (by omega)).trans G3.out)
  have B5 := Lib.hid (BL.out.trans ((B3.out.trans (hb5.mono hs3)).mono (by omega)))
  clear hb5 HSC
  rw [show shaOf (leafTxt k v) = leafD k v from rfl]
  go_wp2_with (refine st_row rfl (.tmp 2) (.tmp 31) rfl (H + 1) (leafD k v) (leafD_length k v) (by rfl) (by rfl) (dV Z) (dV_size ZL.out) _ G5.out ?_)
  try simp only [Exit.inBlock, Exit.then]
  refine bodyPost_ret (results_cell_tmp rfl _ _ _ ⟨H + 1, 0, none⟩ (.agg (dV (leafD k v))) rfl ?_) rfl ⟨rfl, by rw [← HH.out]; exact below_setRowW B5.out (by omega) _⟩
  exact dig_load (leafD_length k v) (range_of_row (setRow_heap _ _ _ _ _ _ G5.out))
end Go.Proofs.YtkioddmhjbaleaaDoor

namespace Go.Proofs.YtkioddmhjbaleaaDoor
open Go.RowKit Go.ChangeShapes Go.WideShapes Go.ChangeAt
set_option linter.unusedVariables false
instance : Inhabited En := ⟨⟨0, []⟩⟩
/-- the cells of an entry -/
def eL (e : En) : List Value := .int .i64 e.key :: e.val.map vB
/-- an entry that a value can be -/
def EnW (e : En) : Prop := e.val.length = 32 ∧ -9223372036854775808 ≤ e.key ∧ e.key ≤ 9223372036854775807
def cellsE (es : List En) : List Value := es.flatMap eL
theorem eL_length {e : En} (h : e.val.length = 32) : (eL e).length = 33 := by simp [eL, h]
theorem eL_array (e : En) : (eL e).toArray = eV e.key e.val := rfl
theorem eV_list (e : En) : (eV e.key e.val).toList = eL e := rfl
theorem eL_0 (e : En) : (eL e)[0]? = some (.int .i64 e.key) := rfl
theorem eL_one (e : En) : ∀ u ∈ eL e, u.oneCell' = true := by
  intro u hu
  rcases List.mem_cons.1 hu with rfl | hu
  · rfl
  · exact one_bytes _ u hu
theorem eV_one (e : En) : (eV e.key e.val).all (·.oneCell') = true := all_oneCell_toArray (eL_one e)
theorem cellsE_cons (e : En) (b : List En) : cellsE (e :: b) = eL e ++ cellsE b := rfl
theorem cellsE_append (a b : List En) : cellsE (a ++ b) = cellsE a ++ cellsE b := by unfold cellsE; rw [List.flatMap_append]
theorem cellsE_one (e : En) : cellsE [e] = eL e := by rw [cellsE_cons]; simp [cellsE]
theorem cellsE_length : ∀ b : List En, (∀ e ∈ b, e.val.length = 32) → (cellsE b).length = b.length * 33 := by
  intro b
  induction b with
  | nil => intro _; rfl
  | cons e b ih =>
    intro h
    rw [cellsE_cons, List.length_append, eL_length (h e (List.mem_cons_self ..)), ih (fun d hd => h d (List.mem_cons_of_mem _ hd)), List.length_cons]
    omega
theorem cellsE_drop : ∀ (b : List En) (k : Nat), (∀ e ∈ b, e.val.length = 32) → (cellsE b).drop (k * 33) = cellsE (b.drop k) := by
  intro b
  induction b with
  | nil => intro k _; simp [cellsE]
  | cons e b ih =>
    intro k h
    cases k with
    | zero => simp
    | succ k =>
      have hl := eL_length (h e (List.mem_cons_self ..))
      rw [cellsE_cons, List.drop_succ_cons, ← ih k (fun d hd => h d (List.mem_cons_of_mem _ hd))]
      rw [List.drop_append, hl, List.drop_eq_nil_of_le (by omega), List.nil_append]
      congr 1
      omega
theorem cellsE_take (b : List En) (k : Nat) (h : ∀ e ∈ b, e.val.length = 32) : cellsE (b.take k) = (cellsE b).take (k * 33) := by
  by_cases hk : k ≤ b.length
  · have h1 := cellsE_append (b.take k) (b.drop k)
    rw [List.take_append_drop] at h1
    have h2 := cellsE_length (b.take k) (fun e he => h e (List.mem_of_mem_take he))
    rw [List.length_take, Nat.min_eq_left hk] at h2
    rw [h1, List.take_append_of_le_length (show k * 33 ≤ (cellsE (b.take k)).length by omega), List.take_of_length_le (show (cellsE (b.take k)).length ≤ k * 33 by omega)]
  · rw [List.take_of_length_le (by omega), List.take_of_length_le (by rw [cellsE_length b h]; omega)]
theorem cellsE_one_all (b : List En) : ∀ u ∈ cellsE b, u.oneCell' = true := by
  intro u hu
  unfold cellsE at hu
  obtain ⟨e, _, hc⟩ := List.mem_flatMap.1 hu
  exact eL_one e u hc
theorem cellsE_get (b : List En) (h : ∀ e ∈ b, e.val.length = 32) (k j : Nat) (hk : k < b.length) (hj : j < 33) : (cellsE b)[k * 33 + j]? = (eL b[k])[j]? := by
  have e3 : ((cellsE b).drop (k * 33))[j]? = (cellsE b)[k * 33 + j]? := by rw [List.getElem?_drop]
  rw [← e3, cellsE_drop b k h, List.drop_eq_getElem_cons hk, cellsE_cons, List.getElem?_append_left (by rw [eL_length (h _ (List.getElem_mem _))]; exact hj)]
/-- the cells of one entry of a list that is read -/
theorem Rd.ent {w : World} {a : Option Addr} {e : TypeId} {b : List En} (h : Rd w a e (cellsE b)) (hw : ∀ e ∈ b, e.val.length = 32) {k : Nat} (hk : k < b.length) :
    ∃ B o, a = some ⟨B, o, none⟩ ∧ B < w.heap.size ∧ w.rangeAt B (o + k * 33) (eL b[k]) := by
  have hl := cellsE_length b hw
  have hlt : k * 33 < (cellsE b).length := by omega
  obtain ⟨B, o, ha, hB, hc⟩ := h.cell hlt
  refine ⟨B, o, ha, hB, fun j v hj => ?_⟩
  have hj34 : j < 33 := by
    have := (List.getElem?_eq_some_iff.1 hj).1
    rwa [eL_length (hw _ (List.getElem_mem _))] at this
  have hlt2 : k * 33 + j < (cellsE b).length := by omega
  have e1 := hc (k * 33 + j) hlt2
  rw [show o + (k * 33 + j) = o + k * 33 + j by omega] at e1
  rw [e1]
  have e2 := cellsE_get b hw k j hk hj34
  rw [hj, List.getElem?_eq_getElem hlt2] at e2
  exact e2
theorem range_ekey {w : World} {B o : Nat} {e : En} (h : w.rangeAt B o (eL e)) : w.cell? ⟨B, o, none⟩ = some (.int .i64 e.key) := h 0 _ (eL_0 e)
theorem range_ent {w : World} {g : Nat} {e : En} {t : TypeId} {fr : Nat × Nat} (h : w.heap[g]? = some (.cells (eV e.key e.val) t fr)) : w.rangeAt g 0 (eL e) := by
  intro j v hj
  rw [Nat.zero_add, cell_of_row w g j _ t fr h, ← eL_array]
  simpa using hj
theorem range_low {w w' : World} {D B o : Nat} {cs : List Value} (h : w.rangeAt B o cs) (hb : Below D w w') (hB : B < D) : w'.rangeAt B o cs := fun j v hj => (hb.cell (p := ⟨B, o + j, none⟩) hB).trans (h j v hj)
theorem info_ent : (Tryd.prog.info? 200).map (·.size) = some 33 := by kernel_rfl
theorem info_entz : (Tryd.prog.info? 200).map (fun i => (i.zero, i.size, i.bytes)) = some (some (.agg (eV 0 nz)), 33, 40) := by kernel_rfl
theorem eVs {e : En} (h : e.val.length = 32) : (eV e.key e.val).size = 33 := eV_size _ _ h
section
variable {ops : Array Oper} {rest : List Oper} {op : Oper} {a : Act} {w : World} {Q : Exit → Act → World → Prop} {C : World → Prop} {Qa : Act → Prop}
/-- an entry is loaded out of some place -/
theorem ld_entG_0 (hgd : Region.wanted op (yielded ops a.tmps) = true) (x : Operand) (ho : op.op = .load 200 x) (b o : Nat) (hx : a.eval x = .pointer (some ⟨b, o, none⟩)) (e : En) (he : e.val.length = 32) (hr : w.rangeAt b o (eL e))
    (h : wpList Tryd.prog ops Q rest (a.put op.dst (.agg (eV e.key e.val))) w) : wpList Tryd.prog ops Q (op :: rest) a w := by
  unfold wpList
  rw [if_pos hgd]
  exact .inl (wp_load_mid _ x ho b o hx (eL e) _ hr Tryd.underlying200 rfl (by rw [eL_length he]; exact info_ent) h)
theorem ld_entG {x1 : Operand} (ho : op.op = .load 200 x1) (x : Operand) (he_ : x1 = x) (b o : Nat) (hx : a.eval x = .pointer (some ⟨b, o, none⟩)) (e : En) (he : e.val.length = 32) (hr : w.rangeAt b o (eL e))
    (h : wpList Tryd.prog ops Q rest (a.put op.dst (.agg (eV e.key e.val))) w) (hgd : Region.wanted op (yielded ops a.tmps) = true := by rfl) : wpList Tryd.prog ops Q (op :: rest) a w := by
  cases he_
  exact ld_entG_0 hgd _ ho b o hx e he hr h
theorem quiet_ent_0 (hgd : Region.wanted op (yielded ops a.tmps) = true) (x : Operand) (ho : op.op = .load 200 x) (b o : Nat) (hx : a.eval x = .pointer (some ⟨b, o, none⟩)) (e : En) (he : e.val.length = 32) (hC : ∀ w, C w → w.rangeAt b o (eL e))
    (h : wpQuiet Tryd.prog ops C Qa rest (a.put op.dst (.agg (eV e.key e.val)))) : wpQuiet Tryd.prog ops C Qa (op :: rest) a :=
  quiet_mid hgd _ x ho b o hx (eL e) _ hC Tryd.underlying200 rfl (by rw [eL_length he]; exact info_ent) h
theorem quiet_ent {x1 : Operand} (ho : op.op = .load 200 x1) (x : Operand) (he_ : x1 = x) (b o : Nat) (hx : a.eval x = .pointer (some ⟨b, o, none⟩)) (e : En) (he : e.val.length = 32) (hC : ∀ w, C w → w.rangeAt b o (eL e))
    (h : wpQuiet Tryd.prog ops C Qa rest (a.put op.dst (.agg (eV e.key e.val)))) (hgd : Region.wanted op (yielded ops a.tmps) = true := by rfl) : wpQuiet Tryd.prog ops C Qa (op :: rest) a := by
  cases he_
  exact quiet_ent_0 hgd _ ho b o hx e he hC h
/-- an entry is stored into a block that holds one alone -/
theorem st_ent (hgd : op.guard = none) (x y : Operand) (ho : op.op = .store 200 x y) (g : Nat) (e : En) (he : e.val.length = 32) (hx : a.eval x = .pointer (some ⟨g, 0, none⟩)) (hy : a.eval y = .agg (eV e.key e.val)) (old : Array Value) (hold : old.size = 33) (t : TypeId) (hg : w.heap[g]? = some (.cells old t (0, 0)))
    (h : wpList Tryd.prog ops Q rest (a.put op.dst undef) (w.setRow g (eV e.key e.val))) : wpList Tryd.prog ops Q (op :: rest) a w :=
  wpList_store_row hgd _ x y ho g (eV e.key e.val) hx hy t old hg (by rw [eVs he]; exact info_ent) (by rw [eVs he, hold]) (eV_one e) h
theorem st_entNew (hgd : op.guard = none) (x y : Operand) (ho : op.op = .store 200 x y) (e : En) (he : e.val.length = 32) (hy : a.eval y = .agg (eV e.key e.val)) (Z : Array Value) (t : TypeId) (hZ : Z.size = 33) (hx : a.eval x = .pointer (some ⟨w.heap.size, 0, none⟩))
    (h : wpList Tryd.prog ops Q rest (a.put op.dst undef) (w.alloc (.cells (eV e.key e.val) t))) : wpList Tryd.prog ops Q (op :: rest) a (w.alloc (.cells Z t)) :=
  st_ent hgd x y ho w.heap.size e he hx hy Z hZ t (heap_alloc_new w _) (by rw [World.setRow_alloc_new]; exact h)
end
/-- cells that are read, in whatever block -/
theorem Rd.of_cellq {w : World} {b o : Nat} {vs : List Value} (h : ∀ i, (hi : i < vs.length) → w.cell? ⟨b, o + i, none⟩ = some vs[i]) : ∃ e, Rd w (some ⟨b, o, none⟩) e vs := by
  cases vs with
  | nil => exact ⟨0, .inl rfl⟩
  | cons v vs =>
    have h0 := h 0 (by simp)
    unfold World.cell? at h0
    simp only at h0
    rcases hb : w.heap[b]? with _ | ob
    · rw [hb] at h0; cases h0
    · rcases ob with ⟨cur, e, fr⟩ | _ | _ | _ | _ | _ | _ <;> try (rw [hb] at h0; cases h0; done)
      refine ⟨e, .inr ⟨b, o, cur, fr, rfl, hb, fun i hi => ?_⟩⟩
      rw [← cell_of_row w b (o + i) cur e fr hb]
      exact h i hi
section
variable {H : Type} {enc : TypeId × Value → H} {P : Program} {w : World} {spare : Nat → Bool} {held : Bool}
theorem trod_ent {t u : TypeId} {f0 f1 : Field} {n : Nat} {cs : List Value} {y : DataW H × List MemPlace} (ht : P.underlying t = some (.struct #[f0, f1])) (h0 : P.underlying f0.type = some (.int .i64)) (h1 : P.underlying f1.type = some (.array 32 u)) (hu : P.underlying u = some (.int .u8))
    (hc : P.cellsOf t = 33) (c0 : P.cellsOf f0.type = 1) (c1 : P.cellsOf f1.type = 32) (cu : P.cellsOf u = 1) (o0 : f0.offset = 0) (o1 : f1.offset = 1)
    (h : DataW.trod enc P w 0 spare held n t cs = some y) : ∃ e : En, EnW e ∧ cs = eL e := by
  obtain ⟨y0, y1, m, hy, hl, g0, g1⟩ := trod_struct2 ht h
  rw [hc] at hl
  rw [o0, c0] at g0
  rw [o1, c1] at g1
  obtain ⟨z, e4, _, hw⟩ := DataW.trod_int h0 g0
  obtain ⟨d, hd, e5⟩ := trod_digest h1 hu c1 cu g1
  refine ⟨⟨z, d⟩, ⟨hd, bounds_i64 hw⟩, ?_⟩
  match cs, hl with
  | c :: r, hl =>
    simp only [List.drop_zero, List.take_succ_cons, List.take_zero, List.cons.injEq, and_true] at e4
    simp only [List.drop_succ_cons, List.drop_zero] at e5
    rw [List.take_of_length_le (by simp at hl; omega)] at e5
    rw [e4, e5]; rfl
theorem flatMap_ents (F : Nat → List Value) (D : Nat → En) (n : Nat) (h : ∀ i, i < n → F i = eL (D i)) : (List.range n).flatMap F = cellsE ((List.range n).map D) := by
  induction n with
  | zero => rfl
  | succ n ih =>
    rw [List.range_succ, List.flatMap_append, ih (fun i hi => h i (by omega)), List.map_append, cellsE_append]
    congr 1
    simp [h n (by omega), cellsE_one]
theorem open_ents {r : Reach} {b0 : Nat} {T t u : TypeId} {f0 f1 : Field} {v : Value} {d : DataW H} {ps : List MemPlace} (hT : P.underlying T = some (.slice t)) (ht : P.underlying t = some (.struct #[f0, f1])) (h0 : P.underlying f0.type = some (.int .i64)) (h1 : P.underlying f1.type = some (.array 32 u)) (hu : P.underlying u = some (.int .u8))
    (hc : P.cellsOf t = 33) (c0 : P.cellsOf f0.type = 1) (c1 : P.cellsOf f1.type = 32) (cu : P.cellsOf u = 1) (o0 : f0.offset = 0) (o1 : f1.offset = 1)
    (hval : Value.okWide P w r b0 T v) (h : DataW.Trod enc P w 0 spare held T v d ps) : ∃ (es : List En) (a : Option Addr) (cap e' : Nat), v = .slice a es.length cap ∧ es.length ≤ cap ∧ cap ≤ 9223372036854775807 ∧ (∀ e ∈ es, EnW e) ∧ Rd w a e' (cellsE es) := by
  obtain ⟨a, len, cap, rfl⟩ := okWide_slice hT hval
  obtain ⟨fuel, hf⟩ := h
  obtain ⟨a', len', cap', hcs, hl, hm, F, n, hF, e', hr⟩ := trod_list hT hf
  simp [Value.cells] at hcs
  obtain ⟨rfl, rfl, rfl⟩ := hcs
  obtain ⟨D, hD⟩ := Deep.choose_lt (α := En) (n := len) (p := fun i c => EnW c ∧ F i = eL c) (fun i hi => by
    obtain ⟨y, hy⟩ := (hF i hi).2
    exact trod_ent ht h0 h1 hu hc c0 c1 cu o0 o1 hy)
  refine ⟨(List.range len).map D, a, cap, e', by simp, by simpa using hl, by simp only [maxLen] at hm; omega, ?_, ?_⟩
  · intro x hx
    obtain ⟨i, hi, rfl⟩ := List.mem_map.1 hx
    exact (hD i (List.mem_range.1 hi)).1
  · rw [← flatMap_ents F D len (fun i hi => (hD i hi).2)]; exact hr
theorem open_ent {r : Reach} {b0 : Nat} {t u : TypeId} {f0 f1 : Field} {v : Value} {d : DataW H} {ps : List MemPlace} (ht : P.underlying t = some (.struct #[f0, f1])) (h0 : P.underlying f0.type = some (.int .i64)) (h1 : P.underlying f1.type = some (.array 32 u)) (hu : P.underlying u = some (.int .u8))
    (hc : P.cellsOf t = 33) (c0 : P.cellsOf f0.type = 1) (c1 : P.cellsOf f1.type = 32) (cu : P.cellsOf u = 1) (o0 : f0.offset = 0) (o1 : f1.offset = 1)
    (hval : Value.okWide P w r b0 t v) (h : DataW.Trod enc P w 0 spare held t v d ps) : ∃ e : En, EnW e ∧ v = .agg (eV e.key e.val) := by
  obtain ⟨cs, rfl, _⟩ := okWide_struct ht hval
  obtain ⟨fuel, hf⟩ := h
  obtain ⟨e, he, h2⟩ := trod_ent ht h0 h1 hu hc c0 c1 cu o0 o1 hf
  refine ⟨e, he, ?_⟩
  simp only [Value.cells] at h2
  rw [← eL_array, ← h2]
end
end Go.Proofs.YtkioddmhjbaleaaDoor

