/- Walks: vow.Seal, vow.Open, oathbookref4.VowText. -/
import Derived.Test.YteikbbdkpeecaaaDoorRSum
import Derived.Test.YteikbbdkpeecaaaDoorTrieBase
import Derived.Test.YteikbbdkpeecaaaDoorConcatE
import Derived.Test.YteikbbdkpeecaaaDoorArrA
import Derived.Laws.OwnMore
namespace Go.Proofs.YteikbbdkpeecaaaDoor
open Go.RowKit
set_option linter.unusedVariables false
set_option linter.unusedSimpArgs false
/-- what a vow is the Sum of -/
def vowText (salt b : List UInt8) : List UInt8 := 15 :: (salt ++ b)
theorem vowText_length (salt b : List UInt8) (hs : salt.length = 32) : (vowText salt b).length = 33 + b.length := by simp [vowText, hs]; omega
theorem VowText_calls (salt : List UInt8) (hs : salt.length = 32) (b : List UInt8) (a : Option Addr) (cap e : Nat) (w : World) (hr : Rd w a e (b.map vB)) (hl : b.length ≤ 140737488351232) :
    Calls Tryd.prog 40 #[.agg (dV salt), .slice a b.length cap] w (RetB w (vowText salt b)) := by
  have hs2 : salt.length = 32 := hs
  have q0 : (w.alloc (.cells (dV salt) 55)).heap.size = w.heap.size + 1 := World.size_alloc _ _
  have o1 : ((w.alloc (.cells (dV salt) 55)).alloc (.cells #[.int .u8 15] 5)).ownsRow w.heap.size 5 1 (.slice (some ⟨w.heap.size + 1, 0, none⟩) 1 1) 1 ([(15 : UInt8)].map vB) := by
    rw [← q0]; exact own_byte1 _ 15 _ (by omega)
  have r1 : Rd ((w.alloc (.cells (dV salt) 55)).alloc (.cells #[.int .u8 15] 5)) (some ⟨w.heap.size, 0, none⟩) 55 (salt.map vB) := (Rd.box w salt _).alloc _
  have b1 : Below w.heap.size w ((w.alloc (.cells (dV salt) 55)).alloc (.cells #[.int .u8 15] 5)) := ((Below.refl _ w).alloc (Nat.le_refl _) _).alloc (by omega) _
  have b1s := b1.size
  have O1 := Lib.hid o1
  have R1 := Lib.hid r1
  have B1 := Lib.hid b1
  have HS := Lib.hid hs2
  have HR := Lib.hid hr
  clear o1 r1 b1 hs hs2 hr q0
  go_enter Tryd.func40, Tryd.ntmps40
  go_wp2_with (first
    | (at_builtin; refine appAllw 22 5 (.int .u8 0) 1 1 Tryd.underlying22 info_byte rfl (by omega) rfl (.tmp 6) (.tmp 7) (by rfl) w.heap.size _ 1 _ (by rfl) O1.out (some ⟨w.heap.size, 0, none⟩) 32 32 (salt.map vB) (by rfl) _ R1.out (by rw [List.length_map]; exact HS.out) (one_bytes salt) (by omega) (by omega) b1s ?_; intro av3 cp3 w3 hown3 hb3; rw [← List.map_append] at hown3; have O3 := Lib.hid hown3; have B3 := Lib.hid (B1.out.trans hb3); have R3 := Lib.hid (HR.out.below (B1.out.trans hb3)); have b3s := Nat.le_trans b1s hb3.size; clear hown3 hb3)
    | (at_builtin; refine appAllw 22 5 (.int .u8 0) 1 1 Tryd.underlying22 info_byte rfl (by omega) rfl (.tmp 9) (.tmp 10) (by rfl) w.heap.size _ 33 _ (by rfl) O3.out a b.length cap (b.map vB) (by rfl) _ R3.out (by simp) (one_bytes b) (by omega) (by omega) b3s ?_; intro av5 cp5 w5 hown5 hb5; rw [← List.map_append] at hown5; have O5 := Lib.hid hown5; have B5 := Lib.hid (B3.out.trans hb5); clear hown5 hb5))
  go_ret
  have hL := vowText_length salt b HS.out
  exact ⟨av5, cp5, by rw [hL]; rfl, by rw [hL]; exact O5.out, B5.out⟩
theorem IsB.mk {w : World} {xs : List UInt8} {a : Option Addr} {cap e : Nat} (h : Rd w a e (xs.map vB)) (hl : xs.length ≤ 9223372036854775807) : IsB (fun _ _ => True) w xs (.slice a xs.length cap) := ⟨a, cap, e, rfl, h, fun _ _ _ => trivial, hl⟩
theorem IsB.mkn {w : World} {xs : List UInt8} {n : Nat} {a : Option Addr} {cap e : Nat} (hn : xs.length = n) (h : Rd w a e (xs.map vB)) (hl : n ≤ 9223372036854775807) : IsB (fun _ _ => True) w xs (.slice a n cap) := by subst hn; exact IsB.mk h hl
theorem AreB.three {w : World} {x y z : List UInt8} {u v t : Value} (hx : IsB (fun _ _ => True) w x u) (hy : IsB (fun _ _ => True) w y v) (hz : IsB (fun _ _ => True) w z t) : AreB (fun _ _ => True) w [x, y, z] [u, v, t] := by
  refine ⟨rfl, fun i hi hj => ?_⟩
  match i, hi with
  | 0, _ => exact hx
  | 1, _ => exact hy
  | 2, _ => exact hz
theorem Seal_calls (salt : List UInt8) (hs : salt.length = 32) (b : List UInt8) (a : Option Addr) (cap e : Nat) (w : World) (hr : Rd w a e (b.map vB)) (hl : b.length ≤ 140737488351232) (hro : RoundsAt w) :
    Calls Tryd.prog 44 #[.agg (dV salt), .slice a b.length cap] w fun e w' => e = .returned (.agg (dV (shaOf (vowText salt b)))) ∧ Below w.heap.size w w' := by
  obtain ⟨H, hH⟩ : ∃ H, H = w.heap.size := ⟨_, rfl⟩
  obtain ⟨w0, hw0⟩ : ∃ x, x = w.alloc (.cells (dV salt) 55) := ⟨_, rfl⟩
  obtain ⟨w1, hw1⟩ : ∃ x, x = w0.alloc (.cells (dV nz) 55) := ⟨_, rfl⟩
  obtain ⟨w2, hw2⟩ : ∃ x, x = w1.alloc (.cells #[.int .u8 15] 5) := ⟨_, rfl⟩
  obtain ⟨w3, hw3⟩ : ∃ x, x = w2.alloc (.cells #[.slice (some ⟨H + 1 + 1, 0, none⟩) 1 1, .slice (some ⟨H, 0, none⟩) 32 32, .slice a b.length cap] 22) := ⟨_, rfl⟩
  have q0 : w0.heap.size = H + 1 := by rw [hw0, hH]; exact World.size_alloc _ _
  have q1 : w1.heap.size = H + 1 + 1 := by rw [hw1, World.size_alloc, q0]
  have q2 : w2.heap.size = H + 1 + 1 + 1 := by rw [hw2, World.size_alloc, q1]
  have q3 : w3.heap.size = H + 1 + 1 + 1 + 1 := by rw [hw3, World.size_alloc, q2]
  have b0 : Below H w w0 := by rw [hw0, hH]; exact (Below.refl _ _).alloc (Nat.le_refl _) _
  have b13 : Below (H + 1) w1 w3 := by rw [hw3]; refine Below.alloc ?_ (by omega) _; rw [hw2]; exact (Below.refl _ _).alloc (by omega) _
  have b01 : Below (H + 1) w0 w1 := by rw [hw1, ← q0]; exact (Below.refl _ _).alloc (Nat.le_refl _) _
  have b03 : Below (H + 1) w0 w3 := b01.trans b13
  have b3 : Below H w w3 := b0.trans (b03.mono (by omega))
  have g3 : w3.heap[H + 1]? = some (.cells (dV nz) 55 (0, 0)) := by
    have g1 : w1.heap[H + 1]? = some (.cells (dV nz) 55 (0, 0)) := by rw [hw1, ← q0]; exact heap_alloc_new _ _
    have b123 : Below (H + 1 + 1) w1 w3 := by rw [hw3]; refine Below.alloc ?_ (by omega) _; rw [hw2]; exact (Below.refl _ _).alloc (by omega) _
    exact (b123.block _ (by omega)).trans g1
  have r15 : Rd w3 (some ⟨H + 1 + 1, 0, none⟩) 5 ([(15 : UInt8)].map vB) := by
    have := (Rd.new w1 #[.int .u8 15] 5)
    rw [← hw2, q1] at this
    rw [hw3]; exact this.alloc _
  have rs : Rd w3 (some ⟨H, 0, none⟩) 55 (salt.map vB) := by
    have := Rd.box w salt 55
    rw [← hw0, ← hH] at this
    exact this.below (by rw [q0]; exact b03)
  have rb : Rd w3 a e (b.map vB) := hr.below (by rw [← hH]; exact b3)
  have rv : Rd w3 (some ⟨H + 1 + 1 + 1, 0, none⟩) 22 [.slice (some ⟨H + 1 + 1, 0, none⟩) 1 1, .slice (some ⟨H, 0, none⟩) 32 32, .slice a b.length cap] := by
    have := (Rd.new w2 #[.slice (some ⟨H + 1 + 1, 0, none⟩) 1 1, .slice (some ⟨H, 0, none⟩) 32 32, .slice a b.length cap] 22)
    rw [← hw3, q2] at this
    exact this
  have hfl : ([[15], salt, b] : List (List UInt8)).flatten = vowText salt b := by simp [vowText]
  have hvl := vowText_length salt b hs
  have CC := ConcatE_calls [[15], salt, b] (some ⟨H + 1 + 1 + 1, 0, none⟩) 3 _ _ w3 rv (AreB.three (IsB.mk r15 (by simp)) (IsB.mkn hs rs (by omega)) (IsB.mk rb (by omega))) (by simp) (by rw [hfl]; omega)
  rw [hfl] at CC
  have ro3 : RoundsAt w3 := hro.at_ (by rw [← hH]; exact b3)
  have HW0 := Lib.hid hw0
  have HW1 := Lib.hid hw1
  have HW2 := Lib.hid hw2
  have HW3 := Lib.hid hw3
  have HH := Lib.hid hH
  have HCC := Lib.hid CC
  have B3 := Lib.hid b3
  have G3 := Lib.hid g3
  have RO3 := Lib.hid ro3
  have Q3 := Lib.hid q3
  have HVL := Lib.hid hvl
  have hq3 : H + 1 < w3.heap.size := by omega
  clear q0 q1 q2 q3 b0 b13 b01 b03 b3 g3 r15 rs rb rv hfl hvl CC ro3 hw0 hw1 hw2 hw3 hH hs hr hro
  go_enter Tryd.func44, Tryd.ntmps44
  go_wp2_with fail
  rw [zdig, ← HH.out, ← HW0.out, ← HW1.out, ← HW2.out, ← HW3.out]
  refine HCC.out.mono ?_
  rintro e w4 ⟨av4, cp4, rfl, hown4, hb4⟩
  have SC := Sha_calls (vowText salt b) av4 cp4 _ w4 (Rd.of_own hown4) (by rw [HVL.out]; omega) (RO3.out.at_ hb4) (RO3.out.at_ hb4).lt
  have HSC := Lib.hid SC
  have B4 := Lib.hid hb4
  have hq4 := Nat.lt_of_lt_of_le hq3 hb4.size
  have G4 := Lib.hid ((hb4.block _ hq3).trans G3.out)
  clear hb4 hown4 HCC SC
  go_wp2_with fail
  refine HSC.out.mono ?_
  rintro e w5 ⟨rfl, hb5⟩
  have G5 := Lib.hid ((hb5.block _ hq4).trans G4.out)
  have B5 := Lib.hid (B3.out.trans ((B4.out.trans (hb5.mono B4.out.size)).mono (by omega)))
  clear hb5 HSC
  go_wp2_with (refine st_row rfl (.tmp 4) (.tmp 10) rfl (H + 1) (shaOf (vowText salt b)) (shaOf_length _) (by rfl) (by rfl) (dV nz) (by rfl) _ G5.out ?_)
  try simp only [Exit.inBlock, Exit.then]
  refine bodyPost_ret (v := .agg (dV (shaOf (vowText salt b)))) (results_cellW rfl _ _ _ ⟨H + 1, 0, none⟩ _ rfl ?_) rfl ?_
  · exact dig_load (shaOf_length _) (range_of_row (setRow_heap _ _ _ _ _ _ G5.out))
  · exact ⟨rfl, by rw [← HH.out]; exact below_setRowW B5.out (by omega) _⟩
end Go.Proofs.YteikbbdkpeecaaaDoor
