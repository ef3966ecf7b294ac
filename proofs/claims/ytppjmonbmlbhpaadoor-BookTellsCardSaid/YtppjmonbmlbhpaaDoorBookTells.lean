/- BookTells: whatever the books, the name and the key, book.Check, Join, Meet and Trust answer as the document says; no conditions but that the listed package variable holds what the program text lays. -/
import Derived.Test.YtppjmonbmlbhpaaDoorRows
import Derived.Test.YtppjmonbmlbhpaaDoorBookRef4
import Derived.Test.YtppjmonbmlbhpaaDoorBooks
import Derived.Test.YtppjmonbmlbhpaaDoorLaid
import Derived.WalkKit
import Derived.ProofKit
import Derived.OpenShut
import Derived.ShutString
import Derived.ChangeOld
import Derived.Below
namespace Go.Proofs.YtppjmonbmlbhpaaDoor
open Go.ChangeShapes Go.WideShapes Go.ChangeAt Go.RowKit
open Go.ChangeMaps (open_string shut_string)
set_option linter.unusedVariables false
set_option linter.unusedSimpArgs false
namespace bookTells

-- HOLE: the walk
def outC (xs ys : List Ct) : List Ct := if joinFault xs ys = 0 then mergeC xs ys else []
theorem joinPost_out {w w' : World} {xs ys : List Ct} {e : Ending} (h : JoinPost w xs ys e w') : Below w.heap.size w w' ∧ ∃ a cap t, e = .returned (.tuple #[.slice a (outC xs ys).length cap, errC (joinFault xs ys)]) ∧ Rd w' a t (cellsC (outC xs ys)) := by
  obtain ⟨hb, ⟨h0, a, cap, t, he, _, _, hr⟩ | ⟨h0, he⟩⟩ := h
  · refine ⟨hb, a, cap, t, ?_, ?_⟩
    · rw [he]; unfold outC errC; rw [if_pos h0, if_pos h0]
    · unfold outC; rw [if_pos h0]; exact hr
  · refine ⟨hb, none, 0, 0, ?_, ?_⟩
    · rw [he]; unfold outC errC; rw [if_neg h0, if_neg h0]; rfl
    · unfold outC; rw [if_neg h0]; exact Rd.nil
theorem rjoinPost_out {w w' : World} {xs ys : List Ct} {e : Ending} (h : RJoinPost w xs ys e w') : Below w.heap.size w w' ∧ ∃ a cap t, e = .returned (.tuple #[.slice a (outC xs ys).length cap, .int .i64 (joinFault xs ys)]) ∧ Rd w' a t (cellsC (outC xs ys)) := by
  obtain ⟨hb, ⟨h0, a, cap, t, he, _, _, hr⟩ | ⟨h0, he⟩⟩ := h
  · refine ⟨hb, a, cap, t, ?_, ?_⟩
    · rw [he]; unfold outC; rw [if_pos h0, h0]
    · unfold outC; rw [if_pos h0]; exact hr
  · refine ⟨hb, none, 0, 0, ?_, ?_⟩
    · rw [he]; unfold outC; rw [if_neg h0]; rfl
    · unfold outC; rw [if_neg h0]; exact Rd.nil
theorem out_good {xs ys : List Ct} (h : joinFault xs ys = 0) : GoodB xs ∧ GoodB ys ∧ (mergeC xs ys).length ≤ 40 := by
  unfold joinFault at h
  split at h
  · rename_i h1; exact absurd h h1
  · rename_i h1
    split at h
    · rename_i h2; exact absurd h h2
    · rename_i h2
      split at h
      · cases h
      · rename_i h3
        exact ⟨fault_zero.1 (Decidable.not_not.1 h1), fault_zero.1 (Decidable.not_not.1 h2), by omega⟩
theorem out_W {xs ys : List Ct} (hx : ∀ c ∈ xs, CtW c) (hy : ∀ c ∈ ys, CtW c) : ∀ c ∈ outC xs ys, CtW c := by
  unfold outC
  split
  · rename_i h
    obtain ⟨g1, g2, _⟩ := out_good h
    exact fun c hc => (merge_W2 _ xs ys (Nat.le_refl _) (fun c h => ⟨hx c h, g1.2.2 c h⟩) (fun c h => ⟨hy c h, g2.2.2 c h⟩) c hc).1
  · intro c hc; simp at hc
theorem out_len (xs ys : List Ct) : (outC xs ys).length ≤ 9223372036854775807 := by
  unfold outC
  split
  · rename_i h; have := (out_good h).2.2; omega
  · simp
theorem Error_same (f : Int) (w : World) (hg : ErrVar w) : Calls Tryd.prog 4 #[errC f, .int .i64 f] w fun r w' => r = .returned (.bool true) ∧ Below w.heap.size w w' := by
  unfold errC
  split
  · rename_i h
    subst h
    exact (Error_nil 0 true rfl w).mono fun e w' ⟨h1, h2⟩ => ⟨h1, by rw [← h2]; exact Below.refl _ _⟩
  · exact Error_err f f true (by simp) w hg
theorem Books_same (xs : List Ct) (hx : ∀ c ∈ xs, CtW c) (a b : Option Addr) (ca cb ea eb : Nat) (w : World) (ha : Rd w a ea (cellsC xs)) (hb : Rd w b eb (cellsC xs)) (hl : xs.length ≤ 9223372036854775807) :
    Calls Tryd.prog 9 #[.slice a xs.length ca, .slice b xs.length cb] w fun e w' => e = .returned (.bool true) ∧ Below w.heap.size w w' :=
  (Books_calls xs xs hx hx a b ca cb ea eb w ha hb hl).mono fun e w' ⟨h1, n, h2⟩ => ⟨by rw [h1, decide_eq_true rfl], by rw [h2]; exact below_drewN (Below.refl _ _) n⟩
set_option maxRecDepth 20000 in
set_option maxHeartbeats 8000000 in
theorem walk (x0 : List Ct) (a0 : Option Addr) (c0 e0 : Nat) (x1 : List Ct) (a1 : Option Addr) (c1 e1 : Nat) (s2 : ByteArray) (x3 : List UInt8) (w : World) (l0 : x0.length ≤ c0) (m0 : c0 ≤ 9223372036854775807) (n0 : ∀ c ∈ x0, CtW c) (r0 : Rd w a0 e0 (cellsC x0)) (l1 : x1.length ≤ c1) (m1 : c1 ≤ 9223372036854775807) (n1 : ∀ c ∈ x1, CtW c) (r1 : Rd w a1 e1 (cellsC x1)) (l2 : s2.size ≤ 9223372036854775807) (n3 : x3.length = 32) (hg : ErrVar w) :
    Calls Tryd.prog 3 #[.slice a0 x0.length c0, .slice a1 x1.length c1, .string s2, .agg (dV x3)] w fun e w' => e = .returned (.bool true) ∧ Below w.heap.size w w' := by
  obtain ⟨H, hH⟩ : ∃ H, H = w.heap.size := ⟨_, rfl⟩
  obtain ⟨W0, hW0⟩ : ∃ W0, W0 = w.alloc (.cells (dV x3) 24) := ⟨_, rfl⟩
  have hb0 : Below w.heap.size w W0 := by rw [hW0]; exact (Below.refl _ _).alloc (Nat.le_refl _) _
  have hk0 : W0.heap[H]? = some (.cells (dV x3) 24 (0, 0)) := by rw [hW0, hH]; exact heap_alloc_new _ _
  have hs0 : H < W0.heap.size := by rw [hW0, World.size_alloc]; omega
  have HN0 := Lib.hid n0
  have HN1 := Lib.hid n1
  have HN3 := Lib.hid n3
  have HW0 := Lib.hid hW0
  have HH := Lib.hid hH
  have HK_W0 := Lib.hid (And.intro hk0 hs0)
  have HB_W0 := Lib.hid hb0
  have HG_W0 := Lib.hid (hg.at_ hb0)
  have R0_W0 := Lib.hid (r0.below hb0)
  have R1_W0 := Lib.hid (r1.below hb0)
  have m00 : x0.length ≤ 9223372036854775807 := Nat.le_trans l0 m0
  have m11 : x1.length ≤ 9223372036854775807 := Nat.le_trans l1 m1
  have LN0 := Lib.hid (And.intro m00 (And.intro l0 m0))
  have LN1 := Lib.hid (And.intro m11 (And.intro l1 m1))
  have LN2 := Lib.hid l2
  have HS1 : Hid (∀ l : Int, 1 ≤ l → l ≤ 4 → CtW ⟨s2, x3, l⟩) := Lib.hid fun l h1 h2 => ⟨n3, l2, by show (-9223372036854775808 : Int) ≤ l; omega, by show l ≤ 9223372036854775807; omega⟩
  clear r0 r1 n0 n1 n3 hW0 hk0 hb0 hs0 hg m00 m11 l0 m0 l1 m1 l2
  obtain ⟨f0, hf0⟩ : ∃ f, f = fault x0 := ⟨_, rfl⟩
  have HF0 := Lib.hid hf0
  obtain ⟨f1, hf1⟩ : ∃ f, f = joinFault x0 x1 := ⟨_, rfl⟩
  have HF1 := Lib.hid hf1
  clear hf0 hf1
  go_enter Tryd.func3, Tryd.ntmps3
  go_upto_region 1 with fail
  rw [← HW0.out, ← HH.out]
  clear hH
  go_wp2_with fail
  refine (Check_calls x0 HN0.out a0 c0 e0 W0 R0_W0.out LN0.out.1).mono ?_
  rintro e w1 ⟨rfl, hb⟩
  have HB_w1 := Lib.hid (HB_W0.out.trans (hb.mono HB_W0.out.size))
  have HG_w1 := Lib.hid (HG_W0.out.at_ hb)
  have R0_w1 := Lib.hid (R0_W0.out.below hb)
  have R1_w1 := Lib.hid (R1_W0.out.below hb)
  have HK_w1 := Lib.hid ((hb.block H HK_W0.out.2).trans HK_W0.out.1)
  have HK_w1 := Lib.hid (And.intro HK_w1.out (Nat.lt_of_lt_of_le HK_W0.out.2 hb.size))
  clear HG_W0 R0_W0 R1_W0 HK_W0 
  clear hb
  go_wp2_with fail
  refine (BookFault_calls x0 HN0.out a0 c0 e0 w1 R0_w1.out LN0.out.1).mono ?_
  rintro e w2 ⟨rfl, hb⟩
  have HB_w2 := Lib.hid (HB_w1.out.trans (hb.mono HB_w1.out.size))
  have HG_w2 := Lib.hid (HG_w1.out.at_ hb)
  have R0_w2 := Lib.hid (R0_w1.out.below hb)
  have R1_w2 := Lib.hid (R1_w1.out.below hb)
  have HK_w2 := Lib.hid ((hb.block H HK_w1.out.2).trans HK_w1.out.1)
  have HK_w2 := Lib.hid (And.intro HK_w2.out (Nat.lt_of_lt_of_le HK_w1.out.2 hb.size))
  clear HG_w1 R0_w1 R1_w1 HK_w1 
  clear hb
  rw [← HF0.out]
  go_wp2_with fail
  refine (Error_same f0 w2 HG_w2.out).mono ?_
  rintro e w3 ⟨rfl, hb⟩
  have HB_w3 := Lib.hid (HB_w2.out.trans (hb.mono HB_w2.out.size))
  have HG_w3 := Lib.hid (HG_w2.out.at_ hb)
  have R0_w3 := Lib.hid (R0_w2.out.below hb)
  have R1_w3 := Lib.hid (R1_w2.out.below hb)
  have HK_w3 := Lib.hid ((hb.block H HK_w2.out.2).trans HK_w2.out.1)
  have HK_w3 := Lib.hid (And.intro HK_w3.out (Nat.lt_of_lt_of_le HK_w2.out.2 hb.size))
  clear HG_w2 R0_w2 R1_w2 HK_w2 
  clear hb
  go_wp2_with fail
  refine (RJoin_calls x0 x1 HN0.out HN1.out a0 a1 c0 c1 e0 e1 w3 R0_w3.out R1_w3.out LN0.out.1 LN1.out.1).mono ?_
  rintro e w4 h
  obtain ⟨hb, ara, c_ara, t_ara, rfl, r_ara⟩ := rjoinPost_out h
  have HB_w4 := Lib.hid (HB_w3.out.trans (hb.mono HB_w3.out.size))
  have HG_w4 := Lib.hid (HG_w3.out.at_ hb)
  have R0_w4 := Lib.hid (R0_w3.out.below hb)
  have R1_w4 := Lib.hid (R1_w3.out.below hb)
  have HK_w4 := Lib.hid ((hb.block H HK_w3.out.2).trans HK_w3.out.1)
  have HK_w4 := Lib.hid (And.intro HK_w4.out (Nat.lt_of_lt_of_le HK_w3.out.2 hb.size))
  clear HG_w3 R0_w3 R1_w3 HK_w3 
  have ARA_w4 := Lib.hid r_ara
  clear hb h r_ara
  go_wp2_with fail
  refine (BJoin_calls x0 x1 HN0.out HN1.out a0 a1 c0 c1 e0 e1 w4 R0_w4.out R1_w4.out LN0.out.1 LN1.out.1 LN0.out.2.1 LN1.out.2.1 LN0.out.2.2 LN1.out.2.2).mono ?_
  rintro e w5 h
  obtain ⟨hb, aga, c_aga, t_aga, rfl, r_aga⟩ := joinPost_out h
  have HB_w5 := Lib.hid (HB_w4.out.trans (hb.mono HB_w4.out.size))
  have HG_w5 := Lib.hid (HG_w4.out.at_ hb)
  have R0_w5 := Lib.hid (R0_w4.out.below hb)
  have R1_w5 := Lib.hid (R1_w4.out.below hb)
  have HK_w5 := Lib.hid ((hb.block H HK_w4.out.2).trans HK_w4.out.1)
  have HK_w5 := Lib.hid (And.intro HK_w5.out (Nat.lt_of_lt_of_le HK_w4.out.2 hb.size))
  have ARA_w5 := Lib.hid (ARA_w4.out.below hb)
  clear HG_w4 R0_w4 R1_w4 HK_w4 ARA_w4
  have AGA_w5 := Lib.hid r_aga
  clear hb h r_aga
  rw [← HF1.out]
  go_wp2_with fail
  refine (Error_same f1 w5 HG_w5.out).mono ?_
  rintro e w6 ⟨rfl, hb⟩
  have HB_w6 := Lib.hid (HB_w5.out.trans (hb.mono HB_w5.out.size))
  have HG_w6 := Lib.hid (HG_w5.out.at_ hb)
  have R0_w6 := Lib.hid (R0_w5.out.below hb)
  have R1_w6 := Lib.hid (R1_w5.out.below hb)
  have HK_w6 := Lib.hid ((hb.block H HK_w5.out.2).trans HK_w5.out.1)
  have HK_w6 := Lib.hid (And.intro HK_w6.out (Nat.lt_of_lt_of_le HK_w5.out.2 hb.size))
  have ARA_w6 := Lib.hid (ARA_w5.out.below hb)
  have AGA_w6 := Lib.hid (AGA_w5.out.below hb)
  clear HG_w5 R0_w5 R1_w5 HK_w5 ARA_w5 AGA_w5
  clear hb
  go_wp2_with fail
  refine (Books_same (outC x0 x1) (out_W HN0.out HN1.out) aga ara c_aga c_ara t_aga t_ara w6 AGA_w6.out ARA_w6.out (out_len _ _)).mono ?_
  rintro e w7 ⟨rfl, hb⟩
  have HB_w7 := Lib.hid (HB_w6.out.trans (hb.mono HB_w6.out.size))
  have HG_w7 := Lib.hid (HG_w6.out.at_ hb)
  have R0_w7 := Lib.hid (R0_w6.out.below hb)
  have R1_w7 := Lib.hid (R1_w6.out.below hb)
  have HK_w7 := Lib.hid ((hb.block H HK_w6.out.2).trans HK_w6.out.1)
  have HK_w7 := Lib.hid (And.intro HK_w7.out (Nat.lt_of_lt_of_le HK_w6.out.2 hb.size))
  have ARA_w7 := Lib.hid (ARA_w6.out.below hb)
  have AGA_w7 := Lib.hid (AGA_w6.out.below hb)
  clear HG_w6 R0_w6 R1_w6 HK_w6 ARA_w6 AGA_w6
  clear hb
  obtain ⟨gb, hgb⟩ : ∃ f, f = joinFault x0 [⟨s2, x3, 1⟩] := ⟨_, rfl⟩
  have HGFb := Lib.hid hgb
  clear hgb
  obtain ⟨wmb, hwm⟩ : ∃ z, z = w7.alloc (.cells (cV ⟨s2, x3, 1⟩) 37) := ⟨_, rfl⟩
  have hbm : Below w7.heap.size w7 wmb := by rw [hwm]; exact (Below.refl _ _).alloc (Nat.le_refl _) _
  have HRM := Lib.hid (show Rd wmb (some ⟨w7.heap.size, 0, none⟩) 37 (cellsC [⟨s2, x3, 1⟩]) by rw [hwm, cells_one, ← cV_list]; exact Rd.new _ _ _)
  have HWM := Lib.hid hwm
  have RGD := Lib.hid (range_of_row HK_w7.out.1)
  have HB_wmb := Lib.hid (HB_w7.out.trans (hbm.mono HB_w7.out.size))
  have HG_wmb := Lib.hid (HG_w7.out.at_ hbm)
  have R0_wmb := Lib.hid (R0_w7.out.below hbm)
  have R1_wmb := Lib.hid (R1_w7.out.below hbm)
  have HK_wmb := Lib.hid ((hbm.block H HK_w7.out.2).trans HK_w7.out.1)
  have HK_wmb := Lib.hid (And.intro HK_wmb.out (Nat.lt_of_lt_of_le HK_w7.out.2 hbm.size))
  have ARA_wmb := Lib.hid (ARA_w7.out.below hbm)
  have AGA_wmb := Lib.hid (AGA_w7.out.below hbm)
  clear HG_w7 R0_w7 R1_w7 HK_w7 ARA_w7 AGA_w7
  clear hbm hwm
  go_wp2_with (first
    | ((refine ld_digG rfl (.tmp 7) rfl H 0 (by rfl) x3 HN3.out RGD.out ?_); simp only [Act.put, List.setIfInBounds_toArray, List.set_cons_zero, List.set_cons_succ])
    | (refine bld_cont rfl (.tmp 48) (.tmp 49) 1 rfl s2 x3 HN3.out (by rfl) (by rfl) ?_)
    | (refine bld_one rfl (.tmp 50) rfl ⟨s2, x3, 1⟩ (HS1.out 1 (by decide) (by decide)) (by rfl) ?_))
  rw [← HWM.out]
  refine (RJoin_calls x0 [⟨s2, x3, 1⟩] HN0.out (fun c hc => by rw [List.mem_singleton.1 hc]; exact HS1.out 1 (by decide) (by decide)) a0 _ c0 1 e0 _ wmb R0_wmb.out HRM.out LN0.out.1 (by simp)).mono ?_
  rintro e w8 h
  obtain ⟨hb, arb, c_arb, t_arb, rfl, r_arb⟩ := rjoinPost_out h
  have HB_w8 := Lib.hid (HB_wmb.out.trans (hb.mono HB_wmb.out.size))
  have HG_w8 := Lib.hid (HG_wmb.out.at_ hb)
  have R0_w8 := Lib.hid (R0_wmb.out.below hb)
  have R1_w8 := Lib.hid (R1_wmb.out.below hb)
  have HK_w8 := Lib.hid ((hb.block H HK_wmb.out.2).trans HK_wmb.out.1)
  have HK_w8 := Lib.hid (And.intro HK_w8.out (Nat.lt_of_lt_of_le HK_wmb.out.2 hb.size))
  have ARA_w8 := Lib.hid (ARA_wmb.out.below hb)
  have AGA_w8 := Lib.hid (AGA_wmb.out.below hb)
  clear HG_wmb R0_wmb R1_wmb HK_wmb ARA_wmb AGA_wmb
  have ARB_w8 := Lib.hid r_arb
  clear hb h r_arb
  clear HRM HWM RGD
  have RGD := Lib.hid (range_of_row HK_w8.out.1)
  go_wp2_with (first
    | ((refine ld_digG rfl (.tmp 7) rfl H 0 (by rfl) x3 HN3.out RGD.out ?_); simp only [Act.put, List.setIfInBounds_toArray, List.set_cons_zero, List.set_cons_succ]))
  refine (Meet_calls x0 HN0.out a0 c0 e0 s2 x3 HN3.out LN2.out w8 R0_w8.out LN0.out.1 LN0.out.2.1 LN0.out.2.2).mono ?_
  rintro e w9 h
  obtain ⟨hb, agb, c_agb, t_agb, rfl, r_agb⟩ := joinPost_out h
  have HB_w9 := Lib.hid (HB_w8.out.trans (hb.mono HB_w8.out.size))
  have HG_w9 := Lib.hid (HG_w8.out.at_ hb)
  have R0_w9 := Lib.hid (R0_w8.out.below hb)
  have R1_w9 := Lib.hid (R1_w8.out.below hb)
  have HK_w9 := Lib.hid ((hb.block H HK_w8.out.2).trans HK_w8.out.1)
  have HK_w9 := Lib.hid (And.intro HK_w9.out (Nat.lt_of_lt_of_le HK_w8.out.2 hb.size))
  have ARA_w9 := Lib.hid (ARA_w8.out.below hb)
  have AGA_w9 := Lib.hid (AGA_w8.out.below hb)
  have ARB_w9 := Lib.hid (ARB_w8.out.below hb)
  clear HG_w8 R0_w8 R1_w8 HK_w8 ARA_w8 AGA_w8 ARB_w8
  have AGB_w9 := Lib.hid r_agb
  clear hb h r_agb
  clear RGD
  rw [← HGFb.out]
  go_wp2_with fail
  refine (Error_same gb w9 HG_w9.out).mono ?_
  rintro e w10 ⟨rfl, hb⟩
  have HB_w10 := Lib.hid (HB_w9.out.trans (hb.mono HB_w9.out.size))
  have HG_w10 := Lib.hid (HG_w9.out.at_ hb)
  have R0_w10 := Lib.hid (R0_w9.out.below hb)
  have R1_w10 := Lib.hid (R1_w9.out.below hb)
  have HK_w10 := Lib.hid ((hb.block H HK_w9.out.2).trans HK_w9.out.1)
  have HK_w10 := Lib.hid (And.intro HK_w10.out (Nat.lt_of_lt_of_le HK_w9.out.2 hb.size))
  have ARA_w10 := Lib.hid (ARA_w9.out.below hb)
  have AGA_w10 := Lib.hid (AGA_w9.out.below hb)
  have ARB_w10 := Lib.hid (ARB_w9.out.below hb)
  have AGB_w10 := Lib.hid (AGB_w9.out.below hb)
  clear HG_w9 R0_w9 R1_w9 HK_w9 ARA_w9 AGA_w9 ARB_w9 AGB_w9
  clear hb
  go_wp2_with fail
  refine (Books_same (outC x0 [⟨s2, x3, 1⟩]) (out_W HN0.out (fun c hc => by rw [List.mem_singleton.1 hc]; exact HS1.out 1 (by decide) (by decide))) agb arb c_agb c_arb t_agb t_arb w10 AGB_w10.out ARB_w10.out (out_len _ _)).mono ?_
  rintro e w11 ⟨rfl, hb⟩
  have HB_w11 := Lib.hid (HB_w10.out.trans (hb.mono HB_w10.out.size))
  have HG_w11 := Lib.hid (HG_w10.out.at_ hb)
  have R0_w11 := Lib.hid (R0_w10.out.below hb)
  have R1_w11 := Lib.hid (R1_w10.out.below hb)
  have HK_w11 := Lib.hid ((hb.block H HK_w10.out.2).trans HK_w10.out.1)
  have HK_w11 := Lib.hid (And.intro HK_w11.out (Nat.lt_of_lt_of_le HK_w10.out.2 hb.size))
  have ARA_w11 := Lib.hid (ARA_w10.out.below hb)
  have AGA_w11 := Lib.hid (AGA_w10.out.below hb)
  have ARB_w11 := Lib.hid (ARB_w10.out.below hb)
  have AGB_w11 := Lib.hid (AGB_w10.out.below hb)
  clear HG_w10 R0_w10 R1_w10 HK_w10 ARA_w10 AGA_w10 ARB_w10 AGB_w10
  clear hb
  obtain ⟨gc, hgc⟩ : ∃ f, f = joinFault x0 [⟨s2, x3, 3⟩] := ⟨_, rfl⟩
  have HGFc := Lib.hid hgc
  clear hgc
  obtain ⟨wmc, hwm⟩ : ∃ z, z = w11.alloc (.cells (cV ⟨s2, x3, 3⟩) 37) := ⟨_, rfl⟩
  have hbm : Below w11.heap.size w11 wmc := by rw [hwm]; exact (Below.refl _ _).alloc (Nat.le_refl _) _
  have HRM := Lib.hid (show Rd wmc (some ⟨w11.heap.size, 0, none⟩) 37 (cellsC [⟨s2, x3, 3⟩]) by rw [hwm, cells_one, ← cV_list]; exact Rd.new _ _ _)
  have HWM := Lib.hid hwm
  have RGD := Lib.hid (range_of_row HK_w11.out.1)
  have HB_wmc := Lib.hid (HB_w11.out.trans (hbm.mono HB_w11.out.size))
  have HG_wmc := Lib.hid (HG_w11.out.at_ hbm)
  have R0_wmc := Lib.hid (R0_w11.out.below hbm)
  have R1_wmc := Lib.hid (R1_w11.out.below hbm)
  have HK_wmc := Lib.hid ((hbm.block H HK_w11.out.2).trans HK_w11.out.1)
  have HK_wmc := Lib.hid (And.intro HK_wmc.out (Nat.lt_of_lt_of_le HK_w11.out.2 hbm.size))
  have ARA_wmc := Lib.hid (ARA_w11.out.below hbm)
  have AGA_wmc := Lib.hid (AGA_w11.out.below hbm)
  have ARB_wmc := Lib.hid (ARB_w11.out.below hbm)
  have AGB_wmc := Lib.hid (AGB_w11.out.below hbm)
  clear HG_w11 R0_w11 R1_w11 HK_w11 ARA_w11 AGA_w11 ARB_w11 AGB_w11
  clear hbm hwm
  go_wp2_with (first
    | ((refine ld_digG rfl (.tmp 7) rfl H 0 (by rfl) x3 HN3.out RGD.out ?_); simp only [Act.put, List.setIfInBounds_toArray, List.set_cons_zero, List.set_cons_succ])
    | (refine bld_cont rfl (.tmp 76) (.tmp 77) 3 rfl s2 x3 HN3.out (by rfl) (by rfl) ?_)
    | (refine bld_one rfl (.tmp 78) rfl ⟨s2, x3, 3⟩ (HS1.out 3 (by decide) (by decide)) (by rfl) ?_))
  rw [← HWM.out]
  refine (RJoin_calls x0 [⟨s2, x3, 3⟩] HN0.out (fun c hc => by rw [List.mem_singleton.1 hc]; exact HS1.out 3 (by decide) (by decide)) a0 _ c0 1 e0 _ wmc R0_wmc.out HRM.out LN0.out.1 (by simp)).mono ?_
  rintro e w12 h
  obtain ⟨hb, arc, c_arc, t_arc, rfl, r_arc⟩ := rjoinPost_out h
  have HB_w12 := Lib.hid (HB_wmc.out.trans (hb.mono HB_wmc.out.size))
  have HG_w12 := Lib.hid (HG_wmc.out.at_ hb)
  have R0_w12 := Lib.hid (R0_wmc.out.below hb)
  have R1_w12 := Lib.hid (R1_wmc.out.below hb)
  have HK_w12 := Lib.hid ((hb.block H HK_wmc.out.2).trans HK_wmc.out.1)
  have HK_w12 := Lib.hid (And.intro HK_w12.out (Nat.lt_of_lt_of_le HK_wmc.out.2 hb.size))
  have ARA_w12 := Lib.hid (ARA_wmc.out.below hb)
  have AGA_w12 := Lib.hid (AGA_wmc.out.below hb)
  have ARB_w12 := Lib.hid (ARB_wmc.out.below hb)
  have AGB_w12 := Lib.hid (AGB_wmc.out.below hb)
  clear HG_wmc R0_wmc R1_wmc HK_wmc ARA_wmc AGA_wmc ARB_wmc AGB_wmc
  have ARC_w12 := Lib.hid r_arc
  clear hb h r_arc
  clear HRM HWM RGD
  have RGD := Lib.hid (range_of_row HK_w12.out.1)
  go_wp2_with (first
    | ((refine ld_digG rfl (.tmp 7) rfl H 0 (by rfl) x3 HN3.out RGD.out ?_); simp only [Act.put, List.setIfInBounds_toArray, List.set_cons_zero, List.set_cons_succ]))
  refine (Trust_calls x0 HN0.out a0 c0 e0 s2 x3 HN3.out LN2.out w12 R0_w12.out LN0.out.1 LN0.out.2.1 LN0.out.2.2).mono ?_
  rintro e w13 h
  obtain ⟨hb, agc, c_agc, t_agc, rfl, r_agc⟩ := joinPost_out h
  have HB_w13 := Lib.hid (HB_w12.out.trans (hb.mono HB_w12.out.size))
  have HG_w13 := Lib.hid (HG_w12.out.at_ hb)
  have R0_w13 := Lib.hid (R0_w12.out.below hb)
  have R1_w13 := Lib.hid (R1_w12.out.below hb)
  have HK_w13 := Lib.hid ((hb.block H HK_w12.out.2).trans HK_w12.out.1)
  have HK_w13 := Lib.hid (And.intro HK_w13.out (Nat.lt_of_lt_of_le HK_w12.out.2 hb.size))
  have ARA_w13 := Lib.hid (ARA_w12.out.below hb)
  have AGA_w13 := Lib.hid (AGA_w12.out.below hb)
  have ARB_w13 := Lib.hid (ARB_w12.out.below hb)
  have AGB_w13 := Lib.hid (AGB_w12.out.below hb)
  have ARC_w13 := Lib.hid (ARC_w12.out.below hb)
  clear HG_w12 R0_w12 R1_w12 HK_w12 ARA_w12 AGA_w12 ARB_w12 AGB_w12 ARC_w12
  have AGC_w13 := Lib.hid r_agc
  clear hb h r_agc
  clear RGD
  rw [← HGFc.out]
  go_wp2_with fail
  refine (Error_same gc w13 HG_w13.out).mono ?_
  rintro e w14 ⟨rfl, hb⟩
  have HB_w14 := Lib.hid (HB_w13.out.trans (hb.mono HB_w13.out.size))
  have HG_w14 := Lib.hid (HG_w13.out.at_ hb)
  have R0_w14 := Lib.hid (R0_w13.out.below hb)
  have R1_w14 := Lib.hid (R1_w13.out.below hb)
  have HK_w14 := Lib.hid ((hb.block H HK_w13.out.2).trans HK_w13.out.1)
  have HK_w14 := Lib.hid (And.intro HK_w14.out (Nat.lt_of_lt_of_le HK_w13.out.2 hb.size))
  have ARA_w14 := Lib.hid (ARA_w13.out.below hb)
  have AGA_w14 := Lib.hid (AGA_w13.out.below hb)
  have ARB_w14 := Lib.hid (ARB_w13.out.below hb)
  have AGB_w14 := Lib.hid (AGB_w13.out.below hb)
  have ARC_w14 := Lib.hid (ARC_w13.out.below hb)
  have AGC_w14 := Lib.hid (AGC_w13.out.below hb)
  clear HG_w13 R0_w13 R1_w13 HK_w13 ARA_w13 AGA_w13 ARB_w13 AGB_w13 ARC_w13 AGC_w13
  clear hb
  go_wp2_with fail
  refine (Books_same (outC x0 [⟨s2, x3, 3⟩]) (out_W HN0.out (fun c hc => by rw [List.mem_singleton.1 hc]; exact HS1.out 3 (by decide) (by decide))) agc arc c_agc c_arc t_agc t_arc w14 AGC_w14.out ARC_w14.out (out_len _ _)).mono ?_
  rintro e w15 ⟨rfl, hb⟩
  have HB_w15 := Lib.hid (HB_w14.out.trans (hb.mono HB_w14.out.size))
  have HG_w15 := Lib.hid (HG_w14.out.at_ hb)
  have R0_w15 := Lib.hid (R0_w14.out.below hb)
  have R1_w15 := Lib.hid (R1_w14.out.below hb)
  have HK_w15 := Lib.hid ((hb.block H HK_w14.out.2).trans HK_w14.out.1)
  have HK_w15 := Lib.hid (And.intro HK_w15.out (Nat.lt_of_lt_of_le HK_w14.out.2 hb.size))
  have ARA_w15 := Lib.hid (ARA_w14.out.below hb)
  have AGA_w15 := Lib.hid (AGA_w14.out.below hb)
  have ARB_w15 := Lib.hid (ARB_w14.out.below hb)
  have AGB_w15 := Lib.hid (AGB_w14.out.below hb)
  have ARC_w15 := Lib.hid (ARC_w14.out.below hb)
  have AGC_w15 := Lib.hid (AGC_w14.out.below hb)
  clear HG_w14 R0_w14 R1_w14 HK_w14 ARA_w14 AGA_w14 ARB_w14 AGB_w14 ARC_w14 AGC_w14
  clear hb
  go_wp2_with fail
  go_ret
  exact ⟨rfl, HB_w15.out⟩

set_option maxRecDepth 100000 in
theorem lifted (os : Os) (started : os.Started) (H : Type) (enc : TypeId × Value → H) :
    ReturnsInHanded {} Tryd.checked os 3 .any (fun w args => (Rows.bookTellsSpec.pre enc Tryd.prog Tryd.f3 Rows.bookTellsRow.domain false w args ∧ laidMetH Tryd.prog Laid.list w) ∧ sizedMet enc Tryd.prog Tryd.f3 (OpenSpec.ofChange Rows.bookTellsSpec) false w args) (Rows.bookTellsSpec.post enc Tryd.prog Tryd.f3 false true false false) := by
  refine returnsInHanded_of_change_and (C := Tryd.checked) (X := fun w _ => laidMetH Tryd.prog Laid.list w) (fun _ _ _ hh h => h.of_heap hh) Laid.own started (by kernel_rfl) Tryd.func3
    (ChangeSpec.witness_at (enc := enc) (C := Tryd.checked) (os := os) (X := fun w _ => laidMetH Tryd.prog Laid.list w) false (laidWorld os) #[.slice none 0 0, .slice none 0 0, .string ⟨#[]⟩, .agg #[.int .u8 0, .int .u8 0, .int .u8 0, .int .u8 0, .int .u8 0, .int .u8 0, .int .u8 0, .int .u8 0, .int .u8 0, .int .u8 0, .int .u8 0, .int .u8 0, .int .u8 0, .int .u8 0, .int .u8 0, .int .u8 0, .int .u8 0, .int .u8 0, .int .u8 0, .int .u8 0, .int .u8 0, .int .u8 0, .int .u8 0, .int .u8 0, .int .u8 0, .int .u8 0, .int .u8 0, .int .u8 0, .int .u8 0, .int .u8 0, .int .u8 0, .int .u8 0]] 8 rfl (by kernel_rfl) (by kernel_rfl) (by kernel_rfl) (by kernel_rfl) (by kernel_rfl) (laidWorld_met os _)) ?_
  intro W base args ds gs before hval0 hW _ hsz hL _
  have hg := handle_of_laid hL
  have hval : ∀ (j : Nat) t v, Tryd.f3.params[j]? = some t → args[j]? = some v → Value.okWide Tryd.prog W .any base t v := hval0
  have hW' := hW
  obtain ⟨p, q, hA0, hV, rfl, hfz, hnd⟩ := hW
  have hA : DataW.TrodAll enc Tryd.prog W 0 (fun _ => true) true Tryd.f3.params.toList args.toList ds p := hA0
  rw [Tryd.params3] at hA hval
  obtain ⟨v0, vs0, d0, ds0, p0, q0, hargs, rfl, rfl, h0, r0⟩ := trodAll_cons hA
  obtain ⟨v1, vs1, d1, ds1, p1, q1, rfl, rfl, rfl, h1, r1⟩ := trodAll_cons r0
  obtain ⟨v2, vs2, d2, ds2, p2, q2, rfl, rfl, rfl, h2, r2⟩ := trodAll_cons r1
  obtain ⟨v3, vs3, d3, ds3, p3, q3, rfl, rfl, rfl, h3, r3⟩ := trodAll_cons r2
  obtain ⟨rfl, rfl, rfl⟩ := trodAll_nil r3
  obtain rfl : args = #[v0, v1, v2, v3] := by cases args; simp_all
  obtain ⟨rfl, rfl⟩ := trodVars_none hV
  have k0 := h0
  have lt0 : ∀ x ∈ p0, x.block < W.heap.size := by obtain ⟨m, hm⟩ := k0; exact DataW.trod_lt m _ _ _ hm
  obtain ⟨x0, a0, c0, e0, rfl, l0, m0, n0, r_0⟩ := open_book Tryd.underlying22 contT (hval 0 22 v0 rfl rfl) h0
  have k1 := h1
  have lt1 : ∀ x ∈ p1, x.block < W.heap.size := by obtain ⟨m, hm⟩ := k1; exact DataW.trod_lt m _ _ _ hm
  obtain ⟨x1, a1, c1, e1, rfl, l1, m1, n1, r_1⟩ := open_book Tryd.underlying22 contT (hval 1 22 v1 rfl rfl) h1
  have k2 := h2
  have lt2 : ∀ x ∈ p2, x.block < W.heap.size := by obtain ⟨m, hm⟩ := k2; exact DataW.trod_lt m _ _ _ hm
  obtain ⟨s2, rfl, _, _, l2⟩ := open_string Tryd.underlying9 (hval 2 9 v2 rfl rfl) h2
  have k3 := h3
  have lt3 : ∀ x ∈ p3, x.block < W.heap.size := by obtain ⟨m, hm⟩ := k3; exact DataW.trod_lt m _ _ _ hm
  obtain ⟨x3, n3, rfl⟩ := open_digest Tryd.underlying24 Tryd.underlying5 (by kernel_rfl) (by kernel_rfl) (hval 3 24 v3 rfl rfl) h3
  clear hA0 hval0
  refine (walk x0 a0 c0 e0 x1 a1 c1 e1 s2 x3 W l0 m0 n0 r_0 l1 m1 n1 r_1 l2 n3 hg).mono fun e W' ⟨he, bel⟩ => ?_
  subst he
  exact ⟨_, rfl, _, _, _, [], _, [], hW', trodAll_mk1 (shut_bool Tryd.underlying4 _), (trodAll_cons_mk (Below.trod Laid.laidOut (by kernel_rfl) (of_decide_eq_true (by kernel_rfl)) k0 bel lt0) (trodAll_cons_mk (Below.trod Laid.laidOut (by kernel_rfl) (of_decide_eq_true (by kernel_rfl)) k1 bel lt1) (trodAll_cons_mk (Below.trod Laid.laidOut (by kernel_rfl) (of_decide_eq_true (by kernel_rfl)) k2 bel lt2) (trodAll_cons_mk (Below.trod Laid.laidOut (by kernel_rfl) (of_decide_eq_true (by kernel_rfl)) k3 bel lt3) trodAll_mk0)))), rfl, bel.frame _, fun h => by cases h⟩

theorem over : Rows.bookTellsRow.holds Tryd.pinned (OpenSpec.ofChange Rows.bookTellsSpec) :=
  OpenClaim.holds_of_wide 3 Tryd.f3 rfl rfl rfl rfl rfl rfl rfl ⟨rfl, rfl, rfl, rfl, rfl⟩ rfl rfl rfl rfl rfl (by kernel_rfl) Tryd.func3 (by kernel_rfl)
    (of_decide_eq_true (by kernel_rfl)) (by unfold Func.isWrapper; first | (rw [if_pos (by decide +kernel)]; kernel_rfl) | (rw [if_neg (by decide +kernel)]; exact ⟨rfl, rfl⟩))
    (fun os started H enc _ => lifted os started H enc)

theorem proved : Rows.BookTellsCardSaid :=
  Claim7.holds_tied_plain_at .later [] [.handle] true (true, "c18f572d1db44e48bde3ff57b88883c48bc0a28ab6ec9a84f5a30c17c6151546") true
    over (fun _ h => by cases h) (by kernel_rfl) (fun _ h => by cases h) bookTells_row_tie rfl ⟨rfl, rfl⟩ (by kernel_rfl) rfl
    (fun f fn hf hfn => by
      obtain rfl : f = 3 := Option.some.inj ((show Tryd.prog.funcNamed "oathbook/oathbooklaw2.BookTells" = some 3 by kernel_rfl).symm.trans hf) |>.symm
      obtain rfl : fn = Tryd.f3 := (Option.some.inj (Tryd.func3.symm.trans hfn)).symm
      exact ⟨by kernel_rfl, stand_of_all (by kernel_rfl)⟩)
    (by kernel_rfl)
#print axioms proved
end bookTells
end Go.Proofs.YtppjmonbmlbhpaaDoor
