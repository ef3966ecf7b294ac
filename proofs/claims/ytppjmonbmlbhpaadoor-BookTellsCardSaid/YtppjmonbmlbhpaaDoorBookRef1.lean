/- Walks: the document's Less and IsName. -/
import Derived.Test.YtppjmonbmlbhpaaDoorBookLaw
import Derived.Test.YtppjmonbmlbhpaaDoorNamed
import Derived.Test.YtppjmonbmlbhpaaDoorArrA
import Derived.Laws.RangeString
import Derived.Laws.RangeAny
import Derived.WalkKit
import Derived.BigQuiet
import Derived.Deep.CutBlock
namespace Go.Proofs.YtppjmonbmlbhpaaDoor
open Go.RowKit
set_option linter.unusedVariables false
set_option linter.unusedSimpArgs false
theorem bl_drop (a b : List UInt8) (k : Nat) (h : a.take k = b.take k) : Op.bytesLess a b = Op.bytesLess (a.drop k) (b.drop k) := by
  induction k generalizing a b with
  | zero => rfl
  | succ k ih =>
    cases a with
    | nil => cases b with
      | nil => rfl
      | cons y b => simp at h
    | cons x a =>
      cases b with
      | nil => simp at h
      | cons y b =>
        simp only [List.take_succ_cons, List.cons.injEq] at h
        obtain ⟨rfl, h⟩ := h
        rw [List.drop_succ_cons, List.drop_succ_cons, ← ih a b h]
        conv => lhs; unfold Op.bytesLess
        simp
theorem sb_drop (a : ByteArray) (k : Nat) (h : k < a.size) : (sb a).drop k = a[k] :: (sb a).drop (k + 1) := by
  unfold sb
  rw [List.drop_eq_getElem_cons (by simpa using h)]
  rfl
theorem sb_take (a : ByteArray) (k : Nat) (h : k < a.size) : (sb a).take (k + 1) = (sb a).take k ++ [a[k]] := by
  unfold sb
  rw [List.take_succ_eq_append_getElem (by simpa using h)]
  rfl
set_option maxHeartbeats 4000000 in
theorem Less_calls (a b : ByteArray) (ha : a.size ≤ 9223372036854775807) (hb : b.size ≤ 9223372036854775807) (w : World) :
    Calls Tryd.prog 15 #[.string a, .string b] w fun e w' => e = .returned (.bool (Op.bytesLess (sb a) (sb b))) ∧ Below w.heap.size w w' := by
  obtain ⟨r, hr⟩ : ∃ r, r = Op.bytesLess (sb a) (sb b) := ⟨_, rfl⟩
  have HR := Lib.hid hr
  rw [← hr]
  clear hr
  go_enter Tryd.func15, Tryd.ntmps15
  go_wp2_with fail
  go_loopw [5] (fun i wr => ∃ k : Nat, k ≤ a.size ∧ k ≤ b.size ∧ i = .int .i64 (k : Int) ∧ Hid ((sb a).take k = (sb b).take k) ∧ Hid (Below w.heap.size w wr)) (fun i _ => a.size - (intOf i).toNat)
  case atStart => exact ⟨0, Nat.zero_le _, Nat.zero_le _, rfl, Lib.hid rfl, Lib.hid (Below.refl _ _)⟩
  case round =>
    obtain ⟨k, hk1, hk2, rfl, HK, HBL⟩ := hrel
    by_cases h1 : k < a.size
    · by_cases h2 : k < b.size
      · have j0 : (0 : Int) ≤ (k : Int) := by omega
        have j1 : (k : Int) < (a.size : Int) := by omega
        have j2 : (k : Int) < (b.size : Int) := by omega
        have e4 : IntKind.i64.wrap ((k : Int) + 1) = (k : Int) + 1 := IntWalk.i64_in _ (by omega)
        by_cases heq : a[k] = b[k]
        · have z1 : ((a[k].toNat : Int) != (b[k].toNat : Int)) = false := by rw [heq]; simp
          have HK2 := Lib.hid (show (sb a).take (k + 1) = (sb b).take (k + 1) by rw [sb_take a k h1, sb_take b k h2, HK.out, heq])
          clear heq
          go_wp2_with fail
          have hex := inB_ex wr.heap.size wr
          refine wp_region_inB wr.heap.size (by kernel_rfl) (by kernel_rfl) ?_
          repeat (first
            | go_big_quiet_step ((first | (intro _; rfl))))
          refine wpQuiet_nil ?_
          intro wZ hwZ
          have HBZ := Lib.hid (HBL.out.trans (Below.mono hwZ HBL.out.size))
          clear hwZ
          go_wp2_with fail
          go_roundw
          case rel => exact ⟨k + 1, by omega, by omega, by go_num, HK2, HBZ⟩
          case measure => simp [intOf]; omega
        · have z1 : ((a[k].toNat : Int) != (b[k].toNat : Int)) = true := by
            rw [bne_iff_ne]; intro h; exact heq (UInt8.toNat_inj.1 (by omega))
          have HR2 := Lib.hid (show decide (a[k].toNat < b[k].toNat) = r by
            rw [HR.out, bl_drop _ _ k HK.out, sb_drop a k h1, sb_drop b k h2]
            unfold Op.bytesLess
            have : (a[k] == b[k]) = false := by simp [heq]
            rw [this]
            simp [UInt8.lt_iff_toNat_lt])
          clear heq
          go_wp2_with fail
          have hex := inB_ex wr.heap.size wr
          refine wp_region_inB wr.heap.size (by kernel_rfl) (by kernel_rfl) ?_
          repeat (first
            | go_big_quiet_step ((first | (intro _; rfl))))
          refine wpQuiet_nil ?_
          intro wZ hwZ
          have HBZ := Lib.hid (HBL.out.trans (Below.mono hwZ HBL.out.size))
          clear hwZ
          go_wp2_with fail
          have hex := inB_ex wZ.heap.size wZ
          refine wp_region_inB wZ.heap.size (by kernel_rfl) (by kernel_rfl) ?_
          repeat (first
            | go_big_quiet_step ((first | (intro _; rfl))))
          refine wpQuiet_nil ?_
          intro wY hwY
          have HBY := Lib.hid (HBZ.out.trans (Below.mono hwY HBZ.out.size))
          have hr2 := HR2.out
          subst hr2
          clear hwY
          go_wp2_with fail
          go_ret
          exact ⟨rfl, HBY.out⟩
      · have hkb : k = b.size := by omega
        obtain rfl : r = false := by
          rw [HR.out, bl_drop _ _ k HK.out, List.drop_eq_nil_of_le (show (sb b).length ≤ k by rw [sb_length]; omega)]
          cases (sb a).drop k <;> rfl
        have j1 : (k : Int) < (a.size : Int) := by omega
        have j2 : ¬ (k : Int) < (b.size : Int) := by omega
        have j3 : ¬ (a.size : Int) < (b.size : Int) := by omega
        have j4 : ¬ a.size < b.size := by omega
        clear hkb
        go_wp2_with fail
        go_ret
        exact ⟨by simp, HBL.out⟩
    · have hka : k = a.size := by omega
      have hr3 : decide (a.size < b.size) = r := by
        rw [HR.out, bl_drop _ _ k HK.out, List.drop_eq_nil_of_le (show (sb a).length ≤ k by rw [sb_length]; omega)]
        by_cases h5 : a.size < b.size
        · rw [sb_drop b k (by omega), decide_eq_true h5]; rfl
        · rw [List.drop_eq_nil_of_le (show (sb b).length ≤ k by rw [sb_length]; omega), decide_eq_false h5]; rfl
      have HR3 := Lib.hid hr3
      have j1 : ¬ (k : Int) < (a.size : Int) := by omega
      clear hka hr3
      go_wp2_with fail
      go_ret
      exact ⟨by rw [← HR3.out]; simp, HBL.out⟩
theorem badRune_high (r : Nat) (h : 128 ≤ r) : badRune r = true := by
  unfold badRune
  rw [decide_eq_true (show 122 < r by omega), decide_eq_true (show 57 < r by omega), decide_eq_true (show r ≠ 45 by omega)]
  simp
theorem idx_bad (s : ByteArray) : ∀ (f pos : Nat), s.size - pos ≤ f → (Lib.idxFuncFrom badRune true s f pos < 0 ↔ ∀ i, pos ≤ i → (h : i < s.size) → badRune s[i].toNat = false)
  | 0, pos, hf => by
    simp only [Lib.idxFuncFrom]
    exact ⟨fun _ i h1 h2 => by omega, fun _ => by decide⟩
  | f + 1, pos, hf => by
    unfold Lib.idxFuncFrom
    by_cases h : pos < s.size
    · rw [if_pos h]
      by_cases hh : s[pos].toNat < 128
      · rw [decode_ascii s pos h hh]
        dsimp only
        cases hb : badRune s[pos].toNat with
        | true =>
          rw [if_pos rfl]
          exact ⟨fun h5 => by omega, fun h5 => by rw [h5 pos (Nat.le_refl _) h] at hb; cases hb⟩
        | false =>
          rw [if_neg (by decide), idx_bad s f (pos + 1) (by omega)]
          refine ⟨fun h5 i h1 h2 => ?_, fun h5 i h1 h2 => h5 i (by omega) h2⟩
          by_cases h6 : i = pos
          · subst h6; exact hb
          · exact h5 i (by omega) h2
      · rw [badRune_high _ (decode_high s pos h (by omega)).1, if_pos rfl]
        exact ⟨fun h5 => by omega, fun h5 => by have := h5 pos (Nat.le_refl _) h; rw [badRune_high _ (by omega)] at this; cases this⟩
    · rw [if_neg h]
      exact ⟨fun _ i h1 h2 => by omega, fun _ => by decide⟩
theorem named_bad {s : ByteArray} {k : Nat} (h : k < s.size) (hb : badRune s[k].toNat = true) : named s = false := by
  unfold named
  have : ¬ Lib.idxFunc badRune true s < 0 := fun h5 => by
    have := (idx_bad s s.size 0 (by omega)).1 h5 k (Nat.zero_le _) h
    rw [hb] at this; cases this
  rw [decide_eq_true (show 0 ≤ Lib.idxFunc badRune true s by omega)]
  simp
theorem named_good {s : ByteArray} (hg : ∀ i, (h : i < s.size) → badRune s[i].toNat = false) : named s = (decide (0 < s.size) && decide (s.size ≤ 30)) := by
  unfold named
  have h1 : Lib.idxFunc badRune true s < 0 := (idx_bad s s.size 0 (by omega)).2 (fun i _ h => hg i h)
  rw [decide_eq_false (show ¬ 0 ≤ Lib.idxFunc badRune true s by omega)]
  have h2 : (s.toList == []) = !decide (0 < s.size) := by
    have hl : s.toList.length = s.size := by rw [show s.toList = s.data.toList from Lib.toList_data s]; simp
    cases hc : s.toList with
    | nil => rw [hc] at hl; simp at hl; simp [← hl]
    | cons x xs => rw [hc] at hl; simp at hl; simp [← hl]
  rw [h2]; simp
set_option maxHeartbeats 4000000 in
theorem IsName_calls (s : ByteArray) (hs : s.size ≤ 9223372036854775807) (w : World) : Calls Tryd.prog 14 #[.string s] w fun e w' => e = .returned (.bool (named s)) ∧ Below w.heap.size w w' := by
  obtain ⟨r, hr⟩ : ∃ r, r = named s := ⟨_, rfl⟩
  have HR := Lib.hid hr
  rw [← hr]
  clear hr
  go_enter Tryd.func14, Tryd.ntmps14
  go_wp2_with fail
  go_loopw [3] (fun i wr => ∃ k : Nat, k ≤ s.size ∧ i = .int .i64 (k : Int) ∧ Hid (∀ i, i < k → (h : i < s.size) → badRune s[i].toNat = false) ∧ Hid (Below w.heap.size w wr)) (fun i _ => s.size - (intOf i).toNat)
  case atStart => exact ⟨0, Nat.zero_le _, rfl, Lib.hid (fun i h => by omega), Lib.hid (Below.refl _ _)⟩
  case round =>
    obtain ⟨k, hk1, rfl, HK, HBL⟩ := hrel
    by_cases h1 : k < s.size
    · have j0 : (0 : Int) ≤ (k : Int) := by omega
      have j1 : (k : Int) < (s.size : Int) := by omega
      have e4 : IntKind.i64.wrap ((k : Int) + 1) = (k : Int) + 1 := IntWalk.i64_in _ (by omega)
      obtain ⟨N, hN⟩ : ∃ N, N = s[k].toNat := ⟨_, rfl⟩
      have HN := Lib.hid hN
      obtain ⟨bb, hbb⟩ : ∃ b, b = badRune N := ⟨_, rfl⟩
      go_upto_region 5 with fail
      rw [← hN]
      have HBB := Lib.hid (show badRune s[k].toNat = bb by rw [hbb, hN])
      clear hN
      obtain ⟨wA, rfl⟩ : ∃ z, z = wr := ⟨_, rfl⟩
      go_cut [32] from 14 to 32 (fun v wx => v = .bool bb ∧ wA = wx)
      case first =>
        unfold badRune at hbb
        clear HBB HBL HK HN
        by_cases h1 : N < 97 <;> by_cases h2 : 122 < N <;> by_cases h3 : N < 48 <;> by_cases h4 : 57 < N <;> by_cases h5 : N = 45
        all_goals first
          | (exfalso; omega)
          | (simp only [h1, h2, h3, h4, h5, decide_true, decide_false, Bool.true_or, Bool.false_or, Bool.or_true, Bool.or_false, Bool.and_true, Bool.true_and, Bool.and_false, Bool.false_and, ne_eq, not_true_eq_false, not_false_eq_true] at hbb
             subst hbb
             have z1 : decide ((97 : Int) ≤ (N : Int)) = !decide (N < 97) := by rw [← decide_not]; exact decide_eq_decide.2 (by omega)
             have z2 : decide ((N : Int) ≤ 122) = !decide (122 < N) := by rw [← decide_not]; exact decide_eq_decide.2 (by omega)
             have z3 : decide ((48 : Int) ≤ (N : Int)) = !decide (N < 48) := by rw [← decide_not]; exact decide_eq_decide.2 (by omega)
             have z4 : decide ((N : Int) ≤ 57) = !decide (57 < N) := by rw [← decide_not]; exact decide_eq_decide.2 (by omega)
             have z5 : ((N : Int) == 45) = decide (N = 45) := by rw [show ((N : Int) == 45) = decide ((N : Int) = 45) from rfl]; exact decide_eq_decide.2 (by omega)
             rw [show decide (N = 45) = _ from by simp only [h5, decide_true, decide_false]; exact rfl] at z5
             simp only [h1, h2, h3, h4, decide_true, decide_false, Bool.not_true, Bool.not_false] at z1 z2 z3 z4
             clear h1 h2 h3 h4 h5
             go_wp2_with fail
             go_meet
             exact ⟨by first | rfl | (simp only [z1, z2, z3, z4, z5]; rfl), rfl⟩)
      case rest =>
      obtain ⟨rfl, rfl⟩ := hcut
      cases bb with
      | true =>
        have hr2 : r = false := by rw [HR.out]; exact named_bad h1 HBB.out
        have HR2 := Lib.hid hr2
        clear hr2
        go_wp2_with fail
        go_ret
        exact ⟨by rw [HR2.out]; rfl, HBL.out⟩
      | false =>
        have HK2 : Hid (∀ i, i < k + 1 → (h : i < s.size) → badRune s[i].toNat = false) := Lib.hid fun i h1 h2 => by
          by_cases h3 : i = k
          · subst h3; exact HBB.out
          · exact HK.out i (by omega) h2
        go_wp2_with fail
        go_roundw
        case rel => exact ⟨k + 1, by omega, by go_num, HK2, HBL⟩
        case measure => simp [intOf]; omega
    · obtain rfl : k = s.size := by omega
      have hr2 : r = (decide (0 < s.size) && decide (s.size ≤ 30)) := by rw [HR.out]; exact named_good (fun i h => HK.out i h h)
      have HR2 := Lib.hid hr2
      clear hr2
      have j1 : ¬ (s.size : Int) < (s.size : Int) := by omega
      by_cases h0 : 0 < s.size
      · have g0 : decide ((0 : Int) < (s.size : Int)) = true := by rw [decide_eq_true_eq]; omega
        go_wp2_with fail
        go_ret
        exact ⟨by rw [HR2.out]; simp [h0] <;> omega, HBL.out⟩
      · have g0 : decide ((0 : Int) < (s.size : Int)) = false := by rw [decide_eq_false]; omega
        go_wp2_with fail
        go_ret
        exact ⟨by rw [HR2.out]; simp [h0] <;> omega, HBL.out⟩
end Go.Proofs.YtppjmonbmlbhpaaDoor
