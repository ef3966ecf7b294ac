/- What the document's Joined tells is what LAGRANGE's weights tell; share.Join at whatever comes. -/
import Derived.Test.YtalbmcidlalicaaDoorJoined
import Derived.Test.YtalbmcidlalicaaDoorHidesLaw
import Derived.Test.YtalbmcidlalicaaDoorJoin
import Derived.Test.YtalbmcidlalicaaDoorRefFault
namespace Go.Proofs.YtalbmcidlalicaaDoor
open Go.RowKit
set_option linter.unusedVariables false

theorem shares_nodup {lo hi : Nat} {ss : List Sh} (h : sharesF lo hi ss ss.length = 0) : (ss.map (·.at_)).Nodup := by
  apply nodup_of_fresh
  intro i hi'
  have h2 := (noFault h i (by simpa using hi')).2.2.1
  rw [List.getElem_map, ← List.map_take]
  exact h2
theorem joined_thrus (ss : List Sh) (L : Nat) (x : UInt8) (hnd : (ss.map (·.at_)).Nodup) (h0 : 0 < ss.length) (hL : (ss.headD default).data.length = L) : joinedOf ss L x = thrus (ss.map (·.at_)) (ss.map (·.data)) x := by
  have hh : ((ss.map (·.data)).headD []).length = L := by
    cases ss with
    | nil => simp at h0
    | cons s ss => exact hL
  unfold joinedOf thrus
  rw [hh]
  refine List.map_congr_left fun k _ => ?_
  rw [List.map_map]
  have := Gf.newton_thro (ss.map (·.at_)) (ss.map fun s => s.data.getD k 0) hnd (by simp) x
  rw [List.length_map] at this
  exact this
theorem faultAt_take (lo hi : Nat) (ss : List Sh) (k i : Nat) (h : i < k) : faultAt lo hi (ss.take k) i = faultAt lo hi ss i := by
  unfold faultAt
  have e1 : (ss.take k).getD i default = ss.getD i default := by
    rw [List.getD_eq_getElem?_getD, List.getD_eq_getElem?_getD, List.getElem?_take]
    rw [if_pos h]
  have e2 : (ss.take k).take i = ss.take i := by rw [List.take_take, Nat.min_eq_left (by omega)]
  have e3 : (ss.take k).headD default = ss.headD default := by
    cases ss with
    | nil => simp
    | cons s ss => cases k with
      | zero => omega
      | succ k => rfl
  rw [e1, e2, e3]
theorem sharesF_take (lo hi : Nat) (ss : List Sh) (k : Nat) : ∀ n, n ≤ k → sharesF lo hi (ss.take k) n = sharesF lo hi ss n := by
  intro n
  induction n with
  | zero => intro _; rfl
  | succ n ih => intro hn; simp only [sharesF]; rw [ih (by omega), faultAt_take lo hi ss k n (by omega)]

theorem Join_out (n : Nat) (a : Option Addr) (ca : Nat) (w : World) (h : n < 1 ∨ 20 < n) (hn : n ≤ 9223372036854775807) :
    Calls Tryd.prog 24 #[.slice a n ca] w fun e w' => e = .returned (.tuple #[.slice none 0 0, .iface 23 (.int .i64 2)]) ∧ w = w' := by
  by_cases h1 : n < 1
  · have q1 : decide ((n : Int) < 1) = true := by rw [decide_eq_true_eq]; omega
    clear h
    go_enter Tryd.func24, Tryd.ntmps24
    go_wp2
    go_ret2
    exact ⟨rfl, rfl⟩
  · have q1 : decide ((n : Int) < 1) = false := by rw [decide_eq_false]; omega
    have q2 : decide ((20 : Int) < (n : Int)) = true := by rw [decide_eq_true_eq]; omega
    clear h
    go_enter Tryd.func24, Tryd.ntmps24
    go_wp2
    go_ret2
    exact ⟨rfl, rfl⟩
theorem joinOf_fact : joinOf [⟨3, [9]⟩] = [9] := by decide +kernel
theorem join_F_fact : sharesF 1 255 [⟨3, [9]⟩] 1 = 0 := by decide +kernel
theorem Join_fact (w : World) : Calls Tryd.prog 24 #[.slice (some ⟨w.heap.size + 1, 0, none⟩) 1 1] ((w.alloc (.cells #[.int .u8 9] 5)).alloc (.cells #[.int .u8 3, .slice (some ⟨w.heap.size, 0, none⟩) 1 1] 49)) fun e w' =>
    ∃ b o cap, e = .returned (.tuple #[.slice (some ⟨b, o, none⟩) 1 cap, .nilIface]) ∧ Below w.heap.size w w' ∧ w'.cell? ⟨b, o, none⟩ = some (.int .u8 9) := by
  have r1 := (Rd.new w #[.int .u8 9] 5).alloc (.cells #[.int .u8 3, .slice (some ⟨w.heap.size, 0, none⟩) 1 1] 49)
  have r2 := Rd.new (w.alloc (.cells #[.int .u8 9] 5)) #[.int .u8 3, .slice (some ⟨w.heap.size, 0, none⟩) 1 1] 49
  simp only [World.size_alloc] at r2
  have hA : AreS (fun _ _ => True) ((w.alloc (.cells #[.int .u8 9] 5)).alloc (.cells #[.int .u8 3, .slice (some ⟨w.heap.size, 0, none⟩) 1 1] 49)) [⟨3, [9]⟩] [.int .u8 3, .slice (some ⟨w.heap.size, 0, none⟩) 1 1] :=
    ⟨rfl, fun i h h1 h2 => by
      obtain rfl : i = 0 := by simpa using h
      exact ⟨rfl, _, 1, _, rfl, r1, fun _ _ _ => trivial, by simp⟩⟩
  refine (Join_calls [⟨3, [9]⟩] 1 1 _ 1 _ _ _ r2 hA (by omega) (by omega) (by omega) (by omega) (by simp) (by simp) rfl (by omega)).mono ?_
  rintro e w' ⟨hb, ⟨_, a, cap, he, hown⟩ | ⟨hx, _⟩⟩
  · rw [joinOf_fact] at he hown
    obtain ⟨b, o, rfl, _, hc⟩ := (Rd.of_own hown).bytes (k := 0) (by simp)
    exact ⟨b, o, cap, he, (((Below.refl _ w).alloc (Nat.le_refl _) _).alloc (by simp) _).trans (hb.mono (by simp; omega)), hc 0 (by simp)⟩
  · exact absurd join_F_fact hx
end Go.Proofs.YtalbmcidlalicaaDoor
