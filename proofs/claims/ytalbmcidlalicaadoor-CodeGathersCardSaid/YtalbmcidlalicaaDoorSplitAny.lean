/- Walk: share.Split at whatever comes; and the law's own small splitting. -/
import Derived.Test.YtalbmcidlalicaaDoorSplit
namespace Go.Proofs.YtalbmcidlalicaaDoor
open Go.RowKit
set_option linter.unusedVariables false

def SplitAny (w : World) (secret : List UInt8) (n : Int) (more : List (List UInt8)) (e : Ending) (w' : World) : Prop :=
  Below w.heap.size w w' ∧ ((splitF secret n more = 0 ∧ ∃ a cap vs, e = .returned (.tuple #[.slice a n.toNat cap, .nilIface]) ∧ n.toNat ≤ cap ∧ cap ≤ 9223372036854775807 ∧ Rd w' a 49 vs ∧ AreS (fun b e => e = 5 ∧ w.heap.size ≤ b) w' (splitOf secret n.toNat more) vs) ∨
    (splitF secret n more ≠ 0 ∧ e = .returned (.tuple #[.slice none 0 0, .iface 23 (.int .i64 (splitF secret n more))])))

set_option maxHeartbeats 2000000 in
theorem Split_any (secret : List UInt8) (n : Int) (more : List (List UInt8)) (a : Option Addr) (ca ea : Nat) (b : Option Addr) (cb eb : Nat) (vs : List Value) (w : World) (ha : Rd w a ea (secret.map vB)) (hb : Rd w b eb vs) (hv : AreB (fun _ _ => True) w more vs) (hl : secret.length ≤ 9223372036854775807) (hm : more.length ≤ 9223372036854775807) :
    Calls Tryd.prog 20 #[.slice a secret.length ca, .int .i64 n, .slice b more.length cb] w (SplitAny w secret n more) := by
  by_cases h1 : n < 1 ∨ 20 < n
  · have hf : splitF secret n more = 2 := by unfold splitF; rw [if_pos h1]
    have Hf := Lib.hid hf
    clear hf
    by_cases h2 : n < 1
    · go_enter Tryd.func20, Tryd.ntmps20
      go_wp2
      go_ret2
      exact ⟨Below.refl _ _, .inr ⟨by rw [Hf.out]; decide, by rw [Hf.out]; rfl⟩⟩
    · have h3 : 20 < n := by omega
      go_enter Tryd.func20, Tryd.ntmps20
      go_wp2
      go_ret2
      exact ⟨Below.refl _ _, .inr ⟨by rw [Hf.out]; decide, by rw [Hf.out]; rfl⟩⟩
  · obtain ⟨m, rfl⟩ : ∃ m : Nat, n = m := ⟨n.toNat, by omega⟩
    by_cases h2 : 100 < secret.length ∨ 20 < more.length
    · have hf : splitF secret m more = 4 := by unfold splitF; rw [if_neg h1, if_pos h2]
      have Hf := Lib.hid hf
      have q1 : decide ((m : Int) < 1) = false := by rw [decide_eq_false]; omega
      have q2 : decide ((20 : Int) < (m : Int)) = false := by rw [decide_eq_false]; omega
      clear hf
      by_cases h3 : 100 < secret.length
      · have q3 : decide ((100 : Int) < (secret.length : Int)) = true := by rw [decide_eq_true_eq]; omega
        clear h1 h2
        go_enter Tryd.func20, Tryd.ntmps20
        go_wp2
        go_ret2
        exact ⟨Below.refl _ _, .inr ⟨by rw [Hf.out]; decide, by rw [Hf.out]; rfl⟩⟩
      · have q3 : decide ((100 : Int) < (secret.length : Int)) = false := by rw [decide_eq_false]; omega
        have q4 : decide ((20 : Int) < (more.length : Int)) = true := by rw [decide_eq_true_eq]; omega
        clear h1 h2
        go_enter Tryd.func20, Tryd.ntmps20
        go_wp2
        go_ret2
        exact ⟨Below.refl _ _, .inr ⟨by rw [Hf.out]; decide, by rw [Hf.out]; rfl⟩⟩
    · refine (Split_calls secret m more a ca ea b cb eb vs w ha hb hv (by omega) (by omega) (by omega) (by omega)).mono ?_
      rintro e w' ⟨hbl, h⟩
      refine ⟨hbl, ?_⟩
      rcases h with ⟨hall, a, cap, us, he, h3, h4, h5, h6⟩ | ⟨hex, he⟩
      · left
        refine ⟨?_, a, cap, us, he, h3, h4, h5, h6⟩
        unfold splitF
        rw [if_neg h1, if_neg h2, if_neg]
        rintro ⟨r, hr1, hr2⟩
        exact hr2 (hall r hr1)
      · right
        have h3 : splitF secret m more = 3 := by unfold splitF; rw [if_neg h1, if_neg h2, if_pos hex]
        rw [h3]
        exact ⟨by decide, he⟩
/-- .. where nothing is wrong -/
theorem Split_ok {secret : List UInt8} {n : Int} {more : List (List UInt8)} (hf : splitF secret n more = 0) (a : Option Addr) (ca ea : Nat) (b : Option Addr) (cb eb : Nat) (vs : List Value) (w : World) (ha : Rd w a ea (secret.map vB)) (hb : Rd w b eb vs) (hv : AreB (fun _ _ => True) w more vs) (hl : secret.length ≤ 9223372036854775807) (hm : more.length ≤ 9223372036854775807) :
    Calls Tryd.prog 20 #[.slice a secret.length ca, .int .i64 n, .slice b more.length cb] w fun e w' => ∃ a cap vs, e = .returned (.tuple #[.slice a n.toNat cap, .nilIface]) ∧ Below w.heap.size w w' ∧ n.toNat ≤ cap ∧ cap ≤ 9223372036854775807 ∧ Rd w' a 49 vs ∧ AreS (fun b e => e = 5 ∧ w.heap.size ≤ b) w' (splitOf secret n.toNat more) vs := by
  refine (Split_any secret n more a ca ea b cb eb vs w ha hb hv hl hm).mono ?_
  rintro e w' ⟨hbl, ⟨_, a, cap, us, he, h1, h2⟩ | ⟨h, _⟩⟩
  · exact ⟨a, cap, us, he, hbl, h1, h2⟩
  · exact absurd hf h
/-- .. where something is -/
theorem Split_no {secret : List UInt8} {n : Int} {more : List (List UInt8)} (hf : splitF secret n more ≠ 0) (a : Option Addr) (ca ea : Nat) (b : Option Addr) (cb eb : Nat) (vs : List Value) (w : World) (ha : Rd w a ea (secret.map vB)) (hb : Rd w b eb vs) (hv : AreB (fun _ _ => True) w more vs) (hl : secret.length ≤ 9223372036854775807) (hm : more.length ≤ 9223372036854775807) :
    Calls Tryd.prog 20 #[.slice a secret.length ca, .int .i64 n, .slice b more.length cb] w fun e w' => e = .returned (.tuple #[.slice none 0 0, .iface 23 (.int .i64 (splitF secret n more))]) ∧ Below w.heap.size w w' := by
  refine (Split_any secret n more a ca ea b cb eb vs w ha hb hv hl hm).mono ?_
  rintro e w' ⟨hbl, ⟨h, _⟩ | ⟨_, he⟩⟩
  · exact absurd h hf
  · exact ⟨he, hbl⟩

theorem splitF_fact : splitF [9] 2 [[1]] = 0 := by
  unfold splitF
  rw [if_neg (by decide), if_neg (by decide), if_neg]
  rintro ⟨r, hr, h⟩
  rw [List.mem_singleton.1 hr] at h
  exact h rfl
theorem splitOf_fact : splitOf [9] 2 [[1]] = [⟨1, [8]⟩, ⟨2, [11]⟩] := by kernel_rfl
theorem Split_fact (w : World) : Calls Tryd.prog 20 #[.slice (some ⟨w.heap.size, 0, none⟩) 1 1, .int .i64 2, .slice (some ⟨w.heap.size + 2, 0, none⟩) 1 1] (((w.alloc (.cells #[.int .u8 9] 5)).alloc (.cells #[.int .u8 1] 5)).alloc (.cells #[.slice (some ⟨w.heap.size + 1, 0, none⟩) 1 1] 33)) fun e w' =>
    ∃ b o a1 cap, e = .returned (.tuple #[.slice (some ⟨b, o, none⟩) 2 cap, .nilIface]) ∧ Below w.heap.size w w' ∧ w'.cell? ⟨b, o + 2, none⟩ = some (.int .u8 2) ∧ (∃ c1 b1 o1, w'.cell? ⟨b, o + 2 + 1, none⟩ = some (.slice (some ⟨b1, o1, none⟩) 1 c1) ∧ w'.cell? ⟨b1, o1, none⟩ = some (.int .u8 11)) ∧ a1 = 0 := by
  have r1 := ((Rd.new w #[.int .u8 9] 5).alloc (.cells #[.int .u8 1] 5)).alloc (.cells #[.slice (some ⟨w.heap.size + 1, 0, none⟩) 1 1] 33)
  have r2 := (Rd.new (w.alloc (.cells #[.int .u8 9] 5)) #[.int .u8 1] 5).alloc (.cells #[.slice (some ⟨w.heap.size + 1, 0, none⟩) 1 1] 33)
  have r3 := Rd.new ((w.alloc (.cells #[.int .u8 9] 5)).alloc (.cells #[.int .u8 1] 5)) #[.slice (some ⟨w.heap.size + 1, 0, none⟩) 1 1] 33
  simp only [World.size_alloc] at r2 r3
  have hA : AreB (fun _ _ => True) (((w.alloc (.cells #[.int .u8 9] 5)).alloc (.cells #[.int .u8 1] 5)).alloc (.cells #[.slice (some ⟨w.heap.size + 1, 0, none⟩) 1 1] 33)) [[1]] [.slice (some ⟨w.heap.size + 1, 0, none⟩) 1 1] :=
    ⟨rfl, fun i h h' => by
      obtain rfl : i = 0 := by simpa using h
      exact ⟨_, 1, _, rfl, r2, fun _ _ _ => trivial, by simp⟩⟩
  refine (Split_ok splitF_fact _ 1 _ _ 1 _ _ _ r1 r3 hA (by simp) (by simp)).mono ?_
  rintro e w' ⟨a, cap, vs, he, hb, _, _, h1, h2⟩
  have e2 : (2 : Int).toNat = 2 := rfl
  rw [e2] at he h2
  rw [splitOf_fact] at h2
  obtain ⟨b, o, a', c', e', rfl, _, hx0, hx1, hr, _, _⟩ := AreS.cells h1 h2 (k := 1) (by simp)
  obtain ⟨b1, o1, rfl, _, hcc⟩ := hr.bytes (k := 0) (by simp)
  refine ⟨b, o, 0, cap, he, ((((Below.refl _ w).alloc (Nat.le_refl _) _).alloc (by simp) _).alloc (by simp; omega) _).trans (hb.mono (by simp; omega)), hx0, ⟨c', b1, o1, hx1, hcc 0 (by simp)⟩, rfl⟩
end Go.Proofs.YtalbmcidlalicaaDoor
