/- Walks: the comparison of bids, and: is there a bid of somebody? -/
import Derived.Test.YteikbbdkpeecaaaDoorBidMem
import Derived.Test.YteikbbdkpeecaaaDoorBidCount
import Derived.Test.YteikbbdkpeecaaaDoorBidVow
import Derived.Test.YteikbbdkpeecaaaDoorBidLay
import Derived.Great.BuildSlice
import Derived.Deep.RegionHeld3
namespace Go.Proofs.YteikbbdkpeecaaaDoor
open Go.RowKit
set_option linter.unusedVariables false
set_option linter.unusedSimpArgs false
open Go.Shelf Go.Lib Go.Sort
theorem fill_1 (cs c0 : Array Value) (size : Nat) (hs : 0 < size) (h : cs.size = size) (h0 : c0.size = size) : Instr.fill (fun i => some (i * size, size)) c0 [(0, .agg cs)] = some cs := by
  have := Great.fill_whole hs [.agg cs] c0 (fun v hv => by rw [List.mem_singleton.1 hv]; exact h) (by simp [h0])
  refine Eq.trans this ?_
  simp [Value.cells]
theorem wpl_build1 {P : Program} {w : World} {ops : Array Oper} {rest : List Oper} {o : Oper} {a : Act} {Q : Exit → Act → World → Prop} (T e : TypeId) (z : Value) (size bytes : Nat) (ht : P.underlying T = some (.slice e)) (hinfo : (P.info? e).map (fun i => (i.zero, i.size, i.bytes)) = some (some z, size, bytes)) (hsz : 0 < size) (hsm : size ≤ 1000) (hgd : o.guard = none)
    (x : Operand) (ho : o.op = .buildSlice T 1 #[(0, x)]) (cs : Array Value) (hx : a.eval x = .agg cs) (hcs : cs.size = size)
    (h : wpList P ops Q rest (a.put o.dst (.slice (some ⟨w.heap.size, 0, none⟩) 1 1)) (w.alloc (.cells cs e))) : wpList P ops Q (o :: rest) a w := by
  unfold wpList
  rw [if_pos (by unfold Region.wanted; rw [hgd])]
  refine .inl ?_
  obtain ⟨i, hi, hz, hs', hb⟩ := info_parts hinfo
  refine wp_buildSlice T e 1 _ ho cs i z ht hi hz (by rw [hs']; omega) (by rw [hs']; omega) ?_ h
  have he : (Array.map (fun x => match x with | (i, x) => (i, a.eval x)) #[(0, x)]).toList = [(0, .agg cs)] := by
    simp [hx]
  rw [hs']
  refine Eq.trans (congrArg _ he) ?_
  exact fill_1 cs _ size hsz hcs (by simp)
abbrev BdS := {b : Bd // b.salt.length = 32}
instance : Inhabited BdS := ⟨⟨⟨0, 0, nz⟩, rfl⟩⟩
def encB (b : BdS) : List Value := bL b.1
def valB (d : List BdS) : List Bd := d.map (·.1)
theorem encB_length (b : BdS) : (encB b).length = 34 := bL_length b.2
theorem valB_len (d : List BdS) : ∀ b ∈ valB d, b.salt.length = 32 := by
  intro e he
  obtain ⟨x, _, rfl⟩ := List.mem_map.1 he
  exact x.2
theorem valB_length (d : List BdS) : (valB d).length = d.length := by unfold valB; rw [List.length_map]
def cmpI (a b : Int) : Int := if a < b then -1 else if b < a then 1 else 0
def cfB (x y : BdS) : Int := if cmpI y.1.amount x.1.amount = 0 then cmpI x.1.who y.1.who else cmpI y.1.amount x.1.amount
instance (a b : Bd) : Decidable (Ahead a b) := by unfold Ahead; infer_instance
theorem ltB (x y : BdS) : ltOf cfB x y = decide (Ahead x.1 y.1) := by
  have h : cfB x y < 0 ↔ Ahead x.1 y.1 := by
    unfold cfB cmpI Ahead
    repeat' split
    all_goals omega
  unfold ltOf
  exact decide_eq_decide.2 h
theorem swoB : SWO (ltOf cfB) where
  irrefl x := by rw [ltB]; unfold Ahead; simp
  trans x y z h1 h2 := by rw [ltB, decide_eq_true_iff] at *; unfold Ahead at *; omega
  ntrans x y z h1 h2 := by rw [ltB, decide_eq_false_iff_not] at *; unfold Ahead at *; omega
theorem NaN_calls (a : Int) (w : World) : Calls Tryd.prog 53 #[.int .i64 a] w fun e w' => e = .returned (.bool false) ∧ w = w' := by
  go_enter Tryd.func53, Tryd.ntmps53
  go_wp2_with fail
  go_ret
  exact ⟨by simp, rfl⟩
theorem Compare_calls (a b : Int) (w : World) : Calls Tryd.prog 38 #[.int .i64 a, .int .i64 b] w fun e w' => e = .returned (.int .i64 (cmpI a b)) ∧ w = w' := by
  have N1 := Lib.hid (NaN_calls a w)
  have N2 := Lib.hid (NaN_calls b w)
  unfold cmpI
  by_cases h1 : a < b
  · rw [if_pos h1]
    have z1 : decide (a < b) = true := decide_eq_true h1
    clear h1
    go_enter Tryd.func38, Tryd.ntmps38
    go_wp2_with fail
    refine N1.out.mono ?_
    rintro e w' ⟨rfl, rfl⟩
    go_wp2_with fail
    refine N2.out.mono ?_
    rintro e w' ⟨rfl, rfl⟩
    go_wp2_with fail
    go_ret
    exact ⟨rfl, rfl⟩
  · rw [if_neg h1]
    have z1 : decide (a < b) = false := decide_eq_false h1
    clear h1
    by_cases h2 : b < a
    · rw [if_pos h2]
      have z2 : decide (b < a) = true := decide_eq_true h2
      clear h2
      go_enter Tryd.func38, Tryd.ntmps38
      go_wp2_with fail
      refine N1.out.mono ?_
      rintro e w' ⟨rfl, rfl⟩
      go_wp2_with fail
      refine N2.out.mono ?_
      rintro e w' ⟨rfl, rfl⟩
      go_wp2_with fail
      go_ret
      exact ⟨rfl, rfl⟩
    · rw [if_neg h2]
      have z2 : decide (b < a) = false := decide_eq_false h2
      clear h2
      go_enter Tryd.func38, Tryd.ntmps38
      go_wp2_with fail
      refine N1.out.mono ?_
      rintro e w' ⟨rfl, rfl⟩
      go_wp2_with fail
      refine N2.out.mono ?_
      rintro e w' ⟨rfl, rfl⟩
      go_wp2_with fail
      go_ret
      exact ⟨rfl, rfl⟩
theorem Or_calls (x y : Int) (g : Nat) (w : World) (h0 : w.cell? ⟨g, 0, none⟩ = some (.int .i64 x)) (h1 : w.cell? ⟨g, 1, none⟩ = some (.int .i64 y)) : Calls Tryd.prog 37 #[.slice (some ⟨g, 0, none⟩) 2 2] w fun e w' => e = .returned (.int .i64 (if x = 0 then y else x)) ∧ w = w' := by
  obtain ⟨r, hr⟩ : ∃ r, r = if x = 0 then y else x := ⟨_, rfl⟩
  rw [← hr]
  have HR := Lib.hid hr
  clear hr
  go_enter Tryd.func37, Tryd.ntmps37
  go_wp2_with fail
  go_loop [8] (fun i => (i = .int .i64 0) ∨ (i = .int .i64 1 ∧ x = 0) ∨ (i = .int .i64 2 ∧ x = 0 ∧ y = 0)) (fun i => 2 - (intOf i).toNat)
  case atStart => exact .inl rfl
  case round =>
    rcases hrel with rfl | ⟨rfl, h2⟩ | ⟨rfl, h2, h3⟩
    · by_cases hx : x = 0
      · have z1 : (x != 0) = false := by rw [hx]; rfl
        have HX := Lib.hid hx
        clear hx
        go_wp2_with fail
        go_round
        case rel => exact .inr (.inl ⟨by go_num, HX.out⟩)
        case measure => simp [intOf]
      · have z1 : (x != 0) = true := by simpa using hx
        have HX := Lib.hid hx
        clear hx
        go_wp2_with fail
        go_ret
        exact ⟨by rw [HR.out, if_neg HX.out]; rfl, rfl⟩
    · by_cases hy : y = 0
      · have z1 : (y != 0) = false := by rw [hy]; rfl
        have HX := Lib.hid hy
        have HX2 := Lib.hid h2
        clear hy h2
        go_wp2_with fail
        go_round
        case rel => exact .inr (.inr ⟨by go_num, HX2.out, HX.out⟩)
        case measure => simp [intOf]
      · have z1 : (y != 0) = true := by simpa using hy
        have HX2 := Lib.hid h2
        clear hy h2
        go_wp2_with fail
        go_ret
        exact ⟨by rw [HR.out, if_pos HX2.out]; rfl, rfl⟩
    · have HX2 := Lib.hid h2
      have HX3 := Lib.hid h3
      clear h2 h3
      go_wp2_with fail
      go_ret
      exact ⟨by rw [HR.out, if_pos HX2.out, HX3.out]; rfl, rfl⟩
end Go.Proofs.YteikbbdkpeecaaaDoor
