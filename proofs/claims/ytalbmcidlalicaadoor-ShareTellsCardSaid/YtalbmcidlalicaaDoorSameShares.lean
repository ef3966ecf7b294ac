/- Walk: oathbooksame.Shares tells if two lists of shares are the same. -/
import Derived.Test.YtalbmcidlalicaaDoorSame
import Derived.Test.YtalbmcidlalicaaDoorShares
import Derived.Deep.QuietTactic
namespace Go.Proofs.YtalbmcidlalicaaDoor
open Go.RowKit
set_option linter.unusedVariables false

theorem Sh.ext' {s t : Sh} (h1 : s.at_ = t.at_) (h2 : s.data = t.data) : s = t := by cases s; cases t; simp_all
def sameSh (xs ys : List Sh) : Bool := xs.map (·.at_) == ys.map (·.at_) && xs.map (·.data) == ys.map (·.data)
theorem same_iff (xs ys : List Sh) : sameSh xs ys = true ↔ xs = ys := by
  unfold sameSh
  rw [Bool.and_eq_true, beq_iff_eq, beq_iff_eq]
  constructor
  · rintro ⟨h1, h2⟩
    apply List.ext_getElem
    · simpa using congrArg List.length h1
    · intro i hi hj
      have e1 := List.getElem_of_eq h1 (i := i) (by simpa using hi)
      have e2 := List.getElem_of_eq h2 (i := i) (by simpa using hi)
      simp only [List.getElem_map] at e1 e2
      exact Sh.ext' e1 e2
  · rintro rfl; exact ⟨rfl, rfl⟩
theorem Rd.N {w w' : World} {a : Option Addr} {e : TypeId} {vs : List Value} (h : Rd w a e vs) {n : Nat} (hw : w' = w.drewN n) : Rd w' a e vs := by subst hw; exact h.drewN n
theorem AreS.N {w w' : World} {E : Nat → TypeId → Prop} {ss : List Sh} {vs : List Value} (h : AreS E w ss vs) {n : Nat} (hw : w' = w.drewN n) : AreS E w' ss vs := by
  subst hw
  exact ⟨h.1, fun i hi h1 h2 => ⟨(h.2 i hi h1 h2).1, (h.2 i hi h1 h2).2.drewN n⟩⟩

set_option maxHeartbeats 2000000 in
theorem Shares_calls (xs ys : List Sh) (a b : Option Addr) (ca cb ea eb : Nat) (us vs : List Value) (w : World) (ha : Rd w a ea us) (hau : AreS (fun _ _ => True) w xs us) (hb : Rd w b eb vs) (hbv : AreS (fun _ _ => True) w ys vs)
    (hx : xs.length ≤ 9223372036854775807) :
    Calls Tryd.prog 21 #[.slice a xs.length ca, .slice b ys.length cb] w fun e w' => e = .returned (.bool (sameSh xs ys)) ∧ ∃ n, w' = w.drewN n := by
  by_cases hl : xs.length = ys.length
  · have hl1 : xs.length ≤ ys.length := by omega
    have hl2 : ys.length ≤ xs.length := by omega
    clear hl
    have hq : ((xs.length : Int) != (ys.length : Int)) = false := by rw [bne_eq_false_iff_eq]; omega
    go_enter Tryd.func21, Tryd.ntmps21
    go_wp2
    go_loopw [5] (fun i wr => ∃ k n : Nat, k ≤ xs.length ∧ i = .int .i64 k ∧ xs.take k = ys.take k ∧ wr = w.drewN n) (fun i _ => xs.length - (intOf i).toNat)
    case atStart => exact ⟨0, 0, Nat.zero_le _, rfl, rfl, rfl⟩
    case round =>
      obtain ⟨k, n, hk, rfl, ht, hwr⟩ := hrel
      have Ht := Lib.hid ht
      have ha' : Rd wr a ea us := ha.N hwr
      have hb' : Rd wr b eb vs := hb.N hwr
      have hau' : AreS (fun _ _ => True) wr xs us := hau.N hwr
      have hbv' : AreS (fun _ _ => True) wr ys vs := hbv.N hwr
      have Hw := Lib.hid hwr
      clear ht hwr ha hb hau hbv
      by_cases hlt : k < xs.length
      · have hky : k < ys.length := by omega
        obtain ⟨ba, oa, a1, p1, e1, rfl, _, x0, x1, r1, _, hxl⟩ := AreS.cells ha' hau' hlt
        obtain ⟨bb, ob, a2, p2, e2, rfl, _, y0, y1, r2, _, hyl⟩ := AreS.cells hb' hbv' hky
        rw [show oa + 2 * k = oa + k * 2 by omega] at x0
        rw [show oa + (2 * k + 1) = oa + k * 2 + 1 by omega] at x1
        rw [show ob + 2 * k = ob + k * 2 by omega] at y0
        rw [show ob + (2 * k + 1) = ob + k * 2 + 1 by omega] at y1
        have i1 : (k : Int) < (xs.length : Int) := by omega
        have i2 : (k : Int) < (ys.length : Int) := by omega
        have i0 : (0 : Int) ≤ (k : Int) := by omega
        have BC := fun n => Bytes_calls xs[k].data ys[k].data a1 a2 p1 p2 e1 e2 (wr.drewN n) r1 r2 hxl
        obtain ⟨same, hs⟩ : ∃ s, s = decide (xs[k].data = ys[k].data) := ⟨_, rfl⟩
        rw [← hs] at BC
        have Hs := Lib.hid hs
        clear hs ha' hb' hau' hbv' r1 r2 hxl hyl
        generalize hxk : xs[k].data.length = lx at *
        generalize hyk : (ys[k]'hky).data.length = ly at *
        clear hxk hyk
        obtain ⟨X, hX⟩ : ∃ X, X = xs[k].at_ := ⟨_, rfl⟩
        obtain ⟨Y, hY⟩ : ∃ Y, Y = (ys[k]'hky).at_ := ⟨_, rfl⟩
        rw [← hX] at x0
        rw [← hY] at y0
        have HX := Lib.hid hX
        have HY := Lib.hid hY
        clear hX hY
        cases same with
        | true =>
          by_cases hxy : X = Y
          · have t : ((X.toNat : Int) != (Y.toNat : Int)) = false := by rw [hxy]; simp
            have Hxy := Lib.hid hxy
            clear hxy
            go_wp2_with fail
            go_quiet ((go_at_call 25; exact Calls.quiet_of (BC _)))
            go_wp2_with fail
            go_quiet (fail)
            go_wp2
            go_roundw
            case rel =>
              refine ⟨k + 1, _, by omega, by go_num, ?_, by rw [Hw.out]; first | (rw [World.drewN_drewN, World.drewN_drewN]; done) | (rw [World.drewN_drewN]; done)⟩
              have e3 : xs[k] = ys[k]'hky := Sh.ext' (by rw [← HX.out, ← HY.out]; exact Hxy.out) (of_decide_eq_true Hs.out.symm)
              rw [List.take_succ_eq_append_getElem hlt, List.take_succ_eq_append_getElem hky, Ht.out, e3]
            case measure => simp [intOf] <;> omega
          · have t : ((X.toNat : Int) != (Y.toNat : Int)) = true := by rw [bne_iff_ne]; intro h; exact hxy ((byte_eq _ _).1 h)
            have Hxy := Lib.hid hxy
            clear hxy
            go_wp2_with fail
            go_quiet ((go_at_call 25; exact Calls.quiet_of (BC _)))
            go_wp2_with fail
            go_quiet (fail)
            go_wp2
            go_ret
            have hne : sameSh xs ys = false := by
              rw [← Bool.not_eq_true, same_iff]
              rintro rfl
              exact Hxy.out (by rw [HX.out, HY.out])
            exact ⟨by rw [hne]; try rfl, _, by rw [Hw.out]; first | (rw [World.drewN_drewN, World.drewN_drewN]; done) | (rw [World.drewN_drewN]; done)⟩
        | false =>
          go_wp2_with fail
          go_quiet ((go_at_call 25; exact Calls.quiet_of (BC _)))
          go_wp2_with fail
          go_quiet (fail)
          go_wp2
          go_ret
          have hne : sameSh xs ys = false := by
            rw [← Bool.not_eq_true, same_iff]
            rintro rfl
            exact (of_decide_eq_false Hs.out.symm) rfl
          exact ⟨by rw [hne]; try rfl, _, by rw [Hw.out]; first | (rw [World.drewN_drewN, World.drewN_drewN]; done) | (rw [World.drewN_drewN]; done)⟩
      · obtain rfl : k = xs.length := by omega
        go_wp2
        go_ret
        have h5 := Ht.out
        rw [List.take_of_length_le (Nat.le_refl _), List.take_of_length_le hl2] at h5
        exact ⟨by rw [(same_iff _ _).2 h5]; try rfl, n, Hw.out⟩
  · have hne : ((xs.length : Int) != (ys.length : Int)) = true := by rw [bne_iff_ne]; omega
    go_enter Tryd.func21, Tryd.ntmps21
    go_wp2
    go_ret
    have hn : sameSh xs ys = false := by
      rw [← Bool.not_eq_true, same_iff]
      rintro rfl
      exact hl rfl
    exact ⟨by rw [hn]; try rfl, 0, rfl⟩
end Go.Proofs.YtalbmcidlalicaaDoor
