/- Walk: book.Join tells two books as one. -/
import Derived.Test.YtppjmonbmlbhpaaDoorCheck
import Derived.Test.YtppjmonbmlbhpaaDoorBoth
import Derived.Test.YtppjmonbmlbhpaaDoorOpenA
import Derived.Test.YtppjmonbmlbhpaaDoorAppAll
import Derived.Shelf.Small.Strs
namespace Go.Proofs.YtppjmonbmlbhpaaDoor
open Go.RowKit Go.Shelf
set_option linter.unusedVariables false
set_option linter.unusedSimpArgs false

def cmRen : Ren := ⟨fun | 106 => 19 | 213 => 24 | 265 => 30 | n => n, fun | 3 => 3 | 9 => 9 | n => n, fun n => n⟩
theorem cmLays : Lays.n106 Tryd.prog cmRen := { mixed := by kernel_rfl, f106 := by kernel_rfl, f213 := by kernel_rfl, f265 := by kernel_rfl, t3 := by kernel_rfl, a3 := fun _ => by kernel_rfl, z3 := fun _ => by kernel_rfl, v3 := fun _ => by kernel_rfl, t9 := by kernel_rfl, a9 := fun _ => by kernel_rfl, z9 := fun _ => by kernel_rfl, v9 := fun _ => by kernel_rfl }
theorem Compare_calls (a b : ByteArray) (w : World) : Calls Tryd.prog 19 #[.string a, .string b] w fun e w' => e = .returned (.int .i64 (if Op.bytesLess (sb a) (sb b) then -1 else if Op.bytesLess (sb b) (sb a) then 1 else 0)) ∧ w' = w := by
  have h := Any.strings_Compare cmLays a b w
  rw [cmp_bytes] at h
  exact h
theorem info_cont : (Tryd.prog.info? 37).map (fun i => (i.zero, i.size, i.bytes)) = some (some (.agg #[.string ⟨#[]⟩, .int .u8 0, .int .u8 0, .int .u8 0, .int .u8 0, .int .u8 0, .int .u8 0, .int .u8 0, .int .u8 0, .int .u8 0, .int .u8 0, .int .u8 0, .int .u8 0, .int .u8 0, .int .u8 0, .int .u8 0, .int .u8 0, .int .u8 0, .int .u8 0, .int .u8 0, .int .u8 0, .int .u8 0, .int .u8 0, .int .u8 0, .int .u8 0, .int .u8 0, .int .u8 0, .int .u8 0, .int .u8 0, .int .u8 0, .int .u8 0, .int .u8 0, .int .u8 0, .int .i64 0]), 34, 56) := by kernel_rfl
/-- all of a slice but its first element -/
def tailA (B o c : Nat) : Option Addr := if c = 1 then some ⟨B, o, none⟩ else some ⟨B, o + 34, none⟩
theorem run_tail (B o n c : Nat) (hn : 1 ≤ n) (w : World) : (Instr.slice 22 (.slice (some ⟨B, o, none⟩) n c) (some (.int .i64 1)) none none).run Tryd.prog w = .ok (.slice (tailA B o c) (n - 1) (c - 1)) w := by
  have hs : (sizeOf 37).run Tryd.prog w = .ok 34 w := by kernel_rfl
  have h1 : (1 : Int) ≤ (n : Int) := by omega
  unfold Instr.slice tailA
  simp only [Sem.run_bind, run_underlying Tryd.underlying22 w, Result.andThen_ok]
  by_cases hc : c = 1
  · simp [go_sem, hs, h1, hc, Instr.sliceBounds]
  · simp [go_sem, hs, h1, hc, Instr.sliceBounds, Addr.add, Ne.symm hc]
theorem yields_tail {ops : Array Oper} {S : World → Prop} {op : Oper} {a : Act} (hw : Region.wanted op (yielded ops a.tmps) = true) (x : Operand) (ho : op.op = .slice 22 x (some (.const (.int .i64 1))) none none) (B o n c : Nat) (hx : a.eval x = .slice (some ⟨B, o, none⟩) n c) (hn : 1 ≤ n) :
    YieldsIf Tryd.prog ops S op (.slice (tailA B o c) (n - 1) (c - 1)) a := .inl ⟨hw, fun w _ => by
  unfold execOp
  have := run_tail B o n c hn w
  simp only [ho, hx, Option.map_some, Option.map_none, Instr.sliceAt, BigFrame.eval_const, Sem.run_bind, run_underlying Tryd.underlying22 w, this, Result.andThen_ok]
  rfl⟩
theorem rd_tail {w : World} {B o e : Nat} {u : Ct} {ur : List Ct} (hu : CtW u) (h : Rd w (some ⟨B, o, none⟩) e (cellsC (u :: ur))) (c : Nat) (hc : (u :: ur).length ≤ c) : Rd w (tailA B o c) e (cellsC ur) := by
  unfold tailA
  split
  · rename_i h1
    have : ur = [] := by
      cases ur with
      | nil => rfl
      | cons x r => simp at hc; omega
    subst this
    exact Rd.nil
  · have := h.drop 34
    rw [cells_cons, List.drop_append_of_le_length (by rw [cL_length hu]; exact Nat.le_refl _), List.drop_of_length_le (by rw [cL_length hu]; exact Nat.le_refl _), List.nil_append] at this
    exact this
def lenOf : Value → Nat | .slice _ n _ => n | _ => 0
def joinFault (xs ys : List Ct) : Int := if fault xs ≠ 0 then fault xs else if fault ys ≠ 0 then fault ys else if 40 < (mergeC xs ys).length then 4 else 0
def JoinPost (w : World) (xs ys : List Ct) (e : Ending) (w' : World) : Prop :=
  Below w.heap.size w w' ∧ ((joinFault xs ys = 0 ∧ ∃ a cap e', e = .returned (.tuple #[.slice a (mergeC xs ys).length cap, .nilIface]) ∧ (mergeC xs ys).length ≤ cap ∧ cap ≤ 9223372036854775807 ∧ Rd w' a e' (cellsC (mergeC xs ys))) ∨
    (joinFault xs ys ≠ 0 ∧ e = .returned (.tuple #[.slice none 0 0, .iface 29 (.int .i64 (joinFault xs ys))])))

set_option maxRecDepth 20000 in
set_option maxHeartbeats 4000000 in
theorem BJoin_calls (xs ys : List Ct) (hx : ∀ c ∈ xs, CtW c) (hy : ∀ c ∈ ys, CtW c) (ax ay : Option Addr) (cx cy ex ey : Nat) (w : World) (hrx : Rd w ax ex (cellsC xs)) (hry : Rd w ay ey (cellsC ys))
    (hlx : xs.length ≤ 9223372036854775807) (hly : ys.length ≤ 9223372036854775807) (hcx : xs.length ≤ cx) (hcy : ys.length ≤ cy) (hcx2 : cx ≤ 9223372036854775807) (hcy2 : cy ≤ 9223372036854775807) :
    Calls Tryd.prog 8 #[.slice ax xs.length cx, .slice ay ys.length cy] w (JoinPost w xs ys) := by
  have CX := Check_calls xs hx ax cx ex w hrx hlx
  by_cases hfx : fault xs = 0
  · rw [hfx] at CX
    go_enter Tryd.func8, Tryd.ntmps8
    go_wp2_with fail
    refine CX.mono ?_; rintro e w1 ⟨rfl, hb1⟩
    have hsz1 := hb1.size
    have CY := Check_calls ys hy ay cy ey w1 (hry.below hb1) hly
    have en : errC 0 = .nilIface := rfl
    rw [en]
    clear CX
    by_cases hfy : fault ys = 0
    · rw [hfy, en] at CY
      go_wp2_with fail
      refine CY.mono ?_; rintro e w2 ⟨rfl, hb2⟩
      clear CY
      have hbb : Below w.heap.size w w2 := hb1.trans (hb2.mono hb1.size)
      obtain ⟨g1, g2, g3⟩ := fault_zero.1 hfx
      obtain ⟨k1, k2, k3⟩ := fault_zero.1 hfy
      go_wp2_with fail
      go_loopw [0, 1, 8] (fun va vb vo wr => ∃ (us vs zs : List Ct) (aa ab : Option Addr) (ca cb ea eb : Nat), va = .slice aa us.length ca ∧ vb = .slice ab vs.length cb ∧ wr.ownsRow w2.heap.size 37 34 vo zs.length (cellsC zs) ∧ Rd w2 aa ea (cellsC us) ∧ Rd w2 ab eb (cellsC vs) ∧ zs ++ mergeC us vs = mergeC xs ys ∧ (∀ c ∈ us, CtW c ∧ 1 ≤ c.lvl ∧ c.lvl ≤ 4) ∧ (∀ c ∈ vs, CtW c ∧ 1 ≤ c.lvl ∧ c.lvl ≤ 4) ∧ (∀ c ∈ zs, CtW c) ∧ Below w2.heap.size w2 wr ∧ us.length ≤ ca ∧ vs.length ≤ cb ∧ ca ≤ 9223372036854775807 ∧ cb ≤ 9223372036854775807 ∧ zs.length + us.length + vs.length ≤ 80) (fun va vb _ _ => lenOf va + lenOf vb)
      case atStart => exact ⟨xs, ys, [], ax, ay, cx, cy, ex, ey, rfl, rfl, World.ownsRow_nil _ _ _ _, hrx.below hbb, hry.below hbb, rfl, fun c hc => ⟨hx c hc, (g3 c hc).2.1, (g3 c hc).2.2.1⟩, fun c hc => ⟨hy c hc, (k3 c hc).2.1, (k3 c hc).2.2.1⟩, fun c hc => by simp at hc, Below.refl _ _, hcx, hcy, hcx2, hcy2, by simp only [List.length_nil]; omega⟩
      case round =>
        obtain ⟨us, vs, zs, aa, ab, ca, cb, ea, eb, rfl, rfl, hown, hru, hrv, hmg, hwu, hwv, hwz, hbl, hu1, hv1, hca, hcb, h80⟩ := hrel
        cases us with
        | nil =>
          have hmg2 : zs ++ [] ++ vs = mergeC xs ys := by rw [← hmg]; simp [merge_nil, merge_nil_left]
          have hM : zs.length + 0 + vs.length = (mergeC xs ys).length := by rw [← hmg2]; simp only [List.length_append, List.length_cons, List.length_nil]
          have hlu := cells_length [] (fun c hc => (hwu c hc).1)
          have hlv := cells_length vs (fun c hc => (hwv c hc).1)
          have hcells : cellsC zs ++ cellsC [] ++ cellsC vs = cellsC (mergeC xs ys) := by rw [← hmg2, cells_append, cells_append]
          simp only [List.length_cons, List.length_nil] at hlu hlv h80 hu1 hv1
          have Hlu := Lib.hid hlu
          have Hlv := Lib.hid hlv
          have hfx0 := hfx
          have hfy0 := hfy
          have Hcells := Lib.hid hcells
          have HRU := Lib.hid (hru.below hbl)
          have HRV := Lib.hid hrv
          have HBL := Lib.hid hbl
          have HOWN := Lib.hid hown
          have hs2 := hbl.size
          obtain ⟨M, hMM⟩ : ∃ M, M = (mergeC xs ys).length := ⟨_, rfl⟩
          rw [← hMM] at hM
          have HM := Lib.hid hMM
          have HMe := Lib.hid hM
          have hM80 : M ≤ 80 := by omega
          clear hmg hmg2 hM hlu hlv hcells hru hrv hbl hown hwu hwv hwz hMM
          simp only [List.length_cons, List.length_nil]
          by_cases h40 : 40 < M
          · have q1 : decide (40 < M) = true := by rw [decide_eq_true_eq]; omega
            have hj : joinFault xs ys = 4 := by unfold joinFault; rw [if_neg (by rw [hfx0]; simp), if_neg (by rw [hfy0]; simp), if_pos (by rw [← HM.out]; exact h40)]
            have HJ := Lib.hid hj
            clear hj
            go_wp2_with (first
              | (at_builtin; refine appAll 22 37 _ 34 56 Tryd.underlying22 info_cont rfl (by omega) (by omega) rfl (.tmp 70) (.tmp 71) (by rfl) w2.heap.size u8 zs.length (cellsC zs) (by rfl) HOWN.out aa 0 ca (cellsC []) (by rfl) _ HRU.out Hlu.out (cells_one_all _) (by omega) hs2 ?_; intro av cap w3 hown3 hb3; have HOWN3 := Lib.hid hown3; have HB3 := Lib.hid hb3; have hs3 := hb3.size; clear hown3 hb3)
              | (at_builtin; refine appAll 22 37 _ 34 56 Tryd.underlying22 info_cont rfl (by omega) (by omega) rfl (.tmp 72) (.tmp 73) (by rfl) w2.heap.size (.slice av (zs.length + 0) cap) (zs.length + 0) (cellsC zs ++ cellsC []) (by rfl) HOWN3.out ab vs.length cb (cellsC vs) (by rfl) _ (HRV.out.below (HBL.out.trans HB3.out)) Hlv.out (cells_one_all _) (by omega) (Nat.le_trans hs2 hs3) ?_; intro av4 cap4 w4 hown4 hb4; rw [HMe.out] at hown4 ⊢; rw [Hcells.out] at hown4; have HOWN4 := Lib.hid hown4; have HB4 := Lib.hid hb4; clear hown4 hb4))
            try any_goals (exfalso; omega)
            go_ret2
            exact ⟨hbb.trans ((HBL.out.trans (HB3.out.trans HB4.out)).mono hbb.size), .inr ⟨by rw [HJ.out]; decide, by rw [HJ.out]; rfl⟩⟩
          · have q1 : M ≤ 40 := by omega
            have q2 : ¬ ((40 : Int) < (M : Int)) := by omega
            have q3 : decide ((40 : Int) < (M : Int)) = false := decide_eq_false q2
            have q4 : decide (40 < M) = false := decide_eq_false h40
            have hj : joinFault xs ys = 0 := by unfold joinFault; rw [if_neg (by rw [hfx0]; simp), if_neg (by rw [hfy0]; simp), if_neg (by rw [← HM.out]; exact h40)]
            have HJ := Lib.hid hj
            clear hj
            go_wp2_with (first
              | (at_builtin; refine appAll 22 37 _ 34 56 Tryd.underlying22 info_cont rfl (by omega) (by omega) rfl (.tmp 70) (.tmp 71) (by rfl) w2.heap.size u8 zs.length (cellsC zs) (by rfl) HOWN.out aa 0 ca (cellsC []) (by rfl) _ HRU.out Hlu.out (cells_one_all _) (by omega) hs2 ?_; intro av cap w3 hown3 hb3; have HOWN3 := Lib.hid hown3; have HB3 := Lib.hid hb3; have hs3 := hb3.size; clear hown3 hb3)
              | (at_builtin; refine appAll 22 37 _ 34 56 Tryd.underlying22 info_cont rfl (by omega) (by omega) rfl (.tmp 72) (.tmp 73) (by rfl) w2.heap.size (.slice av (zs.length + 0) cap) (zs.length + 0) (cellsC zs ++ cellsC []) (by rfl) HOWN3.out ab vs.length cb (cellsC vs) (by rfl) _ (HRV.out.below (HBL.out.trans HB3.out)) Hlv.out (cells_one_all _) (by omega) (Nat.le_trans hs2 hs3) ?_; intro av4 cap4 w4 hown4 hb4; rw [HMe.out] at hown4 ⊢; rw [Hcells.out] at hown4; have HOWN4 := Lib.hid hown4; have HB4 := Lib.hid hb4; clear hown4 hb4))
            try any_goals (exfalso; omega)
            go_ret2
            exact ⟨hbb.trans ((HBL.out.trans (HB3.out.trans HB4.out)).mono hbb.size), .inl ⟨HJ.out, av4, cap4, _, by rw [← HM.out]; rfl, by rw [← HM.out]; exact (own_capp HOWN4.out).1, (own_capp HOWN4.out).2, Rd.of_own HOWN4.out⟩⟩
        | cons u ur =>
          cases vs with
          | nil =>
            have hmg2 : zs ++ (u :: ur) ++ [] = mergeC xs ys := by rw [← hmg]; simp [merge_nil, merge_nil_left]
            have hM : zs.length + (ur.length + 1) + 0 = (mergeC xs ys).length := by rw [← hmg2]; simp only [List.length_append, List.length_cons, List.length_nil]
            have hlu := cells_length (u :: ur) (fun c hc => (hwu c hc).1)
            have hlv := cells_length [] (fun c hc => (hwv c hc).1)
            have hcells : cellsC zs ++ cellsC (u :: ur) ++ cellsC [] = cellsC (mergeC xs ys) := by rw [← hmg2, cells_append, cells_append]
            simp only [List.length_cons, List.length_nil] at hlu hlv h80 hu1 hv1
            have Hlu := Lib.hid hlu
            have Hlv := Lib.hid hlv
            have hfx0 := hfx
            have hfy0 := hfy
            have Hcells := Lib.hid hcells
            have HRU := Lib.hid (hru.below hbl)
            have HRV := Lib.hid hrv
            have HBL := Lib.hid hbl
            have HOWN := Lib.hid hown
            have hs2 := hbl.size
            have pu : (0 : Int) < (ur.length : Int) + 1 := by omega
            obtain ⟨M, hMM⟩ : ∃ M, M = (mergeC xs ys).length := ⟨_, rfl⟩
            rw [← hMM] at hM
            have HM := Lib.hid hMM
            have HMe := Lib.hid hM
            have hM80 : M ≤ 80 := by omega
            clear hmg hmg2 hM hlu hlv hcells hru hrv hbl hown hwu hwv hwz hMM
            simp only [List.length_cons, List.length_nil]
            by_cases h40 : 40 < M
            · have q1 : decide (40 < M) = true := by rw [decide_eq_true_eq]; omega
              have hj : joinFault xs ys = 4 := by unfold joinFault; rw [if_neg (by rw [hfx0]; simp), if_neg (by rw [hfy0]; simp), if_pos (by rw [← HM.out]; exact h40)]
              have HJ := Lib.hid hj
              clear hj
              go_wp2_with (first
                | (at_builtin; refine appAll 22 37 _ 34 56 Tryd.underlying22 info_cont rfl (by omega) (by omega) rfl (.tmp 70) (.tmp 71) (by rfl) w2.heap.size u8 zs.length (cellsC zs) (by rfl) HOWN.out aa (ur.length + 1) ca (cellsC (u :: ur)) (by rfl) _ HRU.out Hlu.out (cells_one_all _) (by omega) hs2 ?_; intro av cap w3 hown3 hb3; have HOWN3 := Lib.hid hown3; have HB3 := Lib.hid hb3; have hs3 := hb3.size; clear hown3 hb3)
                | (at_builtin; refine appAll 22 37 _ 34 56 Tryd.underlying22 info_cont rfl (by omega) (by omega) rfl (.tmp 72) (.tmp 73) (by rfl) w2.heap.size (.slice av (zs.length + (ur.length + 1)) cap) (zs.length + (ur.length + 1)) (cellsC zs ++ cellsC (u :: ur)) (by rfl) HOWN3.out ab 0 cb (cellsC []) (by rfl) _ (HRV.out.below (HBL.out.trans HB3.out)) Hlv.out (cells_one_all _) (by omega) (Nat.le_trans hs2 hs3) ?_; intro av4 cap4 w4 hown4 hb4; rw [HMe.out] at hown4 ⊢; rw [Hcells.out] at hown4; have HOWN4 := Lib.hid hown4; have HB4 := Lib.hid hb4; clear hown4 hb4))
              try any_goals (exfalso; omega)
              go_ret2
              exact ⟨hbb.trans ((HBL.out.trans (HB3.out.trans HB4.out)).mono hbb.size), .inr ⟨by rw [HJ.out]; decide, by rw [HJ.out]; rfl⟩⟩
            · have q1 : M ≤ 40 := by omega
              have q2 : ¬ ((40 : Int) < (M : Int)) := by omega
              have q3 : decide ((40 : Int) < (M : Int)) = false := decide_eq_false q2
              have q4 : decide (40 < M) = false := decide_eq_false h40
              have hj : joinFault xs ys = 0 := by unfold joinFault; rw [if_neg (by rw [hfx0]; simp), if_neg (by rw [hfy0]; simp), if_neg (by rw [← HM.out]; exact h40)]
              have HJ := Lib.hid hj
              clear hj
              go_wp2_with (first
                | (at_builtin; refine appAll 22 37 _ 34 56 Tryd.underlying22 info_cont rfl (by omega) (by omega) rfl (.tmp 70) (.tmp 71) (by rfl) w2.heap.size u8 zs.length (cellsC zs) (by rfl) HOWN.out aa (ur.length + 1) ca (cellsC (u :: ur)) (by rfl) _ HRU.out Hlu.out (cells_one_all _) (by omega) hs2 ?_; intro av cap w3 hown3 hb3; have HOWN3 := Lib.hid hown3; have HB3 := Lib.hid hb3; have hs3 := hb3.size; clear hown3 hb3)
                | (at_builtin; refine appAll 22 37 _ 34 56 Tryd.underlying22 info_cont rfl (by omega) (by omega) rfl (.tmp 72) (.tmp 73) (by rfl) w2.heap.size (.slice av (zs.length + (ur.length + 1)) cap) (zs.length + (ur.length + 1)) (cellsC zs ++ cellsC (u :: ur)) (by rfl) HOWN3.out ab 0 cb (cellsC []) (by rfl) _ (HRV.out.below (HBL.out.trans HB3.out)) Hlv.out (cells_one_all _) (by omega) (Nat.le_trans hs2 hs3) ?_; intro av4 cap4 w4 hown4 hb4; rw [HMe.out] at hown4 ⊢; rw [Hcells.out] at hown4; have HOWN4 := Lib.hid hown4; have HB4 := Lib.hid hb4; clear hown4 hb4))
              try any_goals (exfalso; omega)
              go_ret2
              exact ⟨hbb.trans ((HBL.out.trans (HB3.out.trans HB4.out)).mono hbb.size), .inl ⟨HJ.out, av4, cap4, _, by rw [← HM.out]; rfl, by rw [← HM.out]; exact (own_capp HOWN4.out).1, (own_capp HOWN4.out).2, Rd.of_own HOWN4.out⟩⟩
          | cons v vr =>
            have hcu := (hwu u (List.mem_cons_self ..)).1
            have hcv := (hwv v (List.mem_cons_self ..)).1
            obtain ⟨B1, o1, rfl, hB1, ru⟩ := hru.cont (fun c hc => (hwu c hc).1) (k := 0) (by simp)
            obtain ⟨B2, o2, rfl, hB2, rv⟩ := hrv.cont (fun c hc => (hwv c hc).1) (k := 0) (by simp)
            simp only [Nat.zero_mul, Nat.add_zero, List.getElem_cons_zero] at ru rv
            have ru1 := range_below ru hbl hB1
            have rv1 := range_below rv hbl hB2
            have nu := range_name ru1
            have nv := range_name rv1
            have hru2 := rd_tail hcu hru ca hu1
            have hrv2 := rd_tail hcv hrv cb hv1
            simp only [List.length_cons] at hu1 hv1 h80
            have s2 := hbl.size
            have HRU := Lib.hid hru
            have HRV := Lib.hid hrv
            have HRU2 := Lib.hid hru2
            have HRV2 := Lib.hid hrv2
            have RU := Lib.hid ru1
            have RV := Lib.hid rv1
            have HMG := Lib.hid hmg
            have HWU := Lib.hid hwu
            have HWV := Lib.hid hwv
            have HWZ := Lib.hid hwz
            have HBL := Lib.hid hbl
            have HOWN := Lib.hid hown
            have HCU := Lib.hid hcu
            have HCV := Lib.hid hcv
            have pu : (0 : Int) < (ur.length : Int) + 1 := by omega
            have pv : (0 : Int) < (vr.length : Int) + 1 := by omega
            have CC := fun w => Compare_calls u.name v.name w
            have RUB := Lib.hid ru
            have RVB := Lib.hid rv
            clear hru hrv ru rv hru2 hrv2 ru1 rv1 hmg hwu hwv hwz hbl hown hcu hcv
            simp only [List.length_cons]
            rcases name_tri u v with hlt | heq | hgt
            · have Hlt := Lib.hid hlt
              simp only [hlt, if_true] at CC
              clear hlt
              go_wp2_with fail
              go_quiet (exact Calls.quiet_of_same (CC _))
              go_wp2_with fail
              obtain ⟨wA, hwA⟩ : ∃ wA, wA = wr.drewN nq := ⟨_, rfl⟩
              have ownA : wA.ownsRow w2.heap.size 37 34 u8 zs.length (cellsC zs) := by rw [hwA]; exact own_drewN HOWN.out nq
              have blA : Below w2.heap.size w2 wA := by rw [hwA]; exact below_drewN HBL.out nq
              have huinfo : (Tryd.prog.info? 37).map (·.size) = some (cL u).length := by rw [cL_length HCU.out]; kernel_rfl
              have hvinfo : (Tryd.prog.info? 37).map (·.size) = some (cL v).length := by rw [cL_length HCV.out]; kernel_rfl
              have hut := Tryd.underlying37
              rw [← hwA]
              clear hwA
              refine wp_region_held_drew (S := fun w' => w'.rangeAt B1 o1 (cL u)) (by kernel_rfl) (range_below RUB.out blA.drew hB1) (fun hHeld => ?_)
              refine wpAnyH_take (i := 0) (oi := _) (v := u8) rfl (by kernel_rfl) (by kernel_rfl) (by kernel_rfl) (fun _ _ _ h => h) (Or.inl ⟨by rfl, fun w hw => by go_simp⟩) hHeld ?_
              simp only [Act.put, List.getElem_toArray, List.getElem_cons_zero, List.getElem_cons_succ, List.setIfInBounds_toArray, List.set_cons_zero, List.set_cons_succ]
              refine wpAnyH_take (i := 1) (oi := _) (v := .slice (some ⟨B1, o1, none⟩) (ur.length + 1) ca) rfl (by kernel_rfl) (by kernel_rfl) (by kernel_rfl) (fun _ _ _ h => h) (Or.inl ⟨by rfl, fun w hw => by go_simp⟩) hHeld ?_
              simp only [Act.put, List.getElem_toArray, List.getElem_cons_zero, List.getElem_cons_succ, List.setIfInBounds_toArray, List.set_cons_zero, List.set_cons_succ]
              refine wpAnyH_take (i := 2) (oi := _) (v := .pointer (some ⟨B1, o1, none⟩)) rfl (by kernel_rfl) (by kernel_rfl) (by kernel_rfl) (fun _ _ _ h => h) (Or.inl ⟨by rfl, fun w hw => by go_simp⟩) hHeld ?_
              simp only [Act.put, List.getElem_toArray, List.getElem_cons_zero, List.getElem_cons_succ, List.setIfInBounds_toArray, List.set_cons_zero, List.set_cons_succ]
              refine wpAnyH_take (i := 3) (oi := _) (v := _) rfl (by kernel_rfl) (by kernel_rfl) (by kernel_rfl) (fun _ _ _ h => h) (yieldsIf_load_mid (by rfl) _ _ rfl _ _ rfl (cL u) _ (fun w hw => hw) hut rfl huinfo) hHeld ?_
              simp only [Act.put, List.getElem_toArray, List.getElem_cons_zero, List.getElem_cons_succ, List.setIfInBounds_toArray, List.set_cons_zero, List.set_cons_succ]
              refine wpAnyH_take (i := 6) (oi := _) (v := .slice (some ⟨B1, o1, none⟩) (ur.length + 1) ca) rfl (by kernel_rfl) (by kernel_rfl) (by kernel_rfl) (fun _ _ _ h => h) (Or.inl ⟨by rfl, fun w hw => by go_simp⟩) hHeld ?_
              simp only [Act.put, List.getElem_toArray, List.getElem_cons_zero, List.getElem_cons_succ, List.setIfInBounds_toArray, List.set_cons_zero, List.set_cons_succ]
              refine wpAnyH_take (i := 7) (oi := _) (v := _) rfl (by kernel_rfl) (by kernel_rfl) (by kernel_rfl) (fun _ _ _ h => h) (yields_tail (by rfl) _ rfl B1 o1 (ur.length + 1) ca (by rfl) (by omega)) hHeld ?_
              simp only [Act.put, List.getElem_toArray, List.getElem_cons_zero, List.getElem_cons_succ, List.setIfInBounds_toArray, List.set_cons_zero, List.set_cons_succ]
              rw [cL_array] at *
              refine wpAnyH_ready (rs := [4]) (by kernel_rfl) (by simp) ?_
              refine AllReadyH.cons (o := _) rfl (fun K hK => ?_) AllReadyH.nil
              refine stepBuild1 22 37 _ 34 56 Tryd.underlying22 info_cont (by omega) (by omega) rfl (.tmp 55) rfl (cV u) (by rfl) (cV_size HCU.out) ?_
              have blB : Below w2.heap.size w2 (wA.drew.alloc (.cells (cV u) 37)) := blA.drew.alloc blA.drew.size _
              refine hK.out _ _ (range_below RUB.out blB hB1) (fun hHeld => ?_)
              clear hK K
              simp only [Act.put, List.getElem_toArray, List.getElem_cons_zero, List.getElem_cons_succ, List.setIfInBounds_toArray, List.set_cons_zero, List.set_cons_succ]
              have cB := heap_alloc_new wA.drew (.cells (cV u) 37)
              have rB := range_rec cB
              refine wpAnyH_ready (rs := [5]) (by kernel_rfl) (by simp) ?_
              refine AllReadyH.cons (o := _) rfl (fun K hK => ?_) AllReadyH.nil
              refine stepAppN 22 37 _ 34 56 Tryd.underlying22 info_cont rfl (by omega) (by omega) rfl (.tmp 52) (.tmp 56) (by rfl) w2.heap.size u8 zs.length (cellsC zs) (by rfl) ((own_drew ownA).alloc _) wA.drew.heap.size 1 (cL u) (by rfl) (cL_length HCU.out) (fun j hj => by have := rB j _ (List.getElem?_eq_getElem hj); rwa [Nat.zero_add] at this) (cL_one _) (by omega) blB.size _ rfl ?_
              intro g cap w3 hown3 hgrow hat hlt3
              have bl3 : Below w2.heap.size w2 w3 := below_grow blB ((own_drew ownA).alloc _) hgrow blB.size
              refine hK.out _ _ (range_below RUB.out bl3 hB1) (fun hHeld => ?_)
              clear hK K
              simp only [Act.put, List.getElem_toArray, List.getElem_cons_zero, List.getElem_cons_succ, List.setIfInBounds_toArray, List.set_cons_zero, List.set_cons_succ]
              refine wpAnyH_take (i := 8) (oi := _) (v := .slice (some ⟨g, 0, none⟩) (zs.length + 1) cap) rfl (by kernel_rfl) (by kernel_rfl) (by kernel_rfl) (fun _ _ _ h => h) (Or.inl ⟨by rfl, fun w hw => by go_simp⟩) hHeld ?_
              simp only [Act.put, List.getElem_toArray, List.getElem_cons_zero, List.getElem_cons_succ, List.setIfInBounds_toArray, List.set_cons_zero, List.set_cons_succ]
              refine wpAnyH_take (i := 9) (oi := _) (v := .slice (tailA B1 o1 ca) (ur.length + 1 - 1) (ca - 1)) rfl (by kernel_rfl) (by kernel_rfl) (by kernel_rfl) (fun _ _ _ h => h) (Or.inl ⟨by rfl, fun w hw => by go_simp⟩) hHeld ?_
              simp only [Act.put, List.getElem_toArray, List.getElem_cons_zero, List.getElem_cons_succ, List.setIfInBounds_toArray, List.set_cons_zero, List.set_cons_succ]
              refine wpAnyH_done (by kernel_rfl) ?_ _
              have hmg2 : (zs ++ [u]) ++ mergeC ur (v :: vr) = mergeC xs ys := by rw [← HMG.out, merge_lt Hlt.out, List.append_assoc]; rfl
              have HMG2 := Lib.hid hmg2
              have HOWN3 := Lib.hid hown3
              have BL3 := Lib.hid bl3
              clear hmg2 hown3 bl3 hHeld hgrow hat hlt3 cB rB blB ownA blA nu nv
              go_wp2_with fail
              go_roundw
              case rel => exact ⟨ur, v :: vr, zs ++ [u], tailA B1 o1 ca, some ⟨B2, o2, none⟩, ca - 1, cb, _, _, by rw [Nat.add_sub_cancel], by rw [List.length_cons], by rw [List.length_append, cells_append, cells_one]; exact HOWN3.out, HRU2.out, HRV.out, HMG2.out, fun c hc => HWU.out c (List.mem_cons_of_mem _ hc), HWV.out, fun c hc => by rcases List.mem_append.1 hc with hc | hc; exact HWZ.out c hc; rw [List.mem_singleton.1 hc]; exact HCU.out, BL3.out, by omega, by simp only [List.length_cons]; omega, by omega, by omega, by simp only [List.length_cons, List.length_append, List.length_nil]; omega⟩
              case measure => simp only [lenOf]; omega
            · have Heq := Lib.hid heq
              have hn : Op.bytesLess (sb u.name) (sb v.name) = false := by rw [heq]; exact bl_irrefl _
              have hn2 : Op.bytesLess (sb v.name) (sb u.name) = false := by rw [heq]; exact bl_irrefl _
              simp only [hn, hn2, if_false, Bool.false_eq_true] at CC
              have hlu := (HWU.out u (List.mem_cons_self ..)).2
              have hlv := (HWV.out v (List.mem_cons_self ..)).2
              have hbw := both_W HCU.out HCV.out hlu.1 hlu.2
              have HBW := Lib.hid hbw
              have BC := fun w => both_calls u v HCU.out HCV.out hlu hlv w
              clear heq hn hn2 hlu hlv hbw
              go_wp2_with fail
              go_quiet (exact Calls.quiet_of_same (CC _))
              go_wp2_with fail
              obtain ⟨wA, hwA⟩ : ∃ wA, wA = wr.drewN nq := ⟨_, rfl⟩
              have ownA : wA.ownsRow w2.heap.size 37 34 u8 zs.length (cellsC zs) := by rw [hwA]; exact own_drewN HOWN.out nq
              have blA : Below w2.heap.size w2 wA := by rw [hwA]; exact below_drewN HBL.out nq
              have huinfo : (Tryd.prog.info? 37).map (·.size) = some (cL u).length := by rw [cL_length HCU.out]; kernel_rfl
              have hvinfo : (Tryd.prog.info? 37).map (·.size) = some (cL v).length := by rw [cL_length HCV.out]; kernel_rfl
              have hut := Tryd.underlying37
              rw [← hwA]
              clear hwA
              refine wp_region_held_drew (S := fun w' => w'.rangeAt B1 o1 (cL u) ∧ w'.rangeAt B2 o2 (cL v)) (by kernel_rfl) ⟨range_below RUB.out blA.drew hB1, range_below RVB.out blA.drew hB2⟩ (fun hHeld => ?_)
              refine wpAnyH_take (i := 0) (oi := _) (v := u8) rfl (by kernel_rfl) (by kernel_rfl) (by kernel_rfl) (fun _ _ _ h => h) (Or.inl ⟨by rfl, fun w hw => by go_simp⟩) hHeld ?_
              simp only [Act.put, List.getElem_toArray, List.getElem_cons_zero, List.getElem_cons_succ, List.setIfInBounds_toArray, List.set_cons_zero, List.set_cons_succ]
              refine wpAnyH_take (i := 1) (oi := _) (v := .slice (some ⟨B1, o1, none⟩) (ur.length + 1) ca) rfl (by kernel_rfl) (by kernel_rfl) (by kernel_rfl) (fun _ _ _ h => h) (Or.inl ⟨by rfl, fun w hw => by go_simp⟩) hHeld ?_
              simp only [Act.put, List.getElem_toArray, List.getElem_cons_zero, List.getElem_cons_succ, List.setIfInBounds_toArray, List.set_cons_zero, List.set_cons_succ]
              refine wpAnyH_take (i := 2) (oi := _) (v := .pointer (some ⟨B1, o1, none⟩)) rfl (by kernel_rfl) (by kernel_rfl) (by kernel_rfl) (fun _ _ _ h => h) (Or.inl ⟨by rfl, fun w hw => by go_simp⟩) hHeld ?_
              simp only [Act.put, List.getElem_toArray, List.getElem_cons_zero, List.getElem_cons_succ, List.setIfInBounds_toArray, List.set_cons_zero, List.set_cons_succ]
              refine wpAnyH_take (i := 3) (oi := _) (v := _) rfl (by kernel_rfl) (by kernel_rfl) (by kernel_rfl) (fun _ _ _ h => h) (yieldsIf_load_mid (by rfl) _ _ rfl _ _ rfl (cL u) _ (fun w hw => hw.1) hut rfl huinfo) hHeld ?_
              simp only [Act.put, List.getElem_toArray, List.getElem_cons_zero, List.getElem_cons_succ, List.setIfInBounds_toArray, List.set_cons_zero, List.set_cons_succ]
              refine wpAnyH_take (i := 4) (oi := _) (v := .slice (some ⟨B2, o2, none⟩) (vr.length + 1) cb) rfl (by kernel_rfl) (by kernel_rfl) (by kernel_rfl) (fun _ _ _ h => h) (Or.inl ⟨by rfl, fun w hw => by go_simp⟩) hHeld ?_
              simp only [Act.put, List.getElem_toArray, List.getElem_cons_zero, List.getElem_cons_succ, List.setIfInBounds_toArray, List.set_cons_zero, List.set_cons_succ]
              refine wpAnyH_take (i := 5) (oi := _) (v := .pointer (some ⟨B2, o2, none⟩)) rfl (by kernel_rfl) (by kernel_rfl) (by kernel_rfl) (fun _ _ _ h => h) (Or.inl ⟨by rfl, fun w hw => by go_simp⟩) hHeld ?_
              simp only [Act.put, List.getElem_toArray, List.getElem_cons_zero, List.getElem_cons_succ, List.setIfInBounds_toArray, List.set_cons_zero, List.set_cons_succ]
              refine wpAnyH_take (i := 6) (oi := _) (v := _) rfl (by kernel_rfl) (by kernel_rfl) (by kernel_rfl) (fun _ _ _ h => h) (yieldsIf_load_mid (by rfl) _ _ rfl _ _ rfl (cL v) _ (fun w hw => hw.2) hut rfl hvinfo) hHeld ?_
              simp only [Act.put, List.getElem_toArray, List.getElem_cons_zero, List.getElem_cons_succ, List.setIfInBounds_toArray, List.set_cons_zero, List.set_cons_succ]
              refine wpAnyH_take (i := 10) (oi := _) (v := .slice (some ⟨B1, o1, none⟩) (ur.length + 1) ca) rfl (by kernel_rfl) (by kernel_rfl) (by kernel_rfl) (fun _ _ _ h => h) (Or.inl ⟨by rfl, fun w hw => by go_simp⟩) hHeld ?_
              simp only [Act.put, List.getElem_toArray, List.getElem_cons_zero, List.getElem_cons_succ, List.setIfInBounds_toArray, List.set_cons_zero, List.set_cons_succ]
              refine wpAnyH_take (i := 11) (oi := _) (v := _) rfl (by kernel_rfl) (by kernel_rfl) (by kernel_rfl) (fun _ _ _ h => h) (yields_tail (by rfl) _ rfl B1 o1 (ur.length + 1) ca (by rfl) (by omega)) hHeld ?_
              simp only [Act.put, List.getElem_toArray, List.getElem_cons_zero, List.getElem_cons_succ, List.setIfInBounds_toArray, List.set_cons_zero, List.set_cons_succ]
              refine wpAnyH_take (i := 12) (oi := _) (v := .slice (some ⟨B2, o2, none⟩) (vr.length + 1) cb) rfl (by kernel_rfl) (by kernel_rfl) (by kernel_rfl) (fun _ _ _ h => h) (Or.inl ⟨by rfl, fun w hw => by go_simp⟩) hHeld ?_
              simp only [Act.put, List.getElem_toArray, List.getElem_cons_zero, List.getElem_cons_succ, List.setIfInBounds_toArray, List.set_cons_zero, List.set_cons_succ]
              refine wpAnyH_take (i := 13) (oi := _) (v := _) rfl (by kernel_rfl) (by kernel_rfl) (by kernel_rfl) (fun _ _ _ h => h) (yields_tail (by rfl) _ rfl B2 o2 (vr.length + 1) cb (by rfl) (by omega)) hHeld ?_
              simp only [Act.put, List.getElem_toArray, List.getElem_cons_zero, List.getElem_cons_succ, List.setIfInBounds_toArray, List.set_cons_zero, List.set_cons_succ]
              rw [cL_array, cL_array] at *
              refine wpAnyH_ready (rs := [7]) (by kernel_rfl) (by simp) ?_
              refine AllReadyH.cons (o := _) rfl (fun K hK => ?_) AllReadyH.nil
              go_simp
              go_at_call 20
              refine (BC _).mono ?_
              rintro e wB ⟨rfl, hbB⟩
              dsimp only
              have blC : Below w2.heap.size w2 wB := blA.drew.trans (hbB.mono blA.size)
              have ownB : wB.ownsRow w2.heap.size 37 34 u8 zs.length (cellsC zs) := own_below (own_drew ownA) hbB
              refine hK.out _ _ ⟨range_below RUB.out blC hB1, range_below RVB.out blC hB2⟩ (fun hHeld => ?_)
              clear hK K
              try simp only [Act.put, List.getElem_toArray, List.getElem_cons_zero, List.getElem_cons_succ, List.setIfInBounds_toArray, List.set_cons_zero, List.set_cons_succ]
              refine wpAnyH_ready (rs := [8]) (by kernel_rfl) (by simp) ?_
              refine AllReadyH.cons (o := _) rfl (fun K hK => ?_) AllReadyH.nil
              refine stepBuild1 22 37 _ 34 56 Tryd.underlying22 info_cont (by omega) (by omega) rfl (.tmp 43) rfl (cV (bothC u v)) (by rfl) (cV_size HBW.out) ?_
              have blB : Below w2.heap.size w2 (wB.alloc (.cells (cV (bothC u v)) 37)) := blC.alloc blC.size _
              refine hK.out _ _ ⟨range_below RUB.out blB hB1, range_below RVB.out blB hB2⟩ (fun hHeld => ?_)
              clear hK K
              simp only [Act.put, List.getElem_toArray, List.getElem_cons_zero, List.getElem_cons_succ, List.setIfInBounds_toArray, List.set_cons_zero, List.set_cons_succ]
              have cB := heap_alloc_new wB (.cells (cV (bothC u v)) 37)
              have rB := range_rec cB
              refine wpAnyH_ready (rs := [9]) (by kernel_rfl) (by simp) ?_
              refine AllReadyH.cons (o := _) rfl (fun K hK => ?_) AllReadyH.nil
              refine stepAppN 22 37 _ 34 56 Tryd.underlying22 info_cont rfl (by omega) (by omega) rfl (.tmp 36) (.tmp 44) (by rfl) w2.heap.size u8 zs.length (cellsC zs) (by rfl) (ownB.alloc _) wB.heap.size 1 (cL (bothC u v)) (by rfl) (cL_length HBW.out) (fun j hj => by have := rB j _ (List.getElem?_eq_getElem hj); rwa [Nat.zero_add] at this) (cL_one _) (by omega) blB.size _ rfl ?_
              intro g cap w3 hown3 hgrow hat hlt3
              have bl3 : Below w2.heap.size w2 w3 := below_grow blB (ownB.alloc _) hgrow blB.size
              refine hK.out _ _ ⟨range_below RUB.out bl3 hB1, range_below RVB.out bl3 hB2⟩ (fun hHeld => ?_)
              clear hK K
              simp only [Act.put, List.getElem_toArray, List.getElem_cons_zero, List.getElem_cons_succ, List.setIfInBounds_toArray, List.set_cons_zero, List.set_cons_succ]
              refine wpAnyH_take (i := 14) (oi := _) (v := .slice (some ⟨g, 0, none⟩) (zs.length + 1) cap) rfl (by kernel_rfl) (by kernel_rfl) (by kernel_rfl) (fun _ _ _ h => h) (Or.inl ⟨by rfl, fun w hw => by go_simp⟩) hHeld ?_
              simp only [Act.put, List.getElem_toArray, List.getElem_cons_zero, List.getElem_cons_succ, List.setIfInBounds_toArray, List.set_cons_zero, List.set_cons_succ]
              refine wpAnyH_take (i := 15) (oi := _) (v := .slice (tailA B1 o1 ca) (ur.length + 1 - 1) (ca - 1)) rfl (by kernel_rfl) (by kernel_rfl) (by kernel_rfl) (fun _ _ _ h => h) (Or.inl ⟨by rfl, fun w hw => by go_simp⟩) hHeld ?_
              simp only [Act.put, List.getElem_toArray, List.getElem_cons_zero, List.getElem_cons_succ, List.setIfInBounds_toArray, List.set_cons_zero, List.set_cons_succ]
              refine wpAnyH_take (i := 16) (oi := _) (v := .slice (tailA B2 o2 cb) (vr.length + 1 - 1) (cb - 1)) rfl (by kernel_rfl) (by kernel_rfl) (by kernel_rfl) (fun _ _ _ h => h) (Or.inl ⟨by rfl, fun w hw => by go_simp⟩) hHeld ?_
              simp only [Act.put, List.getElem_toArray, List.getElem_cons_zero, List.getElem_cons_succ, List.setIfInBounds_toArray, List.set_cons_zero, List.set_cons_succ]
              refine wpAnyH_done (by kernel_rfl) ?_ _
              clear blC ownB hbB BC
              have hmg2 : (zs ++ [bothC u v]) ++ mergeC ur vr = mergeC xs ys := by rw [← HMG.out, merge_eq Heq.out, List.append_assoc]; rfl
              have HMG2 := Lib.hid hmg2
              have HOWN3 := Lib.hid hown3
              have BL3 := Lib.hid bl3
              clear hmg2 hown3 bl3 hHeld hgrow hat hlt3 cB rB blB ownA blA nu nv
              go_wp2_with fail
              go_roundw
              case rel => exact ⟨ur, vr, zs ++ [bothC u v], tailA B1 o1 ca, tailA B2 o2 cb, ca - 1, cb - 1, _, _, by rw [Nat.add_sub_cancel], by rw [Nat.add_sub_cancel], by rw [List.length_append, cells_append, cells_one]; exact HOWN3.out, HRU2.out, HRV2.out, HMG2.out, fun c hc => HWU.out c (List.mem_cons_of_mem _ hc), fun c hc => HWV.out c (List.mem_cons_of_mem _ hc), fun c hc => by rcases List.mem_append.1 hc with hc | hc; exact HWZ.out c hc; rw [List.mem_singleton.1 hc]; exact HBW.out, BL3.out, by omega, by omega, by omega, by omega, by simp only [List.length_cons, List.length_append, List.length_nil]; omega⟩
              case measure => simp only [lenOf]; omega
            · have Hgt := Lib.hid hgt
              have hn := bl_asymm _ _ hgt
              simp only [hgt, hn, if_true, if_false, Bool.false_eq_true] at CC
              clear hgt hn
              go_wp2_with fail
              go_quiet (exact Calls.quiet_of_same (CC _))
              go_wp2_with fail
              obtain ⟨wA, hwA⟩ : ∃ wA, wA = wr.drewN nq := ⟨_, rfl⟩
              have ownA : wA.ownsRow w2.heap.size 37 34 u8 zs.length (cellsC zs) := by rw [hwA]; exact own_drewN HOWN.out nq
              have blA : Below w2.heap.size w2 wA := by rw [hwA]; exact below_drewN HBL.out nq
              have huinfo : (Tryd.prog.info? 37).map (·.size) = some (cL u).length := by rw [cL_length HCU.out]; kernel_rfl
              have hvinfo : (Tryd.prog.info? 37).map (·.size) = some (cL v).length := by rw [cL_length HCV.out]; kernel_rfl
              have hut := Tryd.underlying37
              rw [← hwA]
              clear hwA
              refine wp_region_held_drew (S := fun w' => w'.rangeAt B2 o2 (cL v)) (by kernel_rfl) (range_below RVB.out blA.drew hB2) (fun hHeld => ?_)
              refine wpAnyH_take (i := 0) (oi := _) (v := u8) rfl (by kernel_rfl) (by kernel_rfl) (by kernel_rfl) (fun _ _ _ h => h) (Or.inl ⟨by rfl, fun w hw => by go_simp⟩) hHeld ?_
              simp only [Act.put, List.getElem_toArray, List.getElem_cons_zero, List.getElem_cons_succ, List.setIfInBounds_toArray, List.set_cons_zero, List.set_cons_succ]
              refine wpAnyH_take (i := 1) (oi := _) (v := .slice (some ⟨B2, o2, none⟩) (vr.length + 1) cb) rfl (by kernel_rfl) (by kernel_rfl) (by kernel_rfl) (fun _ _ _ h => h) (Or.inl ⟨by rfl, fun w hw => by go_simp⟩) hHeld ?_
              simp only [Act.put, List.getElem_toArray, List.getElem_cons_zero, List.getElem_cons_succ, List.setIfInBounds_toArray, List.set_cons_zero, List.set_cons_succ]
              refine wpAnyH_take (i := 2) (oi := _) (v := .pointer (some ⟨B2, o2, none⟩)) rfl (by kernel_rfl) (by kernel_rfl) (by kernel_rfl) (fun _ _ _ h => h) (Or.inl ⟨by rfl, fun w hw => by go_simp⟩) hHeld ?_
              simp only [Act.put, List.getElem_toArray, List.getElem_cons_zero, List.getElem_cons_succ, List.setIfInBounds_toArray, List.set_cons_zero, List.set_cons_succ]
              refine wpAnyH_take (i := 3) (oi := _) (v := _) rfl (by kernel_rfl) (by kernel_rfl) (by kernel_rfl) (fun _ _ _ h => h) (yieldsIf_load_mid (by rfl) _ _ rfl _ _ rfl (cL v) _ (fun w hw => hw) hut rfl hvinfo) hHeld ?_
              simp only [Act.put, List.getElem_toArray, List.getElem_cons_zero, List.getElem_cons_succ, List.setIfInBounds_toArray, List.set_cons_zero, List.set_cons_succ]
              refine wpAnyH_take (i := 6) (oi := _) (v := .slice (some ⟨B2, o2, none⟩) (vr.length + 1) cb) rfl (by kernel_rfl) (by kernel_rfl) (by kernel_rfl) (fun _ _ _ h => h) (Or.inl ⟨by rfl, fun w hw => by go_simp⟩) hHeld ?_
              simp only [Act.put, List.getElem_toArray, List.getElem_cons_zero, List.getElem_cons_succ, List.setIfInBounds_toArray, List.set_cons_zero, List.set_cons_succ]
              refine wpAnyH_take (i := 7) (oi := _) (v := _) rfl (by kernel_rfl) (by kernel_rfl) (by kernel_rfl) (fun _ _ _ h => h) (yields_tail (by rfl) _ rfl B2 o2 (vr.length + 1) cb (by rfl) (by omega)) hHeld ?_
              simp only [Act.put, List.getElem_toArray, List.getElem_cons_zero, List.getElem_cons_succ, List.setIfInBounds_toArray, List.set_cons_zero, List.set_cons_succ]
              rw [cL_array] at *
              refine wpAnyH_ready (rs := [4]) (by kernel_rfl) (by simp) ?_
              refine AllReadyH.cons (o := _) rfl (fun K hK => ?_) AllReadyH.nil
              refine stepBuild1 22 37 _ 34 56 Tryd.underlying22 info_cont (by omega) (by omega) rfl (.tmp 65) rfl (cV v) (by rfl) (cV_size HCV.out) ?_
              have blB : Below w2.heap.size w2 (wA.drew.alloc (.cells (cV v) 37)) := blA.drew.alloc blA.drew.size _
              refine hK.out _ _ (range_below RVB.out blB hB2) (fun hHeld => ?_)
              clear hK K
              simp only [Act.put, List.getElem_toArray, List.getElem_cons_zero, List.getElem_cons_succ, List.setIfInBounds_toArray, List.set_cons_zero, List.set_cons_succ]
              have cB := heap_alloc_new wA.drew (.cells (cV v) 37)
              have rB := range_rec cB
              refine wpAnyH_ready (rs := [5]) (by kernel_rfl) (by simp) ?_
              refine AllReadyH.cons (o := _) rfl (fun K hK => ?_) AllReadyH.nil
              refine stepAppN 22 37 _ 34 56 Tryd.underlying22 info_cont rfl (by omega) (by omega) rfl (.tmp 62) (.tmp 66) (by rfl) w2.heap.size u8 zs.length (cellsC zs) (by rfl) ((own_drew ownA).alloc _) wA.drew.heap.size 1 (cL v) (by rfl) (cL_length HCV.out) (fun j hj => by have := rB j _ (List.getElem?_eq_getElem hj); rwa [Nat.zero_add] at this) (cL_one _) (by omega) blB.size _ rfl ?_
              intro g cap w3 hown3 hgrow hat hlt3
              have bl3 : Below w2.heap.size w2 w3 := below_grow blB ((own_drew ownA).alloc _) hgrow blB.size
              refine hK.out _ _ (range_below RVB.out bl3 hB2) (fun hHeld => ?_)
              clear hK K
              simp only [Act.put, List.getElem_toArray, List.getElem_cons_zero, List.getElem_cons_succ, List.setIfInBounds_toArray, List.set_cons_zero, List.set_cons_succ]
              refine wpAnyH_take (i := 8) (oi := _) (v := .slice (some ⟨g, 0, none⟩) (zs.length + 1) cap) rfl (by kernel_rfl) (by kernel_rfl) (by kernel_rfl) (fun _ _ _ h => h) (Or.inl ⟨by rfl, fun w hw => by go_simp⟩) hHeld ?_
              simp only [Act.put, List.getElem_toArray, List.getElem_cons_zero, List.getElem_cons_succ, List.setIfInBounds_toArray, List.set_cons_zero, List.set_cons_succ]
              refine wpAnyH_take (i := 9) (oi := _) (v := .slice (tailA B2 o2 cb) (vr.length + 1 - 1) (cb - 1)) rfl (by kernel_rfl) (by kernel_rfl) (by kernel_rfl) (fun _ _ _ h => h) (Or.inl ⟨by rfl, fun w hw => by go_simp⟩) hHeld ?_
              simp only [Act.put, List.getElem_toArray, List.getElem_cons_zero, List.getElem_cons_succ, List.setIfInBounds_toArray, List.set_cons_zero, List.set_cons_succ]
              refine wpAnyH_done (by kernel_rfl) ?_ _
              have hmg2 : (zs ++ [v]) ++ mergeC (u :: ur) vr = mergeC xs ys := by rw [← HMG.out, merge_gt Hgt.out, List.append_assoc]; rfl
              have HMG2 := Lib.hid hmg2
              have HOWN3 := Lib.hid hown3
              have BL3 := Lib.hid bl3
              clear hmg2 hown3 bl3 hHeld hgrow hat hlt3 cB rB blB ownA blA nu nv
              go_wp2_with fail
              go_roundw
              case rel => exact ⟨u :: ur, vr, zs ++ [v], some ⟨B1, o1, none⟩, tailA B2 o2 cb, ca, cb - 1, _, _, by rw [List.length_cons], by rw [Nat.add_sub_cancel], by rw [List.length_append, cells_append, cells_one]; exact HOWN3.out, HRU.out, HRV2.out, HMG2.out, HWU.out, fun c hc => HWV.out c (List.mem_cons_of_mem _ hc), fun c hc => by rcases List.mem_append.1 hc with hc | hc; exact HWZ.out c hc; rw [List.mem_singleton.1 hc]; exact HCV.out, BL3.out, by simp only [List.length_cons]; omega, by omega, by omega, by omega, by simp only [List.length_cons, List.length_append, List.length_nil]; omega⟩
              case measure => simp only [lenOf]; omega
    · have en2 : errC (fault ys) = .iface 29 (.int .i64 (fault ys)) := if_neg hfy
      have hjf : joinFault xs ys = fault ys := by unfold joinFault; rw [if_neg (by rw [hfx]; simp), if_pos hfy]
      have HJ := Lib.hid hjf
      have HF := Lib.hid hfy
      rw [en2] at CY
      clear hjf hfy en2 hfx
      go_wp2_with fail
      refine CY.mono ?_; rintro e w2 ⟨rfl, hb2⟩
      clear CY
      go_wp2_with fail
      go_ret2
      exact ⟨hb1.trans (hb2.mono hb1.size), .inr ⟨by rw [HJ.out]; exact HF.out, by rw [HJ.out]; rfl⟩⟩
  · have en2 : errC (fault xs) = .iface 29 (.int .i64 (fault xs)) := if_neg hfx
    have hjf : joinFault xs ys = fault xs := by unfold joinFault; rw [if_pos hfx]
    have HJ := Lib.hid hjf
    have HF := Lib.hid hfx
    rw [en2] at CX
    clear hjf hfx en2
    go_enter Tryd.func8, Tryd.ntmps8
    go_wp2_with fail
    refine CX.mono ?_; rintro e w1 ⟨rfl, hb1⟩
    clear CX
    go_wp2_with fail
    go_ret2
    exact ⟨hb1, .inr ⟨by rw [HJ.out]; exact HF.out, by rw [HJ.out]; rfl⟩⟩
end Go.Proofs.YtppjmonbmlbhpaaDoor
