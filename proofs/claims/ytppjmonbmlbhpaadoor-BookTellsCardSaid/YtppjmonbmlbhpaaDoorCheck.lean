/- Walk: book.Check tells what is wrong with a book. -/
import Derived.Test.YtppjmonbmlbhpaaDoorBookMem
import Derived.Test.YtppjmonbmlbhpaaDoorSame0
import Derived.Deep.QuietTactic
import Derived.BigQuiet
import Derived.WalkSmall
import Derived.WalkKit
import Derived.ProofKit
import Derived.Lib.Hide
import Derived.Test.YtppjmonbmlbhpaaDoorArrA
namespace Go.Proofs.YtppjmonbmlbhpaaDoor
open Go.RowKit
set_option linter.unusedVariables false
set_option linter.unusedSimpArgs false

def errC (f : Int) : Value := if f = 0 then .nilIface else .iface 29 (.int .i64 f)
def prevOf (b : List Ct) : Nat → Option ByteArray
  | 0 => none
  | k + 1 => (b[k]?).map Ct.name
theorem faultFrom_step (b : List Ct) (k : Nat) (h : k < b.length) : faultFrom (prevOf b k) (b.drop k) = if ctFault (prevOf b k) b[k] ≠ 0 then ctFault (prevOf b k) b[k] else faultFrom (prevOf b (k + 1)) (b.drop (k + 1)) := by
  rw [List.drop_eq_getElem_cons h]
  show (if _ then _ else _) = _
  have : prevOf b (k + 1) = some b[k].name := by
    show (b[k]?).map Ct.name = _
    rw [List.getElem?_eq_getElem h]; rfl
  rw [this]

set_option maxRecDepth 20000 in
set_option maxHeartbeats 4000000 in
theorem Check_calls (b : List Ct) (hw : ∀ c ∈ b, CtW c) (a : Option Addr) (cap e : Nat) (w : World) (hr : Rd w a e (cellsC b)) (hl : b.length ≤ 9223372036854775807) :
    Calls Tryd.prog 5 #[.slice a b.length cap] w fun e w' => e = .returned (errC (fault b)) ∧ Below w.heap.size w w' := by
  have Hw := Lib.hid hw
  clear hw
  by_cases h40 : 40 < b.length
  · have hf : fault b = 4 := by unfold fault; rw [if_pos h40]
    have Hf := Lib.hid hf
    have q1 : decide ((40 : Int) < (b.length : Int)) = true := by rw [decide_eq_true_eq]; omega
    clear hf
    go_enter Tryd.func5, Tryd.ntmps5
    go_wp2_with fail
    go_ret
    exact ⟨by rw [Hf.out]; rfl, Below.refl _ _⟩
  · have hf : fault b = faultFrom none b := by unfold fault; rw [if_neg h40]
    have Hf := Lib.hid hf
    have q1 : decide ((40 : Int) < (b.length : Int)) = false := by rw [decide_eq_false]; omega
    have hN : noKey.length = 32 := noKey_length
    clear hf
    obtain ⟨O, hO⟩ : ∃ O, O = w.heap.size := ⟨_, rfl⟩
    have HO := Lib.hid hO
    go_enter Tryd.func5, Tryd.ntmps5
    go_wp2_with (refine st_new rfl (.tmp 3) (.tmp 10) rfl noKey hN (by rfl) _ _ (by rfl) (by rfl) ?_)
    rw [← hO]
    clear hO
    generalize (Value.agg #[.int .u8 0, .int .u8 0, .int .u8 0, .int .u8 0, .int .u8 0, .int .u8 0, .int .u8 0, .int .u8 0, .int .u8 0, .int .u8 0, .int .u8 0, .int .u8 0, .int .u8 0, .int .u8 0, .int .u8 0, .int .u8 0, .int .u8 0, .int .u8 0, .int .u8 0, .int .u8 0, .int .u8 0, .int .u8 0, .int .u8 0, .int .u8 0, .int .u8 0, .int .u8 0, .int .u8 0, .int .u8 0, .int .u8 0, .int .u8 0, .int .u8 0, .int .u8 0]) = z10
    go_loopw [13] (fun i wr => ∃ k : Nat, k ≤ b.length ∧ i = .int .i64 k ∧ faultFrom none b = faultFrom (prevOf b k) (b.drop k) ∧ wr.heap[O]? = some (.cells (dV noKey) 24 (0, 0)) ∧ Below O w wr) (fun i _ => b.length - (intOf i).toNat)
    case atStart => exact ⟨0, Nat.zero_le _, rfl, rfl, by rw [HO.out]; exact heap_alloc_new _ _, (Below.refl _ w).alloc (by rw [HO.out]; exact Nat.le_refl _) _⟩
    case round =>
      obtain ⟨k, hk, rfl, hff, hh, hbl⟩ := hrel
      have hOs := lt_of_heap hh
      have hwO : w.heap.size ≤ O := by rw [HO.out]; exact Nat.le_refl _
      have Hff := Lib.hid hff
      clear hff
      by_cases hlt : k < b.length
      · obtain ⟨B, o, rfl, hB, hrg⟩ := hr.cont Hw.out hlt
        have hcW : CtW b[k] := Hw.out _ (List.getElem_mem _)
        have hstep := faultFrom_step b k hlt
        have hBO : B < O := by omega
        have hrg2 := range_below hrg hbl hBO
        obtain ⟨c, hc⟩ : ∃ c, c = b[k] := ⟨_, rfl⟩
        rw [← hc] at hcW hstep hrg2 hrg
        have Hc := Lib.hid hc
        have Hstep := Lib.hid hstep
        have HcW := Lib.hid hcW
        have HRg := Lib.hid hrg2
        clear hc hstep hrg hrg2 hcW
        have m0 : (0 : Int) ≤ (k : Int) := by omega
        have m1 : (k : Int) < (b.length : Int) := by omega
        have hA := heap_alloc_new wr (.cells (cV c) 37)
        have d0 := range_name (range_rec hA)
        have d33 := range_lvl HcW.out (range_rec hA)
        have dk := range_key HcW.out (range_rec hA)
        have dO : (wr.alloc (.cells (cV c) 37)).heap[O]? = some (.cells (dV noKey) 24 (0, 0)) := (Below.heap_alloc _ _ _ hOs).trans hh
        have db : Below O w (wr.alloc (.cells (cV c) 37)) := hbl.alloc (by omega) _
        have ds : (wr.alloc (.cells (cV c) 37)).heap.size = wr.heap.size + 1 := World.size_alloc _ _
        have DK := Lib.hid dk
        have DO := Lib.hid dO
        have Db := Lib.hid db
        have NC := Named_calls c.name HcW.out.2.1 (wr.alloc (.cells (cV c) 37))
        clear hA dk dO db hh hbl
        go_wp2_with (first
          | (refine ld_recM contT rfl (.tmp 16) rfl B (o + k * 34) (by rfl) c HcW.out HRg.out ?_)
          | (refine st_recNew contT rfl (.tmp 5) (.tmp 17) rfl c HcW.out (by rfl) _ _ (by rfl) (by rfl) ?_; generalize wr.alloc (.cells (cV c) 37) = w5 at *))
        refine NC.mono ?_; rintro e w6 ⟨rfl, hb6⟩
        clear NC
        obtain ⟨X, hX⟩ : ∃ X, X = wr.heap.size := ⟨_, rfl⟩
        rw [← hX] at d0 d33 ds ⊢
        have hs6 := hb6.size
        have hOX : O < X := by omega
        have f0 : w6.cell? ⟨X, 0, none⟩ = some (.string c.name) := (hb6.cell (p := ⟨X, 0, none⟩) (by show X < _; omega)).trans d0
        have f33 : w6.cell? ⟨X, 33, none⟩ = some (.int .i64 c.lvl) := (hb6.cell (p := ⟨X, 33, none⟩) (by show X < _; omega)).trans d33
        have fk : w6.rangeAt X 1 (c.key.map vB) := range_below (by have := DK.out; rw [← hX] at this; exact this) hb6 (by omega)
        have fO : w6.heap[O]? = some (.cells (dV noKey) 24 (0, 0)) := (hb6.block O (by omega)).trans DO.out
        have fb : Below O w w6 := Db.out.trans (hb6.mono (by omega))
        have FK := Lib.hid fk
        have FO := Lib.hid fO
        have Fb := Lib.hid fb
        have HX := Lib.hid hX
        clear DK DO Db hb6 d0 d33 fk fO fb hX
        obtain ⟨nb, hnb⟩ : ∃ nb, named c.name = nb := ⟨_, rfl⟩
        rw [hnb]
        cases nb with
        | false =>
          have hc1 : ctFault (prevOf b k) c = 1 := by unfold ctFault; rw [if_pos hnb]
          have Hc1 := Lib.hid hc1
          clear hnb hc1
          go_wp2_with fail
          go_ret
          exact ⟨by rw [Hf.out, Hff.out, Hstep.out, Hc1.out]; rfl, by rw [← HO.out]; exact Fb.out⟩
        | true =>
          have Hnb := Lib.hid hnb
          clear hnb
          by_cases hk0 : k = 0
          · have hbh : behind (prevOf b k) c.name = true := by rw [hk0]; rfl
            have q0 : decide (0 < k) = false := by rw [decide_eq_false]; omega
            have Hbh := Lib.hid hbh
            have Hk0 := Lib.hid hk0
            clear hbh hk0
            go_wp2_with fail
            go_quiet (fail)
            clear q0
            by_cases hl1 : c.lvl < 1
            · have hc1 : ctFault (prevOf b k) c = 2 := by unfold ctFault; rw [if_neg (by rw [Hnb.out]; decide), if_neg (by rw [Hbh.out]; decide), if_pos (.inl hl1)]
              have Hc1 := Lib.hid hc1
              have q1 : decide (c.lvl < 1) = true := decide_eq_true hl1
              clear hc1 hl1
              go_wp2_with fail
              go_ret
              exact ⟨by rw [Hf.out, Hff.out, Hstep.out, Hc1.out]; rfl, by rw [← HO.out]; exact below_drewN Fb.out _⟩
            · have q1 : decide (c.lvl < 1) = false := decide_eq_false hl1
              by_cases hl2 : 4 < c.lvl
              · have hc1 : ctFault (prevOf b k) c = 2 := by unfold ctFault; rw [if_neg (by rw [Hnb.out]; decide), if_neg (by rw [Hbh.out]; decide), if_pos (.inr hl2)]
                have Hc1 := Lib.hid hc1
                have q2 : decide (4 < c.lvl) = true := decide_eq_true hl2
                clear hc1 hl1 hl2
                go_wp2_with fail
                go_ret
                exact ⟨by rw [Hf.out, Hff.out, Hstep.out, Hc1.out]; rfl, by rw [← HO.out]; exact below_drewN Fb.out _⟩
              · have q2 : decide (4 < c.lvl) = false := decide_eq_false hl2
                have hm : c.lvl.tmod 2 = c.lvl % 2 := Int.tmod_eq_emod_of_nonneg (by omega)
                obtain ⟨r, hr⟩ : ∃ r, r = c.lvl % 2 := ⟨_, rfl⟩
                rw [← hr] at hm
                have Hm := Lib.hid hr
                have hr0 : 0 ≤ r := by omega
                have hr1 : r < 2 := by omega
                have he : ctFault (prevOf b k) c = if (c.key == noKey) ≠ (r == 0) then 9 else 0 := by
                  unfold ctFault; rw [if_neg (by rw [Hnb.out]; decide), if_neg (by rw [Hbh.out]; decide), if_neg (by omega), hr]
                  have e : (c.key == noKey) = decide (c.key = noKey) := by cases h : decide (c.key = noKey) <;> simp_all
                  have e2 : (c.lvl % 2 == 0) = decide (c.lvl % 2 = 0) := by cases h : decide (c.lvl % 2 = 0) <;> simp_all
                  rw [e, e2]
                have He := Lib.hid he
                have DE := fun w => dig_eq HcW.out.1 hN w
                obtain ⟨kz, hkz⟩ : ∃ kz, (c.key == noKey) = kz := ⟨_, rfl⟩
                obtain ⟨lz, hlz⟩ : ∃ lz, (r == 0) = lz := ⟨_, rfl⟩
                rw [hkz] at DE
                have Hkz := Lib.hid hkz
                have Hlz := Lib.hid hlz
                clear he hl1 hl2 hkz hr
                go_wp2_with fail
                refine wp_region_quiet_lit (by kernel_rfl) (by kernel_rfl) ?_
                repeat (first
                  | (refine quiet_dig rfl (.tmp 50) rfl X 1 (by rfl) c.key HcW.out.1 (fun w' hw' => by obtain ⟨n, rfl⟩ := hw'; exact FK.out) ?_)
                  | (refine quiet_dig rfl (.tmp 3) rfl O 0 (by rfl) noKey hN (fun w' hw' => by obtain ⟨n, rfl⟩ := hw'; exact range_of_row FO.out) ?_)
                  | (refine quiet_dig_eq rfl (.tmp 51) (.tmp 52) _ rfl c.key noKey (by rfl) (by rfl) HcW.out.1 hN ?_; rw [Hkz.out]; simp only [Act.put, List.setIfInBounds_toArray, List.set_cons_zero, List.set_cons_succ])
                  | go_big_quiet_step (fail))
                refine wpQuiet_nil ?_
                rintro _ ⟨nq2, rfl⟩
                cases kz with
                | false =>
                  cases lz with
                  | false =>
                    have hc1 : ctFault (prevOf b k) c = 0 := by rw [He.out, Hkz.out, Hlz.out]; rfl
                    have Hc1 := Lib.hid hc1
                    clear hc1
                    go_wp2_with fail
                    go_roundw
                    case rel => exact ⟨k + 1, by omega, by go_num, by rw [Hff.out, Hstep.out, Hc1.out]; rfl, FO.out, below_drewN Fb.out _⟩
                    case measure => simp [intOf] <;> omega
                  | true =>
                    have hc1 : ctFault (prevOf b k) c = 9 := by rw [He.out, Hkz.out, Hlz.out]; rfl
                    have Hc1 := Lib.hid hc1
                    clear hc1
                    go_wp2_with fail
                    go_ret
                    exact ⟨by rw [Hf.out, Hff.out, Hstep.out, Hc1.out]; rfl, by rw [← HO.out]; exact below_drewN Fb.out _⟩
                | true =>
                  cases lz with
                  | false =>
                    have hc1 : ctFault (prevOf b k) c = 9 := by rw [He.out, Hkz.out, Hlz.out]; rfl
                    have Hc1 := Lib.hid hc1
                    clear hc1
                    go_wp2_with fail
                    go_ret
                    exact ⟨by rw [Hf.out, Hff.out, Hstep.out, Hc1.out]; rfl, by rw [← HO.out]; exact below_drewN Fb.out _⟩
                  | true =>
                    have hc1 : ctFault (prevOf b k) c = 0 := by rw [He.out, Hkz.out, Hlz.out]; rfl
                    have Hc1 := Lib.hid hc1
                    clear hc1
                    go_wp2_with fail
                    go_roundw
                    case rel => exact ⟨k + 1, by omega, by go_num, by rw [Hff.out, Hstep.out, Hc1.out]; rfl, FO.out, below_drewN Fb.out _⟩
                    case measure => simp [intOf] <;> omega
          · obtain ⟨j, rfl⟩ : ∃ j, k = j + 1 := ⟨k - 1, by omega⟩
            have hjl : j < b.length := by omega
            obtain ⟨B2, o2, hB2, _, hrj⟩ := hr.cont Hw.out hjl
            obtain ⟨rfl, rfl⟩ : B = B2 ∧ o = o2 := by
              have := Option.some.inj hB2
              exact ⟨congrArg Addr.block this, congrArg Addr.off this⟩
            have nj := (Fb.out.cell (p := ⟨B, o + j * 34, none⟩) (by show B < _; omega)).trans (range_name hrj)
            have q0 : decide (0 < j + 1) = true := by rw [decide_eq_true_eq]; omega
            have hpj : prevOf b (j + 1) = some b[j].name := by
              show (b[j]?).map Ct.name = _
              rw [List.getElem?_eq_getElem hjl]; rfl
            obtain ⟨pn, hpn⟩ : ∃ pn, pn = b[j].name := ⟨_, rfl⟩
            rw [← hpn] at nj hpj
            have HP := Lib.hid hpj
            obtain ⟨be, hbe⟩ : ∃ be, Op.bytesLess (sb pn) (sb c.name) = be := ⟨_, rfl⟩
            have hbh : behind (prevOf b (j + 1)) c.name = be := by rw [hpj]; exact hbe
            have hle : (Op.bytesLess c.name.data.toList pn.data.toList || c.name.data.toList == pn.data.toList) = !(Op.bytesLess (sb pn) (sb c.name)) := bl_le (sb c.name) (sb pn)
            rw [hbe] at hle
            have Hbh := Lib.hid hbh
            clear hbh hbe hpj hpn hB2 hrj
            have hwj : IntKind.i64.wrap (j : Int) = (j : Int) := IntWalk.i64_in _ (by omega)
            have j0 : (0 : Int) ≤ (j : Int) := by omega
            have j1 : (j : Int) < (b.length : Int) := by omega
            go_wp2_with fail
            refine wp_region_quiet_lit (by kernel_rfl) (by kernel_rfl) ?_
            repeat (first
              | (refine quiet_sleq rfl (.tmp 29) (.tmp 35) _ rfl c.name pn (by rfl) (by rfl) ?_; rw [hle]; simp only [Act.put, List.setIfInBounds_toArray, List.set_cons_zero, List.set_cons_succ])
              | go_big_quiet_step (fail))
            refine wpQuiet_nil ?_
            rintro _ ⟨nq, rfl⟩
            cases be with
            | false =>
              have hc1 : ctFault (prevOf b (j + 1)) c = 7 := by unfold ctFault; rw [if_neg (by rw [Hnb.out]; decide), if_pos Hbh.out]
              have Hc1 := Lib.hid hc1
              clear hc1
              go_wp2_with fail
              go_ret
              exact ⟨by rw [Hf.out, Hff.out, Hstep.out, Hc1.out]; rfl, by rw [← HO.out]; exact below_drewN Fb.out _⟩
            | true =>
              by_cases hl1 : c.lvl < 1
              · have hc1 : ctFault (prevOf b (j + 1)) c = 2 := by unfold ctFault; rw [if_neg (by rw [Hnb.out]; decide), if_neg (by rw [Hbh.out]; decide), if_pos (.inl hl1)]
                have Hc1 := Lib.hid hc1
                have q1 : decide (c.lvl < 1) = true := decide_eq_true hl1
                clear hc1 hl1
                go_wp2_with fail
                go_ret
                exact ⟨by rw [Hf.out, Hff.out, Hstep.out, Hc1.out]; rfl, by rw [← HO.out]; exact below_drewN Fb.out _⟩
              · have q1 : decide (c.lvl < 1) = false := decide_eq_false hl1
                by_cases hl2 : 4 < c.lvl
                · have hc1 : ctFault (prevOf b (j + 1)) c = 2 := by unfold ctFault; rw [if_neg (by rw [Hnb.out]; decide), if_neg (by rw [Hbh.out]; decide), if_pos (.inr hl2)]
                  have Hc1 := Lib.hid hc1
                  have q2 : decide (4 < c.lvl) = true := decide_eq_true hl2
                  clear hc1 hl1 hl2
                  go_wp2_with fail
                  go_ret
                  exact ⟨by rw [Hf.out, Hff.out, Hstep.out, Hc1.out]; rfl, by rw [← HO.out]; exact below_drewN Fb.out _⟩
                · have q2 : decide (4 < c.lvl) = false := decide_eq_false hl2
                  have hm : c.lvl.tmod 2 = c.lvl % 2 := Int.tmod_eq_emod_of_nonneg (by omega)
                  obtain ⟨r, hr⟩ : ∃ r, r = c.lvl % 2 := ⟨_, rfl⟩
                  rw [← hr] at hm
                  have Hm := Lib.hid hr
                  have hr0 : 0 ≤ r := by omega
                  have hr1 : r < 2 := by omega
                  have he : ctFault (prevOf b (j + 1)) c = if (c.key == noKey) ≠ (r == 0) then 9 else 0 := by
                    unfold ctFault; rw [if_neg (by rw [Hnb.out]; decide), if_neg (by rw [Hbh.out]; decide), if_neg (by omega), hr]
                    have e : (c.key == noKey) = decide (c.key = noKey) := by cases h : decide (c.key = noKey) <;> simp_all
                    have e2 : (c.lvl % 2 == 0) = decide (c.lvl % 2 = 0) := by cases h : decide (c.lvl % 2 = 0) <;> simp_all
                    rw [e, e2]
                  have He := Lib.hid he
                  have DE := fun w => dig_eq HcW.out.1 hN w
                  obtain ⟨kz, hkz⟩ : ∃ kz, (c.key == noKey) = kz := ⟨_, rfl⟩
                  obtain ⟨lz, hlz⟩ : ∃ lz, (r == 0) = lz := ⟨_, rfl⟩
                  rw [hkz] at DE
                  have Hkz := Lib.hid hkz
                  have Hlz := Lib.hid hlz
                  clear he hl1 hl2 hkz hr
                  go_wp2_with fail
                  refine wp_region_quiet_lit (by kernel_rfl) (by kernel_rfl) ?_
                  repeat (first
                    | (refine quiet_dig rfl (.tmp 50) rfl X 1 (by rfl) c.key HcW.out.1 (fun w' hw' => by obtain ⟨n, rfl⟩ := hw'; exact FK.out) ?_)
                    | (refine quiet_dig rfl (.tmp 3) rfl O 0 (by rfl) noKey hN (fun w' hw' => by obtain ⟨n, rfl⟩ := hw'; exact range_of_row FO.out) ?_)
                    | (refine quiet_dig_eq rfl (.tmp 51) (.tmp 52) _ rfl c.key noKey (by rfl) (by rfl) HcW.out.1 hN ?_; rw [Hkz.out]; simp only [Act.put, List.setIfInBounds_toArray, List.set_cons_zero, List.set_cons_succ])
                    | go_big_quiet_step (fail))
                  refine wpQuiet_nil ?_
                  rintro _ ⟨nq2, rfl⟩
                  cases kz with
                  | false =>
                    cases lz with
                    | false =>
                      have hc1 : ctFault (prevOf b (j + 1)) c = 0 := by rw [He.out, Hkz.out, Hlz.out]; rfl
                      have Hc1 := Lib.hid hc1
                      clear hc1
                      go_wp2_with fail
                      go_roundw
                      case rel => exact ⟨(j + 1) + 1, by omega, by go_num, by rw [Hff.out, Hstep.out, Hc1.out]; rfl, FO.out, below_drewN Fb.out _⟩
                      case measure => simp [intOf] <;> omega
                    | true =>
                      have hc1 : ctFault (prevOf b (j + 1)) c = 9 := by rw [He.out, Hkz.out, Hlz.out]; rfl
                      have Hc1 := Lib.hid hc1
                      clear hc1
                      go_wp2_with fail
                      go_ret
                      exact ⟨by rw [Hf.out, Hff.out, Hstep.out, Hc1.out]; rfl, by rw [← HO.out]; exact below_drewN Fb.out _⟩
                  | true =>
                    cases lz with
                    | false =>
                      have hc1 : ctFault (prevOf b (j + 1)) c = 9 := by rw [He.out, Hkz.out, Hlz.out]; rfl
                      have Hc1 := Lib.hid hc1
                      clear hc1
                      go_wp2_with fail
                      go_ret
                      exact ⟨by rw [Hf.out, Hff.out, Hstep.out, Hc1.out]; rfl, by rw [← HO.out]; exact below_drewN Fb.out _⟩
                    | true =>
                      have hc1 : ctFault (prevOf b (j + 1)) c = 0 := by rw [He.out, Hkz.out, Hlz.out]; rfl
                      have Hc1 := Lib.hid hc1
                      clear hc1
                      go_wp2_with fail
                      go_roundw
                      case rel => exact ⟨(j + 1) + 1, by omega, by go_num, by rw [Hff.out, Hstep.out, Hc1.out]; rfl, FO.out, below_drewN Fb.out _⟩
                      case measure => simp [intOf] <;> omega

      · obtain rfl : k = b.length := by omega
        have he : faultFrom none b = 0 := by rw [Hff.out, List.drop_length]; rfl
        have He := Lib.hid he
        clear he
        go_wp2_with fail
        go_ret
        exact ⟨by rw [Hf.out, He.out]; rfl, by rw [HO.out] at hbl; exact hbl⟩
end Go.Proofs.YtppjmonbmlbhpaaDoor
