/- Bids of unlike people, in any other order, are awarded alike. -/
import Derived.Test.YteikbbdkpeecaaaDoorRows
import Derived.Test.YteikbbdkpeecaaaDoorBidSold
import Derived.Test.YteikbbdkpeecaaaDoorLaidRH
import Derived.WalkKit
import Derived.ProofKit
import Derived.OpenShut
import Derived.ShutString
import Derived.ChangeOld
import Derived.Below
namespace Go.Proofs.YteikbbdkpeecaaaDoor
open Go.ChangeShapes Go.WideShapes Go.ChangeAt Go.RowKit
open Go.ChangeMaps (open_string shut_string)
set_option linter.unusedVariables false
set_option linter.unusedSimpArgs false
namespace bidOrder

-- HOLE: the walk
/-- bids, each by its place -/
def pickP (bs : List Bd) (os : List Int) : List Bd := os.map fun o => bs.getD o.toNat ⟨0, 0, nz⟩
theorem pickP_length (bs : List Bd) (os : List Int) : (pickP bs os).length = os.length := by simp [pickP]
theorem pickP_snoc (bs : List Bd) (os : List Int) (o : Int) : pickP bs (os ++ [o]) = pickP bs os ++ [bs.getD o.toNat ⟨0, 0, nz⟩] := by simp [pickP]
theorem pickP_mem (bs : List Bd) (os : List Int) (h : ∀ o ∈ os, 0 ≤ o ∧ o < (bs.length : Int)) : ∀ e ∈ pickP bs os, e ∈ bs := by
  intro e he
  obtain ⟨o, ho, rfl⟩ := List.mem_map.1 he
  have := h o ho
  have hl : o.toNat < bs.length := by omega
  rw [List.getD_eq_getElem?_getD, List.getElem?_eq_getElem hl]
  exact List.getElem_mem hl
/-- numbers below n, none of them twice, are at most n; and where one is missing, fewer -/
theorem pig : ∀ (n : Nat) (l : List Nat), l.Pairwise (· ≠ ·) → (∀ x ∈ l, x < n) → l.length ≤ n
  | 0, l, _, h => by
    cases l with
    | nil => exact Nat.le_refl _
    | cons x l => exact absurd (h x (List.mem_cons_self ..)) (Nat.not_lt_zero _)
  | n + 1, l, hd, h => by
    have h1 : (l.filter (fun x => decide (x ≠ n))).length ≤ n := pig n _ (hd.filter _) (fun x hx => by
      obtain ⟨hx1, hx2⟩ := List.mem_filter.1 hx
      have := h x hx1
      have := of_decide_eq_true hx2
      omega)
    have h2 : ∀ (l : List Nat), l.Pairwise (· ≠ ·) → l.length ≤ (l.filter (fun x => decide (x ≠ n))).length + 1 := by
      intro l
      induction l with
      | nil => intro _; simp
      | cons x l ih =>
        intro hp
        obtain ⟨p1, p2⟩ := List.pairwise_cons.1 hp
        by_cases e : x = n
        · have hf : l.filter (fun y => decide (y ≠ n)) = l := List.filter_eq_self.2 fun y hy => decide_eq_true (by rw [← e]; exact (p1 y hy).symm)
          rw [List.filter_cons, if_neg (by simp [e]), hf]
          simp
        · rw [List.filter_cons, if_pos (by simpa using e)]
          simp only [List.length_cons]
          have := ih p2
          omega
    have := h2 l hd
    omega
theorem pig_all (n : Nat) (l : List Nat) (hd : l.Pairwise (· ≠ ·)) (h : ∀ x ∈ l, x < n) (hl : l.length = n) (i : Nat) (hi : i < n) : i ∈ l := by
  by_cases hm : i ∈ l
  · exact hm
  · exfalso
    have := pig n (i :: l) (List.pairwise_cons.2 ⟨fun x hx e => hm (e ▸ hx), hd⟩) (fun x hx => by
      rcases List.mem_cons.1 hx with rfl | hx
      · exact hi
      · exact h x hx)
    simp at this
    omega
theorem pickP_same (bs : List Bd) (os : List Int) (h : ∀ o ∈ os, 0 ≤ o ∧ o < (bs.length : Int)) (hl : os.length = bs.length) (hd : os.Pairwise (· ≠ ·)) : ∀ e, e ∈ pickP bs os ↔ e ∈ bs := by
  intro e
  refine ⟨pickP_mem bs os h e, fun he => ?_⟩
  have hd2 : (os.map Int.toNat).Pairwise (· ≠ ·) := by
    rw [List.pairwise_map]
    refine List.Pairwise.imp_of_mem (fun {a b} ha hb hne he => hne ?_) hd
    have := h a ha
    have := h b hb
    omega
  obtain ⟨i, hi, rfl⟩ := List.getElem_of_mem he
  have hm := pig_all bs.length (os.map Int.toNat) hd2 (fun x hx => by
    obtain ⟨o, ho, rfl⟩ := List.mem_map.1 hx
    have := h o ho
    omega) (by rw [List.length_map, hl]) i hi
  obtain ⟨o, ho, hoi⟩ := List.mem_map.1 hm
  refine List.mem_map.2 ⟨o, ho, ?_⟩
  rw [hoi, List.getD_eq_getElem?_getD, List.getElem?_eq_getElem hi]
  rfl
theorem unlike_of {bs : List Bd} (h : bs.Pairwise fun a b => a.who ≠ b.who) : ∀ i j, (hi : i < bs.length) → (hj : j < bs.length) → bs[i].who = bs[j].who → i = j := by
  intro i j hi hj he
  have hp := List.pairwise_iff_getElem.1 h
  rcases Nat.lt_trichotomy i j with hlt | hlt | hlt
  · exact absurd he (hp i j hi hj hlt)
  · exact hlt
  · exact absurd he.symm (hp j i hj hi hlt)
theorem pickP_who (bs : List Bd) (os : List Int) (h : ∀ o ∈ os, 0 ≤ o ∧ o < (bs.length : Int)) (hd : os.Pairwise (· ≠ ·)) (hw : bs.Pairwise fun a b => a.who ≠ b.who) : (pickP bs os).Pairwise fun a b => a.who ≠ b.who := by
  unfold pickP
  rw [List.pairwise_map]
  refine List.Pairwise.imp_of_mem (fun {a b} ha hb hne he => hne ?_) hd
  have h1 := h a ha
  have h2 := h b hb
  have l1 : a.toNat < bs.length := by omega
  have l2 : b.toNat < bs.length := by omega
  rw [List.getD_eq_getElem?_getD, List.getElem?_eq_getElem l1, List.getD_eq_getElem?_getD, List.getElem?_eq_getElem l2, Option.getD_some, Option.getD_some] at he
  have := unlike_of hw _ _ l1 l2 he
  omega
theorem order_one {vs : List (List UInt8)} {bs : List Bd} {os : List Int} (h : ∀ o ∈ os, 0 ≤ o ∧ o < (bs.length : Int)) (hl : os.length = bs.length) (hd : os.Pairwise (· ≠ ·)) (hw : bs.Pairwise fun a b => a.who ≠ b.who) {l x p x' p' : Int} (h1 : AwardIs (cntB (hasV vs) bs) l x p) (h2 : AwardIs (cntB (hasV vs) (pickP bs os)) l x' p') : x = x' ∧ p = p' := by
  refine award_one h1 (award_mem (fun b => ?_) h2)
  rw [cnt_unlike (unlike_of (pickP_who bs os h hd hw)), cnt_unlike (unlike_of hw), pickP_same bs os h hl hd]
theorem ToldN_calls (w : World) : Calls Tryd.prog 27 #[.nilIface, .nilIface] w fun e w' => e = .returned (.bool true) ∧ Below w.heap.size w w' := by
  have T1 := Lib.hid (Told_nil w)
  go_enter Tryd.func27, Tryd.ntmps27
  go_wp2_with fail
  refine T1.out.mono ?_
  rintro e w' ⟨rfl, rfl⟩
  go_wp2_with fail
  refine T1.out.mono ?_
  rintro e w' ⟨rfl, rfl⟩
  go_wp2_with fail
  go_ret
  exact ⟨by simp, Below.refl _ _⟩
theorem ToldE_calls (n : Int) (w : World) (hg : ErrVar w) : Calls Tryd.prog 27 #[.iface 25 (.int .i64 n), .iface 25 (.int .i64 n)] w fun e w' => e = .returned (.bool true) ∧ Below w.heap.size w w' := by
  have T1 := Lib.hid (Told_err n w hg)
  have EG := Lib.hid hg
  clear hg
  go_enter Tryd.func27, Tryd.ntmps27
  go_wp2_with fail
  refine T1.out.mono ?_
  rintro e w1 ⟨rfl, hb1⟩
  have B1 := Lib.hid hb1
  have T2 := Lib.hid (Told_err n w1 (EG.out.at_ hb1))
  clear hb1 T1
  go_wp2_with fail
  refine T2.out.mono ?_
  rintro e w2 ⟨rfl, hb2⟩
  have B2 := Lib.hid (B1.out.trans (hb2.mono B1.out.size))
  clear hb2 T2
  go_wp2_with fail
  go_ret
  exact ⟨by simp, B2.out⟩
set_option maxRecDepth 20000 in
set_option maxHeartbeats 16000000 in
theorem walk (x0 : List (List UInt8)) (a0 : Option Addr) (c0 e0 : Nat) (x1 : List Bd) (a1 : Option Addr) (c1 e1 : Nat) (a2 : Int) (x3 : List Int) (a3 : Option Addr) (c3 e3 : Nat) (w : World) (l0 : x0.length * 32 ≤ 140737488351232) (n0 : ∀ d ∈ x0, d.length = 32) (r0 : Rd w a0 e0 (x0.flatten.map vB)) (z1 : x1.length * 48 ≤ 140737488351232) (l1 : x1.length ≤ c1) (m1 : c1 ≤ 9223372036854775807) (n1 : ∀ e ∈ x1, BdW e) (r1 : Rd w a1 e1 (cellsP x1)) (h2 : -9223372036854775808 ≤ a2 ∧ a2 ≤ 9223372036854775807) (l3 : x3.length ≤ 9223372036854775807) (n3 : ∀ n ∈ x3, -9223372036854775808 ≤ n ∧ n ≤ 9223372036854775807) (r3 : Rd w a3 e3 (x3.map vI)) (hro : RoundsAt w) (hg : ErrVar w) :
    Calls Tryd.prog 7 #[.slice a0 x0.length c0, .slice a1 x1.length c1, .int .i64 a2, .slice a3 x3.length c3] w fun e w' => e = .returned (.bool true) ∧ Below w.heap.size w w' := by
  have HFA := Lib.hid (Fact_calls w hro)
  have HR := Lib.hid r0
  have HRB := Lib.hid r1
  have HRO := Lib.hid r3
  have HVS := Lib.hid n0
  have HBS := Lib.hid n1
  have HBS2 := Lib.hid (show ∀ b ∈ x1, b.salt.length = 32 from fun b h => (n1 b h).1)
  have RO := Lib.hid hro
  have EG := Lib.hid hg
  have hl0 : x0.length ≤ 9223372036854775807 := by omega
  have hz48 : x1.length * 48 ≤ 140737488351232 := z1
  clear z1
  have hl1 : x1.length ≤ 9223372036854775807 := by omega
  clear r0 r1 r3 n0 n1 n3 hro hg l0 l1 m1
  go_enter Tryd.func7, Tryd.ntmps7
  go_wp2_with fail
  refine HFA.out.mono ?_
  rintro e w1 ⟨rfl, hb1⟩
  have B1 := Lib.hid hb1
  clear hb1 HFA
  by_cases hlen : x3.length = x1.length
  · have z1 : ((x3.length : Int) != (x1.length : Int)) = false := by rw [hlen]; simp
    have z2 : (x3.length != x1.length) = false := by rw [hlen]; simp
    have HLEN := Lib.hid hlen
    clear hlen
    go_wp2_with fail
    clear z1 z2
    go_loopw [10, 11] (fun q i wr => ∃ (k : Nat) (av : Option Addr) (cp : Nat), k ≤ x3.length ∧ i = .int .i64 k ∧ q = .slice av k cp ∧ wr.ownsRow w.heap.size 59 34 (.slice av k cp) k (cellsP (pickP x1 (x3.take k))) ∧ (∀ o ∈ x3.take k, 0 ≤ o ∧ o < (x1.length : Int)) ∧ (x3.take k).Pairwise (· ≠ ·) ∧ ((x1.take k).Pairwise fun a b => a.who ≠ b.who) ∧ Below w.heap.size w wr) (fun _ i _ => x3.length - (intOf i).toNat)
    case atStart => exact ⟨0, none, 0, Nat.zero_le _, rfl, rfl, World.ownsRow_nil _ _ _ _, (fun o ho => by simp at ho), List.Pairwise.nil, List.Pairwise.nil, B1.out⟩
    case round =>
      obtain ⟨k, av, cp, hk, rfl, rfl, hown, hin, hdi, hwho, hbel⟩ := hrel
      obtain ⟨wA, rfl⟩ : ∃ z, z = wr := ⟨_, rfl⟩
      by_cases hlt : k < x3.length
      · have hlt1 : k < x1.length := by rw [← HLEN.out]; exact hlt
        obtain ⟨ob, oo, hoa, hol, hco⟩ := (HRO.out.below hbel).ints hlt
        subst hoa
        obtain ⟨pb, po, hpa, hpl, hrk⟩ := (HRB.out.below hbel).bid HBS2.out hlt1
        subst hpa
        have ck := hco k hlt
        obtain ⟨o, ho⟩ : ∃ o, o = x3[k] := ⟨_, rfl⟩
        rw [← ho] at ck
        have k0 : (0 : Int) ≤ (k : Int) := by omega
        have k1 : (k : Int) < (x3.length : Int) := by omega
        have k2 : (k : Int) < (x1.length : Int) := by omega
        have FIN := Lib.hid hbel
        have HO := Lib.hid hown
        have HIN := Lib.hid hin
        have HDI := Lib.hid hdi
        have HWH := Lib.hid hwho
        have HOE := Lib.hid ho
        have LO := Lib.hid hol
        have LP := Lib.hid hpl
        have HTK := Lib.hid (show x3.take (k + 1) = x3.take k ++ [o] by rw [ho]; exact List.take_succ_eq_append_getElem hlt)
        clear hown hin hdi hwho hbel ho hol hpl hco hrk
        by_cases hneg : o < 0
        · have z1 : decide (o < 0) = true := decide_eq_true hneg
          clear hneg
          go_wp2_with fail
          go_ret
          exact ⟨rfl, FIN.out⟩
        · have z1 : decide (o < 0) = false := decide_eq_false hneg
          by_cases hge : (x1.length : Int) ≤ o
          · have z2 : decide ((x1.length : Int) ≤ o) = true := decide_eq_true hge
            clear hge hneg
            go_wp2_with fail
            go_ret
            exact ⟨rfl, FIN.out⟩
          · have z2 : decide ((x1.length : Int) ≤ o) = false := decide_eq_false hge
            obtain ⟨q, rfl⟩ := Int.eq_ofNat_of_zero_le (show 0 ≤ o by omega)
            have hq : q < x1.length := by omega
            clear hge hneg
            go_wp2_with fail
            clear z1 z2 ck
            go_loopw [12] (fun j wr => ∃ m : Nat, m ≤ k ∧ j = .int .i64 m ∧ (∀ j', j' < m → (h3 : j' < x3.length) → (h1 : j' < x1.length) → x3[j'] ≠ (q : Int) ∧ x1[k].who ≠ x1[j'].who) ∧ Below wA.heap.size wA wr) (fun j _ => k - (intOf j).toNat)
            case atStart => exact ⟨0, Nat.zero_le _, rfl, fun j' h => absurd h (Nat.not_lt_zero _), Below.refl _ _⟩
            case round =>
              obtain ⟨m, hm, rfl, hno, hbi⟩ := hrel
              have FI2 := Lib.hid (FIN.out.trans (hbi.mono FIN.out.size))
              by_cases hmk : m < k
              · have hm3 : m < x3.length := by omega
                have hm1 : m < x1.length := by omega
                obtain ⟨_, _, hpe, _, hco⟩ := (HRO.out.below FI2.out).ints hlt
                cases hpe
                obtain ⟨_, _, hpe, hpl2, hrk⟩ := (HRB.out.below FI2.out).bid HBS2.out hlt1
                cases hpe
                obtain ⟨_, _, hpe, _, hrm⟩ := (HRB.out.below FI2.out).bid HBS2.out hm1
                cases hpe
                obtain ⟨om, hom⟩ : ∃ z, z = x3[m] := ⟨_, rfl⟩
                obtain ⟨wk, hwk⟩ : ∃ z, z = x1[k].who := ⟨_, rfl⟩
                obtain ⟨wm, hwm⟩ : ∃ z, z = x1[m].who := ⟨_, rfl⟩
                have lo2 : ob < wr.heap.size := Nat.lt_of_lt_of_le LO.out hbi.size
                have FJ := Lib.hid (show ∀ w', InB wr.heap.size wr w' → w'.cell? ⟨ob, oo + m, none⟩ = some (.int .i64 om) from fun w' h => (Below.cell h (p := ⟨ob, oo + m, none⟩) lo2).trans (by rw [hom]; exact hco m hm3))
                have FK := Lib.hid (show ∀ w', InB wr.heap.size wr w' → w'.cell? ⟨ob, oo + k, none⟩ = some (.int .i64 (q : Int)) from fun w' h => (Below.cell h (p := ⟨ob, oo + k, none⟩) lo2).trans (by rw [HOE.out]; exact hco k hlt))
                have FW := Lib.hid (show ∀ w', InB wr.heap.size wr w' → w'.cell? ⟨pb, po + k * 34, none⟩ = some (.int .i64 wk) from fun w' h => (Below.cell h (p := ⟨pb, po + k * 34, none⟩) hpl2).trans (by rw [hwk]; exact range_who hrk))
                have FM := Lib.hid (show ∀ w', InB wr.heap.size wr w' → w'.cell? ⟨pb, po + m * 34, none⟩ = some (.int .i64 wm) from fun w' h => (Below.cell h (p := ⟨pb, po + m * 34, none⟩) hpl2).trans (by rw [hwm]; exact range_who hrm))
                have m0 : (0 : Int) ≤ (m : Int) := by omega
                have m1 : (m : Int) < (x3.length : Int) := by omega
                have m2 : (m : Int) < (x1.length : Int) := by omega
                have m3 : (m : Int) < (k : Int) := by omega
                have HNO := Lib.hid hno
                have HBI := Lib.hid hbi
                have HOM := Lib.hid hom
                have HWK := Lib.hid hwk
                have HWM := Lib.hid hwm
                clear hco hrk hrm hom hwk hwm hno hbi hpl2
                by_cases e1 : om = (q : Int)
                · have y1 : (om == (q : Int)) = true := beq_iff_eq.2 e1
                  clear e1
                  go_upto_region 15 with fail
                  have hex := inB_ex wr.heap.size wr
                  refine wp_region_inB wr.heap.size (by kernel_rfl) (by kernel_rfl) ?_
                  repeat (first
                    | (with_reducible refine quiet_int rfl (.tmp 55) rfl ⟨ob, oo + m, none⟩ (by kernel_rfl) (om) FJ.out ?_ (by kernel_rfl); simp only [Act.put, List.setIfInBounds_toArray, List.set_cons_zero, List.set_cons_succ])
                    | (with_reducible refine quiet_int rfl (.tmp 59) rfl ⟨ob, oo + k, none⟩ (by kernel_rfl) (q : Int) FK.out ?_ (by kernel_rfl); simp only [Act.put, List.setIfInBounds_toArray, List.set_cons_zero, List.set_cons_succ])
                    | go_big_quiet_step ((first | (intro _; rfl))))
                  refine wpQuiet_nil ?_
                  intro wZ hwZ
                  have BX := Lib.hid (FI2.out.trans (Below.mono hwZ FI2.out.size))
                  clear hwZ hex
                  go_wp2_with fail
                  go_ret
                  exact ⟨rfl, BX.out⟩
                · have y1 : (om == (q : Int)) = false := beq_eq_false_iff_ne.2 e1
                  have HE1 := Lib.hid e1
                  clear e1
                  by_cases e2 : wk = wm
                  · have y2 : (wk == wm) = true := beq_iff_eq.2 e2
                    clear e2
                    go_upto_region 15 with fail
                    have hex := inB_ex wr.heap.size wr
                    refine wp_region_inB wr.heap.size (by kernel_rfl) (by kernel_rfl) ?_
                    repeat (first
                      | (with_reducible refine quiet_int rfl (.tmp 55) rfl ⟨ob, oo + m, none⟩ (by kernel_rfl) (om) FJ.out ?_ (by kernel_rfl); simp only [Act.put, List.setIfInBounds_toArray, List.set_cons_zero, List.set_cons_succ])
                      | (with_reducible refine quiet_int rfl (.tmp 59) rfl ⟨ob, oo + k, none⟩ (by kernel_rfl) (q : Int) FK.out ?_ (by kernel_rfl); simp only [Act.put, List.setIfInBounds_toArray, List.set_cons_zero, List.set_cons_succ])
                      | (with_reducible refine quiet_int rfl (.tmp 66) rfl ⟨pb, po + k * 34, none⟩ (by kernel_rfl) (wk) FW.out ?_ (by kernel_rfl); simp only [Act.put, List.setIfInBounds_toArray, List.set_cons_zero, List.set_cons_succ])
                      | (with_reducible refine quiet_int rfl (.tmp 71) rfl ⟨pb, po + m * 34, none⟩ (by kernel_rfl) (wm) FM.out ?_ (by kernel_rfl); simp only [Act.put, List.setIfInBounds_toArray, List.set_cons_zero, List.set_cons_succ])
                      | go_big_quiet_step ((first | (intro _; rfl))))
                    refine wpQuiet_nil ?_
                    intro wZ hwZ
                    have BX := Lib.hid (FI2.out.trans (Below.mono hwZ FI2.out.size))
                    clear hwZ hex
                    go_wp2_with fail
                    go_ret
                    exact ⟨rfl, BX.out⟩
                  · have y2 : (wk == wm) = false := beq_eq_false_iff_ne.2 e2
                    have HE2 := Lib.hid e2
                    clear e2
                    go_upto_region 15 with fail
                    have hex := inB_ex wr.heap.size wr
                    refine wp_region_inB wr.heap.size (by kernel_rfl) (by kernel_rfl) ?_
                    repeat (first
                      | (with_reducible refine quiet_int rfl (.tmp 55) rfl ⟨ob, oo + m, none⟩ (by kernel_rfl) (om) FJ.out ?_ (by kernel_rfl); simp only [Act.put, List.setIfInBounds_toArray, List.set_cons_zero, List.set_cons_succ])
                      | (with_reducible refine quiet_int rfl (.tmp 59) rfl ⟨ob, oo + k, none⟩ (by kernel_rfl) (q : Int) FK.out ?_ (by kernel_rfl); simp only [Act.put, List.setIfInBounds_toArray, List.set_cons_zero, List.set_cons_succ])
                      | (with_reducible refine quiet_int rfl (.tmp 66) rfl ⟨pb, po + k * 34, none⟩ (by kernel_rfl) (wk) FW.out ?_ (by kernel_rfl); simp only [Act.put, List.setIfInBounds_toArray, List.set_cons_zero, List.set_cons_succ])
                      | (with_reducible refine quiet_int rfl (.tmp 71) rfl ⟨pb, po + m * 34, none⟩ (by kernel_rfl) (wm) FM.out ?_ (by kernel_rfl); simp only [Act.put, List.setIfInBounds_toArray, List.set_cons_zero, List.set_cons_succ])
                      | go_big_quiet_step ((first | (intro _; rfl))))
                    refine wpQuiet_nil ?_
                    intro wZ hwZ
                    have BX := Lib.hid (HBI.out.trans (Below.mono hwZ HBI.out.size))
                    clear hwZ hex
                    go_wp2_with fail
                    go_roundw
                    case rel => exact ⟨m + 1, hmk, by go_num, fun j' hj h3 h1 => (Nat.lt_or_ge j' m).elim (fun g => HNO.out j' g h3 h1) (fun g => by
                      obtain rfl : j' = m := by omega
                      rw [← HOM.out, ← HWK.out, ← HWM.out]; exact ⟨HE1.out, HE2.out⟩), BX.out⟩
                    case measure => simp [intOf]; omega
              · obtain rfl : m = k := by omega
                obtain ⟨wB, rfl⟩ : ∃ z, z = wr := ⟨_, rfl⟩
                obtain ⟨_, _, hpe, _, hco⟩ := (HRO.out.below FI2.out).ints hlt
                cases hpe
                obtain ⟨_, _, hpe, hpl2, hrq⟩ := (HRB.out.below FI2.out).bid HBS2.out hq
                cases hpe
                obtain ⟨E, hE⟩ : ∃ E, E = x1[q] := ⟨_, rfl⟩
                have ck : wB.cell? ⟨ob, oo + m, none⟩ = some (.int .i64 (q : Int)) := by rw [HOE.out]; exact hco m hlt
                have E32 := Lib.hid (show E.salt.length = 32 by rw [hE]; exact HBS2.out _ (List.getElem_mem _))
                rw [← hE] at hrq
                have HRQ := Lib.hid hrq
                have HPK := Lib.hid (show pickP x1 (x3.take (m + 1)) = pickP x1 (x3.take m) ++ [E] by
                  rw [HTK.out, pickP_snoc, Int.toNat_natCast, List.getD_eq_getElem?_getD, List.getElem?_eq_getElem hq, hE]; rfl)
                have OB := Lib.hid (own_below HO.out hbi)
                have HIN2 : Hid (∀ o ∈ x3.take (m + 1), 0 ≤ o ∧ o < (x1.length : Int)) := Lib.hid (fun o ho => by
                  rw [HTK.out] at ho
                  rcases List.mem_append.1 ho with h | h
                  · exact HIN.out o h
                  · rw [List.mem_singleton.1 h]; exact ⟨by omega, by omega⟩)
                have HDI2 : Hid ((x3.take (m + 1)).Pairwise (· ≠ ·)) := Lib.hid (by
                  rw [HTK.out, List.pairwise_append]
                  refine ⟨HDI.out, List.pairwise_singleton _ _, fun a ha b hb => ?_⟩
                  rw [List.mem_singleton.1 hb]
                  obtain ⟨j, hj, rfl⟩ := List.mem_iff_getElem.1 ha
                  rw [List.length_take] at hj
                  rw [List.getElem_take]
                  exact (hno j (by omega) (by omega) (by omega)).1)
                have HWH2 : Hid ((x1.take (m + 1)).Pairwise fun a b => a.who ≠ b.who) := Lib.hid (by
                  rw [List.take_succ_eq_append_getElem hlt1, List.pairwise_append]
                  refine ⟨HWH.out, List.pairwise_singleton _ _, fun a ha b hb => ?_⟩
                  rw [List.mem_singleton.1 hb]
                  obtain ⟨j, hj, rfl⟩ := List.mem_iff_getElem.1 ha
                  rw [List.length_take] at hj
                  rw [List.getElem_take]
                  exact (hno j (by omega) (by omega) (by omega)).2.symm)
                have q0 : (0 : Int) ≤ (q : Int) := by omega
                have q1 : (q : Int) < (x1.length : Int) := by omega
                have hm48 : (m + 1) * 48 ≤ 140737488351232 := by omega
                have hm9 : m + 1 ≤ 140737488351232 := by omega
                have hsr : w.heap.size ≤ wB.heap.size := FI2.out.size
                clear hE hrq hco hno hbi hpl2
                go_wp2_with (first
                  | ((refine ld_bidG rfl (.tmp 81) rfl pb (po + q * 34) (by rfl) E E32.out HRQ.out ?_); simp only [Act.put, List.setIfInBounds_toArray, List.set_cons_zero, List.set_cons_succ])
                  | ((refine wpl_build1 49 59 _ 34 48 Tryd.underlying49 info_bidz (by omega) (by omega) rfl (.tmp 82) rfl (bV E.who E.amount E.salt) (by rfl) (bVs E32.out) ?_); simp only [Act.put, List.setIfInBounds_toArray, List.set_cons_zero, List.set_cons_succ])
                  | (at_builtin; refine appAllw 49 59 (.agg (bV 0 0 nz)) 34 48 Tryd.underlying49 info_bidz (bV_size 0 0 nz rfl) (by omega) rfl (.tmp 75) (.tmp 83) (by rfl) w.heap.size _ m _ (by rfl) (OB.out.alloc _) (some ⟨wB.heap.size, 0, none⟩) 1 1 (cellsP [E]) (by rfl) _ (Rd.bid1 wB E) (by rw [cellsP_one, bL_length E32.out]) (cellsP_one_all _) (by omega) (by omega) (by rw [World.size_alloc]; omega) ?_; intro av9 cp9 w9 hown9 hb9; rw [← cellsP_append, ← HPK.out] at hown9; have O9 := Lib.hid hown9; have B9 := Lib.hid (FI2.out.trans (Below.trans ((Below.refl _ wB).alloc hsr _) hb9)); clear hown9 hb9))
                go_roundw
                case rel => exact ⟨m + 1, av9, cp9, hlt, by go_num, rfl, O9.out, HIN2.out, HDI2.out, HWH2.out, B9.out⟩
                case measure => simp [intOf]; omega
      · obtain rfl : k = x3.length := by omega
        rw [List.take_of_length_le (Nat.le_refl _)] at hown hin hdi
        rw [List.take_of_length_le (show x1.length ≤ x3.length by rw [HLEN.out]; exact Nat.le_refl _)] at hwho
        obtain ⟨ys, hys⟩ : ∃ ys, ys = pickP x1 x3 := ⟨_, rfl⟩
        rw [← hys] at hown
        have hyl : ys.length = x3.length := by rw [hys]; exact pickP_length x1 x3
        have hyw : ∀ b ∈ ys, BdW b := fun b hb => HBS.out b (by rw [hys] at hb; exact pickP_mem x1 x3 hin b hb)
        have ONE : Hid (∀ {x p x' p' : Int}, AwardIs (cntB (hasV x0) x1) a2 x p → AwardIs (cntB (hasV x0) ys) a2 x' p' → x = x' ∧ p = p') := Lib.hid (fun h1 h2 => order_one hin HLEN.out hdi hwho h1 (by rw [← hys]; exact h2))
        have FIN := Lib.hid hbel
        have PL := Lib.hid (show ys.length = x1.length by rw [hyl]; exact HLEN.out)
        have rys := Rd.of_own hown
        have AC1 := Lib.hid (Award_calls x0 HVS.out (by omega) a0 c0 _ x1 HBS.out (by omega) a1 c1 _ a2 wA (HR.out.below hbel) (HRB.out.below hbel) (RO.out.at_ hbel))
        have AC2 := fun w' (h : Below wA.heap.size wA w') => Award_calls x0 HVS.out (by omega) a0 c0 _ ys hyw (by rw [PL.out]; omega) av cp _ a2 w' (HR.out.below (hbel.trans (h.mono hbel.size))) (rys.below h) (RO.out.at_ (hbel.trans (h.mono hbel.size)))
        rw [hyl] at AC2
        have AC2 := Lib.hid AC2
        clear hown hin hdi hwho hbel hys hyl hyw rys hlt hk
        by_cases hneg : a2 < 0
        · have A1 := (AC1.out).mono (fun e w'' h => (⟨h.1 hneg, h.2.2.2⟩ : e = .returned (.tuple #[.int .i64 0, .int .i64 0, .iface 25 (.int .i64 2)]) ∧ Below wA.heap.size wA w''))
          have A2 := fun w' hb => (AC2.out w' hb).mono (fun e w'' h => (⟨h.1 hneg, h.2.2.2⟩ : e = .returned (.tuple #[.int .i64 0, .int .i64 0, .iface 25 (.int .i64 2)]) ∧ Below w'.heap.size w' w''))
          have HA1 := Lib.hid A1
          have HA2 := Lib.hid A2
          clear A1 A2 hneg
          go_wp2_with fail
          refine HA1.out.mono ?_
          rintro e w2 ⟨rfl, hb2⟩
          have B2 := Lib.hid hb2
          clear hb2 HA1
          go_wp2_with fail
          refine (HA2.out w2 B2.out).mono ?_
          rintro e w3 ⟨rfl, hb3⟩
          have B3 := Lib.hid (FIN.out.trans ((B2.out.trans (hb3.mono B2.out.size)).mono FIN.out.size))
          have TC := Lib.hid (ToldE_calls 2 w3 (EG.out.at_ B3.out))
          clear hb3 HA2
          go_wp2_with fail
          refine TC.out.mono ?_
          rintro e w4 ⟨rfl, hb4⟩
          have B4 := Lib.hid (B3.out.trans (hb4.mono B3.out.size))
          clear hb4 TC
          go_wp2_with fail
          go_ret
          exact ⟨rfl, B4.out⟩
        · have hn0 : 0 ≤ a2 := by omega
          clear hneg
          by_cases hbig : 100 < x0.length ∨ 100 < x1.length
          · have A1 := (AC1.out).mono (fun e w'' h => (⟨h.2.1 hn0 hbig, h.2.2.2⟩ : e = .returned (.tuple #[.int .i64 0, .int .i64 0, .iface 25 (.int .i64 4)]) ∧ Below wA.heap.size wA w''))
            have A2 := fun w' hb => (AC2.out w' hb).mono (fun e w'' h => (⟨h.2.1 hn0 (by rw [HLEN.out]; exact hbig), h.2.2.2⟩ : e = .returned (.tuple #[.int .i64 0, .int .i64 0, .iface 25 (.int .i64 4)]) ∧ Below w'.heap.size w' w''))
            have HA1 := Lib.hid A1
            have HA2 := Lib.hid A2
            clear A1 A2 hbig hn0
            go_wp2_with fail
            refine HA1.out.mono ?_
            rintro e w2 ⟨rfl, hb2⟩
            have B2 := Lib.hid hb2
            clear hb2 HA1
            go_wp2_with fail
            refine (HA2.out w2 B2.out).mono ?_
            rintro e w3 ⟨rfl, hb3⟩
            have B3 := Lib.hid (FIN.out.trans ((B2.out.trans (hb3.mono B2.out.size)).mono FIN.out.size))
            have TC := Lib.hid (ToldE_calls 4 w3 (EG.out.at_ B3.out))
            clear hb3 HA2
            go_wp2_with fail
            refine TC.out.mono ?_
            rintro e w4 ⟨rfl, hb4⟩
            have B4 := Lib.hid (B3.out.trans (hb4.mono B3.out.size))
            clear hb4 TC
            go_wp2_with fail
            go_ret
            exact ⟨rfl, B4.out⟩
          · have hv2 : x0.length ≤ 100 := by omega
            have hb2 : x1.length ≤ 100 := by omega
            clear hbig
            have A1 := (AC1.out).mono (fun e w'' h => (⟨h.2.2.1 hn0 hv2 hb2, h.2.2.2⟩ : (∃ x p : Int, e = .returned (.tuple #[.int .i64 x, .int .i64 p, .nilIface]) ∧ AwardIs (cntB (hasV x0) x1) a2 x p) ∧ Below wA.heap.size wA w''))
            have A2 := fun w' hb => (AC2.out w' hb).mono (fun e w'' h => (⟨h.2.2.1 hn0 hv2 (by rw [HLEN.out]; exact hb2), h.2.2.2⟩ : (∃ x p : Int, e = .returned (.tuple #[.int .i64 x, .int .i64 p, .nilIface]) ∧ AwardIs (cntB (hasV x0) ys) a2 x p) ∧ Below w'.heap.size w' w''))
            have HA1 := Lib.hid A1
            have HA2 := Lib.hid A2
            clear A1 A2 hn0 hv2 hb2
            go_wp2_with fail
            refine HA1.out.mono ?_
            rintro e w2 ⟨⟨x, p, rfl, haw⟩, hb2⟩
            have B2 := Lib.hid hb2
            have HAW := Lib.hid haw
            clear hb2 HA1 haw
            go_wp2_with fail
            refine (HA2.out w2 B2.out).mono ?_
            rintro e w3 ⟨⟨x', p', rfl, haw⟩, hb3⟩
            have B3 := Lib.hid (FIN.out.trans ((B2.out.trans (hb3.mono B2.out.size)).mono FIN.out.size))
            obtain ⟨rfl, rfl⟩ := ONE.out HAW.out haw
            have TC := Lib.hid (ToldN_calls w3)
            clear hb3 HA2 haw
            go_wp2_with fail
            refine TC.out.mono ?_
            rintro e w4 ⟨rfl, hb4⟩
            have B4 := Lib.hid (B3.out.trans (hb4.mono B3.out.size))
            clear hb4 TC
            go_wp2_with fail
            go_ret
            exact ⟨by simp, B4.out⟩
  · have z1 : ((x3.length : Int) != (x1.length : Int)) = true := by simp; omega
    have z2 : (x3.length != x1.length) = true := by simpa using hlen
    clear hlen
    go_wp2_with fail
    go_ret
    exact ⟨rfl, B1.out⟩

set_option maxRecDepth 100000 in
theorem lifted (os : Os) (started : os.Started) (H : Type) (enc : TypeId × Value → H) :
    ReturnsInHanded {} Tryd.checked os 7 .any (fun w args => (Rows.bidOrderSpec.pre enc Tryd.prog Tryd.f7 Rows.bidOrderRow.domain false w args ∧ laidMetH Tryd.prog Laid.list w) ∧ sizedMet enc Tryd.prog Tryd.f7 (OpenSpec.ofChange Rows.bidOrderSpec) false w args) (Rows.bidOrderSpec.post enc Tryd.prog Tryd.f7 false true false false) := by
  refine returnsInHanded_of_change_and (C := Tryd.checked) (X := fun w _ => laidMetH Tryd.prog Laid.list w) (fun _ _ _ hh h => h.of_heap hh) Laid.own started (by kernel_rfl) Tryd.func7
    (ChangeSpec.witness_at (enc := enc) (C := Tryd.checked) (os := os) (X := fun w _ => laidMetH Tryd.prog Laid.list w) false (laidWorld os) #[.slice none 0 0, .slice none 0 0, .int .i64 0, .slice none 0 0] 8 rfl (by kernel_rfl) (by kernel_rfl) (by kernel_rfl) (by kernel_rfl) (by kernel_rfl) (laidWorld_met os _)) ?_
  intro W base args ds gs before hval0 hW _ hsz hL _
  have hro := rounds_of_laid hL
  have hg := handle_of_laid hL
  have hval : ∀ (j : Nat) t v, Tryd.f7.params[j]? = some t → args[j]? = some v → Value.okWide Tryd.prog W .any base t v := hval0
  have hW' := hW
  obtain ⟨p, q, hA0, hV, rfl, hfz, hnd⟩ := hW
  have hA : DataW.TrodAll enc Tryd.prog W 0 (fun _ => true) true Tryd.f7.params.toList args.toList ds p := hA0
  rw [Tryd.params7] at hA hval
  obtain ⟨v0, vs0, d0, ds0, p0, q0, hargs, rfl, rfl, h0, r0⟩ := trodAll_cons hA
  obtain ⟨v1, vs1, d1, ds1, p1, q1, rfl, rfl, rfl, h1, r1⟩ := trodAll_cons r0
  obtain ⟨v2, vs2, d2, ds2, p2, q2, rfl, rfl, rfl, h2, r2⟩ := trodAll_cons r1
  obtain ⟨v3, vs3, d3, ds3, p3, q3, rfl, rfl, rfl, h3, r3⟩ := trodAll_cons r2
  obtain ⟨rfl, rfl, rfl⟩ := trodAll_nil r3
  obtain rfl : args = #[v0, v1, v2, v3] := by cases args; simp_all
  obtain ⟨rfl, rfl⟩ := trodVars_none hV
  have k0 := h0
  have lt0 : ∀ x ∈ p0, x.block < W.heap.size := by obtain ⟨m, hm⟩ := k0; exact DataW.trod_lt m _ _ _ hm
  obtain ⟨x0, a0, c0, e0, rfl, g0, g_0, n0, r_0⟩ := open_digests Tryd.underlying48 Tryd.underlying55 Tryd.underlying5 (by kernel_rfl) (by kernel_rfl) (hval 0 48 v0 rfl rfl) h0
  have l0 : x0.length * 32 ≤ 140737488351232 := by have := trod_len (B := reachBytes) Tryd.underlying48 h0 (fun n hn => of_decide_eq_true (List.all_eq_true.1 hsz n (DataW.weights_mem_each (j := 0) (by first | rfl | kernel_rfl) rfl n hn))); rw [show Tryd.prog.bytesOf 55 = 32 by kernel_rfl] at this; exact this
  have k1 := h1
  have lt1 : ∀ x ∈ p1, x.block < W.heap.size := by obtain ⟨m, hm⟩ := k1; exact DataW.trod_lt m _ _ _ hm
  obtain ⟨x1, a1, c1, e1, rfl, l1, m1, n1, r_1⟩ := open_bids Tryd.underlying49 Tryd.underlying59 Tryd.underlying3 Tryd.underlying3 Tryd.underlying55 Tryd.underlying5 (by kernel_rfl) (by kernel_rfl) (by kernel_rfl) (by kernel_rfl) (by kernel_rfl) rfl rfl rfl (hval 1 49 v1 rfl rfl) h1
  have z1 : x1.length * 48 ≤ 140737488351232 := by have := trod_len (B := reachBytes) Tryd.underlying49 h1 (fun n hn => of_decide_eq_true (List.all_eq_true.1 hsz n (DataW.weights_mem_each (j := 1) (by first | rfl | kernel_rfl) rfl n hn))); rw [show Tryd.prog.bytesOf 59 = 48 by kernel_rfl] at this; exact this
  have k2 := h2
  have lt2 : ∀ x ∈ p2, x.block < W.heap.size := by obtain ⟨m, hm⟩ := k2; exact DataW.trod_lt m _ _ _ hm
  obtain ⟨a2, rfl, _, _, w2⟩ := open_int Tryd.underlying3 (hval 2 3 v2 rfl rfl) h2
  have b2 := bounds_i64 w2
  have k3 := h3
  have lt3 : ∀ x ∈ p3, x.block < W.heap.size := by obtain ⟨m, hm⟩ := k3; exact DataW.trod_lt m _ _ _ hm
  obtain ⟨x3, a3, c3, e3, rfl, l3, n3, r_3⟩ := open_nums Tryd.underlying35 Tryd.underlying3 (by kernel_rfl) (hval 3 35 v3 rfl rfl) h3
  clear hA0 hval0
  refine (walk x0 a0 c0 e0 x1 a1 c1 e1 a2 x3 a3 c3 e3 W l0 n0 r_0 z1 l1 m1 n1 r_1 b2 l3 n3 r_3 hro hg).mono fun e W' ⟨he, bel⟩ => ?_
  subst he
  exact ⟨_, rfl, _, _, _, [], _, [], hW', trodAll_mk1 (shut_bool Tryd.underlying4 _), (trodAll_cons_mk (Below.trod Laid.laidOut (by kernel_rfl) (of_decide_eq_true (by kernel_rfl)) k0 bel lt0) (trodAll_cons_mk (Below.trod Laid.laidOut (by kernel_rfl) (of_decide_eq_true (by kernel_rfl)) k1 bel lt1) (trodAll_cons_mk (Below.trod Laid.laidOut (by kernel_rfl) (of_decide_eq_true (by kernel_rfl)) k2 bel lt2) (trodAll_cons_mk (Below.trod Laid.laidOut (by kernel_rfl) (of_decide_eq_true (by kernel_rfl)) k3 bel lt3) trodAll_mk0)))), rfl, bel.frame _, fun h => by cases h⟩

theorem over : Rows.bidOrderRow.holds Tryd.pinned (OpenSpec.ofChange Rows.bidOrderSpec) :=
  OpenClaim.holds_of_wide 7 Tryd.f7 rfl rfl rfl rfl rfl rfl rfl ⟨rfl, rfl, rfl, rfl, rfl⟩ rfl rfl rfl rfl rfl (by kernel_rfl) Tryd.func7 (by kernel_rfl)
    (of_decide_eq_true (by kernel_rfl)) (by unfold Func.isWrapper; first | (rw [if_pos (by decide +kernel)]; kernel_rfl) | (rw [if_neg (by decide +kernel)]; exact ⟨rfl, rfl⟩))
    (fun os started H enc _ => lifted os started H enc)

theorem proved : Rows.BidOrderCardSaid :=
  Claim7.holds_tied_plain_at .later [] [.data, .handle] true (true, "4f0e9677fe1ccb776bf052845ca0f76ca72d0c0d325736eacb132d69b7600c21") true
    over (fun _ h => by cases h) (by kernel_rfl) (fun _ h => by cases h) bidOrder_row_tie rfl ⟨rfl, rfl⟩ (by kernel_rfl) rfl
    (fun f fn hf hfn => by
      obtain rfl : f = 7 := Option.some.inj ((show Tryd.prog.funcNamed "oathbook/oathbooklaw4.BidOrder" = some 7 by kernel_rfl).symm.trans hf) |>.symm
      obtain rfl : fn = Tryd.f7 := (Option.some.inj (Tryd.func7.symm.trans hfn)).symm
      exact ⟨by kernel_rfl, stand_of_all (by kernel_rfl)⟩)
    (by kernel_rfl)
#print axioms proved
end bidOrder
end Go.Proofs.YteikbbdkpeecaaaDoor
