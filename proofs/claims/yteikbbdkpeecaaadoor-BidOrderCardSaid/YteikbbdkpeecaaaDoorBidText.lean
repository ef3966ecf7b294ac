/- Walk: the document's BidText. -/
import Derived.Test.YteikbbdkpeecaaaDoorBidVow
namespace Go.Proofs.YteikbbdkpeecaaaDoor
open Go.RowKit
set_option linter.unusedVariables false
set_option linter.unusedSimpArgs false

section
variable {P : Program} {w : World} {ops : Array Oper} {o : Oper} {a : Act} {K : Act → World → Prop} {Q : Exit → Act → World → Prop} {E : Prop}
/-- bytes appended onto an owned slice, as a step of a region that draws its order -/
theorem stepAppRd (T e : TypeId) (z : Value) (size bytes : Nat) (ht : P.underlying T = some (.slice e)) (hinfo : (P.info? e).map (fun i => (i.zero, i.size, i.bytes)) = some (some z, size, bytes)) (hzs : z.cells.size = size) (hsz : 0 < size)
    (hgd : o.guard = none) (s x : Operand) (ho : o.op = .call { callee := .builtin .append, args := #[s, x], argTypes := #[T, T] })
    (base : Nat) (v : Value) (n : Nat) (xs : List Value) (hs : a.eval s = v) (hown : w.ownsRow base e size v n xs) (ad : Addr) (m c : Nat) (news : List Value) (hx : a.eval x = .slice (some ad) m c) (es : TypeId)
    (hu : Rd w (some ad) es news) (hl : news.length = m * size) (h1 : ∀ u ∈ news, u.oneCell' = true) (hm : 0 < m) (hn : n + m ≤ 140737488355328) (hnb : (n + m) * bytes ≤ 140737488355328) (hbase : base ≤ w.heap.size) (H : Nat) (hH : w.heap.size = H)
    (h : ∀ g cap w', w'.ownsRow base e size (.slice (some ⟨g, 0, none⟩) (n + m) cap) (n + m) (xs ++ news) → w.grownBy w' v.ownBlock → (v.ownBlock = some g ∨ g = H) → g < w'.heap.size → K (a.put o.dst (.slice (some ⟨g, 0, none⟩) (n + m) cap)) w') :
    if Region.wanted o (yielded ops a.tmps) = true then Oper.wp P o a w K Q else E := by
  obtain ⟨i, hi, hz, hsz', hb⟩ := info_parts hinfo
  exact step_append_lies w hgd s x T ho base e i z size bytes ht hi hz hsz' hb hzs hsz v n xs hs hown ad m c news hx hl hu.news h1 hm (by simp only [maxLen]; omega) (by omega) hbase H hH h
end
theorem own_low {w : World} {b b' : Nat} {e : TypeId} {size : Nat} {v : Value} {n : Nat} {xs : List Value} (h : w.ownsRow b e size v n xs) (hb : b' ≤ b) : w.ownsRow b' e size v n xs :=
  ⟨h.1, h.2.imp id fun ⟨g, cap, cur, hv, hg, r⟩ => ⟨g, cap, cur, hv, Nat.le_trans hb hg, r⟩⟩
theorem RPut_any (n : Int) (size : Nat) (h1 : 1 ≤ size) (h8 : size ≤ 8) (hn : n ≤ 9223372036854775807) (w : World) :
    Calls Tryd.prog 39 #[.int .i64 n, .int .i64 size] w fun e w' => ∃ (a : Option Addr) (len cap : Nat) (xs : List UInt8), e = .returned (.tuple #[.slice a len cap, .bool (decide (0 ≤ n ∧ n < 2 ^ (8 * size)))]) ∧ ((0 ≤ n ∧ n < 2 ^ (8 * size)) → len = size ∧ xs = beS size n.toNat) ∧ w'.ownsRow w.heap.size 5 1 (.slice a len cap) len (xs.map vB) ∧ Below w.heap.size w w' := by
  by_cases h0 : n < 0
  · refine (RPut_neg n size h1 h8 h0 w).mono ?_
    rintro e w' ⟨rfl, rfl⟩
    refine ⟨none, 0, 0, [], by rw [decide_eq_false (by omega)], fun h => by omega, World.ownsRow_nil _ _ _ _, Below.refl _ _⟩
  · obtain ⟨k, rfl⟩ := Int.eq_ofNat_of_zero_le (show 0 ≤ n by omega)
    refine (RPut_calls k size h1 h8 (by omega) w).mono ?_
    rintro e w' ⟨a, cap, rfl, hown, hb⟩
    have e1 : decide (k < 2 ^ (8 * size)) = decide (0 ≤ (k : Int) ∧ (k : Int) < 2 ^ (8 * size)) := by
      rw [decide_eq_decide]
      have : ((2 : Int) ^ (8 * size)) = ((2 ^ (8 * size) : Nat) : Int) := by rw [Int.natCast_pow]; rfl
      rw [this]
      omega
    refine ⟨a, size, cap, beS size k, by rw [e1], fun _ => ⟨rfl, by rw [Int.toNat_natCast]⟩, hown, hb⟩
set_option maxRecDepth 20000 in
set_option maxHeartbeats 4000000 in
theorem BidText_calls (b : Bd) (hb : BdW b) (w : World) :
    Calls Tryd.prog 23 #[.agg (bV b.who b.amount b.salt)] w fun e w' => (BdOk b → ∃ a cap, e = .returned (.tuple #[.slice a 45 cap, .bool true]) ∧ w'.ownsRow w.heap.size 5 1 (.slice a 45 cap) 45 ((bidT b).map vB)) ∧ (¬ BdOk b → e = .returned (.tuple #[.slice none 0 0, .bool false])) ∧ Below w.heap.size w w' := by
  obtain ⟨k, m, v⟩ := b
  obtain ⟨hv, ⟨hk1, hk2⟩, hm1, hm2⟩ := hb
  dsimp only at hv hk1 hk2 hm1 hm2 ⊢
  obtain ⟨H, hH⟩ : ∃ H, H = w.heap.size := ⟨_, rfl⟩
  obtain ⟨w0, hw0⟩ : ∃ z, z = w.alloc (.cells (bV k m v) 59) := ⟨_, rfl⟩
  have q0 : w0.heap.size = H + 1 := by rw [hw0, hH]; exact World.size_alloc _ _
  have s0 : Below (H) w w0 := by rw [hw0, hH]; exact (Below.refl _ _).alloc (Nat.le_refl _) _
  have t0 : Below (H + 1) w0 w0 := Below.refl _ _
  have bL : Below H w w0 := s0.trans (t0.mono (by omega))
  have g0 : w0.heap[H]? = some (.cells (bV k m v) 59 (0, 0)) := by
    have g : w0.heap[H]? = some (.cells (bV k m v) 59 (0, 0)) := by rw [hw0, hH]; exact heap_alloc_new _ _
    exact (t0.block _ (by omega)).trans g
  have bW : Below w.heap.size w w0 := by rw [← hH]; exact bL
  have hsz : H < w0.heap.size := by omega
  have HH := Lib.hid hH
  have HW0 := Lib.hid hw0
  have BL := Lib.hid bL
  have BW := Lib.hid bW
  have QL := Lib.hid q0
  have G0 := Lib.hid g0
  clear hH hw0 q0 s0 t0 g0 bL bW
  obtain ⟨f1, hf1⟩ : ∃ f, f = decide (0 ≤ k ∧ k < 2 ^ (8 * 4)) := ⟨_, rfl⟩
  obtain ⟨f2, hf2⟩ : ∃ f, f = decide (0 ≤ m ∧ m < 2 ^ (8 * 8)) := ⟨_, rfl⟩
  have e1 : BdOk ⟨k, m, v⟩ ↔ (f1 = true ∧ f2 = true) := by
    rw [hf1, hf2, decide_eq_true_iff, decide_eq_true_iff]
    unfold BdOk
    constructor
    · rintro ⟨⟨h1, h2⟩, h3⟩
      exact ⟨⟨h1, by simpa using h2⟩, h3, by simp only at hm2 h3 ⊢; omega⟩
    · rintro ⟨⟨h1, h2⟩, h3, _⟩
      exact ⟨⟨h1, by simpa using h2⟩, h3⟩
  have P1 := RPut_any k 4 (by decide) (by decide) hk2 w0
  have P2 := fun w => RPut_any m 8 (by decide) (by decide) hm2 w
  rw [← hf1] at P1
  rw [← hf2] at P2
  have HP1 := Lib.hid P1
  have HP2 := Lib.hid P2
  have HE1 := Lib.hid e1
  have HF1 := Lib.hid (show f1 = true → (0 ≤ k ∧ k < 2 ^ (8 * 4)) from fun h => of_decide_eq_true (hf1 ▸ h))
  have HF2 := Lib.hid (show f2 = true → (0 ≤ m ∧ m < 2 ^ (8 * 8)) from fun h => of_decide_eq_true (hf2 ▸ h))
  have HV := Lib.hid hv
  have c0 := bV_cell0 G0.out
  clear P1 P2 e1 hf1 hf2 hv hk1 hk2 hm1 hm2
  go_enter Tryd.func23, Tryd.ntmps23
  go_upto_region 1 with fail
  rw [← HH.out, ← HW0.out]
  go_wp2_with fail
  refine HP1.out.mono ?_
  rintro e w2 ⟨a4, l4, c4, x4, rfl, hx4, hown4, hb2⟩
  have l2 := Nat.lt_of_lt_of_le hsz hb2.size
  have gb2 := (hb2.block _ hsz).trans G0.out
  have GB2 := Lib.hid gb2
  have B2 := Lib.hid (BL.out.trans (hb2.mono (by omega)))
  have c1 := bV_cell1 gb2
  have HX4 := Lib.hid hx4
  have O4 := Lib.hid hown4
  clear c0 hx4 hown4 hb2 gb2 HP1
  go_wp2_with fail
  refine (HP2.out _).mono ?_
  rintro e w3 ⟨a8, l8, c8, x8, rfl, hx8, hown8, hb3⟩
  have l3 := Nat.lt_of_lt_of_le l2 hb3.size
  have gb3 := (hb3.block _ l2).trans GB2.out
  have B3 := Lib.hid (B2.out.trans (hb3.mono (by omega)))
  have HX8 := Lib.hid hx8
  have O8 := Lib.hid hown8
  have O43 := Lib.hid (own_below O4.out hb3)
  have S3 := bV_salt gb3
  have HS3 := Lib.hid S3
  clear c1 hx8 hown8 hb3 gb3 HP2 O4 S3
  cases f1 with
  | false =>
    go_wp2_with fail
    go_ret2
    exact ⟨fun h => absurd (HE1.out.1 h).1 (by decide), fun _ => rfl, by rw [← HH.out]; exact B3.out⟩
  | true =>
    cases f2 with
    | false =>
      go_wp2_with fail
      go_ret2
      exact ⟨fun h => absurd (HE1.out.1 h).2 (by decide), fun _ => rfl, by rw [← HH.out]; exact B3.out⟩
    | true =>
      have hk9 := HF1.out rfl
      have hm9 := HF2.out rfl
      obtain ⟨q1, q2⟩ := HX4.out hk9
      obtain ⟨q3, q4⟩ := HX8.out hm9
      subst q1 q2 q3 q4
      have R8 := Lib.hid (Rd.of_own O8.out)
      obtain ⟨b8, o8, ha8, _, _⟩ := R8.out.bytes (show 0 < (beS 8 m.toNat).length by rw [beS_length]; decide)
      subst ha8
      go_upto_region 5 with fail
      obtain ⟨wd, hwd⟩ : ∃ z, z = w3.drew := ⟨_, rfl⟩
      have bd : Below w3.heap.size w3 wd := by rw [hwd]; exact (Below.refl _ _).drew
      have sd := bd.size
      have lHd : H < w0.heap.size := hsz
      have OD := Lib.hid (own_below O43.out bd)
      have RD := Lib.hid (R8.out.below bd)
      have HSD := Lib.hid (range_low HS3.out bd l3)
      have BD := Lib.hid (B3.out.trans (bd.mono (Nat.le_of_lt l3)))
      have hbase : w0.heap.size ≤ wd.heap.size := by have := O43.out; have := QL.out; omega
      have HWD := Lib.hid hwd
      have hi9 : (Tryd.prog.info? 55).map (·.size) = some (v.map vB).length := by rw [List.length_map, HV.out]; exact dig_size
      clear hwd bd sd
      refine wp_region_held_drew (S := fun w' => w'.rangeAt H 2 (v.map vB)) (by kernel_rfl) HS3.out (fun hHeld => ?_)
      rw [← HWD.out]
      clear hHeld
      have hHeld := HSD.out
      refine wpAnyH_take (i := 0) (oi := _) (v := .pointer (some ⟨H, 2, none⟩)) rfl (by kernel_rfl) (by kernel_rfl) (by kernel_rfl) (fun _ _ _ h => h) (Or.inl ⟨by rfl, fun w hw => by go_simp⟩) hHeld ?_
      simp only [Act.put, List.getElem_toArray, List.getElem_cons_zero, List.getElem_cons_succ, List.setIfInBounds_toArray, List.set_cons_zero, List.set_cons_succ]
      refine wpAnyH_take (i := 1) (oi := _) (v := _) rfl (by kernel_rfl) (by kernel_rfl) (by kernel_rfl) (fun _ _ _ h => h) (yieldsIf_load_mid (by rfl) _ _ rfl _ _ rfl (v.map vB) _ (fun w hw => hw) Tryd.underlying55 rfl hi9) hHeld ?_
      simp only [Act.put, List.getElem_toArray, List.getElem_cons_zero, List.getElem_cons_succ, List.setIfInBounds_toArray, List.set_cons_zero, List.set_cons_succ]
      refine wpAnyH_take (i := 2) (oi := _) (v := .slice a4 4 c4) rfl (by kernel_rfl) (by kernel_rfl) (by kernel_rfl) (fun _ _ _ h => h) (Or.inl ⟨by rfl, fun w hw => by go_simp⟩) hHeld ?_
      simp only [Act.put, List.getElem_toArray, List.getElem_cons_zero, List.getElem_cons_succ, List.setIfInBounds_toArray, List.set_cons_zero, List.set_cons_succ]
      refine wpAnyH_take (i := 3) (oi := _) (v := .slice (some ⟨b8, o8, none⟩) 8 c8) rfl (by kernel_rfl) (by kernel_rfl) (by kernel_rfl) (fun _ _ _ h => h) (Or.inl ⟨by rfl, fun w hw => by go_simp⟩) hHeld ?_
      simp only [Act.put, List.getElem_toArray, List.getElem_cons_zero, List.getElem_cons_succ, List.setIfInBounds_toArray, List.set_cons_zero, List.set_cons_succ]
      refine wpAnyH_ready (rs := [4]) (by kernel_rfl) (by simp) ?_
      refine AllReadyH.cons (o := _) rfl (fun K hK => ?_) AllReadyH.nil
      have HK := Lib.hid hK
      clear hK
      refine stepAppRd 22 5 (.int .u8 0) 1 1 Tryd.underlying22 info_byte rfl (by omega) rfl (.tmp 28) (.tmp 29) rfl w0.heap.size _ 4 _ (by rfl) OD.out ⟨b8, o8, none⟩ 8 c8 _ (by rfl) _ RD.out (by simp [beS_length]) (one_bytes _) (by omega) (by omega) (by omega) hbase _ rfl ?_
      intro g cp w5 hown5 hgrow _ _
      rw [← List.map_append] at hown5
      have b5 : Below w0.heap.size wd w5 := below_grow (Below.refl _ _) OD.out hgrow hbase
      have HS5 := Lib.hid (range_low HSD.out b5 lHd)
      have B5 := Lib.hid (BD.out.trans (b5.mono (Nat.le_of_lt lHd)))
      have l5 : H < w5.heap.size := Nat.lt_of_lt_of_le (Nat.lt_of_lt_of_le lHd hbase) b5.size
      have VT := VowText_calls v HV.out (beS 4 k.toNat ++ beS 8 m.toNat) (some ⟨g, 0, none⟩) cp _ w5 (Rd.of_own hown5) (by simp [beS_length])
      rw [show (beS 4 k.toNat ++ beS 8 m.toNat).length = 12 by simp [beS_length]] at VT
      have HVT := Lib.hid VT
      clear hown5 hgrow b5 VT hHeld
      refine HK.out _ _ HS5.out ?_
      clear HK K
      try simp only [Act.put, List.getElem_toArray, List.getElem_cons_zero, List.getElem_cons_succ, List.setIfInBounds_toArray, List.set_cons_zero, List.set_cons_succ]
      intro hHeld
      refine wpAnyH_ready (rs := [5]) (by kernel_rfl) (by simp) ?_
      refine AllReadyH.cons (o := _) rfl (fun K hK => ?_) AllReadyH.nil
      have HK := Lib.hid hK
      clear hK
      go_simp
      go_at_call 40
      refine HVT.out.mono ?_
      rintro e w6 ⟨av, cv, rfl, hown6, hb6⟩
      dsimp only
      have hL : (vowText v (beS 4 k.toNat ++ beS 8 m.toNat)).length = 45 := by rw [vowText_length _ _ HV.out]; simp [beS_length]
      rw [hL] at hown6
      have O6 := Lib.hid (own_low hown6 (Nat.le_of_lt l5))
      have B6 := Lib.hid (B5.out.trans (hb6.mono (Nat.le_of_lt l5)))
      have HS6 := Lib.hid (range_low HS5.out hb6 l5)
      clear hown6 hb6 HVT hHeld
      refine HK.out _ _ HS6.out ?_
      clear HK K
      try simp only [Act.put, List.getElem_toArray, List.getElem_cons_zero, List.getElem_cons_succ, List.setIfInBounds_toArray, List.set_cons_zero, List.set_cons_succ]
      intro hHeld
      rw [hL]
      refine wpAnyH_take (i := 6) (oi := _) (v := .slice av 45 cv) rfl (by kernel_rfl) (by kernel_rfl) (by kernel_rfl) (fun _ _ _ h => h) (Or.inl ⟨by rfl, fun w hw => by go_simp⟩) hHeld ?_
      simp only [Act.put, List.getElem_toArray, List.getElem_cons_zero, List.getElem_cons_succ, List.setIfInBounds_toArray, List.set_cons_zero, List.set_cons_succ]
      refine wpAnyH_take (i := 7) (oi := _) (v := .bool true) rfl (by kernel_rfl) (by kernel_rfl) (by kernel_rfl) (fun _ _ _ h => h) (Or.inl ⟨by rfl, fun w hw => by go_simp⟩) hHeld ?_
      simp only [Act.put, List.getElem_toArray, List.getElem_cons_zero, List.getElem_cons_succ, List.setIfInBounds_toArray, List.set_cons_zero, List.set_cons_succ]
      refine wpAnyH_done (by kernel_rfl) ?_ _
      go_wp2_with fail
      go_ret2
      exact ⟨fun _ => ⟨av, cv, rfl, by rw [← HH.out]; exact O6.out⟩, fun h => absurd (HE1.out.2 (by simp)) h, by rw [← HH.out]; exact B6.out⟩
end Go.Proofs.YteikbbdkpeecaaaDoor
